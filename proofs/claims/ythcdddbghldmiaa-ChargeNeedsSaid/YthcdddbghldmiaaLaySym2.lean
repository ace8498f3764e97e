/- Symbolic execution: sound. -/
import Derived.Test.YthcdddbghldmiaaLaySym
set_option linter.unusedVariables false
set_option linter.unusedSimpArgs false
namespace Go.Lay
open Go
section
variable {P : Program} {rec : Rec}

theorem valOp_opA {o : Op} {ev : Operand → Value} {σ : St} {v : Value} (hv : valOp P ev o = some v) : opA P rec ev σ o = some (v, σ) := by
  unfold opA
  split
  · rename_i c
    unfold callOp
    split
    · rename_i fx hc
      exfalso
      simp only [valOp] at hv
      split at hv <;> simp_all
    · rename_i hc; exfalso; simp [valOp, hc] at hv
    · rename_i hc; exfalso; simp [valOp, hc] at hv
    · rename_i hc; rw [hv]
    · rename_i hc; rw [hv]; rfl
    · rename_i hc; exfalso; simp [valOp, hc] at hv
  · simp [valOp] at hv
  · simp [valOp] at hv
  · simp [valOp] at hv
  · rw [hv]
  · have : isEffB o = false := by
      cases o <;> first | rfl | (simp [valOp] at hv; done) | (exfalso; rename_i hx _ _ _ _; exact hx _ rfl)
    rw [this, hv]; rfl

theorem lookOp_opA {o : Op} {ev : Operand → Value} {σ : St} {v : Value} (hv : valOp P ev o = none) (hl : lookOp P ev σ o = some v) : opA P rec ev σ o = some (v, σ) := by
  unfold opA
  split
  · rename_i c
    unfold callOp
    split
    · rename_i fx hc; exfalso; simp only [lookOp, hc] at hl; cases hl
    · rename_i hc; exfalso; simp only [lookOp, hc] at hl; cases hl
    · rename_i hc; exfalso; simp only [lookOp, hc] at hl; cases hl
    · rename_i hc; rw [hv, hl]; rfl
    · rename_i b _ _ hb hc
      exfalso
      simp only [lookOp, hc] at hl
      cases b <;> first | (simp at hl; done) | exact hb rfl
    · rename_i hc; exfalso; simp only [lookOp, hc] at hl; cases hl
  · rw [hl]; rfl
  · rw [hl]; rfl
  · rw [hl]; rfl
  · rw [hv, hl]; rfl
  · exfalso
    cases o <;> first | (simp [lookOp] at hl; done) | (rename_i h1 h2 h3 h4 h5; first | exact h1 _ rfl | exact h2 _ _ rfl | exact h3 _ _ _ _ rfl | exact h4 _ _ _ _ _ rfl | exact h5 _ _ _ rfl)

theorem effOp_opA {o : Op} {ev : Operand → Value} {σ σ' : St} {v : Value} (h : effOp P ev σ o = some (v, σ')) : opA P rec ev σ o = some (v, σ') := by
  unfold opA
  split
  · rename_i c
    unfold callOp
    split
    · rename_i fx hc
      simp only [effOp, hc] at h
      split at h
      · rename_i r as href
        simp only [Option.map_eq_some_iff] at h
        obtain ⟨v0, h1, h2⟩ := h
        simp only [h1]; rw [h2]
      · cases h
    · exact h
    · exact h
    · rename_i hc; exfalso; simp only [effOp, hc] at h; cases h
    · rename_i b ha hcp _ hc
      exfalso
      simp only [effOp, hc] at h
      cases b <;> first | (simp at h; done) | exact ha rfl | exact hcp rfl
    · rename_i hc; exfalso; simp only [effOp, hc] at h; cases h
  · simp [effOp] at h
  · simp [effOp] at h
  · simp [effOp] at h
  · simp [effOp] at h
  · have : isEffB o = true := by
      cases o <;> first | rfl | (simp [effOp] at h; done) | (exfalso; rename_i hx _ _ _ _; exact hx _ rfl)
    rw [this]; exact h

theorem evL_tmps (l : List Value) : (tmpsTo l.length).map (evL l) = l := by
  apply List.ext_getElem
  · simp [tmpsTo]
  · intro i h1 h2
    simp [tmpsTo, evL, List.getD, h2]
theorem seeOp_call {c : Call} {ev : Operand → Value} {σ : St} {v : Value} (h : seeOp P (evL (c.args.toList.map ev)) σ (.call { c with args := ⟨tmpsTo c.args.toList.length⟩ }) = some v) : seeOp P ev σ (.call c) = some v := by
  have e : (tmpsTo c.args.toList.length).map (evL (c.args.toList.map ev)) = c.args.toList.map ev := by
    have := evL_tmps (c.args.toList.map ev)
    rwa [List.length_map] at this
  simp only [seeOp, valOp, lookOp, e] at h ⊢
  exact h

theorem wpOp_sound {f : Tm} {σ : St} {o : Op} {as : List Ans} {K : Value → St → List Ans → Prop} (h : wpOp P rec f σ o as K) : ∃ v σ' as', opA P rec (aeval f) σ o = some (v, σ') ∧ K v σ' as' := by
  unfold wpOp at h
  split at h
  · split at h
    · rename_i v σ' ho; exact ⟨v, σ', _, autoOp_sound ho, h⟩
    · exact h.elim
  · split at h
    · rename_i e he; obtain ⟨rfl, h⟩ := h; exact ⟨_, _, _, valOp_opA he, h⟩
    · exact h.elim
  · split at h
    · rename_i k e he; obtain ⟨rfl, h⟩ := h; exact ⟨_, _, _, valOp_opA he, h⟩
    · exact h.elim
  · split at h
    · split at h
      · rename_i a ha
        exact ⟨_, _, _, lookOp_opA rfl (by simp only [lookOp, ha]; exact h.1), h.2⟩
      · exact h.elim
    · exact h.elim
  · split at h
    · rename_i t x k
      split at h
      · rename_i kd i a len elem hk hx hd
        split at h
        · rename_i n hn
          refine ⟨_, _, _, valOp_opA (v := .pointer (some (aadd a (i.toNat * n)))) ?_, h.2⟩
          have h1 : leI 0 i = true := (leI_iff 0 i).2 h.1.1
          have h2 : ltI i (.ofNat len) = true := (ltI_iff i _).2 h.1.2
          simp only [valOp, indexAddrA, hk, hx, hd, hn, h1, h2, Bool.and_self, cond_true]
        · exact h.elim
      · rename_i kd i a len cp elem hk hx hd
        split at h
        · rename_i n hn
          refine ⟨_, _, _, valOp_opA (v := .pointer (some (aadd a (i.toNat * n)))) ?_, h.2⟩
          have h1 : leI 0 i = true := (leI_iff 0 i).2 h.1.1
          have h2 : ltI i (.ofNat len) = true := (ltI_iff i _).2 h.1.2
          simp only [valOp, indexAddrA, hk, hx, hd, hn, h1, h2, Bool.and_self, cond_true]
        · exact h.elim
      · exact h.elim
    · exact h.elim
  · obtain ⟨hs, h⟩ := h
    refine ⟨_, _, _, ?_, h⟩
    unfold wpSee at hs
    split at hs
    · exact lookOp_opA rfl hs
    · exact lookOp_opA rfl hs
    · exact valOp_opA hs
    · exact valOp_opA hs
    · unfold seeOp at hs
      split at hs
      · rename_i v0 hv; cases hs; exact valOp_opA hv
      · rename_i hv; exact lookOp_opA hv hs
    · have hs := seeOp_call hs
      unfold seeOp at hs
      split at hs
      · rename_i v0 hv; cases hs; exact valOp_opA hv
      · rename_i hv; exact lookOp_opA hv hs
    · unfold seeOp at hs
      split at hs
      · rename_i v0 hv; cases hs; exact valOp_opA hv
      · rename_i hv; exact lookOp_opA hv hs
  · obtain ⟨he, h⟩ := h
    refine ⟨_, _, _, effOp_opA ?_, h⟩
    unfold wpEff at he
    split at he
    · exact he
    · exact he
    · exact he
    · exact he
    · split at he
      · rename_i hc ht ha
        simp only [effOp, hc, ht, ha]; exact he
      · exact he
    · exact he
  · split at h
    · split at h
      · rename_i fx hc
        split at h
        · rename_i r args href
          split at h
          · rename_i hx
            refine ⟨_, _, _, ?_, h.2⟩
            simp only [opA, callOp, hc, href, hx]; exact h.1
          · exact h.elim
        · exact h.elim
      · exact h.elim
    · exact h.elim
  · exact h.elim

theorem wpOps_sound {ops : Array Oper} : ∀ (rest : List Oper) (as : List Ans) (f : Tm) (σ : St) (l : List Seen) (K : Tm → St → List Seen → List Ans → Prop), wpOps P rec ops rest as f σ l K →
    ∃ l' t τ as', seenA P rec ops rest f σ = some (l', t, τ) ∧ K t τ (l ++ l') as'
  | [], as, f, σ, l, K, h => ⟨[], f, σ, as, rfl, by rw [List.append_nil]; exact h⟩
  | o :: rest, as, f, σ, l, K, h => by
    unfold wpOps at h
    split at h
    · rename_i hg
      obtain ⟨v, σ', as', h1, h2⟩ := wpOp_sound h
      obtain ⟨l', t, τ, as2, h3, h4⟩ := wpOps_sound rest _ _ _ _ _ h2
      exact ⟨⟨f, v, true, σ, σ'⟩ :: l', t, τ, as2, by simp [seenA, hg, h1, fV_eq, putA_eq, h3], by rw [List.append_assoc] at h4; exact h4⟩
    · rename_i hg
      obtain ⟨l', t, τ, as2, h3, h4⟩ := wpOps_sound rest _ _ _ _ _ h
      exact ⟨⟨f, undef, false, σ, σ⟩ :: l', t, τ, as2, by simp [seenA, hg, putA_eq, h3], by rw [List.append_assoc] at h4; exact h4⟩
    · exact h.elim

theorem seenA_opsA {ops : Array Oper} : ∀ (rest : List Oper) (f : Tm) (σ : St) (l : List Seen) (t : Tm) (τ : St), seenA P rec ops rest f σ = some (l, t, τ) → opsA P rec ops rest f σ = some (t, τ)
  | [], f, σ, l, t, τ, h => by simp [seenA] at h; simp [opsA, h.2.1, h.2.2]
  | o :: rest, f, σ, l, t, τ, h => by
    unfold seenA at h
    split at h
    · rename_i hg
      split at h
      · rename_i v σ' hop
        rw [fV_eq, putA_eq] at h
        split at h
        · rename_i l' t' τ' hs
          simp at h; obtain ⟨_, rfl, rfl⟩ := h
          have := seenA_opsA rest _ _ _ _ _ hs
          simp [opsA, hg, hop, putA_eq, this]
        · cases h
      · cases h
    · rename_i hg
      rw [putA_eq] at h
      split at h
      · rename_i l' t' τ' hs
        simp at h; obtain ⟨_, rfl, rfl⟩ := h
        have := seenA_opsA rest _ _ _ _ _ hs
        simp [opsA, hg, putA_eq, this]
      · cases h
    · cases h

theorem veq_refl : ∀ (n : Nat) (v : Value), goodB n v = true → veq n v v = true := by
  intro n
  induction n with
  | zero => intro v h; simp [goodB] at h
  | succ n ih =>
    have lists : ∀ (l : List Value), l.all (goodB n) = true → veq.veqs n l l = true := by
      intro l
      induction l with
      | nil => intro _; rfl
      | cons x l ihl =>
        intro h
        simp only [List.all_cons, Bool.and_eq_true] at h
        simp only [veq.veqs, Bool.and_eq_true]
        exact ⟨ih x h.1, ihl h.2⟩
    intro v h
    cases v with
    | agg cs => simp only [goodB] at h; simp only [veq]; exact lists _ h
    | tuple cs => simp only [goodB] at h; simp only [veq]; exact lists _ h
    | iface t x => simp only [goodB] at h; simp only [veq, Bool.and_eq_true]; exact ⟨Nat.beq_refl _, ih x h⟩
    | func fn f c =>
      cases fn with
      | func g => simp only [goodB, Bool.and_eq_true] at h; simp only [veq, Bool.and_eq_true]; exact ⟨⟨Nat.beq_refl _, lists _ h.1⟩, lists _ h.2⟩
      | _ => simp [goodB] at h
    | bool b => simp [veq]
    | int k n => simp only [goodB] at h; simp only [veq, eqI_eq, Bool.and_eq_true]; exact ⟨h, by simp⟩
    | string s => simp [veq]
    | pointer a => simp [veq]
    | slice a l c => simp [veq]
    | map a => simp [veq]
    | nilFunc => rfl
    | nilIface => rfl
    | _ => simp [goodB] at h

/-- What is kept tells what was seen. -/
structure LkOk (P : Program) (o : Oper) (k : Lk) (s : Seen) : Prop where
  want : k.want = s.want
  before : k.before = s.before
  after : k.after = s.after
  low : (k.need = true → k.low) → (!s.want || below s.before.next s.f o || !(actsB o.op || looksB o.op)) = true
  look : s.want = true → ∀ σ, k.look σ → steady P o s σ = true
inductive LkAll (P : Program) : List Oper → List Lk → List Seen → Prop
  | nil : LkAll P [] [] []
  | cons {o : Oper} {k : Lk} {s : Seen} {os : List Oper} {ks : List Lk} {ss : List Seen} (h : LkOk P o k s) (t : LkAll P os ks ss) : LkAll P (o :: os) (k :: ks) (s :: ss)
theorem LkAll.get {os : List Oper} {ks : List Lk} {ss : List Seen} (h : LkAll P os ks ss) : ∀ (i : Nat) (k : Lk), ks[i]? = some k → ∃ o s, os[i]? = some o ∧ ss[i]? = some s ∧ LkOk P o k s := by
  induction h with
  | nil => intro i k h; simp at h
  | cons h _ ih =>
    intro i k hk
    cases i with
    | zero => simp at hk; subst hk; exact ⟨_, _, rfl, rfl, h⟩
    | succ i => simpa using ih i k (by simpa using hk)

theorem belowL_map {n : Nat} {f : Tm} {o : Oper} (h : belowL n (o.op.operands.toList.map (aeval f))) : below n f o = true := by
  unfold belowL at h
  rw [List.all_map] at h
  exact h
theorem triv_below {n : Nat} {vs : List Value} (h : vs.all trivB = true) : belowL n vs := by
  refine List.all_eq_true.2 (fun v hv => ?_)
  have := List.all_eq_true.1 h v hv
  cases v <;> first | rfl | (simp [trivB] at this; done)
theorem below_opsV {n : Nat} {f : Tm} {o : Oper} (h : belowL n (opsV f o.op)) : below n f o = true := by
  refine List.all_eq_true.2 (fun x hx => ?_)
  cases hx2 : isFn x with
  | true => cases x <;> first | (simp [isFn] at hx2; done) | rfl
  | false =>
    have := List.all_eq_true.1 h (aeval f x) (List.mem_map_of_mem (List.mem_filter.2 ⟨hx, by rw [hx2]; rfl⟩))
    exact this
theorem steady_of {o : Oper} {s : Seen} {σ : St} (h1 : below σ.next s.f o = true) (h2 : goodB RD s.v = true) (h3 : seeOp P (aeval s.f) σ o.op = some s.v) : steady P o s σ = true := by
  unfold steady
  cases hw : s.want with
  | true => rw [cond_true, h1, Bool.true_and, h3]; exact veq_refl _ _ h2
  | false => rfl
theorem lookP_sound {o : Oper} {s : Seen} {σ : St} (h : lookP P s.f o.op s.v σ) : steady P o s σ = true := by
  unfold lookP at h
  split at h
  · rename_i t x ho
    split at h
    · rename_i a ha
      refine steady_of ?_ h.1.2 (by rw [ho]; simp only [seeOp, valOp, lookOp, ha]; exact h.2)
      refine belowL_map (n := σ.next) ?_
      unfold belowL
      rw [ho]
      simp only [Op.operands, List.map_cons, List.map_nil, ha, List.all_cons, List.all_nil, Bool.and_true]
      exact (blt_iff _ _).2 h.1.1
    · exact h.elim
  · rename_i t x lo hi mx ho
    refine steady_of ?_ h.1.2 (by rw [ho]; exact h.2)
    refine belowL_map (n := σ.next) ?_
    have h1 := h.1.1
    unfold belowL at h1 ⊢
    rw [ho]
    cases lo <;> cases hi <;> cases mx <;> simpa [Op.operands, optL] using h1
  · rename_i t m k ok ho
    refine steady_of ?_ h.1.2 (by rw [ho]; exact h.2)
    refine belowL_map (n := σ.next) ?_
    have h1 := h.1.1
    unfold belowL at h1 ⊢
    rw [ho]
    simpa [Op.operands] using h1
  · rename_i t m k ho
    refine steady_of ?_ h.1.2 (by rw [ho]; exact h.2)
    refine belowL_map (n := σ.next) ?_
    have h1 := h.1.1
    unfold belowL at h1 ⊢
    rw [ho]
    simpa [Op.operands] using h1
  · rename_i c ho
    refine steady_of ?_ h.1.2 (by rw [ho]; exact seeOp_call h.2.2)
    refine belowL_map (n := σ.next) ?_
    have h1 := h.1.1
    unfold belowL at h1 ⊢
    rw [ho]
    simpa [Op.operands, Call.operands, h.2.1] using h1
  · exact h.elim

theorem wpOpsD_sound {ops : Array Oper} : ∀ (rest : List Oper) (as : List Ans) (f : Tm) (σ : St) (l : List Lk) (K : Tm → St → List Lk → List Ans → Prop), wpOpsD P rec ops rest as f σ l K →
    ∃ l' t τ as' lk, seenA P rec ops rest f σ = some (l', t, τ) ∧ LkAll P rest lk l' ∧ K t τ (l ++ lk) as'
  | [], as, f, σ, l, K, h => ⟨[], f, σ, as, [], rfl, .nil, by rw [List.append_nil]; exact h⟩
  | o :: rest, as, f, σ, l, K, h => by
    unfold wpOpsD at h
    split at h
    · rename_i hg
      obtain ⟨v, σ', as', h1, h2⟩ := wpOp_sound h
      obtain ⟨l', t, τ, as2, lk, h3, h4, h5⟩ := wpOpsD_sound rest _ _ _ _ _ h2
      refine ⟨⟨f, v, true, σ, σ'⟩ :: l', t, τ, as2, ⟨true, lowB f o.op, belowL σ.next (opsV f o.op), lookP P f o.op v, σ, σ'⟩ :: lk, by simp [seenA, hg, h1, fV_eq, putA_eq, h3], .cons ⟨rfl, rfl, rfl, fun hl => ?_, fun _ σ₁ hl => lookP_sound (s := ⟨f, v, true, σ, σ'⟩) hl⟩ h4, by rw [List.append_assoc] at h5; exact h5⟩
      simp only at hl
      cases ha : actsB o.op || looksB o.op with
      | false => simp
      | true =>
        have hb : below σ.next f o = true := by
          cases ht : (opsV f o.op).all trivB with
          | true => exact below_opsV (triv_below ht)
          | false => exact below_opsV (hl (by unfold lowB; rw [ha, ht]; rfl))
        simp only [hb]; simp
    · rename_i hg
      obtain ⟨l', t, τ, as2, lk, h3, h4, h5⟩ := wpOpsD_sound rest _ _ _ _ _ h
      exact ⟨⟨f, undef, false, σ, σ⟩ :: l', t, τ, as2, ⟨false, false, True, fun _ => True, σ, σ⟩ :: lk, by simp [seenA, hg, putA_eq, h3], .cons ⟨rfl, rfl, rfl, fun _ => rfl, fun h => by cases h⟩ h4, by rw [List.append_assoc] at h5; exact h5⟩
    · exact h.elim

theorem belows_sound : ∀ {os : List Oper} {ks : List Lk} {ss : List Seen} {K : Prop}, LkAll P os ks ss → belows ks K → belowAll os ss = true ∧ K
  | [], _, _, _, .nil, hb => ⟨rfl, hb⟩
  | _ :: _, k :: _, _ :: _, K, .cons h t, hb => by
    simp only [belows] at hb
    simp only [belowAll, Bool.and_eq_true]
    cases hn : k.need with
    | true =>
      rw [hn] at hb
      obtain ⟨h1, h2⟩ := belows_sound t hb.2
      exact ⟨⟨h.low (fun _ => hb.1), h1⟩, h2⟩
    | false =>
      rw [hn] at hb
      obtain ⟨h1, h2⟩ := belows_sound t hb
      exact ⟨⟨h.low (fun e => by rw [hn] at e; cases e), h1⟩, h2⟩
theorem steadies_sound {ops : Array Oper} {ks : List Lk} {l : List Seen} {K : Prop} (h : LkAll P ops.toList ks l) : ∀ (ps : List (Nat × Nat)), steadies ks ps K → ps.all (pairOk P ops l) = true ∧ K
  | [], hk => ⟨rfl, hk⟩
  | p :: ps, hs => by
    simp only [steadies] at hs
    rw [List.all_cons, Bool.and_eq_true]
    unfold pairOk
    split at hs
    · rename_i sj sk e1 e2
      obtain ⟨oj, s1, a1, a2, a3⟩ := h.get _ _ e1
      obtain ⟨_, s2, _, b2, b3⟩ := h.get _ _ e2
      have a1 : ops[p.1]? = some oj := by simpa using a1
      rw [a1, a2, b2]
      simp only
      cases hw : s1.want with
      | true =>
        rw [a3.want, hw] at hs
        simp only at hs
        rw [b3.before, b3.after] at hs
        obtain ⟨g1, g2⟩ := steadies_sound h ps hs.2.2
        rw [a3.look hw _ hs.1, a3.look hw _ hs.2.1]
        exact ⟨⟨rfl, g1⟩, g2⟩
      | false =>
        rw [a3.want, hw] at hs
        obtain ⟨g1, g2⟩ := steadies_sound h ps hs
        exact ⟨⟨by simp [steady, hw], g1⟩, g2⟩
    · exact hs.elim

theorem wpC_sound (N : Nat) (rd : Option Nat) : ∀ (c : Code) (as : List Ans) (fr : Fr) (σ : St) (K : Exit → Fr → St → List Ans → Prop), wpC P rec N rd c as fr σ K →
    ∃ e fr' σ' as', codeA P rec N rd c fr σ = some (e, fr', σ') ∧ K e fr' σ' as' := by
  intro c
  induction c with
  | skip => intro as fr σ K h; exact ⟨_, _, _, _, rfl, h⟩
  | label _ => intro as fr σ K h; exact ⟨_, _, _, _, rfl, h⟩
  | ret => intro as fr σ K h; exact ⟨_, _, _, _, rfl, h⟩
  | exit _ => intro as fr σ K h; exact ⟨_, _, _, _, rfl, h⟩
  | goto _ => intro as fr σ K h; cases as <;> exact h.elim
  | refuse _ => intro as fr σ K h; cases as <;> exact h.elim
  | seq x y ihx ihy =>
    intro as fr σ K h
    simp only [wpC] at h
    obtain ⟨e, fr₁, σ₁, as₁, h1, h2⟩ := ihx _ _ _ _ h
    cases e with
    | normal =>
      obtain ⟨e₂, fr₂, σ₂, as₂, h3, h4⟩ := ihy _ _ _ _ h2
      exact ⟨e₂, fr₂, σ₂, as₂, by simp only [codeA, seqA, h1, h3], h4⟩
    | _ => exact ⟨_, fr₁, σ₁, as₁, by simp only [codeA, seqA, h1], h2⟩
  | cond c x y ihx ihy =>
    intro as fr σ K h
    simp only [wpC] at h
    split at h
    · rename_i hc
      obtain ⟨e, fr₁, σ₁, as₁, h1, h2⟩ := ihx _ _ _ _ h
      exact ⟨e, fr₁, σ₁, as₁, by simp only [codeA, condA, hc, h1], h2⟩
    · rename_i hc
      obtain ⟨e, fr₁, σ₁, as₁, h1, h2⟩ := ihy _ _ _ _ h
      exact ⟨e, fr₁, σ₁, as₁, by simp only [codeA, condA, hc, h1], h2⟩
    · exact h.elim
  | block id c ih =>
    intro as fr σ K h
    simp only [wpC] at h
    obtain ⟨e, fr₁, σ₁, as₁, h1, h2⟩ := ih _ _ _ _ h
    cases e with
    | exit i =>
      simp only at h2
      cases hi : Nat.beq i id with
      | true => rw [hi] at h2; exact ⟨_, fr₁, σ₁, as₁, by simp only [codeA, blockA, h1, hi, cond_true], h2⟩
      | false => rw [hi] at h2; exact ⟨_, fr₁, σ₁, as₁, by simp only [codeA, blockA, h1, hi, cond_false], h2⟩
    | _ => exact ⟨_, fr₁, σ₁, as₁, by simp only [codeA, blockA, h1], h2⟩
  | scope c ih => intro as fr σ K h; exact ih _ _ _ _ h
  | loop c ih =>
    intro as fr σ K h
    cases as with
    | nil => exact h.elim
    | cons x as => cases x with
      | lp e fr' σ' => exact ⟨e, fr', σ', as, h.1, h.2⟩
      | _ => exact h.elim
  | rangeFunc g ps a bo _ _ =>
    intro as fr σ K h
    cases as with
    | nil => exact h.elim
    | cons x as => cases x with
      | lp e fr' σ' => exact ⟨e, fr', σ', as, h.1, h.2⟩
      | _ => exact h.elim
  | region id ops draw =>
    intro as fr σ K h
    cases draw with
    | false =>
      simp only [wpC] at h
      obtain ⟨l', t, τ, as', h1, h2⟩ := wpOps_sound _ _ _ _ _ _ h
      exact ⟨.normal, ⟨t, fr.marks⟩, τ, as', by simp only [codeA, regionA, seenA_opsA _ _ _ _ _ _ h1], h2⟩
    | true =>
      simp only [wpC] at h
      split at h
      · rename_i h0 hp hf
        obtain ⟨l', t, τ, as', h1, h2⟩ := wpOps_sound _ _ _ _ _ _ h
        refine ⟨.normal, ⟨t, fr.marks⟩, τ, as', ?_, h2⟩
        simp only [codeA, regionA, drawA, h0, hp, hf, cond_true, seenA_opsA _ _ _ _ _ _ h1]
      · rename_i ps _ h0 hno
        obtain ⟨l', t, τ, as', lk, h1, hlk, h2⟩ := wpOpsD_sound _ _ _ _ _ _ h
        rw [List.nil_append] at h2
        obtain ⟨h3, h2⟩ := belows_sound hlk h2
        obtain ⟨h4, h2⟩ := steadies_sound hlk _ h2
        refine ⟨.normal, ⟨t, fr.marks⟩, τ, as', ?_, h2⟩
        have hd : drawA P rec ops fr.f σ = some (t, τ) := by
          unfold drawA
          rw [h0, cond_true]
          split
          · exact seenA_opsA _ _ _ _ _ _ h1
          · rw [h1]
            simp only
            rw [h3, h4]; rfl
        simp only [codeA, regionA, hd]
      · exact h.elim

/-! ### Functions -/
def wpMarks : List Nat → St → (St → Prop) → Prop
  | [], σ, K => K σ
  | d :: ds, σ, K => getB σ.heap d = some .defd ∧ wpMarks ds (σ.shut d) K
def wpRes (P : Program) (f : Tm) (σ : St) : List ResultVar → List Ans → List Value → (List Value → Prop) → Prop
  | [], _, vs, K => K vs
  | .tmp t :: rs, as, vs, K => wpRes P f σ rs as (vs ++ [f.nth t]) K
  | .cell a t :: rs, as, vs, K => match as, f.nth a with
    | .l v :: as, .pointer (some a) => loadA P σ t a = some v ∧ wpRes P f σ rs as (vs ++ [v]) K
    | _, _ => False
def oneOf : List Value → Value
  | [v] => v
  | vs => .tuple ⟨vs⟩
def wpDone (P : Program) (fn : Func) (fr : Fr) (σ : St) (as : List Ans) (K : Value → St → Prop) : Prop :=
  wpMarks fr.marks σ fun σ => wpRes P fr.f σ fn.results.toList as [] fun vs => K (oneOf vs) σ
def wpFn (P : Program) (n : Nat) (f : FuncId) (args : List Value) (as : List Ans) (σ : St) (K : Value → St → Prop) : Prop :=
  match P.funcs[f]? with
  | some fn => match fn.body with
    | some c => wpC P (runA P n) n none c as ⟨(Tm.args 0 args).foldl (fun f p => f.set p.1 p.2) (fresh (args.length + (fn.ntmps - args.length))), []⟩ σ fun e fr σ as => match e with
      | .normal => wpDone P fn fr σ as K
      | .ret => wpDone P fn fr σ as K
      | _ => False
    | none => False
  | none => False

theorem wpMarks_sound : ∀ (ms : List Nat) (σ : St) (K : St → Prop), wpMarks ms σ K → ∃ σ', dropMarks ms σ = some σ' ∧ K σ'
  | [], σ, K, h => ⟨σ, rfl, h⟩
  | d :: ds, σ, K, h => by
    obtain ⟨σ', h1, h2⟩ := wpMarks_sound ds _ K h.2
    exact ⟨σ', by simp only [dropMarks, h.1, St.drop_eq, h1], h2⟩
theorem wpRes_sound {f : Tm} {σ : St} : ∀ (rs : List ResultVar) (as : List Ans) (vs : List Value) (K : List Value → Prop), wpRes P f σ rs as vs K → ∃ ws, resultsOf P f σ rs = some ws ∧ K (vs ++ ws)
  | [], as, vs, K, h => ⟨[], rfl, by rw [List.append_nil]; exact h⟩
  | .tmp t :: rs, as, vs, K, h => by
    obtain ⟨ws, h1, h2⟩ := wpRes_sound rs as _ K h
    exact ⟨f.nth t :: ws, by simp only [resultsOf, resultA, h1], by rw [List.append_assoc] at h2; exact h2⟩
  | .cell a t :: rs, as, vs, K, h => by
    unfold wpRes at h
    split at h
    · rename_i v as' a0 ha
      obtain ⟨ws, h1, h2⟩ := wpRes_sound rs _ _ K h.2
      exact ⟨v :: ws, by simp only [resultsOf, resultA, ha, h.1, h1], by rw [List.append_assoc] at h2; exact h2⟩
    · exact h.elim
theorem wpDone_sound {fn : Func} {fr : Fr} {σ : St} {as : List Ans} {K : Value → St → Prop} (h : wpDone P fn fr σ as K) : ∃ v σ', doneA P fn fr σ = some (v, σ') ∧ K v σ' := by
  obtain ⟨σ', h1, h2⟩ := wpMarks_sound _ _ _ h
  obtain ⟨ws, h3, h4⟩ := wpRes_sound _ _ _ _ h2
  rw [List.nil_append] at h4
  refine ⟨oneOf ws, σ', ?_, h4⟩
  have : resultsA P fn fr.f σ' = some (oneOf ws) := by
    unfold resultsA
    rw [h3]
    match ws with
    | [] => rfl
    | [v] => rfl
    | _ :: _ :: _ => rfl
  simp only [doneA, h1, this, fV_eq]
theorem wpFn_sound {n : Nat} {f : FuncId} {args : List Value} {as : List Ans} {σ : St} {K : Value → St → Prop} (h : wpFn P n f args as σ K) : ∃ v σ', runA P (n + 1) (.func f) args σ = some (v, σ') ∧ K v σ' := by
  unfold wpFn at h
  split at h
  · rename_i fn hfn
    split at h
    · rename_i c hc
      obtain ⟨e, fr, σ₁, as', h1, h2⟩ := wpC_sound _ _ _ _ _ _ _ h
      have key : endA P fn (codeA P (runA P n) n none c ⟨(Tm.args 0 args).foldl (fun f p => f.set p.1 p.2) (fresh (args.length + (fn.ntmps - args.length))), []⟩ σ) = runA P (n + 1) (.func f) args σ := by
        simp only [runA, hfn, hc, Tm.puts_eq]
      rw [← key, h1]
      cases e with
      | normal => exact wpDone_sound h2
      | ret => exact wpDone_sound h2
      | _ => exact h2.elim
    · exact h.elim
  · exact h.elim
end
end Go.Lay
