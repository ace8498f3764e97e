/- Regions that draw their order: each step; the region. -/
import Derived.Test.YthcdddbghldmiaaLayDraw3
set_option linter.unusedVariables false
set_option linter.unusedSimpArgs false
namespace Go.Lay
open Go

section
variable {P : Program} {rec : Rec} {ops : Array Oper} {l : List Seen} {t : Tm} {τ : St} {ι0 : Inj} {w0 : World} {ds : List Deferred} {X : Nat → Prop} {a : Act} {w : World} {q : Nat} {ι : Inj} {pend : Nat → Option Loc}

theorem Inv.advance (S : SeqD P rec ops ops.toList l t τ) (hX : ∀ j, X j → j < ops.size) : ∀ (n : Nat) {q : Nat} {ι : Inj}, Inv ops l t τ ι0 w0 ds X a w q ι pend → q + n ≤ ops.size → (∀ (j : Nat) (o : Oper), ops[j]? = some o → q ≤ j → j < q + n → actsB o.op = true → X j) →
    ∃ ι', Inv ops l t τ ι0 w0 ds X a w (q + n) ι' pend
  | 0, q, ι, I, _, _ => ⟨ι, I⟩
  | n + 1, q, ι, I, hn, hall => by
    have ho : ops[q]? = some ops[q] := by simp
    obtain ⟨ι₁, I₁⟩ := I.advance1 S hX ho (fun ha => hall q _ ho (Nat.le_refl _) (by omega) ha)
    obtain ⟨ι₂, I₂⟩ := Inv.advance S hX n I₁ (by omega) (fun j o hj h1 h2 ha => hall j o hj (by omega) (by omega) ha)
    exact ⟨ι₂, by rw [show q + (n + 1) = q + 1 + n by omega]; exact I₂⟩
theorem Inv.advanceTo (S : SeqD P rec ops ops.toList l t τ) (hX : ∀ j, X j → j < ops.size) (I : Inv ops l t τ ι0 w0 ds X a w q ι pend) {m : Nat} (hqm : q ≤ m) (hm : m ≤ ops.size)
    (hall : ∀ (j : Nat) (o : Oper), ops[j]? = some o → j < m → actsB o.op = true → X j) : ∃ ι', Inv ops l t τ ι0 w0 ds X a w m ι' pend := by
  obtain ⟨ι', I'⟩ := I.advance S hX (m - q) (by omega) (fun j o hj _ h2 ha => hall j o hj (by omega) ha)
  exact ⟨ι', by rw [show m = q + (m - q) by omega]; exact I'⟩

/-- An operation that may be run now. -/
structure Rdy (ops : Array Oper) (X : Nat → Prop) (i : Nat) (o : Oper) : Prop where
  op : ops[i]? = some o
  not : ¬ X i
  dep : ∀ e ∈ o.after.toList, Region.binds .any e = true → X e.on

section
variable (D : DrawOk ops) (hC : Closed ops X) {i : Nat} {o : Oper} (R : Rdy ops X i o)
include D hC R
theorem Rdy.pre {k : Nat} (h : pre (BF ops) k i = true) : X k := pre_in D hC i o R.op R.dep k h
theorem Rdy.apart {k : Nat} {ok : Oper} (hk : ops[k]? = some ok) (hne : k ≠ i) (hx : ¬ (X k ∧ k < i)) (hx2 : ¬ (¬ X k ∧ i < k)) : Oper.apart ops ok o = true ∧ Oper.apart ops o ok = true := by
  have h1 : Go.Lay.pre (BF ops) k i = false := by
    rw [Bool.eq_false_iff]; intro h
    exact hx ⟨R.pre D hC h, pre_lt D k i (getD_of R.op).2 h⟩
  have h2 : Go.Lay.pre (BF ops) i k = false := by
    rw [Bool.eq_false_iff]; intro h
    have hlt := pre_lt D i k (getD_of hk).2 h
    refine hx2 ⟨fun hxk => ?_, hlt⟩
    exact R.not (pre_in D hC k ok hk (fun e he hb => hC k ok hxk hk e he hb) i h)
  exact ⟨D.apart k i ok o hk R.op hne h1 h2, D.apart i k o ok R.op hk (Ne.symm hne) h2 h1⟩
/-- Who writes what it looks at has been run just if it stands ahead. -/
theorem Rdy.writer {k t0 : Nat} (ht : t0 ∈ o.looksAt ops) (hk : (ops[k]?).bind (·.dst) = some t0) : X k ↔ k < i := by
  cases hok : ops[k]? with
  | none => rw [hok] at hk; simp at hk
  | some ok =>
    rw [hok] at hk; simp at hk
    by_cases hne : k = i
    · subst hne; exact ⟨fun h => absurd h R.not, fun h => absurd h (Nat.lt_irrefl _)⟩
    · have no : ¬ (Oper.apart ops ok o = true) := fun h => (Oper.apart_spec h).1 t0 hk ht
      by_cases hx : X k
      · refine ⟨fun _ => ?_, fun _ => hx⟩
        by_cases hlt : k < i
        · exact hlt
        · exact absurd (R.apart D hC hok hne (fun h => hlt h.2) (fun h => h.1 hx)).1 no
      · refine ⟨fun h => absurd h hx, fun hlt => ?_⟩
        exact absurd (R.apart D hC hok hne (fun h => hx h.1) (fun h => by omega)).1 no
theorem Rdy.max {k t0 : Nat} (hx : X k) (ht : o.dst = some t0) (hk : (ops[k]?).bind (·.dst) = some t0) : k < i := by
  cases hok : ops[k]? with
  | none => rw [hok] at hk; simp at hk
  | some ok =>
    rw [hok] at hk; simp at hk
    have hne : k ≠ i := fun e => R.not (e ▸ hx)
    by_cases hlt : k < i
    · exact hlt
    · exact absurd ht ((Oper.apart_spec (R.apart D hC hok hne (fun h => hlt h.2) (fun h => h.1 hx)).1).2.1 t0 hk)

theorem Rdy.operand (S : SeqD P rec ops ops.toList l t τ) (I : Inv ops l t τ ι0 w0 ds X a w q ι pend) (hok : operOk o = true) {x : Operand} (hx : x ∈ o.op.operands) : VR (ι.plus pend) (aeval (frL l t i) x) (a.eval x) := by
  cases x with
  | tmp t0 =>
    have hl : t0 ∈ o.looksAt ops := List.mem_append_left _ (List.mem_filterMap.2 ⟨.tmp t0, by simpa using hx, rfl⟩)
    exact I.fr.match S (Nat.le_of_lt (getD_of R.op).2) (fun k hk => R.writer D hC hl hk)
  | const v => exact .refl_rigid _ (opsOk hok hx)
  | global g => exact .any rfl
  | func g => exact .func (.func g) rfl (fun i v v' h => by simp at h) rfl (fun i v v' h => by simp at h)
theorem Rdy.guard (S : SeqD P rec ops ops.toList l t τ) (I : Inv ops l t τ ι0 w0 ds X a w q ι pend) {b : Bool} (hg : guardA ops (frL l t i) o = some b) : Region.wanted o (yielded ops a.tmps) = b := by
  refine guardA_sound (ι := ι.plus pend) hg (fun j want d hgd hd => ?_)
  have hl : d ∈ o.looksAt ops := List.mem_append_right _ (by simp [hgd, hd])
  exact I.fr.match S (Nat.le_of_lt (getD_of R.op).2) (fun k hk => R.writer D hC hl hk)
end

/-- What is asked besides of the run in the order of the text. -/
structure Ask (P : Program) (ops : Array Oper) (l : List Seen) (t : Tm) (τ : St) : Prop where
  low : ∀ (i : Nat) (o : Oper) (s : Seen), ops[i]? = some o → l[i]? = some s → s.want = true → (actsB o.op || looksB o.op) = true → (∀ j, freeB ops (BF ops) j = false) ∨ below (stL l τ i).next (frL l t i) o = true
  steady : ∀ (i k : Nat) (oi ok : Oper) (si : Seen), ops[i]? = some oi → ops[k]? = some ok → i ≠ k → l[i]? = some si → si.want = true → looksB oi.op = true → actsB ok.op = true → pre (BF ops) i k = false → pre (BF ops) k i = false →
    (seeOp P (aeval (frL l t i)) (stL l τ k) oi.op = some si.v ∧ below (stL l τ k).next (frL l t i) oi = true) ∧ (seeOp P (aeval (frL l t i)) (stL l τ (k + 1)) oi.op = some si.v ∧ below (stL l τ (k + 1)).next (frL l t i) oi = true)

section
variable (hz : zeroOk P) (hrec : RecSound P rec) (D : DrawOk ops) (S : SeqD P rec ops ops.toList l t τ) (A : Ask P ops l t τ) (hC : Closed ops X) (hX : ∀ j, X j → j < ops.size) (hok : ∀ (j : Nat) (o : Oper), ops[j]? = some o → operOk o = true)
variable {i : Nat} {o : Oper} (R : Rdy ops X i o) {rd : Option Nat} {n : Nat} {Q : Exit → Act → World → Prop}

theorem Inv.stepWith (I : Inv ops l t τ ι0 w0 ds X a w q ι pend) {s : Seen} (hs : l[i]? = some s) (ho : ops[i]? = some o) (hnx : ¬ X i) (hmax : ∀ k t0, X k → o.dst = some t0 → (ops[k]?).bind (·.dst) = some t0 → k < i)
    (hact : actsB o.op = false) {v' : Value} (hv : VR (ι.plus pend) s.v v') : Inv ops l t τ ι0 w0 ds (fun j => X j ∨ j = i) (a.put o.dst v') w q ι pend := by
  have hi : ∀ {j : Nat} {o' : Oper}, ops[j]? = some o' → actsB o'.op = true → j ≠ i := fun hj ha e => by subst e; rw [ho] at hj; cases hj; rw [hact] at ha; cases ha
  refine ⟨I.hq, fun j o' hj ha hlt => .inl (I.ahead j o' hj ha hlt), fun j o' hj ha hle hx => I.beyond j o' hj ha hle (hx.resolve_right (hi hj ha)), I.good, fun b L hp => ?_,
    fun j o' s' hle hx hj ha hs' hw => I.pok j o' s' hle (hx.resolve_right (hi hj ha)) hj ha hs' hw, I.inj, I.fr.put ho hs hmax hv, ?_, I.fast⟩
  · exact (I.keys b L hp).imp id (fun ⟨j, o', s', x1, x2, x3⟩ => ⟨j, o', s', x1, .inl x2, x3⟩)
  · rw [← I.ds]; unfold Act.put; split <;> rfl

include S in
/-- Where an act was not wanted. -/
theorem Inv.stepIdle (I : Inv ops l t τ ι0 w0 ds X a w q ι pend) {s : Seen} (hs : l[i]? = some s) (ho : ops[i]? = some o) (hnx : ¬ X i) (hmax : ∀ k t0, X k → o.dst = some t0 → (ops[k]?).bind (·.dst) = some t0 → k < i)
    (hw : s.want = false) (hqi : q = i ∨ freeB ops (BF ops) i = true) : ∃ q', Inv ops l t τ ι0 w0 ds (fun j => X j ∨ j = i) (a.put o.dst undef) w q' ι pend := by
  obtain ⟨s0, hs0, _, _, _, _, _, _, h2⟩ := S.at ho
  rw [hs] at hs0; cases hs0
  obtain ⟨hv, hst⟩ := h2 hw
  have hfr : FrOk ops l (frL l t 0) (fun j => X j ∨ j = i) (ι.plus pend) (a.put o.dst undef).tmps := I.fr.put ho hs hmax (by rw [hv]; exact .undef)
  have hds : (a.put o.dst undef).defers = ds := by rw [← I.ds]; unfold Act.put; split <;> rfl
  by_cases hf : freeB ops (BF ops) i = true
  · refine ⟨q, I.hq, fun j o' hj ha hlt => .inl (I.ahead j o' hj ha hlt), fun j o' hj ha hle hx => ?_, I.good, fun b L hp => ?_, fun j o' s' hle hx hj ha hs' hw' => ?_, I.inj, hfr, hds, I.fast⟩
    · rcases hx with hx | rfl
      · exact I.beyond j o' hj ha hle hx
      · exact hf
    · exact (I.keys b L hp).imp id (fun ⟨j, o', s', x1, x2, x3⟩ => ⟨j, o', s', x1, .inl x2, x3⟩)
    · rcases hx with hx | rfl
      · exact I.pok j o' s' hle hx hj ha hs' hw'
      · rw [hs] at hs'; cases hs'; rw [hw] at hw'; cases hw'
  · have hqi : q = i := hqi.resolve_right hf
    subst hqi
    refine ⟨q + 1, (getD_of ho).2, fun j o' hj ha hlt => ?_, fun j o' hj ha hle hx => ?_, by rw [hst]; exact I.good, fun b L hp => ?_, fun j o' s' hle hx hj ha hs' hw' => ?_, I.inj, hfr, hds, I.fast⟩
    · by_cases he : j = q
      · exact .inr he
      · exact .inl (I.ahead j o' hj ha (by omega))
    · exact I.beyond j o' hj ha (by omega) (hx.resolve_right (by omega))
    · rw [hst]
      refine (I.keys b L hp).imp id (fun ⟨j, o', s', x1, x2, x3⟩ => ⟨j, o', s', ?_, .inl x2, x3⟩)
      have : j ≠ q := fun e => hnx (e ▸ x2)
      omega
    · exact I.pok j o' s' (by omega) (hx.resolve_right (by omega)) hj ha hs' hw'

include S in
/-- An act at its own place. -/
theorem Inv.stepAct (I : Inv ops l t τ ι0 w0 ds X a w i ι pend) {s : Seen} (hs : l[i]? = some s) (ho : ops[i]? = some o) (hnx : ¬ X i) (hmax : ∀ k t0, X k → o.dst = some t0 → (ops[k]?).bind (·.dst) = some t0 → k < i)
    {v' : Value} {w' : World} {ι' : Inj} (hv : VR ι' s.v v') (hg : Good ι (stL l τ i) w ι' (stL l τ (i + 1)) w') : Inv ops l t τ ι0 w0 ds (fun j => X j ∨ j = i) (a.put o.dst v') w' (i + 1) ι' pend := by
  have hmono := S.mono i (i + 1) (by omega) (getD_of ho).2
  have hps : ∀ m, Sub (ι.plus (cut pend m)) (ι'.plus (cut pend m)) := fun m =>
    plus_sub hg.ext.sub (fun _ _ h => h) (fun b L1 L2 h1 h2 => by rw [h1] at h2; cases h2) (fun b L h => hg.ext.csz _ (I.lt_size (cut_le h).2))
  have keys : ∀ b L, pend b = some L → (b < (stL l τ (i + 1)).next ∧ ι'.loc b 0 = some L) ∨ (∃ j o s, i + 1 ≤ j ∧ (X j ∨ j = i) ∧ ops[j]? = some o ∧ l[j]? = some s ∧ s.want = true ∧ freeB ops (BF ops) j = true ∧ b = (stL l τ j).next) := by
    intro b L hp
    rcases I.keys b L hp with ⟨x1, x2⟩ | ⟨j, o', s', x1, x2, x3⟩
    · exact .inl ⟨by omega, hg.ext.loc _ _ _ x2⟩
    · refine .inr ⟨j, o', s', ?_, .inl x2, x3⟩
      have : j ≠ i := fun e => hnx (e ▸ x2)
      omega
  refine ⟨(getD_of ho).2, fun j o' hj ha hlt => ?_, fun j o' hj ha hle hx => I.beyond j o' hj ha (by omega) (hx.resolve_right (by omega)), I.good.trans hg, keys, fun j o' s' hle hx hj ha hs' hw' => ?_, I.inj, ?_, ?_, I.fast⟩
  · by_cases he : j = i
    · exact .inr he
    · exact .inl (I.ahead j o' hj ha (by omega))
  · obtain ⟨y, L, e1, hp⟩ := I.pok j o' s' (by omega) (hx.resolve_right (by omega)) hj ha hs' hw'
    have hnj := S.mono (i + 1) j hle (Nat.le_of_lt (getD_of hj).2)
    refine ⟨y, L, e1, hp.keep hp.get hg.pres.size (by rw [hg.ext.own _ hp.lt]; exact hp.own) (fun b s0 L0 h0 e => ?_) (hps _) (fun s0 hs0 => ?_) (hg.pres.same _ hp.lt (fun b hb => by rw [hp.own] at hb; cases hb))⟩
    · obtain ⟨b', s', L', g1, g2⟩ := hg.ext.old _ _ _ h0 (by rw [e]; exact hp.lt)
      exact hp.off _ _ _ g1 (g2.trans e)
    · have hn := I.good.rep.fresh (stL l τ j).next s0 (by omega)
      exact ⟨hn, hg.ext.fresh _ _ hn (by omega)⟩
  · have h1 : Sub (ι.plus pend) (ι'.plus pend) := plus_sub hg.ext.sub (fun _ _ h => h) (fun b L1 L2 h1 h2 => by rw [h1] at h2; cases h2) (fun b L h => hg.ext.csz _ (I.lt_size h))
    refine (I.fr.sub h1).put ho hs hmax (VR.sub (ι := ι') (ι' := ι'.plus pend) ⟨fun b s0 L0 h0 => ?_, fun _ _ _ _ => rfl⟩ hv)
    by_cases hz0 : s0 = 0
    · subst hz0
      cases hp : pend b with
      | none => rw [plus_none _ hp]; exact h0
      | some L1 =>
        rw [plus_zero hp]
        rcases keys b L1 hp with ⟨_, x⟩ | ⟨j, o', s', x1, x2, x3, x4, x5, x6, rfl⟩
        · rw [h0] at x; exact x.symm
        · have hnj := S.mono (i + 1) j x1 (Nat.le_of_lt (getD_of x3).2)
          rw [hg.rep.fresh _ _ hnj] at h0; cases h0
    · rw [plus_succ hz0]; exact h0
  · rw [← I.ds]; unfold Act.put; split <;> rfl

include hz hrec D S A hC hX hok R in
theorem Inv.step (I : Inv ops l t τ ι0 w0 ds X a w q ι pend) :
    wpOpIn (Fw rd) n P ops Q i (fun a' w' => ∃ q' ι' pend', Inv ops l t τ ι0 w0 ds (fun j => X j ∨ j = i) a' w' q' ι' pend') a w := by
  obtain ⟨s, hs, _, _, _, _, hg, h1, h2⟩ := S.at R.op
  have ho := R.op
  have hlti := (getD_of ho).2
  have hmax : ∀ k t0, X k → o.dst = some t0 → (ops[k]?).bind (·.dst) = some t0 → k < i := fun k t0 hx hd hk => R.max D hC hx hd hk
  have hoi := hok i o ho
  unfold wpOpIn
  rw [ho]
  simp only
  rw [R.guard D hC S I hg]
  -- how far acts have been run
  have front : actsB o.op = true → freeB ops (BF ops) i = false → ∃ ι', Inv ops l t τ ι0 w0 ds X a w i ι' pend := by
    intro ha hf
    have hall : ∀ (j : Nat) (o' : Oper), ops[j]? = some o' → j < i → actsB o'.op = true → X j := by
      intro j o' hj hlt haj
      refine R.pre D hC ?_
      cases hm : makesB o.op with
      | false => exact D.acts j i o' o hj ho hlt haj ha hm
      | true =>
        unfold freeB at hf
        rw [(getD_of ho).1, hm, Bool.true_and] at hf
        have hf := List.any_eq_false.1 hf j (List.mem_range.2 hlt)
        rw [(getD_of hj).1, haj] at hf
        simpa using hf
    have hqi : q ≤ i := by
      refine Nat.le_of_not_lt (fun h => R.not (I.ahead i o ho ha h))
    exact I.advanceTo S hX hqi (Nat.le_of_lt hlti) hall
  cases hw : s.want with
  | false =>
    rw [if_neg (by simp)]
    refine ⟨fun f _ => Fw_fn rd f, ?_⟩
    cases ha : actsB o.op with
    | false => exact ⟨q, ι, pend, I.stepWith hs ho R.not hmax ha (by rw [(h2 hw).1]; exact .undef)⟩
    | true =>
      cases hf : freeB ops (BF ops) i with
      | true =>
        obtain ⟨q', h⟩ := I.stepIdle S hs ho R.not hmax hw (.inr hf)
        exact ⟨q', ι, pend, h⟩
      | false =>
        obtain ⟨ι', I'⟩ := front ha hf
        obtain ⟨q', h⟩ := I'.stepIdle S hs ho R.not hmax hw (.inl rfl)
        exact ⟨q', ι', pend, h⟩
  | true =>
    rw [if_pos rfl]
    have hop := h1 hw
    rcases opA_acts hop with ⟨ha, hcase⟩ | ⟨ha, hlk, hsee, _⟩ | ⟨ha, _, hval, _⟩
    · cases hf : freeB ops (BF ops) i with
      | false =>
        obtain ⟨ι₁, I₁⟩ := front ha hf
        refine opA_sound hz hrec hop I₁.good.rep (fun x hx => ?_) (fun v' w' ι' hv hgd => ⟨i + 1, ι', pend, I₁.stepAct S hs ho R.not hmax hv hgd⟩)
        exact I₁.lower S hX (A.low i o s ho hs hw (by rw [ha]; rfl)) hx (R.operand D hC S I₁ hoi hx)
      | true =>
        -- made ahead of its place
        have hm := free_makes ho hf
        have hqi : q ≤ i := Nat.le_of_not_lt (fun h => R.not (I.ahead i o ho ha h))
        have heff : effOp P (aeval (frL l t i)) (stL l τ i) o.op = some (s.v, stL l τ (i + 1)) := by
          rcases hcase with ⟨c, _, _, _, hc, _⟩ | h | ⟨h, _⟩
          · rw [hc] at hm; simp [makesB] at hm
          · exact h
          · exfalso; cases hoo : o.op <;> rw [hoo] at hm h <;> first | (simp [makesB] at hm; done) | (simp [valOp] at h; done)
        obtain ⟨y, hst, hany⟩ := make_any hm heff
        have hbel : below (stL l τ i).next (frL l t i) o = true := by
          rcases A.low i o s ho hs hw (by rw [ha]; rfl) with h | h
          · rw [h i] at hf; cases hf
          · exact h
        have hqn := S.mono q i hqi (Nat.le_of_lt hlti)
        -- pending numbers are others
        have hpn : pend (stL l τ i).next = none := by
          cases hp : pend (stL l τ i).next with
          | none => rfl
          | some L =>
            exfalso
            rcases I.keys _ L hp with ⟨x, _⟩ | ⟨j, o', s', x1, x2, x3, x4, x5, x6, x7⟩
            · omega
            · have hji : j ≠ i := fun e => R.not (e ▸ x2)
              obtain ⟨yj, _, ej, _⟩ := I.pok j o' s' x1 x2 x3 (makes_acts (free_makes x3 x6)) x4 x5
              rcases Nat.lt_or_ge j i with hlt | hge
              · have := S.mono (j + 1) i hlt (Nat.le_of_lt hlti)
                rw [ej, St.add_next] at this; omega
              · have := S.mono (i + 1) j (by omega) (Nat.le_of_lt (hX j x2))
                rw [hst, St.add_next] at this; omega
        have hlocn : ∀ s, ι.loc (stL l τ i).next s = none := fun s => I.good.rep.fresh _ _ hqn
        let N := (stL l τ i).next
        let κ := ι.plus (cut pend N)
        let σ₂ : St := ⟨.leaf, N, N⟩
        have hlt2 : ∀ b s L, κ.loc b s = some L → L.c < w.heap.size := fun b s0 L h0 => by
          by_cases hz0 : s0 = 0
          · subst hz0
            cases hc : cut pend N b with
            | none => rw [show κ.loc b 0 = ι.loc b 0 from plus_none _ hc] at h0; exact I.good.rep.lt _ _ _ h0
            | some L1 => rw [show κ.loc b 0 = some L1 from plus_zero hc] at h0; cases h0; exact I.lt_size (cut_le hc).2
          · rw [show κ.loc b s0 = ι.loc b s0 from plus_succ hz0] at h0; exact I.good.rep.lt _ _ _ h0
        have hrep : Rep κ σ₂ w := by
          refine ⟨fun b y0 hb => ?_, hlt2, fun c b hcb => ⟨(I.good.rep.ownlt c b hcb).1, Nat.lt_of_lt_of_le (I.good.rep.ownlt c b hcb).2 hqn⟩, fun b s0 hb => ?_⟩
          · simp [σ₂, getB, Tr.getP_leaf] at hb
          · have hb : N ≤ b := hb
            have hc : cut pend N b = none := by unfold cut; rw [if_neg (by omega)]
            rw [show κ.loc b s0 = ι.loc b s0 from plus_none _ hc]
            exact I.good.rep.fresh _ _ (Nat.le_trans hqn hb)
        have hevκ : ∀ x ∈ o.op.operands, VR κ (aeval (frL l t i) x) (a.eval x) := fun x hx => by
          refine VR.lower (κ := ι.plus pend) (κ' := κ) (m := N) (fun b s0 L hlt hL => ?_) (fun _ _ _ _ => rfl) RD (List.all_eq_true.1 hbel x (by simpa using hx)) (R.operand D hC S I hoi hx)
          have hcb : cut pend N b = pend b := by unfold cut; rw [if_pos hlt]
          by_cases hz0 : s0 = 0
          · subst hz0
            cases hp : pend b with
            | none => rw [show κ.loc b 0 = ι.loc b 0 from plus_none _ (hcb.trans hp)]; rw [plus_none _ hp] at hL; exact hL
            | some L1 => rw [show κ.loc b 0 = some L1 from plus_zero (hcb.trans hp)]; rw [plus_zero hp] at hL; exact hL
          · rw [show κ.loc b s0 = ι.loc b s0 from plus_succ hz0]; rw [plus_succ hz0] at hL; exact hL
        obtain ⟨nx, v', obj, y2, m, z, hrun, hnv, hv, hy2, hgd⟩ := make_sound hz hm (hany σ₂ rfl) hrep hevκ
        have hyy : getB (σ₂.add y).heap N = some y := by rw [St.add_get, if_pos rfl]
        have hblk := (hgd.rep.blk N y hyy).2
        have hd : ∀ c, o.op ≠ .defer c := fun c hc => by rw [hc] at hm; simp [makesB] at hm
        refine wp_of_run hd hrun hnv ?_
        -- the new state of things
        let ι₁ : Inj := { ι with csz := fun c => if c = w.heap.size then m else ι.csz c }
        let pend₁ : Nat → Option Loc := fun b => if b = N then some ⟨w.heap.size, 0, 0, z⟩ else pend b
        have hι₁ : Sub ι ι₁ := ⟨fun _ _ _ h => h, fun b s0 L h => by
          have := I.good.rep.lt _ _ _ h
          have hne : L.c ≠ w.heap.size := by omega
          simp [ι₁, hne]⟩
        have hpp : ∀ b L, pend b = some L → pend₁ b = some L := fun b L h => by
          have : b ≠ N := fun e => by subst e; rw [hpn] at h; cases h
          simp [pend₁, this, h]
        have hnew : ∀ b L L', pend b = none → pend₁ b = some L → ι.loc b 0 = some L' → L' = L := fun b L L' h1 h2 h3 => by
          by_cases e : b = N
          · subst e; rw [hlocn 0] at h3; cases h3
          · simp [pend₁, e, h1] at h2
        have hszp : ∀ b L, pend b = some L → ι₁.csz L.c = ι.csz L.c := fun b L h => by
          have := I.lt_size h
          have hne : L.c ≠ w.heap.size := by omega
          simp [ι₁, hne]
        have hsubA : Sub (ι.plus pend) (ι₁.plus pend₁) := plus_sub hι₁ hpp hnew hszp
        have hsubC : ∀ k, Sub (ι.plus (cut pend k)) (ι₁.plus (cut pend₁ k)) := fun k =>
          plus_sub hι₁ (fun b L h => by obtain ⟨h1, h2⟩ := cut_le h; unfold cut; rw [if_pos h1]; exact hpp b L h2)
            (fun b L L' h1 h2 h3 => by
              obtain ⟨g1, g2⟩ := cut_le h2
              refine hnew b L L' ?_ g2 h3
              unfold cut at h1; rw [if_pos g1] at h1; exact h1)
            (fun b L h => hszp b L (cut_le h).2)
        -- what is known with the new block alone is known now
        have hadd : ∀ (pd : Nat → Option Loc), (∀ b L, cut pend N b = some L → pd b = some L) → (∀ b, b < N → pend b = none → pd b = none) → pd N = some ⟨w.heap.size, 0, 0, z⟩ → Sub (κ.add N w.heap.size m z) (ι₁.plus pd) := by
          intro pd hp1 hp2 hp3
          refine ⟨fun b s0 L h0 => ?_, fun b s0 L _ => rfl⟩
          simp only [Inj.add] at h0
          split at h0
          · rename_i hc; obtain ⟨rfl, rfl⟩ := hc; cases h0; exact plus_zero hp3
          · rename_i hc
            by_cases hz0 : s0 = 0
            · subst hz0
              have hbn : b ≠ N := fun e => hc ⟨e, rfl⟩
              cases hcp : cut pend N b with
              | some L1 =>
                rw [show κ.loc b 0 = some L1 from plus_zero hcp] at h0; cases h0
                exact plus_zero (hp1 b L hcp)
              | none =>
                rw [show κ.loc b 0 = ι.loc b 0 from plus_none _ hcp] at h0
                have hblt : b < N := by
                  rcases Nat.lt_or_ge b N with h | h
                  · exact h
                  · rw [I.good.rep.fresh _ _ (Nat.le_trans hqn h)] at h0; cases h0
                have hpb : pend b = none := by unfold cut at hcp; rw [if_pos hblt] at hcp; exact hcp
                rw [plus_none _ (hp2 b hblt hpb)]; exact h0
            · rw [show κ.loc b s0 = ι.loc b s0 from plus_succ hz0] at h0
              rw [plus_succ hz0]; exact h0
        have hkn : ∀ s0, s0 ≠ 0 → κ.loc N s0 = none := fun s0 hs0 => by rw [show κ.loc N s0 = ι.loc N s0 from plus_succ hs0]; exact hlocn s0
        refine ⟨q, ι₁, pend₁, I.hq, fun j o' hj ha' hlt => .inl (I.ahead j o' hj ha' hlt), fun j o' hj ha' hle hx => ?_, ?_, fun b L hp => ?_, fun j o' s' hle hx hj ha' hs' hw' => ?_, fun b b' L L' hb hb' he => ?_, ?_, ?_, fun hno => ?_⟩
        · rcases hx with hx | rfl
          · exact I.beyond j o' hj ha' hle hx
          · exact hf
        · have hgo := I.good
          refine ⟨⟨hgo.ext.loc, fun b s0 L h0 => ?_, hgo.ext.fresh, hgo.ext.own, fun c hc => ?_, hgo.ext.old⟩, ⟨fun b y' hb => ?_, fun b s0 L h0 => ?_, fun c b hc => ?_, hgo.rep.fresh⟩, ⟨?_, fun c hc hown => ?_, hgo.pres.tape, hgo.pres.os, hgo.pres.output, hgo.pres.fr.trans hgd.pres.fr⟩, hgo.low, hgo.next⟩
          · have e1 := hgo.ext.sz _ _ _ h0
            have := hgo.rep.lt _ _ _ (hgo.ext.loc _ _ _ h0)
            have hne : L.c ≠ w.heap.size := by omega
            simpa [ι₁, hne] using e1
          · have e1 := hgo.ext.csz c hc
            have := hgo.pres.size
            have hne : c ≠ w.heap.size := by omega
            simpa [ι₁, hne] using e1
          · have hb := hgo.rep.blk b y' hb
            refine ⟨hb.1, hb.2.keepS hι₁ (fun _ _ _ => rfl) (fun s0 L h0 _ => World.push_old w obj (hgo.rep.lt _ _ _ h0)) (fun cs esz log next ro hy s0 hs0 => ?_)⟩
            have hb2 := hb.2
            subst hy
            cases hb2 with | cells _ _ _ fresh => exact fresh s0 hs0
          · have := hgo.rep.lt b s0 L h0; simp; omega
          · have := hgo.rep.ownlt c b hc; exact ⟨by simp; omega, this.2⟩
          · have := hgo.pres.size; simp; omega
          · rw [World.push_old w obj (Nat.lt_of_lt_of_le hc hgo.pres.size)]; exact hgo.pres.same c hc hown
        · by_cases hbn : b = N
          · subst hbn; exact .inr ⟨i, o, s, hqi, .inr rfl, ho, hs, hw, hf, rfl⟩
          · have hp' : pend b = some L := by simpa [pend₁, hbn] using hp
            exact (I.keys b L hp').imp id (fun ⟨j, o', s', x1, x2, x3⟩ => ⟨j, o', s', x1, .inl x2, x3⟩)
        · by_cases hji : j = i
          · subst hji
            refine ⟨y, ⟨w.heap.size, 0, 0, z⟩, hst, by simp [pend₁, N], I.good.pres.size, by simp, ?_, fun b s0 L h0 e => ?_, ?_⟩
            · show ι.own w.heap.size = none
              cases hown : ι.own w.heap.size with
              | none => rfl
              | some b => have := (I.good.rep.ownlt _ _ hown).1; omega
            · have := I.good.rep.lt b s0 L h0; simp at e; omega
            · have hs1 := hadd (cut pend₁ (N + 1)) (fun b L h => by obtain ⟨h1, h2⟩ := cut_le h; unfold cut; rw [if_pos (by omega)]; exact hpp b L h2)
                (fun b h1 h2 => by unfold cut; rw [if_pos (by omega)]; have : b ≠ N := by omega
                                   simp [pend₁, this, h2]) (by unfold cut; rw [if_pos (by omega)]; simp [pend₁])
              refine hblk.keepS (ι' := (ι₁.plus (cut pend₁ (N + 1))).owned w.heap.size N) ⟨hs1.loc, hs1.sz⟩ (fun s0 L h0 => ?_) (fun _ _ _ _ => rfl) (fun cs esz log next ro hy s0 hs0 => ?_)
              · have : L.c = w.heap.size := by
                  simp only [Inj.add] at h0
                  split at h0
                  · cases h0; rfl
                  · rename_i hc; rw [hkn s0 (fun e => hc ⟨rfl, e⟩)] at h0; cases h0
                rw [this]; simp [Inj.owned, Inj.add, σ₂]
              · have hb2 := hblk
                subst hy
                cases hb2 with
                | cells _ _ _ fresh =>
                  have := fresh s0 hs0
                  by_cases hz0 : s0 = 0
                  · subst hz0; simp [Inj.add, σ₂] at this
                  · rw [show ((ι₁.plus (cut pend₁ (N + 1))).owned w.heap.size N).loc N s0 = ι.loc N s0 from plus_succ (ι := ι₁) hz0]; exact hlocn s0
          · have hxj := hx.resolve_right hji
            obtain ⟨yj, Lj, ej, hp⟩ := I.pok j o' s' hle hxj hj ha' hs' hw'
            refine ⟨yj, Lj, ej, hp.keep (hpp _ _ hp.get) (by simp) hp.own hp.off (hsubC _) (fun s0 _ => ?_) (World.push_old w obj hp.lt)⟩
            have hn := I.good.rep.fresh (stL l τ j).next s0 (S.mono q j hle (Nat.le_of_lt (hX j hxj)))
            exact ⟨hn, hn⟩
        · by_cases hbn : b = N
          · by_cases hbn' : b' = N
            · rw [hbn, hbn']
            · exfalso
              have h1 : L = ⟨w.heap.size, 0, 0, z⟩ := by simpa [pend₁, hbn] using hb.symm
              have h2 : pend b' = some L' := by simpa [pend₁, hbn'] using hb'
              have := I.lt_size h2
              rw [← he, h1] at this; simp at this
          · have h1 : pend b = some L := by simpa [pend₁, hbn] using hb
            by_cases hbn' : b' = N
            · exfalso
              have h2 : L' = ⟨w.heap.size, 0, 0, z⟩ := by simpa [pend₁, hbn'] using hb'.symm
              have := I.lt_size h1
              rw [he, h2] at this; simp at this
            · exact I.inj b b' L L' h1 (by simpa [pend₁, hbn'] using hb') he
        · refine (I.fr.sub hsubA).put ho hs hmax (hv.sub (hadd pend₁ (fun b L h => hpp b L (cut_le h).2) (fun b h1 h2 => ?_) (by simp [pend₁])))
          have : b ≠ N := by omega
          simp [pend₁, this, h2]
        · rw [← I.ds]; unfold Act.put; split <;> rfl
        · rw [hno i] at hf; cases hf
    · -- it looks
      -- the acts that have been run: all ahead of m, where m has not
      obtain ⟨m, hqm, hm, hall, hend⟩ : ∃ m, q ≤ m ∧ m ≤ ops.size ∧ (∀ (j : Nat) (o' : Oper), ops[j]? = some o' → j < m → actsB o'.op = true → X j) ∧ (m = ops.size ∨ ∃ om, ops[m]? = some om ∧ actsB om.op = true ∧ ¬ X m) := by
        have key : ∀ (k q : Nat), q + k = ops.size → (∀ (j : Nat) (o' : Oper), ops[j]? = some o' → j < q → actsB o'.op = true → X j) →
            ∃ m, q ≤ m ∧ m ≤ ops.size ∧ (∀ (j : Nat) (o' : Oper), ops[j]? = some o' → j < m → actsB o'.op = true → X j) ∧ (m = ops.size ∨ ∃ om, ops[m]? = some om ∧ actsB om.op = true ∧ ¬ X m) := by
          intro k
          induction k with
          | zero => intro q hq hall; exact ⟨q, Nat.le_refl _, by omega, hall, .inl (by omega)⟩
          | succ k ih =>
            intro q hq hall
            have hoq : ops[q]? = some ops[q] := by simp
            by_cases hbad : actsB ops[q].op = true ∧ ¬ X q
            · exact ⟨q, Nat.le_refl _, by omega, hall, .inr ⟨_, hoq, hbad.1, hbad.2⟩⟩
            · obtain ⟨m, m1, m2, m3, m4⟩ := ih (q + 1) (by omega) (fun j o' hj hlt ha' => by
                by_cases he : j = q
                · subst he; rw [hoq] at hj; cases hj
                  exact Classical.byContradiction fun hx => hbad ⟨ha', hx⟩
                · exact hall j o' hj (by omega) ha')
              exact ⟨m, by omega, m2, m3, m4⟩
        obtain ⟨m, m1, m2, m3, m4⟩ := key (ops.size - q) q (by have := I.hq; omega) (fun j o' hj hlt haj => I.ahead j o' hj haj hlt)
        exact ⟨m, m1, m2, m3, m4⟩
      obtain ⟨ι₁, I₁⟩ := I.advanceTo S hX hqm hm hall
      -- what it sees there
      have hlow := A.low i o s ho hs hw (by rw [ha, hlk]; rfl)
      have climb : ∀ k, i + k ≤ m → seeOp P (aeval (frL l t i)) (stL l τ (i + k)) o.op = some s.v ∧ ((∀ j, freeB ops (BF ops) j = false) ∨ below (stL l τ (i + k)).next (frL l t i) o = true) := by
        intro k
        induction k with
        | zero => intro _; exact ⟨hsee, hlow⟩
        | succ k ih =>
          intro hk
          obtain ⟨g1, g2⟩ := ih (by omega)
          have hok' : ops[i + k]? = some ops[i + k] := by simp
          obtain ⟨sk, hsk, _, _, _, _, _, k1, k2⟩ := S.at hok'
          have same : stL l τ (i + k + 1) = stL l τ (i + k) → seeOp P (aeval (frL l t i)) (stL l τ (i + (k + 1))) o.op = some s.v ∧ ((∀ j, freeB ops (BF ops) j = false) ∨ below (stL l τ (i + (k + 1))).next (frL l t i) o = true) := fun e => by
            rw [show i + (k + 1) = i + k + 1 by omega, e]; exact ⟨g1, g2⟩
          cases hak : actsB ops[i + k].op with
          | false =>
            refine same ?_
            cases hwk : sk.want with
            | false => exact (k2 hwk).2
            | true =>
              rcases opA_acts (k1 hwk) with ⟨h, _⟩ | ⟨_, _, _, h⟩ | ⟨_, _, _, h⟩
              · rw [hak] at h; cases h
              · exact h
              · exact h
          | true =>
            have hk0 : k ≠ 0 := fun e => by
              have h5 : ops[i + k]? = some o := by rw [e, Nat.add_zero]; exact ho
              rw [hok'] at h5
              rw [Option.some.inj h5, ha] at hak; cases hak
            have hxk := hall (i + k) _ hok' (by omega) hak
            have p1 : pre (BF ops) i (i + k) = false := by
              rw [Bool.eq_false_iff]; intro h
              exact R.not (pre_in D hC (i + k) _ hok' (fun e he hb => hC _ _ hxk hok' e he hb) i h)
            have p2 : pre (BF ops) (i + k) i = false := by
              rw [Bool.eq_false_iff]; intro h
              have := pre_lt D (i + k) i hlti h; omega
            obtain ⟨_, h3, h4⟩ := A.steady i (i + k) o _ s ho hok' (by omega) hs hw hlk hak p1 p2
            exact ⟨by rw [show i + (k + 1) = i + k + 1 by omega]; exact h3, .inr (by rw [show i + (k + 1) = i + k + 1 by omega]; exact h4)⟩
      have hsm : seeOp P (aeval (frL l t i)) (stL l τ m) o.op = some s.v ∧ ((∀ j, freeB ops (BF ops) j = false) ∨ below (stL l τ m).next (frL l t i) o = true) := by
        rcases Nat.lt_or_ge m i with hmi | hmi
        · rcases hend with he | ⟨om, hom, ham, hxm⟩
          · omega
          · have p1 : pre (BF ops) i m = false := by
              rw [Bool.eq_false_iff]; intro h
              have := pre_lt D i m (getD_of hom).2 h; omega
            have p2 : pre (BF ops) m i = false := by
              rw [Bool.eq_false_iff]; intro h
              exact hxm (R.pre D hC h)
            obtain ⟨⟨h3, h4⟩, _⟩ := A.steady i m o om s ho hom (by omega) hs hw hlk ham p1 p2
            exact ⟨h3, .inr h4⟩
        · have := climb (m - i) (by omega)
          rwa [show i + (m - i) = m by omega] at this
      refine seeOp_wp hz hsm.1 I₁.good.rep (fun x hx => I₁.lower S hX hsm.2 hx (R.operand D hC S I₁ hoi hx)) (fun v' hv => ?_)
      exact ⟨m, ι₁, pend, I₁.stepWith hs ho R.not hmax ha (hv.sub (I₁.sub_plus S hX))⟩
    · exact valOp_wp hz hval (fun x hx => R.operand D hC S I hoi hx) (fun v' hv => ⟨q, ι, pend, I.stepWith hs ho R.not hmax ha hv⟩)
end
end
end Go.Lay
