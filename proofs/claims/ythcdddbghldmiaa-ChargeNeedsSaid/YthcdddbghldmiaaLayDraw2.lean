/- Regions that draw their order: what pends; what a frame holds. -/
import Derived.Test.YthcdddbghldmiaaLayDraw
set_option linter.unusedVariables false
set_option linter.unusedSimpArgs false
namespace Go.Lay
open Go

/-! ### Values under numbers below n -/
theorem veq_eq : ∀ (n : Nat) (a b : Value), veq n a b = true → a = b := by
  intro n
  induction n with
  | zero => intro a b h; simp [veq] at h
  | succ n ih =>
    have lists : ∀ (l l' : List Value), veq.veqs n l l' = true → l = l' := by
      intro l
      induction l with
      | nil => intro l' h; cases l' with | nil => rfl | cons _ _ => simp [veq.veqs] at h
      | cons x l ihl =>
        intro l' h
        cases l' with
        | nil => simp [veq.veqs] at h
        | cons y l' =>
          simp only [veq.veqs, Bool.and_eq_true] at h
          rw [ih x y h.1, ihl l' h.2]
    intro a b h
    unfold veq at h
    split at h
    all_goals first | (rename_i hq; cases hq) | skip
    · have := eq_of_beq h; rw [this]
    · simp only [Bool.and_eq_true] at h
      have h1 := sameKind_eq h.1
      have h2 := h.2
      rw [eqI_eq] at h2
      have h3 := eq_of_beq h2
      rw [h1, h3]
    · rename_i a b
      have := of_decide_eq_true h
      have : a = b := by apply ByteArray.ext; apply Array.ext'; exact this
      rw [this]
    · rw [of_decide_eq_true h]
    · simp only [Bool.and_eq_true] at h
      rw [of_decide_eq_true h.1.1, Nat.eq_of_beq_eq_true h.1.2, Nat.eq_of_beq_eq_true h.2]
    · rw [of_decide_eq_true h]
    · rfl
    · rfl
    · have h1 := lists _ _ h
      congr 1; apply Array.ext'; exact h1
    · have h1 := lists _ _ h
      congr 1; apply Array.ext'; exact h1
    · simp only [Bool.and_eq_true] at h
      have h1 := lists _ _ h.1.2
      have h2 := lists _ _ h.2
      have h3 := Nat.eq_of_beq_eq_true h.1.1
      rw [h3]
      congr 1 <;> (apply Array.ext'; assumption)
    · simp only [Bool.and_eq_true] at h
      have h3 := Nat.eq_of_beq_eq_true h.1
      rw [h3, ih _ _ h.2]
    all_goals cases h

theorem blt_iff (a b : Nat) : Nat.blt a b = true ↔ a < b := ble_iff (a + 1) b

theorem VR.lower {κ κ' : Inj} {m : Nat} (hloc : ∀ b s L, b < m → κ.loc b s = some L → κ'.loc b s = some L) (hsz : ∀ b s L, κ.loc b s = some L → κ'.csz L.c = κ.csz L.c) :
    ∀ (d : Nat) {v v' : Value}, belowB d m v = true → VR κ v v' → VR κ' v v' := by
  intro d
  induction d with
  | zero => intro v v' h; simp [belowB] at h
  | succ d ih =>
    intro v v' hb h
    have arr : ∀ {c c' : Array Value}, (∀ (i : Nat) (v v' : Value), c[i]? = some v → c'[i]? = some v' → VR κ v v') → c.toList.all (belowB d m) = true → (∀ (i : Nat) (v v' : Value), c[i]? = some v → c'[i]? = some v' → VR κ' v v') := by
      intro c c' hh hall i v v' h1 h2
      exact ih (List.all_eq_true.1 hall _ (by simp [Array.mem_of_getElem? h1])) (hh i v v' h1 h2)
    cases h with
    | any h => exact .any h
    | atom h => exact .atom h
    | ptr h hlo => exact .ptr (hloc _ _ _ ((blt_iff _ _).1 (by simpa [belowB] using hb)) h) hlo
    | slice h hlo hA hc hs => exact .slice (hloc _ _ _ ((blt_iff _ _).1 (by simpa [belowB] using hb)) h) hlo hA hc (by rw [hsz _ _ _ h]; exact hs)
    | map h => exact .map (hloc _ _ _ ((blt_iff _ _).1 (by simpa [belowB] using hb)) h)
    | func hf s1 h1 s2 h2 =>
      cases hf with
      | func f =>
        simp only [belowB, Bool.and_eq_true] at hb
        exact .func (.func f) s1 (arr h1 hb.1.2) s2 (arr h2 hb.2)
      | yield hl =>
        simp only [belowB, Bool.and_eq_true] at hb
        exact .func (.yield (hloc _ _ _ ((blt_iff _ _).1 hb.1.1) hl)) s1 (arr h1 hb.1.2) s2 (arr h2 hb.2)
    | iface h => simp only [belowB] at hb; exact .iface (ih hb h)
    | agg s h => simp only [belowB] at hb; exact .agg s (arr h hb)
    | tuple s h => simp only [belowB] at hb; exact .tuple s (arr h hb)

/-! ### What pends -/
def Inj.plus (ι : Inj) (pend : Nat → Option Loc) : Inj :=
  { ι with loc := fun b s => if s = 0 then (match pend b with | some L => some L | none => ι.loc b 0) else ι.loc b s }
def cut (pend : Nat → Option Loc) (n : Nat) : Nat → Option Loc := fun b => if b < n then pend b else none
/-- A block is somebody's. -/
def Inj.owned (ι : Inj) (c b : Nat) : Inj := { ι with own := fun c' => if c' = c then some b else ι.own c' }
/-- What pended is there. -/
def Inj.commit (ι : Inj) (b : Nat) (L : Loc) : Inj :=
  { ι with loc := fun b' s => if b' = b ∧ s = 0 then some L else ι.loc b' s, own := fun c' => if c' = L.c then some b else ι.own c' }

theorem plus_sub {ι ι' : Inj} {pend pend' : Nat → Option Loc} (h : Sub ι ι') (hp : ∀ b L, pend b = some L → pend' b = some L) (hn : ∀ b L L', pend b = none → pend' b = some L → ι.loc b 0 = some L' → L' = L)
    (hs : ∀ b L, pend b = some L → ι'.csz L.c = ι.csz L.c) : Sub (ι.plus pend) (ι'.plus pend') := by
  refine ⟨fun b s L hL => ?_, fun b s L hL => ?_⟩
  · simp only [Inj.plus] at hL ⊢
    by_cases h0 : s = 0
    · subst h0
      rw [if_pos rfl] at hL ⊢
      cases hb : pend b with
      | some L1 => rw [hb] at hL; simp only [hp b L1 hb]; exact hL
      | none =>
        rw [hb] at hL
        cases hb' : pend' b with
        | some L1 => simp only; rw [hn b L1 L hb hb' hL]
        | none => exact h.loc _ _ _ hL
    · rw [if_neg h0] at hL ⊢; exact h.loc _ _ _ hL
  · simp only [Inj.plus] at hL
    by_cases h0 : s = 0
    · subst h0
      rw [if_pos rfl] at hL
      cases hb : pend b with
      | some L1 => rw [hb] at hL; cases hL; exact hs b L hb
      | none => rw [hb] at hL; exact h.sz _ _ _ hL
    · rw [if_neg h0] at hL; exact h.sz _ _ _ hL

section
variable (ops : Array Oper) (l : List Seen) (f0 : Tm)
/-- What a frame holds when the operations of X have been run. -/
structure FrOk (X : Nat → Prop) (κ : Inj) (tmps : Array Value) : Prop where
  size : f0.n = tmps.size
  val : ∀ t0, t0 < f0.n →
    (∃ i s, X i ∧ (ops[i]?).bind (·.dst) = some t0 ∧ l[i]? = some s ∧ (∀ i', X i' → (ops[i']?).bind (·.dst) = some t0 → i' ≤ i) ∧ VR κ s.v (tmps.getD t0 undef)) ∨
    ((∀ i, X i → (ops[i]?).bind (·.dst) ≠ some t0) ∧ VR κ (f0.nth t0) (tmps.getD t0 undef))
  out : ∀ t0, ¬ t0 < f0.n → VR κ (f0.nth t0) undef
variable {ops l f0}
theorem FrOk.sub {X : Nat → Prop} {κ κ' : Inj} {tmps : Array Value} (h : FrOk ops l f0 X κ tmps) (e : Sub κ κ') : FrOk ops l f0 X κ' tmps :=
  ⟨h.size, fun t0 h0 => (h.val t0 h0).imp (fun ⟨i, s, a, b, c, d, v⟩ => ⟨i, s, a, b, c, d, v.sub e⟩) (fun ⟨a, v⟩ => ⟨a, v.sub e⟩), fun t0 h0 => (h.out t0 h0).sub e⟩
/-- One more is run. -/
theorem FrOk.put {X : Nat → Prop} {κ : Inj} {a : Act} (h : FrOk ops l f0 X κ a.tmps) {j : Nat} {o : Oper} {s : Seen} {v' : Value} (ho : ops[j]? = some o) (hs : l[j]? = some s)
    (hmax : ∀ i t0, X i → o.dst = some t0 → (ops[i]?).bind (·.dst) = some t0 → i < j) (hv : VR κ s.v v') : FrOk ops l f0 (fun i => X i ∨ i = j) κ (a.put o.dst v').tmps := by
  refine ⟨?_, fun t0 h0 => ?_, h.out⟩
  · rw [h.size]; unfold Act.put; split <;> simp
  · by_cases hd : o.dst = some t0
    · refine .inl ⟨j, s, .inr rfl, by rw [ho]; exact hd, hs, fun i' hi' hd' => ?_, ?_⟩
      · rcases hi' with hi' | rfl
        · exact Nat.le_of_lt (hmax i' t0 hi' hd hd')
        · exact Nat.le_refl _
      · have hlt : t0 < a.tmps.size := by rw [← h.size]; exact h0
        simp only [Act.put, hd]
        simpa [Array.getD, hlt] using hv
    · have hsame : (a.put o.dst v').tmps.getD t0 undef = a.tmps.getD t0 undef := by
        unfold Act.put
        split
        · rename_i d hdd
          have hne : d ≠ t0 := fun e => hd (by rw [hdd, e])
          simp [Array.getElem?_setIfInBounds_ne hne]
        · rfl
      rw [hsame]
      rcases h.val t0 h0 with ⟨i, s', a1, a2, a3, a4, a5⟩ | ⟨a1, a2⟩
      · refine .inl ⟨i, s', .inl a1, a2, a3, fun i' hi' hd' => ?_, a5⟩
        rcases hi' with hi' | rfl
        · exact a4 i' hi' hd'
        · rw [ho] at hd'; exact absurd hd' hd
      · refine .inr ⟨fun i hi => ?_, a2⟩
        rcases hi with hi | rfl
        · exact a1 i hi
        · rw [ho]; exact hd
/-- The frame at an operation in the order of the text: as it is, in what has been written ahead of it. -/
theorem FrOk.match {P : Program} {rec : Rec} {t : Tm} {τ : St} (S : SeqD P rec ops ops.toList l t τ) {X : Nat → Prop} {κ : Inj} {tmps : Array Value} (h : FrOk ops l (frL l t 0) X κ tmps) {j : Nat} (hj : j ≤ ops.size) {t0 : Nat}
    (hX : ∀ i, (ops[i]?).bind (·.dst) = some t0 → (X i ↔ i < j)) : VR κ ((frL l t j).nth t0) (tmps.getD t0 undef) := by
  by_cases h0 : t0 < (frL l t 0).n
  · rcases S.last t0 h0 j hj with ⟨i, s, a1, a2, a3, a4, a5⟩ | ⟨a1, a2⟩
    · rcases h.val t0 h0 with ⟨i', s', b1, b2, b3, b4, b5⟩ | ⟨b1, _⟩
      · have hi : i = i' := by
          have h1 := b4 i ((hX i a2).2 a1) a2
          have h2 := (hX i' b2).1 b1
          by_cases he : i = i'
          · exact he
          · exact absurd b2 (a5 i' (by omega) h2)
        subst hi
        rw [a3] at b3; cases b3
        rw [a4]; exact b5
      · exact absurd a2 (b1 i ((hX i a2).2 a1))
    · rcases h.val t0 h0 with ⟨i', s', b1, b2, b3, b4, b5⟩ | ⟨_, b2⟩
      · exact absurd b2 (a1 i' ((hX i' b2).1 b1))
      · rw [a2]; exact b2
  · have hn : (frL l t j).nth t0 = (frL l t 0).nth t0 := by
      have hle : (frL l t 0).n ≤ t0 := Nat.le_of_not_lt h0
      clear hX h
      induction j with
      | zero => rfl
      | succ j ih =>
        obtain ⟨s, _, _, _, _, hf, _⟩ := S.at (i := j) (o := ops[j]) (by simp)
        have := S.frn j (by omega)
        rw [hf, setO_nth, if_neg (by omega), ih (by omega)]
    have hsz : ¬ t0 < tmps.size := by rw [← h.size]; exact h0
    rw [hn]
    have : tmps.getD t0 undef = undef := by simp [Array.getD, hsz]
    rw [this]; exact h.out t0 h0
end

/-! ### Makes, in whatever memory -/
theorem make_any {P : Program} {o : Op} {ev : Operand → Value} {σ σ' : St} {v : Value} (hm : makesB o = true) (h : effOp P ev σ o = some (v, σ')) :
    ∃ y, σ' = σ.add y ∧ ∀ σ₂ : St, σ₂.next = σ.next → effOp P ev σ₂ o = some (v, σ₂.add y) := by
  unfold effOp at h
  split at h
  · split at h
    · rename_i z hz
      rw [fN_eq, newRow_eq] at h; simp at h; obtain ⟨rfl, rfl⟩ := h
      exact ⟨_, rfl, fun σ₂ h2 => by unfold effOp; simp only [hz, fN_eq, newRow_eq, h2]; simp⟩
    · cases h
  · rw [fN_eq, newRow_eq] at h; simp at h; obtain ⟨rfl, rfl⟩ := h
    exact ⟨_, rfl, fun σ₂ h2 => by unfold effOp; simp only [fN_eq, newRow_eq, h2]; simp⟩
  · split at h
    · rename_i e n hes
      split at h
      · rename_i z hz
        obtain ⟨hc, h⟩ := bif_some h
        split at h
        · rename_i cs hf
          rw [newRow_eq] at h; simp at h; obtain ⟨rfl, rfl⟩ := h
          exact ⟨_, rfl, fun σ₂ h2 => by unfold effOp; simp only [hes, hz, hc, cond_true, hf, newRow_eq, h2]⟩
        · cases h
      · cases h
    · cases h
  · split at h
    · split at h
      · rename_i ke hmo
        rw [St.new_eq] at h; simp at h; obtain ⟨rfl, rfl⟩ := h
        exact ⟨_, rfl, fun σ₂ h2 => by unfold effOp; simp only [hmo, St.new_eq, h2]⟩
      · cases h
    · split at h
      · rename_i hmo hx
        rw [St.new_eq] at h; simp at h; obtain ⟨rfl, rfl⟩ := h
        exact ⟨_, rfl, fun σ₂ h2 => by unfold effOp; simp only [hmo, hx, St.new_eq, h2]⟩
      · cases h
  · split at h
    · rename_i hes hl hc
      split at h
      · rename_i hz hi
        obtain ⟨hcond, h⟩ := bif_some h
        rw [newRow_eq] at h; simp at h; obtain ⟨rfl, rfl⟩ := h
        exact ⟨_, rfl, fun σ₂ h2 => by unfold effOp; simp only [hes, hl, hc, hz, hi, hcond, cond_true, newRow_eq, h2]⟩
      · cases h
    · cases h
  all_goals (exfalso; simp_all [makesB])
end Go.Lay
