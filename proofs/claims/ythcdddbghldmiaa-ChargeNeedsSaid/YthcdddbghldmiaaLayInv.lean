/- Loops by an invariant, over any calls; fields of elements; contracts in short. -/
import Derived.Test.YthcdddbghldmiaaLayOpen
set_option linter.unusedVariables false
set_option linter.unusedSimpArgs false
namespace Go.Lay
open Go

/-! ### Loops -/
def CodeR (P : Program) (R : Nat → Rec) (rd : Option Nat) (c : Code) (fr : Fr) (σ : St) (e : Exit) (fr' : Fr) (σ' : St) : Prop := ∃ N0, ∀ N, N0 ≤ N → codeA P (R N) N rd c fr σ = some (e, fr', σ')
def LoopR (P : Program) (R : Nat → Rec) (rd : Option Nat) (c : Code) (fr : Fr) (σ : St) (e : Exit) (fr' : Fr) (σ' : St) : Prop :=
  ∃ N0, ∀ N m, N0 ≤ N → N0 ≤ m → loopA (codeA P (R N) N rd c) m fr σ = some (e, fr', σ')
section
variable {P : Program} {R : Nat → Rec} {rd : Option Nat} {c : Code} {fr fr' fr₁ : Fr} {σ σ' σ₁ : St} {e : Exit}
theorem LoopR.step (h : CodeR P R rd c fr σ .normal fr₁ σ₁) (k : LoopR P R rd c fr₁ σ₁ e fr' σ') : LoopR P R rd c fr σ e fr' σ' := by
  obtain ⟨N1, h1⟩ := h
  obtain ⟨N2, h2⟩ := k
  refine ⟨N1 + N2 + 1, fun N m hN hm => ?_⟩
  obtain ⟨m, rfl⟩ : ∃ m', m = m' + 1 := ⟨m - 1, by omega⟩
  simp only [loopA, h1 N (by omega)]
  exact h2 N m (by omega) (by omega)
theorem LoopR.exit (h : CodeR P R rd c fr σ e fr' σ') (he : e ≠ .normal) : LoopR P R rd c fr σ e fr' σ' := by
  obtain ⟨N1, h1⟩ := h
  refine ⟨N1 + 1, fun N m hN hm => ?_⟩
  obtain ⟨m, rfl⟩ : ∃ m', m = m' + 1 := ⟨m - 1, by omega⟩
  simp only [loopA, h1 N (by omega)]
  split
  · rename_i heq; cases heq; exact absurd rfl he
  · rfl
theorem codeR_of (h : ∃ N0, ∀ N, N0 ≤ N → ∃ as, wpC P (R N) N rd c as fr σ fun e₂ f₂ s₂ _ => e₂ = e ∧ f₂ = fr' ∧ s₂ = σ') : CodeR P R rd c fr σ e fr' σ' := by
  obtain ⟨N0, hN⟩ := h
  refine ⟨N0, fun N hNN => ?_⟩
  obtain ⟨as, hw⟩ := hN N hNN
  obtain ⟨e₂, f₂, s₂, _, h1, rfl, rfl, rfl⟩ := wpC_sound _ _ _ _ _ _ _ hw
  exact h1
/-- A round, or the end. -/
def Round (P : Program) (R : Nat → Rec) (rd : Option Nat) (c : Code) (Inv : Nat → Fr → St → Prop) (Q : Exit → Fr → St → Prop) (k : Nat) (fr : Fr) (σ : St) : Prop :=
  (∃ fr' σ' k', k' < k ∧ CodeR P R rd c fr σ .normal fr' σ' ∧ Inv k' fr' σ') ∨ (∃ e fr' σ', e ≠ .normal ∧ CodeR P R rd c fr σ e fr' σ' ∧ Q e fr' σ')
theorem loop_inv {Inv : Nat → Fr → St → Prop} {Q : Exit → Fr → St → Prop} (hb : ∀ k fr σ, Inv k fr σ → Round P R rd c Inv Q k fr σ) :
    ∀ k fr σ, Inv k fr σ → ∃ e fr' σ', LoopR P R rd c fr σ e fr' σ' ∧ Q e fr' σ' := by
  intro k
  induction k using Nat.strongRecOn with
  | ind k ih =>
    intro fr σ hi
    rcases hb k fr σ hi with ⟨fr', σ', k', hk, hc, hi'⟩ | ⟨e, fr', σ', he, hc, hq⟩
    · obtain ⟨e, fr₂, σ₂, h1, h2⟩ := ih k' hk _ _ hi'
      exact ⟨e, fr₂, σ₂, h1.step hc, h2⟩
    · exact ⟨e, fr', σ', .exit hc he, hq⟩
theorem Round.next {Inv : Nat → Fr → St → Prop} {Q : Exit → Fr → St → Prop} {k : Nat} (fr' : Fr) (σ' : St) (k' : Nat) (hk : k' < k) (h : ∃ N0, ∀ N, N0 ≤ N → ∃ as, wpC P (R N) N rd c as fr σ fun e₂ f₂ s₂ _ => e₂ = .normal ∧ f₂ = fr' ∧ s₂ = σ')
    (hi : Inv k' fr' σ') : Round P R rd c Inv Q k fr σ := .inl ⟨fr', σ', k', hk, codeR_of h, hi⟩
theorem Round.out {Inv : Nat → Fr → St → Prop} {Q : Exit → Fr → St → Prop} {k : Nat} (e : Exit) (fr' : Fr) (σ' : St) (he : e ≠ .normal) (h : ∃ N0, ∀ N, N0 ≤ N → ∃ as, wpC P (R N) N rd c as fr σ fun e₂ f₂ s₂ _ => e₂ = e ∧ f₂ = fr' ∧ s₂ = σ')
    (hq : Q e fr' σ') : Round P R rd c Inv Q k fr σ := .inr ⟨e, fr', σ', he, codeR_of h, hq⟩
end

/-! ### Elements' fields -/
section
variable {P : Program} {σ σ' : St}
theorem slv_get {t n len i : Nat} {p : Option Addr} {vs : List Value} (h : SlV P σ t n p len vs) (hi : i < len) : ∃ v, vs[i]? = some v := ⟨vs[i]'(by have := h.2.1; omega), by simp⟩
theorem slv_fld {t n len i k t' : Nat} {a : Addr} {vs cs : List Value} {x : Value} (h : SlV P σ t n (some a) len vs) (hv : vs[i]? = some (.agg ⟨cs⟩)) (hx : cs[k]? = some x) (ht' : aggT P t' = some false) :
    loadA P σ t' (aadd a (Int.toNat (i : Int) * n + k)) = some x := by
  obtain ⟨h1, h2⟩ := flat_get h.2.2 hv
  have hr : Row σ a (flat vs) := h.1.2
  rw [Int.toNat_natCast]
  have hk : k < n := by
    have := (h.2.2 _ (List.mem_of_getElem? hv)).len
    have h3 := (List.getElem?_eq_some_iff.1 hx).1
    have e : (Value.agg ⟨cs⟩).cells.toList = cs := rfl
    rw [e] at this; omega
  refine hr.load1 ht' ?_
  have e : (Value.agg ⟨cs⟩).cells.toList = cs := rfl
  rw [e] at h1
  rw [← h1, List.getElem?_take_of_lt hk, List.getElem?_drop] at hx
  exact hx
theorem slv_fldN {t n len i k m t' : Nat} {a : Addr} {vs cs ds : List Value} (h : SlV P σ t n (some a) len vs) (hv : vs[i]? = some (.agg ⟨cs⟩)) (hx : (cs.drop k).take m = ds) (hl : ds.length = m) (hk : k + m ≤ n) (ht' : aggT P t' = some true) (hs : sizeT P t' = some m) :
    loadA P σ t' (aadd a (Int.toNat (i : Int) * n + k)) = some (.agg ⟨ds⟩) := by
  obtain ⟨h1, h2⟩ := flat_get h.2.2 hv
  have hr : Row σ a (flat vs) := h.1.2
  rw [Int.toNat_natCast]
  refine hr.loadN ht' hs ?_ hl (by omega)
  have e : (Value.agg ⟨cs⟩).cells.toList = cs := rfl
  rw [e] at h1
  rw [← hx, ← h1, List.drop_take, List.take_take, List.drop_drop]
  congr 1
  omega
/-- What a row of its own holds, at a number. -/
theorem Own.ld {b n k : Nat} {cs : List Value} {s : Option Nat} (h : Own σ b cs n) (hs : s = none) {t : TypeId} (ht : aggT P t = some false) {v : Value} (hv : cs[k]? = some v) : loadA P σ t ⟨b, k, s⟩ = some v := by subst hs; exact h.rw.ld ht hv
theorem Own.ldN {b n k m : Nat} {cs ds : List Value} (h : Own σ b cs n) {t : TypeId} (ht : aggT P t = some true) (hs : sizeT P t = some m) (hd : (cs.drop k).take m = ds) (hl : ds.length = m) (hk : k + m ≤ cs.length) : loadA P σ t ⟨b, k, none⟩ = some (.agg ⟨ds⟩) :=
  h.rw.ldN ht hs hd hl hk

theorem Row.ld1 {a : Addr} {v : Value} (h : Row σ a [v]) {t : TypeId} (ht : aggT P t = some false) : loadA P σ t a = some v := by
  have := h.load1 (P := P) ht (k := 0) (v := v) rfl
  simpa [aadd] using this
/-! ### Below a number -/
theorem belowB_rig {n : Nat} {v : Value} (h : rigidB RD v = true) : belowB RD n v = true := by
  have key : ∀ (d : Nat) (v : Value), rigidB d v = true → belowB d n v = true := by
    intro d
    induction d with
    | zero => intro v h; simp [rigidB] at h
    | succ d ih =>
      intro v h
      have lists : ∀ (l : List Value), l.all (rigidB d) = true → l.all (belowB d n) = true := fun l hl => List.all_eq_true.2 (fun x hx => ih x (List.all_eq_true.1 hl x hx))
      cases v with
      | agg cs => simp only [rigidB] at h; simp only [belowB]; exact lists _ h
      | tuple cs => simp only [rigidB] at h; simp only [belowB]; exact lists _ h
      | iface t x => simp only [rigidB] at h; simp only [belowB]; exact ih x h
      | pointer a => cases a with | none => rfl | some _ => simp [rigidB, atomB] at h
      | slice a l c => cases a with | none => rfl | some _ => simp [rigidB, atomB] at h
      | map a => cases a with | none => rfl | some _ => simp [rigidB, atomB] at h
      | func fn f c =>
        cases fn with
        | func g => simp only [rigidB, Bool.and_eq_true] at h; simp only [belowB, Bool.and_eq_true]; exact ⟨⟨trivial, lists _ h.1⟩, lists _ h.2⟩
        | _ => simp [rigidB, atomB] at h
      | _ => rfl
  exact key RD v h
theorem belowB_ptr {n : Nat} {a : Addr} (h : a.block < n) : belowB RD n (.pointer (some a)) = true := (blt_iff _ _).2 h
theorem belowB_sl1 {n l c : Nat} {a : Addr} (h : a.block < n) : belowB RD n (.slice (some a) l c) = true := (blt_iff _ _).2 h
theorem belowB_sl {n l c : Nat} {p : Option Addr} (h : ∀ a, p = some a → a.block < n) : belowB RD n (.slice p l c) = true := by
  cases p with
  | none => rfl
  | some a => exact belowB_sl1 (h a rfl)
theorem belowL_nil {n : Nat} : belowL n [] := rfl
theorem belowL_cons {n : Nat} {v : Value} {vs : List Value} (h : belowB RD n v = true) (t : belowL n vs) : belowL n (v :: vs) := by
  unfold belowL at t ⊢
  rw [List.all_cons, h, t]; rfl
/-! ### What stays -/
theorem Own.keepN {n0 b n : Nat} {cs : List Value} (h : Own σ b cs n) (k : Keep n0 σ σ') (hb : b < n0) : Own σ' b cs n := ⟨by rw [k.get _ hb]; exact h.get, Nat.lt_of_lt_of_le h.lt k.next⟩
theorem Keep.mono {m n : Nat} (h : Keep n σ σ') (hm : m ≤ n) : Keep m σ σ' := ⟨h.next, fun b hb => h.get b (Nat.lt_of_lt_of_le hb hm), by have := h.low; omega⟩
theorem Le.own {b n : Nat} {ds : List Value} (h : Le σ σ') (hb : σ.next ≤ b) : Le σ (σ'.own b ds n) := ⟨h.next, fun c hc => by
  show getB (σ'.put _ _).heap c = _
  rw [St.put_get, if_neg (by omega)]; exact h.get c hc⟩
theorem slv_none {t n len : Nat} {vs : List Value} (h : SlV P σ t n none len vs) : SlV P σ' t n none len vs := ⟨⟨h.1.1, h.1.2⟩, h.2⟩
theorem slv_keepN {n0 t n len : Nat} {p : Option Addr} {vs : List Value} (h : SlV P σ t n p len vs) (k : Keep n0 σ σ') (hp : ∀ a, p = some a → a.block < n0) : SlV P σ' t n p len vs := by
  refine ⟨⟨h.1.1, ?_⟩, h.2⟩
  cases p with
  | none => exact h.1.2
  | some a => exact (show Row σ a (flat vs) from h.1.2).keep k (hp a rfl)
theorem slv_lt {t n len : Nat} {p : Option Addr} {vs : List Value} (h : SlV P σ t n p len vs) : ∀ a, p = some a → a.block < σ.next := by
  intro a e; subst e
  exact (show Row σ a (flat vs) from h.1.2).lt
theorem flat_append (xs ys : List Value) : flat (xs ++ ys) = flat xs ++ flat ys := by simp [flat]
theorem flat_agg (cs : List Value) : flat [.agg ⟨cs⟩] = cs := by simp [flat, Value.cells]
theorem flat_ints (xs : List Int) (k : IntKind) : flat (xs.map fun x => .int k x) = xs.map fun x => .int k x := by
  induction xs with
  | nil => rfl
  | cons x xs ih =>
    rw [List.map_cons, show (Value.int k x :: xs.map fun x => Value.int k x) = [Value.int k x] ++ xs.map fun x => Value.int k x from rfl, flat_append, ih]
    rfl
theorem App.own' {n0 n len c m : Nat} {v : Value} {cs ds : List Value} (h : App σ n0 n v len cs) (hc : c < n0) : App (σ.own c ds m) n0 n v len cs := by
  cases h with
  | nil => exact .nil
  | more h hs hb hlt hl hp hsn =>
    refine .more (σ := σ.own c ds m) (by
      show getB (σ.put _ _).heap _ = _
      rw [St.put_get, if_neg (by omega)]; exact h) hs hb hlt hl hp hsn
theorem App.ge {n0 n len : Nat} {p : Option Addr} {c : Nat} {cs : List Value} (h : App σ n0 n (.slice p len c) len cs) : ∀ a, p = some a → n0 ≤ a.block := by
  intro a e
  subst e
  cases h with
  | more h hs hb hlt hl hp hsn => exact hb
/-- An append of one row, to a slice of the call's own. -/
theorem app_step {st xt e n m k len n0 b : Nat} {p : Option Addr} {c : Nat} {cs xs : List Value} (T : AppT P st xt e n) (hA : App σ n0 n (.slice p len c) len cs) (hr : Row σ ⟨b, 0, none⟩ xs) (hm : xs.length = m * n) (hp : 0 < m) (hroom : len + m ≤ 1073741824)
    (hc : xs.all cellB = true) (hn0 : n0 ≤ σ.next) : ∃ p' c' σ', appendA P st xt (.slice p len c) (.slice (some ⟨b, 0, none⟩) m k) σ = some (.slice p' (len + m) c', σ') ∧ App σ' n0 n (.slice p' (len + m) c') (len + m) (cs ++ xs) ∧ Keep n0 σ σ' := by
  obtain ⟨v', σ', h1, h2, h3⟩ := append_one (k := k) T hA hr hm hp hroom hc hn0
  obtain ⟨p', c', rfl, _⟩ := h2.sl
  exact ⟨p', c', σ', h1, h2, h3⟩
theorem App.slv {n0 n len t : Nat} {p : Option Addr} {c : Nat} {vs : List Value} (h : App σ n0 n (.slice p len c) len (flat vs)) (hl : vs.length = len) (he : ∀ v ∈ vs, elOk P t n v) : SlV P σ t n p len vs := by
  obtain ⟨p', c', e, hs⟩ := h.sl
  cases e
  exact ⟨hs, hl, he⟩
theorem App.lt {n0 n len : Nat} {p : Option Addr} {c : Nat} {cs : List Value} (h : App σ n0 n (.slice p len c) len cs) : ∀ a, p = some a → a.block < σ.next := by
  intro a e
  subst e
  cases h with
  | more h hs hb hlt hl hp hsn => exact hlt
/-! ### Contracts in short -/
/-- Nothing old is written; a value without an address. -/
theorem pure_c {f : FuncId} {args : List Value} {v : Value} (h : Runs P f args σ.re v σ') (hl : σ.next ≤ σ'.low) (hv : rigidB RD v = true) : CallsA P f args σ v σ := by
  obtain ⟨N0, hN⟩ := h
  refine ⟨N0, fun N hNN => ?_⟩
  have h1 := hN N hNN
  unfold callA
  rw [show (⟨σ.heap, σ.next, σ.next⟩ : St) = σ.re from rfl, h1]
  show backA σ v σ' = _
  unfold backA
  rw [(ble_iff _ _).2 hl, hv]; rfl
/-- New blocks alone: from here on. -/
structure New (σ σ' : St) : Prop where
  le : Le σ σ'
  low : ∀ m, m ≤ σ.low → m ≤ σ.next → m ≤ σ'.low
theorem New.refl (σ : St) : New σ σ := ⟨Le.refl _, fun _ h _ => h⟩
theorem New.trans {σ₁ σ₂ σ₃ : St} (h : New σ₁ σ₂) (k : New σ₂ σ₃) : New σ₁ σ₃ := ⟨h.le.trans k.le, fun m h1 h2 => k.low m (h.low m h1 h2) (Nat.le_trans h2 h.le.next)⟩
theorem New.row (σ : St) (cs : List Value) (n : Nat) : New σ (σ.row cs n) := ⟨Le.row _ _ _, fun _ h _ => h⟩
theorem New.add (σ : St) (y : Blk) : New σ (σ.add y) := ⟨Le.add _ _, fun _ h _ => h⟩
theorem New.re (σ : St) : New σ σ.re := ⟨Le.re' (Le.refl _), fun _ _ h => h⟩
theorem New.of_keep {σ σ' : St} (h : Keep σ.next σ σ') : New σ σ' := ⟨⟨h.next, h.get⟩, fun m h1 h2 => by have := h.low; omega⟩
theorem new_c {f : FuncId} {args : List Value} {v : Value} {Q : Value → St → Prop} (h : Runs P f args σ.re v σ') (hn : New σ.re σ') (hq : Q v σ') (hQ : ∀ s s', Q v s → Le s s' → Q v s') (hr : rigidB RD v = true → Q v σ) :
    ∃ v σ'', CallsA P f args σ v σ'' ∧ New σ σ'' ∧ Q v σ'' := by
  obtain ⟨N0, hN⟩ := h
  have h2 : σ.next ≤ σ'.low := hn.low _ (Nat.le_refl _) (Nat.le_refl _)
  have h3 : σ.next ≤ σ'.next := hn.le.next
  cases hrv : rigidB RD v with
  | true =>
    refine ⟨v, σ, ⟨N0, fun N hNN => ?_⟩, New.refl _, hr hrv⟩
    have h1 := hN N hNN
    unfold callA
    rw [show (⟨σ.heap, σ.next, σ.next⟩ : St) = σ.re from rfl, h1]
    show backA σ v σ' = _
    unfold backA
    rw [(ble_iff _ _).2 h2, hrv]; rfl
  | false =>
    refine ⟨v, ⟨σ'.heap, σ'.next, min σ.low σ'.low⟩, ⟨N0, fun N hNN => ?_⟩, ⟨⟨h3, fun b hb => hn.le.get b hb⟩, fun m h4 h5 => ?_⟩, hQ _ _ hq ⟨Nat.le_refl _, fun _ _ => rfl⟩⟩
    · have h1 := hN N hNN
      unfold callA
      rw [show (⟨σ.heap, σ.next, σ.next⟩ : St) = σ.re from rfl, h1]
      show backA σ v σ' = _
      unfold backA
      rw [hrv, Bool.and_false, cond_false, (ble_iff _ _).2 h3, cond_true, fN_eq, cond_ble]
    · show m ≤ min σ.low σ'.low
      omega
theorem leI_tt {a b : Int} (h : a ≤ b) : leI a b = true := (leI_iff a b).2 h
theorem leI_ff {a b : Int} (h : ¬ a ≤ b) : leI a b = false := by rw [leI_eq]; simp; omega
theorem ltI_tt {a b : Int} (h : a < b) : ltI a b = true := (ltI_iff a b).2 h
theorem ltI_ff {a b : Int} (h : ¬ a < b) : ltI a b = false := by rw [ltI_eq]; simp; omega
theorem eqI_tt {a b : Int} (h : a = b) : eqI a b = true := (eqI_iff a b).2 h
theorem eqI_ff {a b : Int} (h : ¬ a = b) : eqI a b = false := by rw [Bool.eq_false_iff]; exact fun e => h ((eqI_iff a b).1 e)
theorem neqI_tt {a b : Int} (h : ¬ a = b) : (!eqI a b) = true := by rw [eqI_ff h]; rfl
theorem neqI_ff {a b : Int} (h : a = b) : (!eqI a b) = false := by rw [eqI_tt h]; rfl
/-- A bool, met on both sides. -/
theorem leI_dec (a b : Int) : leI a b = decide (a ≤ b) := leI_eq a b
theorem ltI_dec (a b : Int) : ltI a b = decide (a < b) := ltI_eq a b
end
end Go.Lay
