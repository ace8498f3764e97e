/- Facts on memory; contracts. -/
import Derived.Test.YthcdddbghldmiaaLaySym2
set_option linter.unusedVariables false
set_option linter.unusedSimpArgs false
namespace Go.Lay
open Go

/-! ### Numbers -/
theorem leI_or (a b : Int) : (leI a b = true ∧ a ≤ b) ∨ (leI a b = false ∧ b < a) := by
  by_cases h : a ≤ b
  · exact .inl ⟨(leI_iff a b).2 h, h⟩
  · exact .inr ⟨by rw [leI_eq]; simp; omega, by omega⟩
theorem ltI_or (a b : Int) : (ltI a b = true ∧ a < b) ∨ (ltI a b = false ∧ b ≤ a) := by
  by_cases h : a < b
  · exact .inl ⟨(ltI_iff a b).2 h, h⟩
  · exact .inr ⟨by rw [ltI_eq]; simp; omega, by omega⟩
theorem eqI_iff (a b : Int) : eqI a b = true ↔ a = b := by rw [eqI_eq]; simp
theorem eqI_or (a b : Int) : (eqI a b = true ∧ a = b) ∨ (eqI a b = false ∧ a ≠ b) := by
  by_cases h : a = b
  · exact .inl ⟨(eqI_iff a b).2 h, h⟩
  · exact .inr ⟨by rw [Bool.eq_false_iff]; exact fun e => h ((eqI_iff a b).1 e), h⟩
theorem bool_or (b : Bool) : b = true ∨ b = false := by cases b <;> simp
theorem wrap64 {n : Int} (h1 : -9223372036854775808 ≤ n) (h2 : n ≤ 9223372036854775807) : wrapK .i64 n = n := by
  have e1 : (2 : Int) ^ 64 = 18446744073709551616 := by decide
  have e2 : (2 : Int) ^ (64 - 1) = 9223372036854775808 := by decide
  rw [wrapK_eq]
  simp only [IntKind.wrap, IntKind.bits, IntKind.signed, e1, e2, Bool.true_and, decide_eq_true_eq]
  split <;> omega

/-! ### Rows -/
structure Row (σ : St) (a : Addr) (cs : List Value) : Prop where
  rd : readRow σ a cs.length = some cs
  lt : a.block < σ.next
/-- Nothing that was there has been written. -/
structure Le (σ σ' : St) : Prop where
  next : σ.next ≤ σ'.next
  get : ∀ b, b < σ.next → getB σ'.heap b = getB σ.heap b
/-- A state in which a call begins. -/
def St.re (σ : St) : St := ⟨σ.heap, σ.next, σ.next⟩

section
variable {P : Program} {σ σ' : St} {a : Addr} {cs : List Value}
theorem Le.refl (σ : St) : Le σ σ := ⟨Nat.le_refl _, fun _ _ => rfl⟩
theorem Le.trans {σ₁ σ₂ σ₃ : St} (h : Le σ₁ σ₂) (k : Le σ₂ σ₃) : Le σ₁ σ₃ := ⟨Nat.le_trans h.next k.next, fun b hb => (k.get b (Nat.lt_of_lt_of_le hb h.next)).trans (h.get b hb)⟩
theorem Le.add (σ : St) (y : Blk) : Le σ (σ.add y) := ⟨by simp, fun b hb => by rw [St.add_get, if_neg (Nat.ne_of_lt hb)]⟩
theorem Le.row (σ : St) (cs : List Value) (n : Nat) : Le σ (σ.row cs n) := Le.add _ _
theorem readRow_le (h : Le σ σ') (hb : a.block < σ.next) (n : Nat) : readRow σ' a n = readRow σ a n := by
  unfold readRow; rw [h.get _ hb]
theorem Row.le (h : Row σ a cs) (l : Le σ σ') : Row σ' a cs := ⟨by rw [readRow_le l h.lt]; exact h.rd, Nat.lt_of_lt_of_le h.lt l.next⟩
theorem Row.row (h : Row σ a cs) {ds : List Value} {n : Nat} : Row (σ.row ds n) a cs := h.le (Le.row _ _ _)
theorem Row.add (h : Row σ a cs) {y : Blk} : Row (σ.add y) a cs := h.le (Le.add _ _)
theorem Row.re (h : Row σ a cs) : Row σ.re a cs := ⟨h.rd, h.lt⟩
theorem Le.re (h : Le σ σ') : Le σ.re σ' := ⟨h.next, h.get⟩
theorem Le.re' (h : Le σ σ') : Le σ σ'.re := ⟨h.next, h.get⟩
theorem row_new (σ : St) (cs : List Value) (n : Nat) : Row (σ.row cs n) ⟨σ.next, 0, none⟩ cs := by
  refine ⟨?_, by simp [St.row]⟩
  have h1 : getB (σ.row cs n).heap σ.next = some (.cells cs n [(0, cs.length)] 1 false) := by
    show getB (σ.add _).heap σ.next = _
    rw [St.add_get, if_pos rfl]
  have h2 : Nat.ble (0 + cs.length) cs.length = true := (ble_iff _ _).2 (by omega)
  have h3 : Nat.beq 0 0 = true := rfl
  unfold readRow
  simp only [h1, stampOf, Option.getD_none, extOf, h3, cond_true, h2, List.drop_zero, List.take_length]
theorem Row.part (h : Row σ a cs) {k m : Nat} (hk : k + m ≤ cs.length) : Row σ (aadd a k) ((cs.drop k).take m) := by
  have hl : ((cs.drop k).take m).length = m := by simp; omega
  refine ⟨?_, h.lt⟩
  have hr := h.rd
  rw [hl]
  unfold readRow at hr
  split at hr
  · rename_i bc esz log nx ro hb
    split at hr
    · rename_i e he
      obtain ⟨hle, hr⟩ := bif_some hr
      have hle := (ble_iff _ _).1 hle
      have key : readRow σ (aadd a k) m = bif Nat.ble (a.off + k + m) e then some ((bc.drop (a.off + k)).take m) else none := by
        unfold readRow
        rw [show getB σ.heap (aadd a k).block = some (.cells bc esz log nx ro) from hb]
        show (match extOf log (stampOf a) with | some e => bif Nat.ble (a.off + k + m) e then some ((bc.drop (a.off + k)).take m) else none | none => none) = _
        rw [he]
      rw [key, (ble_iff (a.off + k + m) e).2 (by omega), cond_true]
      have hr2 : (bc.drop a.off).take cs.length = cs := by simpa using hr
      congr 1
      rw [show (cs.drop k).take m = ((((bc.drop a.off).take cs.length)).drop k).take m from by rw [hr2]]
      rw [List.drop_take, List.drop_drop, List.take_take]
      congr 1
      omega
    · cases hr
  · cases hr
theorem Row.load1 (h : Row σ a cs) {t : TypeId} (ht : aggT P t = some false) {k : Nat} {v : Value} (hv : cs[k]? = some v) : loadA P σ t (aadd a k) = some v := by
  have hk : k < cs.length := (List.getElem?_eq_some_iff.1 hv).1
  have hp := (h.part (k := k) (m := 1) (by omega)).rd
  have e : (cs.drop k).take 1 = [v] := by
    rw [List.drop_eq_getElem_cons hk]
    have := (List.getElem?_eq_some_iff.1 hv).2
    simp [this]
  rw [e] at hp
  unfold loadA
  simp only [ht]
  have hp : readRow σ (aadd a k) 1 = some [v] := hp
  rw [hp]
theorem Row.loadN (h : Row σ a cs) {t : TypeId} {n : Nat} (ht : aggT P t = some true) (hs : sizeT P t = some n) {k : Nat} {ds : List Value} (hd : (cs.drop k).take n = ds) (hl : ds.length = n) (hk : k + n ≤ cs.length) : loadA P σ t (aadd a k) = some (.agg ⟨ds⟩) := by
  have hp := (h.part (k := k) (m := n) hk).rd
  rw [hd, hl] at hp
  unfold loadA
  simp only [ht, hs, hp, Option.map_some]
/-- The same, at a row's own numbers. -/
theorem Row.ld {b k : Nat} {s : Option Nat} (h : Row σ ⟨b, 0, s⟩ cs) {t : TypeId} (ht : aggT P t = some false) {v : Value} (hv : cs[k]? = some v) : loadA P σ t ⟨b, k, s⟩ = some v := by
  have := h.load1 (P := P) ht hv
  simpa [aadd] using this
theorem Row.ldN {b k n : Nat} {s : Option Nat} (h : Row σ ⟨b, 0, s⟩ cs) {t : TypeId} (ht : aggT P t = some true) (hs : sizeT P t = some n) {ds : List Value} (hd : (cs.drop k).take n = ds) (hl : ds.length = n) (hk : k + n ≤ cs.length) : loadA P σ t ⟨b, k, s⟩ = some (.agg ⟨ds⟩) := by
  have := h.loadN (P := P) ht hs hd hl hk
  simpa [aadd] using this

/-! ### Rows that one may write -/
structure Own (σ : St) (b : Nat) (cs : List Value) (n : Nat) : Prop where
  get : getB σ.heap b = some (.cells cs n [(0, cs.length)] 1 false)
  lt : b < σ.next
def St.own (σ : St) (b : Nat) (cs : List Value) (n : Nat) : St := σ.put b (.cells cs n [(0, cs.length)] 1 false)
theorem own_new (σ : St) (cs : List Value) (n : Nat) : Own (σ.row cs n) σ.next cs n := ⟨by
  show getB (σ.add _).heap σ.next = _
  rw [St.add_get, if_pos rfl], by simp [St.row]⟩
theorem Own.le {b n : Nat} (h : Own σ b cs n) (l : Le σ σ') : Own σ' b cs n := ⟨by rw [l.get _ h.lt]; exact h.get, Nat.lt_of_lt_of_le h.lt l.next⟩
theorem Own.row {b n : Nat} (h : Own σ b cs n) {ds : List Value} {m : Nat} : Own (σ.row ds m) b cs n := h.le (Le.row _ _ _)
theorem Own.add {b n : Nat} (h : Own σ b cs n) {y : Blk} : Own (σ.add y) b cs n := h.le (Le.add _ _)
theorem Own.re {b n : Nat} (h : Own σ b cs n) : Own σ.re b cs n := ⟨h.get, h.lt⟩
theorem Own.own {b n c m : Nat} (h : Own σ b cs n) {ds : List Value} (hne : b ≠ c) : Own (σ.own c ds m) b cs n := ⟨by
  show getB (σ.put _ _).heap b = _
  rw [St.put_get, if_neg hne]; exact h.get, h.lt⟩
theorem Own.put {b n : Nat} (h : Own σ b cs n) {ds : List Value} : Own (σ.own b ds n) b ds n := ⟨by
  show getB (σ.put _ _).heap b = _
  rw [St.put_get, if_pos rfl], h.lt⟩
theorem Own.rw {b n : Nat} (h : Own σ b cs n) : Row σ ⟨b, 0, none⟩ cs := by
  refine ⟨?_, h.lt⟩
  have h2 : Nat.ble (0 + cs.length) cs.length = true := (ble_iff _ _).2 (by omega)
  have h3 : Nat.beq 0 0 = true := rfl
  unfold readRow
  simp only [h.get, stampOf, Option.getD_none, extOf, h3, cond_true, h2, List.drop_zero, List.take_length]
theorem Row.own {b n : Nat} (h : Row σ a cs) {ds : List Value} (hne : a.block ≠ b) : Row (σ.own b ds n) a cs := ⟨by
  have hr := h.rd
  unfold readRow at hr ⊢
  rw [show getB (σ.own b ds n).heap a.block = getB σ.heap a.block from by
    show getB (σ.put _ _).heap a.block = _
    rw [St.put_get, if_neg hne]]
  exact hr, h.lt⟩
theorem Own.store {b n k : Nat} (h : Own σ b cs n) {t : TypeId} {v : Value} {vs ds : List Value} (hv : v.cells.toList = vs) (hs : sizeT P t = some vs.length) (hc : vs.all cellB = true) (hk : k + vs.length ≤ cs.length) (hd : cs.take k ++ (vs ++ cs.drop (k + vs.length)) = ds) :
    effOp P (evL [.pointer (some ⟨b, k, none⟩), v]) σ (.store t (.tmp 0) (.tmp 1)) = some (undef, σ.own b ds n) := by
  have h1 : Nat.beq v.cells.toList.length vs.length = true := by rw [hv]; exact Nat.beq_refl _
  have h2 : (Nat.beq 0 0 && Nat.ble (k + vs.length) cs.length && !false && vs.all cellB) = true := by
    rw [(ble_iff _ _).2 hk, hc]; rfl
  have hl : ds.length = cs.length := by rw [← hd]; simp; omega
  have hw : writeRow σ ⟨b, k, none⟩ vs = some (σ.own b ds n) := by
    unfold writeRow
    simp only [h.get, stampOf, Option.getD_none, h2, cond_true, fVs_eq, St.write_eq, hd]
    unfold St.own
    rw [hl]
  have : storeA P σ t ⟨b, k, none⟩ v = some (σ.own b ds n) := by
    unfold storeA
    rw [hv] at h1 ⊢
    simp only [hs, h1, cond_true, hw]
  show (storeA P σ t ⟨b, k, none⟩ v).map _ = _
  rw [this]; rfl
@[simp] theorem St.own_next (σ : St) (b : Nat) (cs : List Value) (n : Nat) : (σ.own b cs n).next = σ.next := rfl
@[simp] theorem St.own_low (σ : St) (b : Nat) (cs : List Value) (n : Nat) : (σ.own b cs n).low = min σ.low b := rfl
@[simp] theorem St.row_next (σ : St) (cs : List Value) (n : Nat) : (σ.row cs n).next = σ.next + 1 := rfl
@[simp] theorem St.row_low (σ : St) (cs : List Value) (n : Nat) : (σ.row cs n).low = σ.low := rfl

/-! ### Slices -/
/-- What a slice holds: cell by cell. -/
def SlP (σ : St) (n : Nat) (p : Option Addr) (len : Nat) (l : List Value) : Prop :=
  l.length = len * n ∧ match p with
    | none => len = 0
    | some a => Row σ a l
theorem SlP.le {n len : Nat} {p : Option Addr} {l : List Value} (h : SlP σ n p len l) (k : Le σ σ') : SlP σ' n p len l := by
  refine ⟨h.1, ?_⟩
  cases p with
  | none => exact h.2
  | some a => exact Row.le h.2 k
theorem SlP.row {n len : Nat} {p : Option Addr} {l : List Value} (h : SlP σ n p len l) {ds : List Value} {m : Nat} : SlP (σ.row ds m) n p len l := h.le (Le.row _ _ _)
theorem SlP.add {n len : Nat} {p : Option Addr} {l : List Value} (h : SlP σ n p len l) {y : Blk} : SlP (σ.add y) n p len l := h.le (Le.add _ _)
theorem SlP.re {n len : Nat} {p : Option Addr} {l : List Value} (h : SlP σ n p len l) : SlP σ.re n p len l := h.le (Le.re' (Le.refl _))
theorem SlP.own {n len : Nat} {p : Option Addr} {l : List Value} (h : SlP σ n p len l) {b m : Nat} {ds : List Value} (hb : σ.next ≤ b ∨ ∀ a, p = Option.some a → a.block ≠ b) : SlP (σ.own b ds m) n p len l := by
  refine ⟨h.1, ?_⟩
  cases p with
  | none => exact h.2
  | some a =>
    have hr : Row σ a l := h.2
    exact hr.own (by rcases hb with hb | hb; exact (have := hr.lt; by omega); exact hb a rfl)
theorem SlP.some {n len : Nat} {p : Option Addr} {l : List Value} (h : SlP σ n p len l) (hl : 0 < len) : ∃ a, p = .some a ∧ Row σ a l := by
  cases p with
  | none => have := h.2; omega
  | some a => exact ⟨a, rfl, h.2⟩
theorem Row.sl {n len : Nat} (h : Row σ a cs) (hl : cs.length = len * n) : SlP σ n (.some a) len cs := ⟨hl, h⟩
theorem SlP.nil (σ : St) (n : Nat) : SlP σ n none 0 [] := ⟨by simp, rfl⟩

/-! ### Contracts -/
def Runs (P : Program) (f : FuncId) (args : List Value) (σ : St) (v : Value) (σ' : St) : Prop := ∃ N0, ∀ N, N0 ≤ N → runA P N (.func f) args σ = some (v, σ')
def CallsA (P : Program) (f : FuncId) (args : List Value) (σ : St) (v : Value) (σ' : St) : Prop := ∃ N0, ∀ N, N0 ≤ N → callA (runA P N) (.func f) args σ = some (v, σ')
/-- It writes nothing old. -/
def RunsPure (P : Program) (f : FuncId) (args : List Value) (σ : St) (v : Value) : Prop := ∃ σ', (σ.next ≤ σ.low → σ.next ≤ σ'.low) ∧ Runs P f args σ v σ'
theorem RunsPure.call {f : FuncId} {args : List Value} {v : Value} (h : RunsPure P f args σ.re v) (hv : rigidB RD v = true) : CallsA P f args σ v σ := by
  obtain ⟨σ', hl, N0, hN⟩ := h
  refine ⟨N0, fun N hNN => ?_⟩
  have h1 := hN N hNN
  have h2 : σ.next ≤ σ'.low := hl (Nat.le_refl _)
  unfold callA
  rw [show (⟨σ.heap, σ.next, σ.next⟩ : St) = σ.re from rfl, h1]
  show backA σ v σ' = _
  unfold backA
  rw [(ble_iff _ _).2 h2, hv]; rfl
/-- What it hands back is new. -/
def RunsNew (P : Program) (f : FuncId) (args : List Value) (σ : St) (Q : Value → St → Prop) : Prop := ∃ v σ', Le σ σ' ∧ (σ.next ≤ σ.low → σ.next ≤ σ'.low) ∧ Q v σ' ∧ Runs P f args σ v σ'
theorem RunsNew.call {f : FuncId} {args : List Value} {Q : Value → St → Prop} (h : RunsNew P f args σ.re Q) (hl : σ.low ≤ σ.next) (hQ : ∀ v s l, Q v s → Q v ⟨s.heap, s.next, l⟩) (hQ2 : ∀ v s, rigidB RD v = true → Le σ s → Q v s → Q v σ) :
    ∃ v σ', Le σ σ' ∧ σ'.low = σ.low ∧ Q v σ' ∧ CallsA P f args σ v σ' := by
  obtain ⟨v, σ', hle, hlow, hq, N0, hN⟩ := h
  have h2 : σ.next ≤ σ'.low := hlow (Nat.le_refl _)
  have hle' : Le σ σ' := ⟨hle.next, hle.get⟩
  cases hr : rigidB RD v with
  | true =>
    refine ⟨v, σ, Le.refl _, rfl, hQ2 v σ' hr hle' hq, N0, fun N hNN => ?_⟩
    unfold callA
    rw [show (⟨σ.heap, σ.next, σ.next⟩ : St) = σ.re from rfl, hN N hNN]
    show backA σ v σ' = _
    unfold backA
    rw [(ble_iff _ _).2 h2, hr]; rfl
  | false =>
    refine ⟨v, ⟨σ'.heap, σ'.next, σ.low⟩, ⟨hle'.next, hle'.get⟩, rfl, hQ v σ' _ hq, N0, fun N hNN => ?_⟩
    unfold callA
    rw [show (⟨σ.heap, σ.next, σ.next⟩ : St) = σ.re from rfl, hN N hNN]
    show backA σ v σ' = _
    unfold backA
    have h3 : σ.next ≤ σ'.next := hle.next
    rw [hr, Bool.and_false, cond_false, (ble_iff _ _).2 h3, cond_true, fN_eq, cond_ble]
    rw [Nat.min_eq_left (Nat.le_trans hl h2)]
/-- A function's contract out of the ways through it. -/
theorem runs_of {f : FuncId} {args : List Value} {v : Value} (h : ∃ N0, ∀ N, N0 ≤ N → ∃ as, wpFn P N f args as σ fun v' s' => v' = v ∧ s' = σ') : Runs P f args σ v σ' := by
  obtain ⟨N0, hN⟩ := h
  refine ⟨N0 + 1, fun N hNN => ?_⟩
  obtain ⟨as, hw⟩ := hN (N - 1) (by omega)
  obtain ⟨v', s', h1, rfl, rfl⟩ := wpFn_sound hw
  rw [show N - 1 + 1 = N by omega] at h1
  exact h1
end
end Go.Lay
