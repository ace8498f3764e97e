
import Derived.Test.YtmdopblmkkameaaRN
namespace Go.Proofs.Ytmdopblmkkameaa
open Go Go.Lay
set_option linter.unusedVariables false
set_option linter.unusedSimpArgs false
set_option maxRecDepth 20000
theorem max_ex {P : Nat → Prop} : ∀ (n : Nat), (∃ a, P a) → (∀ a, P a → a ≤ n) → ∃ m, P m ∧ ∀ a, P a → a ≤ m
 | 0, ⟨a, ha⟩, hb => ⟨a, ha, fun b h => by have := hb b h; omega⟩
 | n + 1, h0, hb => by
  by_cases h : P (n + 1)
  ·exact ⟨n + 1, h, hb⟩
  ·exact max_ex n h0 fun a ha => by
    have := hb a ha
    have : a ≠ n + 1 := fun e => h (e ▸ ha)
    omega
theorem cntN_le_n {n : Nat} {P : Nat → Bool} : yR n P ≤ n := by have := zJJ (n := n) (P := P); omega
theorem zJD (n : Nat) (E : Nat → Nat → Prop) : ∃ m, IsMax n E m := by
 obtain ⟨m, ⟨nx, bf, h1, h2⟩, h3⟩ := max_ex (P := fun m => ∃ nx bf, Mt n E nx bf ∧ yR n (xM bf) = m) n ⟨_, fun _ => -1, fun _ => -1, ⟨fun k _ h => absurd rfl h, fun i _ h => absurd rfl h⟩, rfl⟩ (by
  rintro a ⟨nx, bf, _, rfl⟩; exact cntN_le_n)
 exact ⟨m, ⟨nx, bf, h1, h2⟩, fun nx bf h => h3 _ ⟨nx, bf, h, rfl⟩⟩
theorem IsMax.congr {n m : Nat} {E F : Nat → Nat → Prop} (h : IsMax n E m) (e : ∀ i k, E i k ↔ F i k) : IsMax n F m := by
 have : E = F := by funext i k; exact propext (e i k)
 rw [← this]; exact h
section
variable {t : Tab} {ws : List Int}
def kdT (t : Tab) (i : Nat) : Int := (vJ t i).kind
theorem zKD (hv : Valid t) {i k : Nat} (h : zGO t i k = true) : kdT t i = kdT t k := by
 obtain ⟨h1, h2⟩ := mayI_lt h
 have e1 : t.trips[i]? = some t.trips[i] := by simp
 have e2 : t.trips[k]? = some t.trips[k] := by simp
 have := (mayI_st hv h e1 e2).2
 unfold kdT vJ
 rw [e1, e2]; exact this
theorem mayI_only {ls : List Nat} (hlt : ∀ x ∈ ls, x < t.nt) {i k x y : Nat} (hx : ls[i]? = some x) (hy : ls[k]? = some y) : zGO (uZ t ls) i k = zGO t x y := by
 have h1 := hlt x (List.mem_of_getElem? hx)
 have h2 := hlt y (List.mem_of_getElem? hy)
 have e1 : t.trips[x]? = some (vJ t x) := by unfold vJ; rw [List.getElem?_eq_getElem h1]; rfl
 have e2 : t.trips[y]? = some (vJ t y) := by unfold vJ; rw [List.getElem?_eq_getElem h2]; rfl
 have f1 : (uZ t ls).trips[i]? = some (vJ t x) := by show (ls.map (vJ t))[i]? = _; rw [List.getElem?_map, hx]; rfl
 have f2 : (uZ t ls).trips[k]? = some (vJ t y) := by show (ls.map (vJ t))[k]? = _; rw [List.getElem?_map, hy]; rfl
 rw [mayI_eq e1 e2, mayI_eq f1 f2]; rfl
theorem allL_nodup {kind : Int} {n : Nat} : (zFH t kind ws n).Nodup := List.nodup_range.filter _
theorem kindB_eq {k : Int} (hk : 0 ≤ k) {i : Nat} (hi : i < t.nt) : kindB t k i = decide (kdT t i = k) := by
 have e1 : t.trips[i]? = some (vJ t i) := by unfold vJ; rw [List.getElem?_eq_getElem hi]; rfl
 unfold kindB kdT
 rw [e1, decide_eq_false (by omega)]; rfl
theorem aB_all {i : Nat} : aB t (-1) ws i = ws.all fun w => decide (w ≠ (i : Int)) := by unfold aB kindB; rfl
theorem mem_all {k : Int} (hk : 0 ≤ k) {x : Nat} : x ∈ zFH t k ws t.nt ↔ x < t.nt ∧ kdT t x = k ∧ aB t (-1) ws x = true := by
 constructor
 ·intro h
  obtain ⟨h1, h2⟩ := allL_lt h
  unfold aB at h2
  rw [kindB_eq hk h1] at h2
  simp only [Bool.and_eq_true, decide_eq_true_eq] at h2
  exact ⟨h1, h2.1, by rw [aB_all]; exact h2.2⟩
 ·rintro ⟨h1, h2, h3⟩
  rw [aB_all] at h3
  refine List.mem_filter.2 ⟨by simpa using h1, ?_⟩
  unfold aB
  rw [kindB_eq hk h1, h3, decide_eq_true h2]; rfl
theorem names_k (hv : Valid t) {k : Int} (hk : 0 ≤ k) {a b : Nat} (h : IsMax (zFH t k ws t.nt).length (EdS (uZ t (zFH t k ws t.nt)) fun _ => true) a) (h2 : IsMax t.nt (fun x y => EdS t (aB t (-1) ws) x y ∧ kdT t x = k) b) : a = b := by
 refine IsMax.names allL_nodup (fun x hx => (allL_lt hx).1) h h2 (fun i j x y hx hy => ?_) (fun x y hxy => ?_)
 ·have e := mayI_only (t := t) (fun x hx => (allL_lt hx).1) hx hy
  have m1 := (mem_all hk).1 (List.mem_of_getElem? hx)
  have m2 := (mem_all hk).1 (List.mem_of_getElem? hy)
  unfold EdS
  rw [e]
  exact ⟨fun q => ⟨⟨q.1, m1.2.2, m2.2.2⟩, m1.2.1⟩, fun q => ⟨q.1.1, rfl, rfl⟩⟩
 ·obtain ⟨⟨q1, q2, q3⟩, q4⟩ := hxy
  obtain ⟨l1, l2⟩ := mayI_lt q1
  exact ⟨(mem_all hk).2 ⟨l1, q4, q2⟩, (mem_all hk).2 ⟨l2, by rw [← zKD hv q1]; exact q4, q3⟩⟩
theorem kd_range (hv : Valid t) {i : Nat} (hi : i < t.nt) : 0 ≤ kdT t i ∧ kdT t i ≤ 2 := by
 have e1 : t.trips[i]? = some (vJ t i) := by unfold vJ; rw [List.getElem?_eq_getElem hi]; rfl
 have := hv.trip e1
 unfold kdT; omega
end
section
variable {σ : St} {t : Tab} {pe pt : Option Addr} {le ce lt ct : Nat}
theorem ints_none : yZ σ none 0 [] := ⟨SlP.nil _ _, rfl, by simp⟩
end
end Go.Proofs.Ytmdopblmkkameaa
