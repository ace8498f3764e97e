
import Derived.Test.YtmdopblmkkameaaRN
namespace Go.Proofs.Ytmdopblmkkameaa
open Go Go.Lay
set_option linter.unusedVariables false
set_option linter.unusedSimpArgs false
set_option maxRecDepth 20000
theorem max_ex {P : Nat → Prop} : ∀ (n : Nat), (∃ a, P a) → (∀ a, P a → a ≤ n) → ∃ m, P m ∧ ∀ a, P a → a ≤ m
 | 0, ⟨a, ha⟩, hb => ⟨a, ha, fun b h => by have := hb b h; omega⟩
 | n + 1, h0, hb => by
  by_cases h : P (n + 1)
  ·exact ⟨n + 1, h, hb⟩
  ·exact max_ex n h0 fun a ha => by
    have := hb a ha
    have : a ≠ n + 1 := fun e => h (e ▸ ha)
    omega
theorem cntN_le_n {n : Nat} {P : Nat → Bool} : yW n P ≤ n := by have := cntN_not (n := n) (P := P); omega
theorem isMax_ex (n : Nat) (E : Nat → Nat → Prop) : ∃ m, IsMax n E m := by
 obtain ⟨m, ⟨nx, bf, h1, h2⟩, h3⟩ := max_ex (P := fun m => ∃ nx bf, Mt n E nx bf ∧ yW n (xP bf) = m) n ⟨_, fun _ => -1, fun _ => -1, ⟨fun k _ h => absurd rfl h, fun i _ h => absurd rfl h⟩, rfl⟩ (by
  rintro a ⟨nx, bf, _, rfl⟩; exact cntN_le_n)
 exact ⟨m, ⟨nx, bf, h1, h2⟩, fun nx bf h => h3 _ ⟨nx, bf, h, rfl⟩⟩
theorem IsMax.congr {n m : Nat} {E F : Nat → Nat → Prop} (h : IsMax n E m) (e : ∀ i k, E i k ↔ F i k) : IsMax n F m := by
 have : E = F := by funext i k; exact propext (e i k)
 rw [← this]; exact h
section
variable {t : Tab} {ws : List Int}
def kdT (t : Tab) (i : Nat) : Int := (tripAt t i).kind
theorem mayI_kd (hv : Valid t) {i k : Nat} (h : xR t i k = true) : kdT t i = kdT t k := by
 obtain ⟨h1, h2⟩ := mayI_lt h
 have e1 : t.trips[i]? = some t.trips[i] := by simp
 have e2 : t.trips[k]? = some t.trips[k] := by simp
 have := (mayI_st hv h e1 e2).2
 unfold kdT tripAt
 rw [e1, e2]; exact this
theorem kindB_eq {k : Int} (hk : 0 ≤ k) {i : Nat} (hi : i < t.nt) : kindB t k i = decide (kdT t i = k) := by
 have e1 : t.trips[i]? = some (tripAt t i) := by unfold tripAt; rw [List.getElem?_eq_getElem hi]; rfl
 unfold kindB kdT
 rw [e1, decide_eq_false (by omega)]; rfl
theorem aB_all {i : Nat} : aB t (-1) ws i = ws.all fun w => decide (w ≠ (i : Int)) := by unfold aB kindB; rfl
theorem kd_range (hv : Valid t) {i : Nat} (hi : i < t.nt) : 0 ≤ kdT t i ∧ kdT t i ≤ 2 := by
 have e1 : t.trips[i]? = some (tripAt t i) := by unfold tripAt; rw [List.getElem?_eq_getElem hi]; rfl
 have := hv.trip e1
 unfold kdT; omega
end
section
variable {σ : St} {t : Tab} {pe pt : Option Addr} {le ce lt ct : Nat}
theorem aB_nil {i : Nat} : aB t (-1) [] i = true := rfl
theorem ints_none : yV σ none 0 [] := ⟨SlP.nil _ _, rfl, by simp⟩
end
end Go.Proofs.Ytmdopblmkkameaa
