
import Derived.Test.YthcdddbghldmiaaCA
namespace Go.Proofs.Ythcdddbghldmiaa
set_option linter.unusedVariables false
def sumN : Nat → (Nat → Int) → Int
 | 0, _ => 0
 | n + 1, f => sumN n f + f n
section
variable {f g : Nat → Int} {n m : Nat}
theorem sumN_congr : ∀ {n : Nat}, (∀ i, i < n → f i = g i) → sumN n f = sumN n g
 | 0, _ => rfl
 | n + 1, h => by simp only [sumN]; rw [sumN_congr (fun i hi => h i (by omega)), h n (by omega)]
theorem sumN_zero : ∀ {n : Nat}, (∀ i, i < n → f i = 0) → sumN n f = 0
 | 0, _ => rfl
 | n + 1, h => by simp only [sumN]; rw [sumN_zero (fun i hi => h i (by omega)), h n (by omega)]; rfl
theorem sumN_bd {B : Int} : ∀ {n : Nat}, (∀ i, i < n → 0 ≤ f i ∧ f i ≤ B) → 0 ≤ sumN n f ∧ sumN n f ≤ n * B
 | 0, _ => by simp [sumN]
 | n + 1, h => by
  have h1 := sumN_bd (n := n) (fun i hi => h i (by omega))
  have h2 := h n (by omega)
  simp only [sumN]
  have e : ((n + 1 : Nat) : Int) * B = n * B + B := by rw [Int.natCast_succ, Int.add_mul, Int.one_mul]
  rw [e]; omega
theorem sumN_upd {d : Int} {k : Nat} (hk : k < n) (h : ∀ i, i < n → i ≠ k → g i = f i) (hd : g k = f k + d) : sumN n g = sumN n f + d := by
 induction n with
 | zero => omega
 | succ n ih =>
  simp only [sumN]
  by_cases e : k = n
  ·subst e
   rw [sumN_congr (f := g) (g := f) (fun i hi => h i (by omega) (by omega)), hd]; omega
  ·rw [ih (by omega) (fun i hi hne => h i (by omega) hne), h n (by omega) (by omega)]; omega
end
def cell (rs : List (List Int)) (i s : Nat) : Int := (rs.getD i []).getD s 0
def pwS (g : Gar) (s : Nat) : Int := (g.slots.map (·.pw)).getD s 0
abbrev Gar.ns (g : Gar) : Nat := g.slots.length
abbrev Gar.nb (g : Gar) : Nat := g.buses.length
theorem pwS_eq {g : Gar} {s : Nat} {x : Slot} (h : g.slots[s]? = some x) : pwS g s = x.pw := by simp [pwS, h]
structure Valid (g : Gar) : Prop where
 ns : g.ns ≤ 12
 nb : g.nb ≤ 5
 slot : ∀ s ∈ g.slots, slotB s = true
 bus : ∀ b ∈ g.buses, busB b = true
theorem valid_of {g : Gar} (h : checkZ g = 0) : Valid g := by obtain ⟨h1, h2, h3, h4⟩ := check_zero h; exact ⟨h1, h2, h3, h4⟩
theorem Valid.pw {g : Gar} (h : Valid g) (s : Nat) : 0 ≤ pwS g s ∧ pwS g s ≤ 1000 := by
 unfold pwS
 cases hs : g.slots[s]? with
 | none => simp [hs]
 | some x =>
  have := h.slot x (List.mem_of_getElem? hs)
  simp only [slotB, inB, Bool.and_eq_true, decide_eq_true_eq] at this
  simp [hs]; omega
theorem Valid.b {g : Gar} (h : Valid g) {i : Nat} {b : Bus} (hb : g.buses[i]? = some b) : busB b = true := h.bus b (List.mem_of_getElem? hb)
end Go.Proofs.Ythcdddbghldmiaa
