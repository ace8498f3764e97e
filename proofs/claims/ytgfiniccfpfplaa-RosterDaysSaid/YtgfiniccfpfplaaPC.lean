
import Derived.Test.YtgfiniccfpfplaaPB
namespace Go.Proofs.Ytgfiniccfpfplaa
section
variable {w x : Wk} {ros ros' tru tru' : Nat → Int}
section
variable {f : Nat → Nat}
end
theorem yZW {m k D : Nat} (hr : ∀ i, i < w.N.length → ros' i = if (dty w i).day ≤ (m : Int) then ros i else -1) (hD : D ≤ m) : ∀ {j : Nat}, j ≤ w.N.length → onL w ros' k D j = onL w ros k D j := by
 intro j hj
 unfold onL
 apply List.filter_congr
 intro i hi
 have hi := List.mem_range.1 hi
 unfold his
 have := hr i (by omega)
 by_cases h : (dty w i).day = (D : Int)
 ·rw [this, if_pos (by omega)]
 ·simp [h]
theorem zEN {m k D : Nat} (hr : ∀ i, i < w.N.length → ros' i = if (dty w i).day ≤ (m : Int) then ros i else -1) (hD : D ≤ m) : uH w ros' k D = uH w ros k D := by
 unfold uH; rw [yZW hr hD (Nat.le_refl _)]
theorem zYX {m k : Nat} (hr : ∀ i, i < w.N.length → ros' i = if (dty w i).day ≤ (m : Int) then ros i else -1) : ∀ {D : Nat}, D ≤ m → xX w ros' tru k D = xX w ros tru k D
 | 0, _ => rfl
 | D + 1, h => by
  unfold xX
  rw [zEN hr (by omega : D ≤ m), zYX hr (by omega : D ≤ m)]
theorem yEB {m k : Nat} (hr : ∀ i, i < w.N.length → ros' i = if (dty w i).day ≤ (m : Int) then ros i else -1) : ∀ {D : Nat}, D ≤ m → vY w ros' k D = vY w ros k D
 | 0, h => by unfold vY uC; rw [zEN hr h]
 | D + 1, h => by unfold vY uC; rw [zEN hr h, yEB hr (by omega : D ≤ m)]
theorem zPZ {m q k i : Nat} (hd : ∀ i, i < w.N.length → 0 ≤ (dty w i).day) (hr : ∀ i, i < w.N.length → ros' i = if (dty w i).day ≤ (m : Int) then ros i else -1) (hq : q < 5) (hi : i < w.N.length) : xV w ros' tru q k i = (decide ((dty w i).day ≤ (m : Int)) && xV w ros tru q k i) := by
 unfold xV
 rw [if_neg (by omega), if_neg (by omega)]
 by_cases h : (dty w i).day ≤ (m : Int)
 ·have h0 := hd i hi
  have e : (dty w i).day.toNat ≤ m := by omega
  rw [decide_eq_true h, Bool.true_and, hr i hi, if_pos h, zEN hr e, zYX hr e, yEB hr e]
 ·rw [decide_eq_false h, Bool.false_and, hr i hi, if_neg h, decide_eq_false (by omega), Bool.false_and]
end
end Go.Proofs.Ytgfiniccfpfplaa
