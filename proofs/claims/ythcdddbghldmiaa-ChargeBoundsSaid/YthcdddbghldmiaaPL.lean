
import Derived.Test.YthcdddbghldmiaaPE
namespace Go.Proofs.Ythcdddbghldmiaa
open Go Go.Lay
set_option linter.unusedVariables false
section
variable {g x : Gar} {f : Nat → Int} {n k : Nat} {l : List Nat} {z y : Int}
theorem needI_le (hv : Valid g) (i : Nat) : 0 ≤ needI g i ∧ needI g i ≤ 1000 := by
 unfold needI
 cases hb : g.buses[i]? with
 | none => simp
 | some b => have := busB_iff (hv.b hb); simp only [needZ]; omega
theorem rateI_le (hv : Valid g) (i s : Nat) : 0 ≤ rateI g i s ∧ rateI g i s ≤ 1000 := by
 unfold rateI
 cases hb : g.buses[i]? with
 | none => simp
 | some b => have := busB_iff (hv.b hb); simp only []; split <;> omega
end
end Go.Proofs.Ythcdddbghldmiaa
