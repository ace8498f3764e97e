
import Derived.Test.YthcdddbghldmiaaCP
import Derived.Test.YthcdddbghldmiaaCQ
namespace Go.Proofs.Ythcdddbghldmiaa
open Go Go.Lay
set_option linter.unusedVariables false
set_option linter.unusedSimpArgs false
set_option maxRecDepth 20000
theorem mulS_bd {a b A C : Int} (h1 : 0 ≤ a) (h2 : a ≤ A) (h3 : -C ≤ b) (h4 : b ≤ C) (hC : 0 ≤ C) : -(A * C) ≤ a * b ∧ a * b ≤ A * C := by
 have e1 : a * b ≤ a * C := Int.mul_le_mul_of_nonneg_left h4 h1
 have e2 : a * C ≤ A * C := Int.mul_le_mul_of_nonneg_right h2 hC
 have e3 : a * (-C) ≤ a * b := Int.mul_le_mul_of_nonneg_left h3 h1
 rw [Int.mul_neg] at e3
 omega
section
variable {σ τ : St} {g : Gar} {p q wp up : Option Addr} {c d cw cu : Nat} {ws us : List Int}
end
end Go.Proofs.Ythcdddbghldmiaa
