
import Derived.Test.YthcdddbghldmiaaCM
import Derived.Test.YthcdddbghldmiaaCE
import Derived.Test.YthcdddbghldmiaaTy
namespace Go.Proofs.Ythcdddbghldmiaa
open Go Go.Lay
set_option linter.unusedVariables false
set_option linter.unusedSimpArgs false
set_option maxRecDepth 20000
theorem flat_ints (xs : List Int) : flat (xs.map intV) = xs.map intV := by
 induction xs with
 | nil => rfl
 | cons x xs ih => rw [List.map_cons]; show [intV x] ++ flat (xs.map intV) = _; rw [ih]; rfl
section
variable {σ τ : St} {w : Nat} {g : Gar} {W : Wk} {p q pp : Option Addr} {c d cp : Nat} {B : Nat → Nat}
end
end Go.Proofs.Ythcdddbghldmiaa
