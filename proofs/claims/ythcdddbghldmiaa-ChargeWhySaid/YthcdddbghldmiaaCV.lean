
import Derived.Test.YthcdddbghldmiaaHX
import Derived.Test.YthcdddbghldmiaaPE
import Derived.Test.YthcdddbghldmiaaXD
namespace Go.Proofs.Ythcdddbghldmiaa
open Go Go.Lay
set_option linter.unusedVariables false
set_option linter.unusedSimpArgs false
set_option maxRecDepth 20000
theorem rem_eq {ox oy : Operand} {t : TypeId} {a b : Int} (h : b ≠ 0) : binA Try.prog .rem t ox oy (iV a) (iV b) = some (iV (a.tmod b)) := by
 simp [binA, sameKind, intBin, h]
section
variable {σ τ : St} {g : Gar} {p q pw : Option Addr} {l c m d lw cw : Nat} {ws hs us : List Int}
end
end Go.Proofs.Ythcdddbghldmiaa
