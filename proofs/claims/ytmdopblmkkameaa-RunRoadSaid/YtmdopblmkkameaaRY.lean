
import Derived.Test.YtmdopblmkkameaaRF
import Derived.Test.YtmdopblmkkameaaTy
import Derived.Test.YtmdopblmkkameaaRW
import Derived.Test.YtmdopblmkkameaaPM
import Derived.Test.YtmdopblmkkameaaRD
namespace Go.Proofs.Ytmdopblmkkameaa
open Go Go.Lay
set_option linter.unusedVariables false
set_option linter.unusedSimpArgs false
set_option maxRecDepth 20000
theorem rem_eq {ox oy : Operand} {t : TypeId} {a b : Int} (h : b ≠ 0) : binA Try.prog .rem t ox oy (iV a) (iV b) = some (iV (a.tmod b)) := by
 simp [binA, sameKind, intBin, h]
section
variable {σ : St} {t : Tab} {pe pt : Option Addr} {le ce lt ct : Nat}
end
end Go.Proofs.Ytmdopblmkkameaa
