
import Derived.Test.YtmdopblmkkameaaTy
namespace Go.Proofs.Ytmdopblmkkameaa
open Go Go.Lay
set_option linter.unusedVariables false
set_option maxRecDepth 20000
variable {n : Int} {b1 : Bool} {σ : St} {Q : Value → St → Prop}
theorem Lacks1_ra (h1 : zD Try.prog 56 [iV n, iV 0, iV 12] σ (.bool b1) σ) (nx : Q (.bool b1) σ) : zN Try.prog 55 [iV n] σ Q :=
 zJ [.g, .g, .c (.bool b1) σ, .g] (kc (by kernel_rfl) (ai h1 nx))
end Go.Proofs.Ytmdopblmkkameaa
