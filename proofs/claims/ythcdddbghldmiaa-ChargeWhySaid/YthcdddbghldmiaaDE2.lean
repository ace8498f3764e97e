
import Derived.Test.YthcdddbghldmiaaDE
namespace Go.Proofs.Ythcdddbghldmiaa
open Go Go.Lay
set_option linter.unusedVariables false
set_option linter.unusedSimpArgs false
set_option maxRecDepth 20000
set_option maxHeartbeats 1000000
theorem elOk_busE (b : Bus) : elOk Try.prog 52 9 (busV b) := .inr ⟨agg52, size52, _, rfl, rfl⟩
section
variable {z : St} {g : Gar} {ps pb : Option Addr} {bs bb : Nat} {aS ab : Addr} {xs : Slot} {xb : Bus} {n : Int} {B1 B2 : Nat}
end
end Go.Proofs.Ythcdddbghldmiaa
