/- A closed law: tables of calls, by program. -/
import Derived.Test.YtmdopblmkkameaaNmL2T
namespace Go.Proofs.Ytmdopblmkkameaa.Nm
open Go Go.Lay
set_option maxRecDepth 100000
theorem e178_ok : EntSnd Try.prog e178 := ent_pure prog_ok tbl2_ok 100000 (by kernel_rfl)
end Go.Proofs.Ytmdopblmkkameaa.Nm
