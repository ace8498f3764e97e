/- A closed law: tables of calls, by program. -/
import Derived.Test.YtmdopblmkkameaaNmL3T
namespace Go.Proofs.Ytmdopblmkkameaa.Nm
open Go Go.Lay
set_option maxRecDepth 100000
theorem e116_ok : EntSnd Try.prog e116 := ent_full prog_ok tbl3_ok 100000 (by kernel_rfl)
end Go.Proofs.Ytmdopblmkkameaa.Nm
