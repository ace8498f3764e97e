/- A closed law: tables of calls, by program. -/
import Derived.Test.YtmdopblmkkameaaNmL2T
namespace Go.Proofs.Ytmdopblmkkameaa.Nm
open Go Go.Lay
set_option maxRecDepth 100000
theorem e81_ok : EntSnd Try.prog e81 := ent_full prog_ok tbl2_ok 100000 (by kernel_rfl)
theorem e82_ok : EntSnd Try.prog e82 := ent_full prog_ok tbl2_ok 100000 (by kernel_rfl)
theorem e83_ok : EntSnd Try.prog e83 := ent_full prog_ok tbl2_ok 100000 (by kernel_rfl)
end Go.Proofs.Ytmdopblmkkameaa.Nm
