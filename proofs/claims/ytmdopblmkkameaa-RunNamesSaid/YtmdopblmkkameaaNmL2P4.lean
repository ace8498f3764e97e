/- A closed law: tables of calls, by program. -/
import Derived.Test.YtmdopblmkkameaaNmL3T
namespace Go.Proofs.Ytmdopblmkkameaa.Nm
open Go Go.Lay
set_option maxRecDepth 100000
theorem e173_ok : EntSnd Try.prog e173 := ent_pure prog_ok tbl3_ok 100000 (by kernel_rfl)
theorem e174_ok : EntSnd Try.prog e174 := ent_pure prog_ok tbl3_ok 100000 (by kernel_rfl)
theorem e175_ok : EntSnd Try.prog e175 := ent_full prog_ok tbl3_ok 100000 (by kernel_rfl)
theorem e176_ok : EntSnd Try.prog e176 := ent_pure prog_ok tbl3_ok 100000 (by kernel_rfl)
theorem e177_ok : EntSnd Try.prog e177 := ent_pure prog_ok tbl3_ok 100000 (by kernel_rfl)
end Go.Proofs.Ytmdopblmkkameaa.Nm
