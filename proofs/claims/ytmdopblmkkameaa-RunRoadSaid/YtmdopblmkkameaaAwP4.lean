
import Derived.Test.YtmdopblmkkameaaAwP3
namespace Go.Proofs.Ytmdopblmkkameaa.Aw
open Go Go.Lay
set_option maxRecDepth 100000
theorem e2_ok : EntSnd Try.prog e2 := ent_full prog_ok tbl2_ok 100000 (by kernel_rfl)
theorem e3_ok : EntSnd Try.prog e3 := ent_full prog_ok tbl2_ok 100000 (by kernel_rfl)
theorem e15_ok : EntSnd Try.prog e15 := ent_full prog_ok tbl2_ok 100000 (by kernel_rfl)
theorem e16_ok : EntSnd Try.prog e16 := ent_full prog_ok tbl2_ok 100000 (by kernel_rfl)
end Go.Proofs.Ytmdopblmkkameaa.Aw
