/- A closed law: tables of calls, by program. -/
import Derived.Test.YtmdopblmkkameaaNmL2T
namespace Go.Proofs.Ytmdopblmkkameaa.Nm
open Go Go.Lay
set_option maxRecDepth 100000
theorem e91_ok : EntSnd Try.prog e91 := ent_pure prog_ok tbl2_ok 100000 (by kernel_rfl)
theorem e92_ok : EntSnd Try.prog e92 := ent_pure prog_ok tbl2_ok 100000 (by kernel_rfl)
theorem e93_ok : EntSnd Try.prog e93 := ent_pure prog_ok tbl2_ok 100000 (by kernel_rfl)
theorem e94_ok : EntSnd Try.prog e94 := ent_pure prog_ok tbl2_ok 100000 (by kernel_rfl)
theorem e95_ok : EntSnd Try.prog e95 := ent_pure prog_ok tbl2_ok 100000 (by kernel_rfl)
theorem e96_ok : EntSnd Try.prog e96 := ent_pure prog_ok tbl2_ok 100000 (by kernel_rfl)
theorem e97_ok : EntSnd Try.prog e97 := ent_full prog_ok tbl2_ok 100000 (by kernel_rfl)
theorem e98_ok : EntSnd Try.prog e98 := ent_pure prog_ok tbl2_ok 100000 (by kernel_rfl)
theorem e99_ok : EntSnd Try.prog e99 := ent_full prog_ok tbl2_ok 100000 (by kernel_rfl)
theorem e100_ok : EntSnd Try.prog e100 := ent_pure prog_ok tbl2_ok 100000 (by kernel_rfl)
end Go.Proofs.Ytmdopblmkkameaa.Nm
