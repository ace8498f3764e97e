/- A closed law: tables of calls, by program. -/
import Derived.Test.YtmdopblmkkameaaNmL2T
namespace Go.Proofs.Ytmdopblmkkameaa.Nm
open Go Go.Lay
set_option maxRecDepth 100000
theorem e57_ok : EntSnd Try.prog e57 := ent_full prog_ok tbl2_ok 100000 (by kernel_rfl)
theorem e58_ok : EntSnd Try.prog e58 := ent_pure prog_ok tbl2_ok 100000 (by kernel_rfl)
theorem e59_ok : EntSnd Try.prog e59 := ent_full prog_ok tbl2_ok 100000 (by kernel_rfl)
theorem e60_ok : EntSnd Try.prog e60 := ent_pure prog_ok tbl2_ok 100000 (by kernel_rfl)
theorem e61_ok : EntSnd Try.prog e61 := ent_full prog_ok tbl2_ok 100000 (by kernel_rfl)
theorem e62_ok : EntSnd Try.prog e62 := ent_pure prog_ok tbl2_ok 100000 (by kernel_rfl)
theorem e63_ok : EntSnd Try.prog e63 := ent_full prog_ok tbl2_ok 100000 (by kernel_rfl)
theorem e64_ok : EntSnd Try.prog e64 := ent_pure prog_ok tbl2_ok 100000 (by kernel_rfl)
theorem e65_ok : EntSnd Try.prog e65 := ent_pure prog_ok tbl2_ok 100000 (by kernel_rfl)
theorem e66_ok : EntSnd Try.prog e66 := ent_pure prog_ok tbl2_ok 100000 (by kernel_rfl)
theorem e67_ok : EntSnd Try.prog e67 := ent_pure prog_ok tbl2_ok 100000 (by kernel_rfl)
theorem e68_ok : EntSnd Try.prog e68 := ent_full prog_ok tbl2_ok 100000 (by kernel_rfl)
theorem e69_ok : EntSnd Try.prog e69 := ent_pure prog_ok tbl2_ok 100000 (by kernel_rfl)
theorem e70_ok : EntSnd Try.prog e70 := ent_full prog_ok tbl2_ok 100000 (by kernel_rfl)
theorem e71_ok : EntSnd Try.prog e71 := ent_pure prog_ok tbl2_ok 100000 (by kernel_rfl)
theorem e72_ok : EntSnd Try.prog e72 := ent_full prog_ok tbl2_ok 100000 (by kernel_rfl)
theorem e73_ok : EntSnd Try.prog e73 := ent_pure prog_ok tbl2_ok 100000 (by kernel_rfl)
theorem e74_ok : EntSnd Try.prog e74 := ent_full prog_ok tbl2_ok 100000 (by kernel_rfl)
end Go.Proofs.Ytmdopblmkkameaa.Nm
