/- A closed law: tables of calls, by program. -/
import Derived.Test.YtmdopblmkkameaaNmL3T
namespace Go.Proofs.Ytmdopblmkkameaa.Nm
open Go Go.Lay
set_option maxRecDepth 100000
theorem e6_ok : EntSnd Try.prog e6 := ent_pure prog_ok tbl3_ok 100000 (by kernel_rfl)
theorem e7_ok : EntSnd Try.prog e7 := ent_pure prog_ok tbl3_ok 100000 (by kernel_rfl)
theorem e8_ok : EntSnd Try.prog e8 := ent_pure prog_ok tbl3_ok 100000 (by kernel_rfl)
theorem e11_ok : EntSnd Try.prog e11 := ent_full prog_ok tbl3_ok 100000 (by kernel_rfl)
theorem e12_ok : EntSnd Try.prog e12 := ent_pure prog_ok tbl3_ok 100000 (by kernel_rfl)
theorem e22_ok : EntSnd Try.prog e22 := ent_full prog_ok tbl3_ok 100000 (by kernel_rfl)
theorem e25_ok : EntSnd Try.prog e25 := ent_pure prog_ok tbl3_ok 100000 (by kernel_rfl)
theorem e26_ok : EntSnd Try.prog e26 := ent_pure prog_ok tbl3_ok 100000 (by kernel_rfl)
theorem e27_ok : EntSnd Try.prog e27 := ent_pure prog_ok tbl3_ok 100000 (by kernel_rfl)
theorem e30_ok : EntSnd Try.prog e30 := ent_full prog_ok tbl3_ok 100000 (by kernel_rfl)
theorem e31_ok : EntSnd Try.prog e31 := ent_pure prog_ok tbl3_ok 100000 (by kernel_rfl)
theorem e47_ok : EntSnd Try.prog e47 := ent_full prog_ok tbl3_ok 100000 (by kernel_rfl)
theorem e50_ok : EntSnd Try.prog e50 := ent_pure prog_ok tbl3_ok 100000 (by kernel_rfl)
theorem e51_ok : EntSnd Try.prog e51 := ent_pure prog_ok tbl3_ok 100000 (by kernel_rfl)
theorem e52_ok : EntSnd Try.prog e52 := ent_pure prog_ok tbl3_ok 100000 (by kernel_rfl)
theorem e55_ok : EntSnd Try.prog e55 := ent_full prog_ok tbl3_ok 100000 (by kernel_rfl)
theorem e75_ok : EntSnd Try.prog e75 := ent_pure prog_ok tbl3_ok 100000 (by kernel_rfl)
theorem e78_ok : EntSnd Try.prog e78 := ent_pure prog_ok tbl3_ok 100000 (by kernel_rfl)
theorem e79_ok : EntSnd Try.prog e79 := ent_pure prog_ok tbl3_ok 100000 (by kernel_rfl)
theorem e84_ok : EntSnd Try.prog e84 := ent_pure prog_ok tbl3_ok 100000 (by kernel_rfl)
theorem e85_ok : EntSnd Try.prog e85 := ent_pure prog_ok tbl3_ok 100000 (by kernel_rfl)
theorem e89_ok : EntSnd Try.prog e89 := ent_full prog_ok tbl3_ok 100000 (by kernel_rfl)
theorem e101_ok : EntSnd Try.prog e101 := ent_full prog_ok tbl3_ok 100000 (by kernel_rfl)
theorem e102_ok : EntSnd Try.prog e102 := ent_full prog_ok tbl3_ok 100000 (by kernel_rfl)
theorem e103_ok : EntSnd Try.prog e103 := ent_full prog_ok tbl3_ok 100000 (by kernel_rfl)
end Go.Proofs.Ytmdopblmkkameaa.Nm
