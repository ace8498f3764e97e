/- A closed law: tables of calls, by program. -/
import Derived.Test.YtmdopblmkkameaaNmL4T
namespace Go.Proofs.Ytmdopblmkkameaa.Nm
open Go Go.Lay
set_option maxRecDepth 100000
theorem e9_ok : EntSnd Try.prog e9 := ent_pure prog_ok tbl4_ok 100000 (by kernel_rfl)
theorem e10_ok : EntSnd Try.prog e10 := ent_full prog_ok tbl4_ok 100000 (by kernel_rfl)
theorem e15_ok : EntSnd Try.prog e15 := ent_full prog_ok tbl4_ok 100000 (by kernel_rfl)
theorem e18_ok : EntSnd Try.prog e18 := ent_full prog_ok tbl4_ok 100000 (by kernel_rfl)
theorem e21_ok : EntSnd Try.prog e21 := ent_full prog_ok tbl4_ok 100000 (by kernel_rfl)
theorem e28_ok : EntSnd Try.prog e28 := ent_pure prog_ok tbl4_ok 100000 (by kernel_rfl)
theorem e29_ok : EntSnd Try.prog e29 := ent_full prog_ok tbl4_ok 100000 (by kernel_rfl)
theorem e34_ok : EntSnd Try.prog e34 := ent_full prog_ok tbl4_ok 100000 (by kernel_rfl)
theorem e37_ok : EntSnd Try.prog e37 := ent_full prog_ok tbl4_ok 100000 (by kernel_rfl)
theorem e40_ok : EntSnd Try.prog e40 := ent_full prog_ok tbl4_ok 100000 (by kernel_rfl)
theorem e43_ok : EntSnd Try.prog e43 := ent_full prog_ok tbl4_ok 100000 (by kernel_rfl)
theorem e46_ok : EntSnd Try.prog e46 := ent_full prog_ok tbl4_ok 100000 (by kernel_rfl)
theorem e53_ok : EntSnd Try.prog e53 := ent_pure prog_ok tbl4_ok 100000 (by kernel_rfl)
theorem e54_ok : EntSnd Try.prog e54 := ent_full prog_ok tbl4_ok 100000 (by kernel_rfl)
theorem e86_ok : EntSnd Try.prog e86 := ent_full prog_ok tbl4_ok 100000 (by kernel_rfl)
theorem e87_ok : EntSnd Try.prog e87 := ent_full prog_ok tbl4_ok 100000 (by kernel_rfl)
theorem e88_ok : EntSnd Try.prog e88 := ent_full prog_ok tbl4_ok 100000 (by kernel_rfl)
theorem e104_ok : EntSnd Try.prog e104 := ent_pure prog_ok tbl4_ok 100000 (by kernel_rfl)
theorem e105_ok : EntSnd Try.prog e105 := ent_pure prog_ok tbl4_ok 100000 (by kernel_rfl)
theorem e114_ok : EntSnd Try.prog e114 := ent_full prog_ok tbl4_ok 100000 (by kernel_rfl)
theorem e117_ok : EntSnd Try.prog e117 := ent_pure prog_ok tbl4_ok 100000 (by kernel_rfl)
theorem e118_ok : EntSnd Try.prog e118 := ent_pure prog_ok tbl4_ok 100000 (by kernel_rfl)
theorem e119_ok : EntSnd Try.prog e119 := ent_pure prog_ok tbl4_ok 100000 (by kernel_rfl)
theorem e122_ok : EntSnd Try.prog e122 := ent_full prog_ok tbl4_ok 100000 (by kernel_rfl)
theorem e123_ok : EntSnd Try.prog e123 := ent_pure prog_ok tbl4_ok 100000 (by kernel_rfl)
theorem e139_ok : EntSnd Try.prog e139 := ent_full prog_ok tbl4_ok 100000 (by kernel_rfl)
theorem e140_ok : EntSnd Try.prog e140 := ent_pure prog_ok tbl4_ok 100000 (by kernel_rfl)
theorem e171_ok : EntSnd Try.prog e171 := ent_full prog_ok tbl4_ok 100000 (by kernel_rfl)
end Go.Proofs.Ytmdopblmkkameaa.Nm
