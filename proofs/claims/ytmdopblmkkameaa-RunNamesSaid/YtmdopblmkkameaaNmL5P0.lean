/- A closed law: tables of calls, by program. -/
import Derived.Test.YtmdopblmkkameaaNmL6T
namespace Go.Proofs.Ytmdopblmkkameaa.Nm
open Go Go.Lay
set_option maxRecDepth 100000
theorem e124_ok : EntSnd Try.prog e124 := ent_full prog_ok tbl6_ok 100000 (by kernel_rfl)
theorem e125_ok : EntSnd Try.prog e125 := ent_full prog_ok tbl6_ok 100000 (by kernel_rfl)
theorem e127_ok : EntSnd Try.prog e127 := ent_full prog_ok tbl6_ok 100000 (by kernel_rfl)
theorem e128_ok : EntSnd Try.prog e128 := ent_full prog_ok tbl6_ok 100000 (by kernel_rfl)
theorem e130_ok : EntSnd Try.prog e130 := ent_full prog_ok tbl6_ok 100000 (by kernel_rfl)
theorem e131_ok : EntSnd Try.prog e131 := ent_full prog_ok tbl6_ok 100000 (by kernel_rfl)
theorem e133_ok : EntSnd Try.prog e133 := ent_full prog_ok tbl6_ok 100000 (by kernel_rfl)
theorem e134_ok : EntSnd Try.prog e134 := ent_full prog_ok tbl6_ok 100000 (by kernel_rfl)
theorem e136_ok : EntSnd Try.prog e136 := ent_full prog_ok tbl6_ok 100000 (by kernel_rfl)
theorem e137_ok : EntSnd Try.prog e137 := ent_full prog_ok tbl6_ok 100000 (by kernel_rfl)
theorem e143_ok : EntSnd Try.prog e143 := ent_full prog_ok tbl6_ok 100000 (by kernel_rfl)
theorem e146_ok : EntSnd Try.prog e146 := ent_full prog_ok tbl6_ok 100000 (by kernel_rfl)
theorem e149_ok : EntSnd Try.prog e149 := ent_full prog_ok tbl6_ok 100000 (by kernel_rfl)
theorem e152_ok : EntSnd Try.prog e152 := ent_full prog_ok tbl6_ok 100000 (by kernel_rfl)
theorem e156_ok : EntSnd Try.prog e156 := ent_full prog_ok tbl6_ok 100000 (by kernel_rfl)
theorem e159_ok : EntSnd Try.prog e159 := ent_full prog_ok tbl6_ok 100000 (by kernel_rfl)
theorem e162_ok : EntSnd Try.prog e162 := ent_full prog_ok tbl6_ok 100000 (by kernel_rfl)
theorem e166_ok : EntSnd Try.prog e166 := ent_full prog_ok tbl6_ok 100000 (by kernel_rfl)
theorem e169_ok : EntSnd Try.prog e169 := ent_full prog_ok tbl6_ok 100000 (by kernel_rfl)
end Go.Proofs.Ytmdopblmkkameaa.Nm
