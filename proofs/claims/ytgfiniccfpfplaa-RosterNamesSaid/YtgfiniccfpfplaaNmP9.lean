/- A closed law: tables of calls, by program. -/
import Derived.Test.YtgfiniccfpfplaaNmP8
namespace Go.Proofs.Ytgfiniccfpfplaa.Nm
open Go Go.Lay
set_option maxRecDepth 100000
theorem e103_ok : EntSnd Try.prog e103 := ent_full prog_ok tbl8_ok 100000 (by kernel_rfl)
theorem e104_ok : EntSnd Try.prog e104 := ent_pure prog_ok tbl8_ok 100000 (by kernel_rfl)
theorem e105_ok : EntSnd Try.prog e105 := ent_pure prog_ok tbl8_ok 100000 (by kernel_rfl)
theorem e106_ok : EntSnd Try.prog e106 := ent_full prog_ok tbl8_ok 100000 (by kernel_rfl)
theorem e109_ok : EntSnd Try.prog e109 := ent_pure prog_ok tbl8_ok 100000 (by kernel_rfl)
theorem e173_ok : EntSnd Try.prog e173 := ent_full prog_ok tbl8_ok 100000 (by kernel_rfl)
theorem e174_ok : EntSnd Try.prog e174 := ent_pure prog_ok tbl8_ok 100000 (by kernel_rfl)
theorem e175_ok : EntSnd Try.prog e175 := ent_pure prog_ok tbl8_ok 100000 (by kernel_rfl)
theorem e176_ok : EntSnd Try.prog e176 := ent_pure prog_ok tbl8_ok 100000 (by kernel_rfl)
theorem e177_ok : EntSnd Try.prog e177 := ent_full prog_ok tbl8_ok 100000 (by kernel_rfl)
theorem e182_ok : EntSnd Try.prog e182 := ent_pure prog_ok tbl8_ok 100000 (by kernel_rfl)
end Go.Proofs.Ytgfiniccfpfplaa.Nm
