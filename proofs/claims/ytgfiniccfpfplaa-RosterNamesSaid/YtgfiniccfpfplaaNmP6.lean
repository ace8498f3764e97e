/- A closed law: tables of calls, by program. -/
import Derived.Test.YtgfiniccfpfplaaNmP5
namespace Go.Proofs.Ytgfiniccfpfplaa.Nm
open Go Go.Lay
set_option maxRecDepth 100000
theorem e71_ok : EntSnd Try.prog e71 := ent_full prog_ok tbl10_ok 100000 (by kernel_rfl)
theorem e72_ok : EntSnd Try.prog e72 := ent_pure prog_ok tbl10_ok 100000 (by kernel_rfl)
theorem e101_ok : EntSnd Try.prog e101 := ent_full prog_ok tbl10_ok 100000 (by kernel_rfl)
theorem e139_ok : EntSnd Try.prog e139 := ent_full prog_ok tbl10_ok 100000 (by kernel_rfl)
theorem e140_ok : EntSnd Try.prog e140 := ent_pure prog_ok tbl10_ok 100000 (by kernel_rfl)
theorem e141_ok : EntSnd Try.prog e141 := ent_pure prog_ok tbl10_ok 100000 (by kernel_rfl)
theorem e171_ok : EntSnd Try.prog e171 := ent_full prog_ok tbl10_ok 100000 (by kernel_rfl)
theorem e212_ok : EntSnd Try.prog e212 := ent_full prog_ok tbl10_ok 100000 (by kernel_rfl)
theorem e213_ok : EntSnd Try.prog e213 := ent_pure prog_ok tbl10_ok 100000 (by kernel_rfl)
theorem e237_ok : EntSnd Try.prog e237 := ent_full prog_ok tbl10_ok 100000 (by kernel_rfl)
theorem e238_ok : EntSnd Try.prog e238 := ent_pure prog_ok tbl10_ok 100000 (by kernel_rfl)
theorem e267_ok : EntSnd Try.prog e267 := ent_full prog_ok tbl10_ok 100000 (by kernel_rfl)
theorem e336_ok : EntSnd Try.prog e336 := ent_full prog_ok tbl10_ok 100000 (by kernel_rfl)
end Go.Proofs.Ytgfiniccfpfplaa.Nm
