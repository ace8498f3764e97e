/- A closed law: tables of calls, by program. -/
import Derived.Test.YtgfiniccfpfplaaNmP22
namespace Go.Proofs.Ytgfiniccfpfplaa.Nm
open Go Go.Lay
set_option maxRecDepth 100000
theorem e285_ok : EntSnd Try.prog e285 := ent_pure prog_ok tbl2_ok 100000 (by kernel_rfl)
theorem e286_ok : EntSnd Try.prog e286 := ent_full prog_ok tbl2_ok 100000 (by kernel_rfl)
theorem e287_ok : EntSnd Try.prog e287 := ent_pure prog_ok tbl2_ok 100000 (by kernel_rfl)
theorem e288_ok : EntSnd Try.prog e288 := ent_full prog_ok tbl2_ok 100000 (by kernel_rfl)
theorem e289_ok : EntSnd Try.prog e289 := ent_pure prog_ok tbl2_ok 100000 (by kernel_rfl)
theorem e290_ok : EntSnd Try.prog e290 := ent_full prog_ok tbl2_ok 100000 (by kernel_rfl)
theorem e291_ok : EntSnd Try.prog e291 := ent_pure prog_ok tbl2_ok 100000 (by kernel_rfl)
theorem e292_ok : EntSnd Try.prog e292 := ent_full prog_ok tbl2_ok 100000 (by kernel_rfl)
theorem e293_ok : EntSnd Try.prog e293 := ent_pure prog_ok tbl2_ok 100000 (by kernel_rfl)
theorem e294_ok : EntSnd Try.prog e294 := ent_full prog_ok tbl2_ok 100000 (by kernel_rfl)
theorem e295_ok : EntSnd Try.prog e295 := ent_pure prog_ok tbl2_ok 100000 (by kernel_rfl)
theorem e296_ok : EntSnd Try.prog e296 := ent_full prog_ok tbl2_ok 100000 (by kernel_rfl)
theorem e297_ok : EntSnd Try.prog e297 := ent_full prog_ok tbl2_ok 100000 (by kernel_rfl)
theorem e298_ok : EntSnd Try.prog e298 := ent_pure prog_ok tbl2_ok 100000 (by kernel_rfl)
theorem e299_ok : EntSnd Try.prog e299 := ent_full prog_ok tbl2_ok 100000 (by kernel_rfl)
theorem e300_ok : EntSnd Try.prog e300 := ent_pure prog_ok tbl2_ok 100000 (by kernel_rfl)
theorem e315_ok : EntSnd Try.prog e315 := ent_pure prog_ok tbl2_ok 100000 (by kernel_rfl)
theorem e316_ok : EntSnd Try.prog e316 := ent_full prog_ok tbl2_ok 100000 (by kernel_rfl)
theorem e317_ok : EntSnd Try.prog e317 := ent_pure prog_ok tbl2_ok 100000 (by kernel_rfl)
theorem e318_ok : EntSnd Try.prog e318 := ent_full prog_ok tbl2_ok 100000 (by kernel_rfl)
theorem e319_ok : EntSnd Try.prog e319 := ent_full prog_ok tbl2_ok 100000 (by kernel_rfl)
theorem e320_ok : EntSnd Try.prog e320 := ent_pure prog_ok tbl2_ok 100000 (by kernel_rfl)
theorem e321_ok : EntSnd Try.prog e321 := ent_pure prog_ok tbl2_ok 100000 (by kernel_rfl)
theorem e322_ok : EntSnd Try.prog e322 := ent_pure prog_ok tbl2_ok 100000 (by kernel_rfl)
theorem e323_ok : EntSnd Try.prog e323 := ent_pure prog_ok tbl2_ok 100000 (by kernel_rfl)
end Go.Proofs.Ytgfiniccfpfplaa.Nm
