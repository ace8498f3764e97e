/- A closed law: tables of calls, by program. -/
import Derived.Test.YtgfiniccfpfplaaNmP17
namespace Go.Proofs.Ytgfiniccfpfplaa.Nm
open Go Go.Lay
set_option maxRecDepth 100000
theorem e280_ok : EntSnd Try.prog e280 := ent_full prog_ok tbl4_ok 100000 (by kernel_rfl)
theorem e281_ok : EntSnd Try.prog e281 := ent_full prog_ok tbl4_ok 100000 (by kernel_rfl)
theorem e282_ok : EntSnd Try.prog e282 := ent_full prog_ok tbl4_ok 100000 (by kernel_rfl)
theorem e302_ok : EntSnd Try.prog e302 := ent_pure prog_ok tbl4_ok 100000 (by kernel_rfl)
theorem e310_ok : EntSnd Try.prog e310 := ent_full prog_ok tbl4_ok 100000 (by kernel_rfl)
theorem e311_ok : EntSnd Try.prog e311 := ent_full prog_ok tbl4_ok 100000 (by kernel_rfl)
theorem e312_ok : EntSnd Try.prog e312 := ent_full prog_ok tbl4_ok 100000 (by kernel_rfl)
theorem e313_ok : EntSnd Try.prog e313 := ent_full prog_ok tbl4_ok 100000 (by kernel_rfl)
theorem e328_ok : EntSnd Try.prog e328 := ent_pure prog_ok tbl4_ok 100000 (by kernel_rfl)
theorem e408_ok : EntSnd Try.prog e408 := ent_full prog_ok tbl4_ok 100000 (by kernel_rfl)
theorem e409_ok : EntSnd Try.prog e409 := ent_full prog_ok tbl4_ok 100000 (by kernel_rfl)
theorem tbl3_ok : TblSnd Try.prog tbl3 := tbl_cons e8_ok (tbl_cons e279_ok (tbl_cons e280_ok (tbl_cons e281_ok (tbl_cons e282_ok (tbl_cons e302_ok (tbl_cons e310_ok (tbl_cons e311_ok (tbl_cons e312_ok (tbl_cons e313_ok (tbl_cons e328_ok (tbl_cons e408_ok (tbl_cons e409_ok (tbl_nil)))))))))))))
theorem e7_ok : EntSnd Try.prog e7 := ent_pure prog_ok tbl3_ok 100000 (by kernel_rfl)
end Go.Proofs.Ytgfiniccfpfplaa.Nm
