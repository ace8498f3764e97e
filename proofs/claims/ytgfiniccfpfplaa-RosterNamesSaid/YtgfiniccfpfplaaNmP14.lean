/- A closed law: tables of calls, by program. -/
import Derived.Test.YtgfiniccfpfplaaNmP13
namespace Go.Proofs.Ytgfiniccfpfplaa.Nm
open Go Go.Lay
set_option maxRecDepth 100000
theorem e276_ok : EntSnd Try.prog e276 := ent_full prog_ok tbl6_ok 100000 (by kernel_rfl)
theorem e277_ok : EntSnd Try.prog e277 := ent_pure prog_ok tbl6_ok 100000 (by kernel_rfl)
theorem e304_ok : EntSnd Try.prog e304 := ent_pure prog_ok tbl6_ok 100000 (by kernel_rfl)
theorem e307_ok : EntSnd Try.prog e307 := ent_pure prog_ok tbl6_ok 100000 (by kernel_rfl)
theorem e308_ok : EntSnd Try.prog e308 := ent_pure prog_ok tbl6_ok 100000 (by kernel_rfl)
theorem e330_ok : EntSnd Try.prog e330 := ent_full prog_ok tbl6_ok 100000 (by kernel_rfl)
theorem e403_ok : EntSnd Try.prog e403 := ent_full prog_ok tbl6_ok 100000 (by kernel_rfl)
theorem tbl5_ok : TblSnd Try.prog tbl5 := tbl_cons e180_ok (tbl_cons e181_ok (tbl_cons e276_ok (tbl_cons e277_ok (tbl_cons e304_ok (tbl_cons e307_ok (tbl_cons e308_ok (tbl_cons e330_ok (tbl_cons e403_ok (tbl_nil)))))))))
theorem e9_ok : EntSnd Try.prog e9 := ent_full prog_ok tbl5_ok 100000 (by kernel_rfl)
end Go.Proofs.Ytgfiniccfpfplaa.Nm
