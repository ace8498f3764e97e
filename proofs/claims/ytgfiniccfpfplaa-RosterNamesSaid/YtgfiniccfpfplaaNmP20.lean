/- A closed law: tables of calls, by program. -/
import Derived.Test.YtgfiniccfpfplaaNmP19
namespace Go.Proofs.Ytgfiniccfpfplaa.Nm
open Go Go.Lay
set_option maxRecDepth 100000
theorem e301_ok : EntSnd Try.prog e301 := ent_pure prog_ok tbl3_ok 100000 (by kernel_rfl)
theorem e314_ok : EntSnd Try.prog e314 := ent_full prog_ok tbl3_ok 100000 (by kernel_rfl)
theorem e324_ok : EntSnd Try.prog e324 := ent_full prog_ok tbl3_ok 100000 (by kernel_rfl)
theorem e325_ok : EntSnd Try.prog e325 := ent_full prog_ok tbl3_ok 100000 (by kernel_rfl)
theorem e326_ok : EntSnd Try.prog e326 := ent_full prog_ok tbl3_ok 100000 (by kernel_rfl)
theorem e327_ok : EntSnd Try.prog e327 := ent_full prog_ok tbl3_ok 100000 (by kernel_rfl)
theorem e410_ok : EntSnd Try.prog e410 := ent_full prog_ok tbl3_ok 100000 (by kernel_rfl)
theorem e411_ok : EntSnd Try.prog e411 := ent_full prog_ok tbl3_ok 100000 (by kernel_rfl)
theorem e412_ok : EntSnd Try.prog e412 := ent_full prog_ok tbl3_ok 100000 (by kernel_rfl)
theorem e413_ok : EntSnd Try.prog e413 := ent_pure prog_ok tbl3_ok 100000 (by kernel_rfl)
theorem e414_ok : EntSnd Try.prog e414 := ent_pure prog_ok tbl3_ok 100000 (by kernel_rfl)
theorem tbl2_ok : TblSnd Try.prog tbl2 := tbl_cons e7_ok (tbl_cons e283_ok (tbl_cons e301_ok (tbl_cons e314_ok (tbl_cons e324_ok (tbl_cons e325_ok (tbl_cons e326_ok (tbl_cons e327_ok (tbl_cons e410_ok (tbl_cons e411_ok (tbl_cons e412_ok (tbl_cons e413_ok (tbl_cons e414_ok (tbl_nil)))))))))))))
theorem e1_ok : EntSnd Try.prog e1 := ent_full prog_ok tbl2_ok 100000 (by kernel_rfl)
theorem e2_ok : EntSnd Try.prog e2 := ent_full prog_ok tbl2_ok 100000 (by kernel_rfl)
end Go.Proofs.Ytgfiniccfpfplaa.Nm
