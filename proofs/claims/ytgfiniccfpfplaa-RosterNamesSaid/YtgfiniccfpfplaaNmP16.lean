/- A closed law: tables of calls, by program. -/
import Derived.Test.YtgfiniccfpfplaaNmP15
namespace Go.Proofs.Ytgfiniccfpfplaa.Nm
open Go Go.Lay
set_option maxRecDepth 100000
theorem e303_ok : EntSnd Try.prog e303 := ent_full prog_ok tbl5_ok 100000 (by kernel_rfl)
theorem e309_ok : EntSnd Try.prog e309 := ent_pure prog_ok tbl5_ok 100000 (by kernel_rfl)
theorem e329_ok : EntSnd Try.prog e329 := ent_pure prog_ok tbl5_ok 100000 (by kernel_rfl)
theorem e404_ok : EntSnd Try.prog e404 := ent_full prog_ok tbl5_ok 100000 (by kernel_rfl)
theorem e405_ok : EntSnd Try.prog e405 := ent_full prog_ok tbl5_ok 100000 (by kernel_rfl)
theorem e406_ok : EntSnd Try.prog e406 := ent_full prog_ok tbl5_ok 100000 (by kernel_rfl)
theorem e407_ok : EntSnd Try.prog e407 := ent_full prog_ok tbl5_ok 100000 (by kernel_rfl)
theorem tbl4_ok : TblSnd Try.prog tbl4 := tbl_cons e9_ok (tbl_cons e278_ok (tbl_cons e303_ok (tbl_cons e309_ok (tbl_cons e329_ok (tbl_cons e404_ok (tbl_cons e405_ok (tbl_cons e406_ok (tbl_cons e407_ok (tbl_nil)))))))))
theorem e8_ok : EntSnd Try.prog e8 := ent_pure prog_ok tbl4_ok 100000 (by kernel_rfl)
end Go.Proofs.Ytgfiniccfpfplaa.Nm
