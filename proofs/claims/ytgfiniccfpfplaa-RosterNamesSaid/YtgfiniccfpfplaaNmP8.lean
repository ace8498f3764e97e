/- A closed law: tables of calls, by program. -/
import Derived.Test.YtgfiniccfpfplaaNmP7
namespace Go.Proofs.Ytgfiniccfpfplaa.Nm
open Go Go.Lay
set_option maxRecDepth 100000
theorem e268_ok : EntSnd Try.prog e268 := ent_full prog_ok tbl9_ok 100000 (by kernel_rfl)
theorem e335_ok : EntSnd Try.prog e335 := ent_pure prog_ok tbl9_ok 100000 (by kernel_rfl)
theorem e395_ok : EntSnd Try.prog e395 := ent_full prog_ok tbl9_ok 100000 (by kernel_rfl)
theorem e396_ok : EntSnd Try.prog e396 := ent_pure prog_ok tbl9_ok 100000 (by kernel_rfl)
theorem e397_ok : EntSnd Try.prog e397 := ent_pure prog_ok tbl9_ok 100000 (by kernel_rfl)
theorem e398_ok : EntSnd Try.prog e398 := ent_full prog_ok tbl9_ok 100000 (by kernel_rfl)
theorem tbl8_ok : TblSnd Try.prog tbl8 := tbl_cons e11_ok (tbl_cons e102_ok (tbl_cons e110_ok (tbl_cons e172_ok (tbl_cons e183_ok (tbl_cons e268_ok (tbl_cons e335_ok (tbl_cons e395_ok (tbl_cons e396_ok (tbl_cons e397_ok (tbl_cons e398_ok (tbl_nil)))))))))))
theorem e10_ok : EntSnd Try.prog e10 := ent_pure prog_ok tbl8_ok 100000 (by kernel_rfl)
end Go.Proofs.Ytgfiniccfpfplaa.Nm
