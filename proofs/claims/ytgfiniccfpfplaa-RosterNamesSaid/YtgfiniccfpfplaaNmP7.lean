/- A closed law: tables of calls, by program. -/
import Derived.Test.YtgfiniccfpfplaaNmP6
namespace Go.Proofs.Ytgfiniccfpfplaa.Nm
open Go Go.Lay
set_option maxRecDepth 100000
theorem e394_ok : EntSnd Try.prog e394 := ent_full prog_ok tbl10_ok 100000 (by kernel_rfl)
theorem tbl9_ok : TblSnd Try.prog tbl9 := tbl_cons e40_ok (tbl_cons e41_ok (tbl_cons e71_ok (tbl_cons e72_ok (tbl_cons e101_ok (tbl_cons e139_ok (tbl_cons e140_ok (tbl_cons e141_ok (tbl_cons e171_ok (tbl_cons e212_ok (tbl_cons e213_ok (tbl_cons e237_ok (tbl_cons e238_ok (tbl_cons e267_ok (tbl_cons e336_ok (tbl_cons e394_ok (tbl_nil))))))))))))))))
theorem e11_ok : EntSnd Try.prog e11 := ent_full prog_ok tbl9_ok 100000 (by kernel_rfl)
theorem e102_ok : EntSnd Try.prog e102 := ent_full prog_ok tbl9_ok 100000 (by kernel_rfl)
theorem e110_ok : EntSnd Try.prog e110 := ent_full prog_ok tbl9_ok 100000 (by kernel_rfl)
theorem e172_ok : EntSnd Try.prog e172 := ent_full prog_ok tbl9_ok 100000 (by kernel_rfl)
theorem e183_ok : EntSnd Try.prog e183 := ent_full prog_ok tbl9_ok 100000 (by kernel_rfl)
end Go.Proofs.Ytgfiniccfpfplaa.Nm
