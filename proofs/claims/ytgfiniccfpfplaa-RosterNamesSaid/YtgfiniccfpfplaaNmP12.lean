/- A closed law: tables of calls, by program. -/
import Derived.Test.YtgfiniccfpfplaaNmP11
namespace Go.Proofs.Ytgfiniccfpfplaa.Nm
open Go Go.Lay
set_option maxRecDepth 100000
theorem e273_ok : EntSnd Try.prog e273 := ent_full prog_ok tbl7_ok 100000 (by kernel_rfl)
theorem e274_ok : EntSnd Try.prog e274 := ent_pure prog_ok tbl7_ok 100000 (by kernel_rfl)
theorem e275_ok : EntSnd Try.prog e275 := ent_pure prog_ok tbl7_ok 100000 (by kernel_rfl)
theorem e305_ok : EntSnd Try.prog e305 := ent_pure prog_ok tbl7_ok 100000 (by kernel_rfl)
theorem e306_ok : EntSnd Try.prog e306 := ent_pure prog_ok tbl7_ok 100000 (by kernel_rfl)
theorem e331_ok : EntSnd Try.prog e331 := ent_pure prog_ok tbl7_ok 100000 (by kernel_rfl)
theorem e400_ok : EntSnd Try.prog e400 := ent_full prog_ok tbl7_ok 100000 (by kernel_rfl)
theorem e401_ok : EntSnd Try.prog e401 := ent_pure prog_ok tbl7_ok 100000 (by kernel_rfl)
theorem e402_ok : EntSnd Try.prog e402 := ent_pure prog_ok tbl7_ok 100000 (by kernel_rfl)
theorem tbl6_ok : TblSnd Try.prog tbl6 := tbl_cons e107_ok (tbl_cons e108_ok (tbl_cons e178_ok (tbl_cons e179_ok (tbl_cons e273_ok (tbl_cons e274_ok (tbl_cons e275_ok (tbl_cons e305_ok (tbl_cons e306_ok (tbl_cons e331_ok (tbl_cons e400_ok (tbl_cons e401_ok (tbl_cons e402_ok (tbl_nil)))))))))))))
end Go.Proofs.Ytgfiniccfpfplaa.Nm
