/- A closed law: tables of calls, by program. -/
import Derived.Test.YtgfiniccfpfplaaNmP9
namespace Go.Proofs.Ytgfiniccfpfplaa.Nm
open Go Go.Lay
set_option maxRecDepth 100000
theorem e269_ok : EntSnd Try.prog e269 := ent_full prog_ok tbl8_ok 100000 (by kernel_rfl)
theorem e270_ok : EntSnd Try.prog e270 := ent_pure prog_ok tbl8_ok 100000 (by kernel_rfl)
theorem e271_ok : EntSnd Try.prog e271 := ent_pure prog_ok tbl8_ok 100000 (by kernel_rfl)
theorem e272_ok : EntSnd Try.prog e272 := ent_pure prog_ok tbl8_ok 100000 (by kernel_rfl)
theorem e332_ok : EntSnd Try.prog e332 := ent_pure prog_ok tbl8_ok 100000 (by kernel_rfl)
theorem e333_ok : EntSnd Try.prog e333 := ent_pure prog_ok tbl8_ok 100000 (by kernel_rfl)
theorem e334_ok : EntSnd Try.prog e334 := ent_pure prog_ok tbl8_ok 100000 (by kernel_rfl)
theorem e399_ok : EntSnd Try.prog e399 := ent_full prog_ok tbl8_ok 100000 (by kernel_rfl)
theorem tbl7_ok : TblSnd Try.prog tbl7 := tbl_cons e10_ok (tbl_cons e103_ok (tbl_cons e104_ok (tbl_cons e105_ok (tbl_cons e106_ok (tbl_cons e109_ok (tbl_cons e173_ok (tbl_cons e174_ok (tbl_cons e175_ok (tbl_cons e176_ok (tbl_cons e177_ok (tbl_cons e182_ok (tbl_cons e269_ok (tbl_cons e270_ok (tbl_cons e271_ok (tbl_cons e272_ok (tbl_cons e332_ok (tbl_cons e333_ok (tbl_cons e334_ok (tbl_cons e399_ok (tbl_nil))))))))))))))))))))
end Go.Proofs.Ytgfiniccfpfplaa.Nm
