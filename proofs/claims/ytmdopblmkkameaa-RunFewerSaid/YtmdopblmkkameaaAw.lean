import Derived.Test.YtmdopblmkkameaaAwP2
import Derived.Test.YtmdopblmkkameaaLayC

namespace Go.Proofs.Ytmdopblmkkameaa.Aw
open Go Go.Lay
open Try renaming prog → Pg
set_option maxRecDepth 100000
theorem e14_ok : EntSnd Pg e14 := ent_full prog_ok tbl3_ok 100000 (by kernel_rfl)
theorem e17_ok : EntSnd Pg e17 := ent_pure prog_ok tbl3_ok 100000 (by kernel_rfl)
theorem e18_ok : EntSnd Pg e18 := ent_pure prog_ok tbl3_ok 100000 (by kernel_rfl)
theorem e19_ok : EntSnd Pg e19 := ent_pure prog_ok tbl3_ok 100000 (by kernel_rfl)
theorem e22_ok : EntSnd Pg e22 := ent_full prog_ok tbl3_ok 100000 (by kernel_rfl)
theorem e23_ok : EntSnd Pg e23 := ent_pure prog_ok tbl3_ok 100000 (by kernel_rfl)
theorem e39_ok : EntSnd Pg e39 := ent_full prog_ok tbl3_ok 100000 (by kernel_rfl)
theorem e40_ok : EntSnd Pg e40 := ent_pure prog_ok tbl3_ok 100000 (by kernel_rfl)
theorem e71_ok : EntSnd Pg e71 := ent_full prog_ok tbl3_ok 100000 (by kernel_rfl)
theorem tbl2_ok : TblSnd Pg tbl2 := tbl_cons e4_ok (tbl_cons e5_ok (tbl_cons e14_ok (tbl_cons e17_ok (tbl_cons e18_ok (tbl_cons e19_ok (tbl_cons e22_ok (tbl_cons e23_ok (tbl_cons e39_ok (tbl_cons e40_ok (tbl_cons e71_ok (tbl_nil)))))))))))
theorem e1_ok : EntSnd Pg e1 := ent_full prog_ok tbl2_ok 100000 (by kernel_rfl)
end Go.Proofs.Ytmdopblmkkameaa.Aw

namespace Go.Proofs.Ytmdopblmkkameaa.Aw
open Go Go.Lay
set_option maxRecDepth 100000
theorem e2_ok : EntSnd Try.prog e2 := ent_full prog_ok tbl2_ok 100000 (by kernel_rfl)
theorem e3_ok : EntSnd Try.prog e3 := ent_full prog_ok tbl2_ok 100000 (by kernel_rfl)
theorem e15_ok : EntSnd Try.prog e15 := ent_full prog_ok tbl2_ok 100000 (by kernel_rfl)
theorem e16_ok : EntSnd Try.prog e16 := ent_full prog_ok tbl2_ok 100000 (by kernel_rfl)
end Go.Proofs.Ytmdopblmkkameaa.Aw

namespace Go.Proofs.Ytmdopblmkkameaa.Aw
open Go Go.Lay
set_option maxRecDepth 100000
theorem e72_ok : EntSnd Try.prog e72 := ent_full prog_ok tbl2_ok 100000 (by kernel_rfl)
theorem e73_ok : EntSnd Try.prog e73 := ent_pure prog_ok tbl2_ok 100000 (by kernel_rfl)
theorem e74_ok : EntSnd Try.prog e74 := ent_pure prog_ok tbl2_ok 100000 (by kernel_rfl)
theorem e75_ok : EntSnd Try.prog e75 := ent_full prog_ok tbl2_ok 100000 (by kernel_rfl)
theorem e76_ok : EntSnd Try.prog e76 := ent_pure prog_ok tbl2_ok 100000 (by kernel_rfl)
theorem e77_ok : EntSnd Try.prog e77 := ent_pure prog_ok tbl2_ok 100000 (by kernel_rfl)
theorem tbl1_ok : TblSnd Try.prog tbl1 := tbl_cons e1_ok (tbl_cons e2_ok (tbl_cons e3_ok (tbl_cons e15_ok (tbl_cons e16_ok (tbl_cons e72_ok (tbl_cons e73_ok (tbl_cons e74_ok (tbl_cons e75_ok (tbl_cons e76_ok (tbl_cons e77_ok (tbl_nil)))))))))))
theorem shut : ShutF Try.prog 17 := closed_of prog_ok tbl1_ok (N := 100000) (by kernel_rfl)
end Go.Proofs.Ytmdopblmkkameaa.Aw
