
import Derived.Test.YtmdopblmkkameaaAwP2
namespace Go.Proofs.Ytmdopblmkkameaa.Aw
open Go Go.Lay
open Try renaming prog → Pg
set_option maxRecDepth 100000
theorem e14_ok : EntSnd Pg e14 := ent_full prog_ok tbl3_ok 100000 (by kernel_rfl)
theorem e17_ok : EntSnd Pg e17 := ent_pure prog_ok tbl3_ok 100000 (by kernel_rfl)
theorem e18_ok : EntSnd Pg e18 := ent_pure prog_ok tbl3_ok 100000 (by kernel_rfl)
theorem e19_ok : EntSnd Pg e19 := ent_pure prog_ok tbl3_ok 100000 (by kernel_rfl)
theorem e22_ok : EntSnd Pg e22 := ent_full prog_ok tbl3_ok 100000 (by kernel_rfl)
theorem e23_ok : EntSnd Pg e23 := ent_pure prog_ok tbl3_ok 100000 (by kernel_rfl)
theorem e39_ok : EntSnd Pg e39 := ent_full prog_ok tbl3_ok 100000 (by kernel_rfl)
theorem e40_ok : EntSnd Pg e40 := ent_pure prog_ok tbl3_ok 100000 (by kernel_rfl)
theorem e71_ok : EntSnd Pg e71 := ent_full prog_ok tbl3_ok 100000 (by kernel_rfl)
theorem tbl2_ok : TblSnd Pg tbl2 := tbl_cons e4_ok (tbl_cons e5_ok (tbl_cons e14_ok (tbl_cons e17_ok (tbl_cons e18_ok (tbl_cons e19_ok (tbl_cons e22_ok (tbl_cons e23_ok (tbl_cons e39_ok (tbl_cons e40_ok (tbl_cons e71_ok (tbl_nil)))))))))))
theorem e1_ok : EntSnd Pg e1 := ent_full prog_ok tbl2_ok 100000 (by kernel_rfl)
end Go.Proofs.Ytmdopblmkkameaa.Aw
