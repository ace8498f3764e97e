
import Derived.Test.YtmdopblmkkameaaAwP2
namespace Go.Proofs.Ytmdopblmkkameaa.Aw
open Go Go.Lay
open Try renaming prog → Pg
set_option maxRecDepth 100000
theorem e14_ok : zZ Pg e14 := zX zW tbl3_ok 100000 (by kernel_rfl)
theorem e17_ok : zZ Pg e17 := vN zW tbl3_ok 100000 (by kernel_rfl)
theorem e18_ok : zZ Pg e18 := vN zW tbl3_ok 100000 (by kernel_rfl)
theorem e19_ok : zZ Pg e19 := vN zW tbl3_ok 100000 (by kernel_rfl)
theorem e22_ok : zZ Pg e22 := zX zW tbl3_ok 100000 (by kernel_rfl)
theorem e23_ok : zZ Pg e23 := vN zW tbl3_ok 100000 (by kernel_rfl)
theorem e39_ok : zZ Pg e39 := zX zW tbl3_ok 100000 (by kernel_rfl)
theorem e40_ok : zZ Pg e40 := vN zW tbl3_ok 100000 (by kernel_rfl)
theorem e71_ok : zZ Pg e71 := zX zW tbl3_ok 100000 (by kernel_rfl)
theorem tbl2_ok : TblSnd Pg tbl2 := zS e4_ok (zS e5_ok (zS e14_ok (zS e17_ok (zS e18_ok (zS e19_ok (zS e22_ok (zS e23_ok (zS e39_ok (zS e40_ok (zS e71_ok (xX)))))))))))
theorem e1_ok : zZ Pg e1 := zX zW tbl2_ok 100000 (by kernel_rfl)
end Go.Proofs.Ytmdopblmkkameaa.Aw
