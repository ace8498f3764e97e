
import Derived.Test.YtmdopblmkkameaaAwP1
namespace Go.Proofs.Ytmdopblmkkameaa.Aw
open Go Go.Lay
open Try renaming prog → Pg
set_option maxRecDepth 100000
theorem e6_ok : zZ Pg e6 := zX zW vP 100000 (by kernel_rfl)
theorem e7_ok : zZ Pg e7 := zX zW vP 100000 (by kernel_rfl)
theorem e8_ok : zZ Pg e8 := zX zW vP 100000 (by kernel_rfl)
theorem e9_ok : zZ Pg e9 := zX zW vP 100000 (by kernel_rfl)
theorem e10_ok : zZ Pg e10 := zX zW vP 100000 (by kernel_rfl)
theorem e11_ok : zZ Pg e11 := vN zW vP 100000 (by kernel_rfl)
theorem e12_ok : zZ Pg e12 := vN zW vP 100000 (by kernel_rfl)
theorem e13_ok : zZ Pg e13 := vN zW vP 100000 (by kernel_rfl)
theorem e20_ok : zZ Pg e20 := vN zW vP 100000 (by kernel_rfl)
theorem e21_ok : zZ Pg e21 := zX zW vP 100000 (by kernel_rfl)
theorem e26_ok : zZ Pg e26 := zX zW vP 100000 (by kernel_rfl)
theorem e29_ok : zZ Pg e29 := zX zW vP 100000 (by kernel_rfl)
theorem e32_ok : zZ Pg e32 := zX zW vP 100000 (by kernel_rfl)
theorem e35_ok : zZ Pg e35 := zX zW vP 100000 (by kernel_rfl)
theorem e38_ok : zZ Pg e38 := zX zW vP 100000 (by kernel_rfl)
theorem e53_ok : zZ Pg e53 := zX zW vP 100000 (by kernel_rfl)
theorem e63_ok : zZ Pg e63 := zX zW vP 100000 (by kernel_rfl)
theorem e70_ok : zZ Pg e70 := zX zW vP 100000 (by kernel_rfl)
theorem tbl3_ok : TblSnd Pg tbl3 := zS e6_ok (zS e7_ok (zS e8_ok (zS e9_ok (zS e10_ok (zS e11_ok (zS e12_ok (zS e13_ok (zS e20_ok (zS e21_ok (zS e26_ok (zS e29_ok (zS e32_ok (zS e35_ok (zS e38_ok (zS e53_ok (zS e63_ok (zS e70_ok (xX))))))))))))))))))
theorem e4_ok : zZ Pg e4 := vN zW tbl3_ok 100000 (by kernel_rfl)
theorem e5_ok : zZ Pg e5 := vN zW tbl3_ok 100000 (by kernel_rfl)
end Go.Proofs.Ytmdopblmkkameaa.Aw
