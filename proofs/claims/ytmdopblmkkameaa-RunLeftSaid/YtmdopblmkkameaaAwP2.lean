
import Derived.Test.YtmdopblmkkameaaAwP1
namespace Go.Proofs.Ytmdopblmkkameaa.Aw
open Go Go.Lay
open Try renaming prog → Pg
set_option maxRecDepth 100000
theorem e6_ok : zZ Pg e6 := zX zW vN 100000 (by kernel_rfl)
theorem e7_ok : zZ Pg e7 := zX zW vN 100000 (by kernel_rfl)
theorem e8_ok : zZ Pg e8 := zX zW vN 100000 (by kernel_rfl)
theorem e9_ok : zZ Pg e9 := zX zW vN 100000 (by kernel_rfl)
theorem e10_ok : zZ Pg e10 := zX zW vN 100000 (by kernel_rfl)
theorem e11_ok : zZ Pg e11 := vL zW vN 100000 (by kernel_rfl)
theorem e12_ok : zZ Pg e12 := vL zW vN 100000 (by kernel_rfl)
theorem e13_ok : zZ Pg e13 := vL zW vN 100000 (by kernel_rfl)
theorem e20_ok : zZ Pg e20 := vL zW vN 100000 (by kernel_rfl)
theorem e21_ok : zZ Pg e21 := zX zW vN 100000 (by kernel_rfl)
theorem e26_ok : zZ Pg e26 := zX zW vN 100000 (by kernel_rfl)
theorem e29_ok : zZ Pg e29 := zX zW vN 100000 (by kernel_rfl)
theorem e32_ok : zZ Pg e32 := zX zW vN 100000 (by kernel_rfl)
theorem e35_ok : zZ Pg e35 := zX zW vN 100000 (by kernel_rfl)
theorem e38_ok : zZ Pg e38 := zX zW vN 100000 (by kernel_rfl)
theorem e53_ok : zZ Pg e53 := zX zW vN 100000 (by kernel_rfl)
theorem e63_ok : zZ Pg e63 := zX zW vN 100000 (by kernel_rfl)
theorem e70_ok : zZ Pg e70 := zX zW vN 100000 (by kernel_rfl)
theorem zCD : zDP Pg tbl3 := zQ e6_ok (zQ e7_ok (zQ e8_ok (zQ e9_ok (zQ e10_ok (zQ e11_ok (zQ e12_ok (zQ e13_ok (zQ e20_ok (zQ e21_ok (zQ e26_ok (zQ e29_ok (zQ e32_ok (zQ e35_ok (zQ e38_ok (zQ e53_ok (zQ e63_ok (zQ e70_ok (wE))))))))))))))))))
theorem e4_ok : zZ Pg e4 := vL zW zCD 100000 (by kernel_rfl)
theorem e5_ok : zZ Pg e5 := vL zW zCD 100000 (by kernel_rfl)
end Go.Proofs.Ytmdopblmkkameaa.Aw
