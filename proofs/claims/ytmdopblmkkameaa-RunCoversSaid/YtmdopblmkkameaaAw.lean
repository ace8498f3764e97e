import Derived.Test.YtmdopblmkkameaaAwP1
import Derived.Test.YtmdopblmkkameaaLayC

namespace Go.Proofs.Ytmdopblmkkameaa.Aw
open Go Go.Lay
open Try renaming prog → Pg
set_option maxRecDepth 100000
theorem e6_ok : zZ Pg e6 := zV zR vM 100000 (by kernel_rfl)
theorem e7_ok : zZ Pg e7 := zV zR vM 100000 (by kernel_rfl)
theorem e8_ok : zZ Pg e8 := zV zR vM 100000 (by kernel_rfl)
theorem e9_ok : zZ Pg e9 := zV zR vM 100000 (by kernel_rfl)
theorem e10_ok : zZ Pg e10 := zV zR vM 100000 (by kernel_rfl)
theorem e11_ok : zZ Pg e11 := vK zR vM 100000 (by kernel_rfl)
theorem e12_ok : zZ Pg e12 := vK zR vM 100000 (by kernel_rfl)
theorem e13_ok : zZ Pg e13 := vK zR vM 100000 (by kernel_rfl)
theorem e20_ok : zZ Pg e20 := vK zR vM 100000 (by kernel_rfl)
theorem e21_ok : zZ Pg e21 := zV zR vM 100000 (by kernel_rfl)
theorem e26_ok : zZ Pg e26 := zV zR vM 100000 (by kernel_rfl)
theorem e29_ok : zZ Pg e29 := zV zR vM 100000 (by kernel_rfl)
theorem e32_ok : zZ Pg e32 := zV zR vM 100000 (by kernel_rfl)
theorem e35_ok : zZ Pg e35 := zV zR vM 100000 (by kernel_rfl)
theorem e38_ok : zZ Pg e38 := zV zR vM 100000 (by kernel_rfl)
theorem e53_ok : zZ Pg e53 := zV zR vM 100000 (by kernel_rfl)
theorem e63_ok : zZ Pg e63 := zV zR vM 100000 (by kernel_rfl)
theorem e70_ok : zZ Pg e70 := zV zR vM 100000 (by kernel_rfl)
theorem zCG : zDZ Pg tbl3 := zQ e6_ok (zQ e7_ok (zQ e8_ok (zQ e9_ok (zQ e10_ok (zQ e11_ok (zQ e12_ok (zQ e13_ok (zQ e20_ok (zQ e21_ok (zQ e26_ok (zQ e29_ok (zQ e32_ok (zQ e35_ok (zQ e38_ok (zQ e53_ok (zQ e63_ok (zQ e70_ok (xY))))))))))))))))))
theorem e4_ok : zZ Pg e4 := vK zR zCG 100000 (by kernel_rfl)
theorem e5_ok : zZ Pg e5 := vK zR zCG 100000 (by kernel_rfl)
end Go.Proofs.Ytmdopblmkkameaa.Aw

namespace Go.Proofs.Ytmdopblmkkameaa.Aw
open Go Go.Lay
open Try renaming prog → Pg
set_option maxRecDepth 100000
theorem e14_ok : zZ Pg e14 := zV zR zCG 100000 (by kernel_rfl)
theorem e17_ok : zZ Pg e17 := vK zR zCG 100000 (by kernel_rfl)
theorem e18_ok : zZ Pg e18 := vK zR zCG 100000 (by kernel_rfl)
theorem e19_ok : zZ Pg e19 := vK zR zCG 100000 (by kernel_rfl)
theorem e22_ok : zZ Pg e22 := zV zR zCG 100000 (by kernel_rfl)
theorem e23_ok : zZ Pg e23 := vK zR zCG 100000 (by kernel_rfl)
theorem e39_ok : zZ Pg e39 := zV zR zCG 100000 (by kernel_rfl)
theorem e40_ok : zZ Pg e40 := vK zR zCG 100000 (by kernel_rfl)
theorem e71_ok : zZ Pg e71 := zV zR zCG 100000 (by kernel_rfl)
theorem zCH : zDZ Pg tbl2 := zQ e4_ok (zQ e5_ok (zQ e14_ok (zQ e17_ok (zQ e18_ok (zQ e19_ok (zQ e22_ok (zQ e23_ok (zQ e39_ok (zQ e40_ok (zQ e71_ok (xY)))))))))))
theorem e1_ok : zZ Pg e1 := zV zR zCH 100000 (by kernel_rfl)
end Go.Proofs.Ytmdopblmkkameaa.Aw

namespace Go.Proofs.Ytmdopblmkkameaa.Aw
open Go Go.Lay
set_option maxRecDepth 100000
theorem e2_ok : zZ Try.prog e2 := zV zR zCH 100000 (by kernel_rfl)
theorem e3_ok : zZ Try.prog e3 := zV zR zCH 100000 (by kernel_rfl)
theorem e15_ok : zZ Try.prog e15 := zV zR zCH 100000 (by kernel_rfl)
theorem e16_ok : zZ Try.prog e16 := zV zR zCH 100000 (by kernel_rfl)
end Go.Proofs.Ytmdopblmkkameaa.Aw

namespace Go.Proofs.Ytmdopblmkkameaa.Aw
open Go Go.Lay
set_option maxRecDepth 100000
theorem e72_ok : zZ Try.prog e72 := zV zR zCH 100000 (by kernel_rfl)
theorem e73_ok : zZ Try.prog e73 := vK zR zCH 100000 (by kernel_rfl)
theorem e74_ok : zZ Try.prog e74 := vK zR zCH 100000 (by kernel_rfl)
theorem e75_ok : zZ Try.prog e75 := zV zR zCH 100000 (by kernel_rfl)
theorem e76_ok : zZ Try.prog e76 := vK zR zCH 100000 (by kernel_rfl)
theorem e77_ok : zZ Try.prog e77 := vK zR zCH 100000 (by kernel_rfl)
theorem tbl1_ok : zDZ Try.prog tbl1 := zQ e1_ok (zQ e2_ok (zQ e3_ok (zQ e15_ok (zQ e16_ok (zQ e72_ok (zQ e73_ok (zQ e74_ok (zQ e75_ok (zQ e76_ok (zQ e77_ok (xY)))))))))))
theorem shut : ShutF Try.prog 17 := closed_of zR tbl1_ok (N := 100000) (by kernel_rfl)
end Go.Proofs.Ytmdopblmkkameaa.Aw
