import Derived.Test.YtmdopblmkkameaaAwP2
import Derived.Test.YtmdopblmkkameaaLayC

namespace Go.Proofs.Ytmdopblmkkameaa.Aw
open Go Go.Lay
open Try renaming prog → Pg
set_option maxRecDepth 100000
theorem e14_ok : zZ Pg e14 := zX zW zCD 100000 (by kernel_rfl)
theorem e17_ok : zZ Pg e17 := vL zW zCD 100000 (by kernel_rfl)
theorem e18_ok : zZ Pg e18 := vL zW zCD 100000 (by kernel_rfl)
theorem e19_ok : zZ Pg e19 := vL zW zCD 100000 (by kernel_rfl)
theorem e22_ok : zZ Pg e22 := zX zW zCD 100000 (by kernel_rfl)
theorem e23_ok : zZ Pg e23 := vL zW zCD 100000 (by kernel_rfl)
theorem e39_ok : zZ Pg e39 := zX zW zCD 100000 (by kernel_rfl)
theorem e40_ok : zZ Pg e40 := vL zW zCD 100000 (by kernel_rfl)
theorem e71_ok : zZ Pg e71 := zX zW zCD 100000 (by kernel_rfl)
theorem zCE : zDP Pg tbl2 := zQ e4_ok (zQ e5_ok (zQ e14_ok (zQ e17_ok (zQ e18_ok (zQ e19_ok (zQ e22_ok (zQ e23_ok (zQ e39_ok (zQ e40_ok (zQ e71_ok (wE)))))))))))
theorem e1_ok : zZ Pg e1 := zX zW zCE 100000 (by kernel_rfl)
end Go.Proofs.Ytmdopblmkkameaa.Aw

namespace Go.Proofs.Ytmdopblmkkameaa.Aw
open Go Go.Lay
set_option maxRecDepth 100000
theorem e2_ok : zZ Try.prog e2 := zX zW zCE 100000 (by kernel_rfl)
theorem e3_ok : zZ Try.prog e3 := zX zW zCE 100000 (by kernel_rfl)
theorem e15_ok : zZ Try.prog e15 := zX zW zCE 100000 (by kernel_rfl)
theorem e16_ok : zZ Try.prog e16 := zX zW zCE 100000 (by kernel_rfl)
end Go.Proofs.Ytmdopblmkkameaa.Aw

namespace Go.Proofs.Ytmdopblmkkameaa.Aw
open Go Go.Lay
set_option maxRecDepth 100000
theorem e72_ok : zZ Try.prog e72 := zX zW zCE 100000 (by kernel_rfl)
theorem e73_ok : zZ Try.prog e73 := vL zW zCE 100000 (by kernel_rfl)
theorem e74_ok : zZ Try.prog e74 := vL zW zCE 100000 (by kernel_rfl)
theorem e75_ok : zZ Try.prog e75 := zX zW zCE 100000 (by kernel_rfl)
theorem e76_ok : zZ Try.prog e76 := vL zW zCE 100000 (by kernel_rfl)
theorem e77_ok : zZ Try.prog e77 := vL zW zCE 100000 (by kernel_rfl)
theorem tbl1_ok : zDP Try.prog tbl1 := zQ e1_ok (zQ e2_ok (zQ e3_ok (zQ e15_ok (zQ e16_ok (zQ e72_ok (zQ e73_ok (zQ e74_ok (zQ e75_ok (zQ e76_ok (zQ e77_ok (wE)))))))))))
theorem shut : ShutF Try.prog 17 := closed_of zW tbl1_ok (N := 100000) (by kernel_rfl)
end Go.Proofs.Ytmdopblmkkameaa.Aw
