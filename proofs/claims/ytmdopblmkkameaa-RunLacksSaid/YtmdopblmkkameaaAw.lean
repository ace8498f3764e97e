import Derived.Test.YtmdopblmkkameaaAwP3
import Derived.Test.YtmdopblmkkameaaLayC

namespace Go.Proofs.Ytmdopblmkkameaa.Aw
open Go Go.Lay
set_option maxRecDepth 100000
theorem e2_ok : zZ Try.prog e2 := zX zW tbl2_ok 100000 (by kernel_rfl)
theorem e3_ok : zZ Try.prog e3 := zX zW tbl2_ok 100000 (by kernel_rfl)
theorem e15_ok : zZ Try.prog e15 := zX zW tbl2_ok 100000 (by kernel_rfl)
theorem e16_ok : zZ Try.prog e16 := zX zW tbl2_ok 100000 (by kernel_rfl)
end Go.Proofs.Ytmdopblmkkameaa.Aw

namespace Go.Proofs.Ytmdopblmkkameaa.Aw
open Go Go.Lay
set_option maxRecDepth 100000
theorem e72_ok : zZ Try.prog e72 := zX zW tbl2_ok 100000 (by kernel_rfl)
theorem e73_ok : zZ Try.prog e73 := vN zW tbl2_ok 100000 (by kernel_rfl)
theorem e74_ok : zZ Try.prog e74 := vN zW tbl2_ok 100000 (by kernel_rfl)
theorem e75_ok : zZ Try.prog e75 := zX zW tbl2_ok 100000 (by kernel_rfl)
theorem e76_ok : zZ Try.prog e76 := vN zW tbl2_ok 100000 (by kernel_rfl)
theorem e77_ok : zZ Try.prog e77 := vN zW tbl2_ok 100000 (by kernel_rfl)
theorem tbl1_ok : TblSnd Try.prog tbl1 := zS e1_ok (zS e2_ok (zS e3_ok (zS e15_ok (zS e16_ok (zS e72_ok (zS e73_ok (zS e74_ok (zS e75_ok (zS e76_ok (zS e77_ok (xX)))))))))))
theorem shut : ShutF Try.prog 17 := closed_of zW tbl1_ok (N := 100000) (by kernel_rfl)
end Go.Proofs.Ytmdopblmkkameaa.Aw
