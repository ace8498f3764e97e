/- A closed law: tables of calls, by program. -/
import Derived.Test.YtmdopblmkkameaaNmL3P0
namespace Go.Proofs.Ytmdopblmkkameaa.Nm
open Go Go.Lay
set_option maxRecDepth 100000
theorem tbl3_ok : TblSnd Try.prog tbl3 := tbl_cons e9_ok (tbl_cons e10_ok (tbl_cons e15_ok (tbl_cons e18_ok (tbl_cons e21_ok (tbl_cons e28_ok (tbl_cons e29_ok (tbl_cons e34_ok (tbl_cons e37_ok (tbl_cons e40_ok (tbl_cons e43_ok (tbl_cons e46_ok (tbl_cons e53_ok (tbl_cons e54_ok (tbl_cons e86_ok (tbl_cons e87_ok (tbl_cons e88_ok (tbl_cons e104_ok (tbl_cons e105_ok (tbl_cons e114_ok (tbl_cons e117_ok (tbl_cons e118_ok (tbl_cons e119_ok (tbl_cons e122_ok (tbl_cons e123_ok (tbl_cons e139_ok (tbl_cons e140_ok (tbl_cons e171_ok (tbl_nil))))))))))))))))))))))))))))
end Go.Proofs.Ytmdopblmkkameaa.Nm
