/- A closed law: tables of calls, by program. -/
import Derived.Test.YtmdopblmkkameaaNmL6P0
namespace Go.Proofs.Ytmdopblmkkameaa.Nm
open Go Go.Lay
set_option maxRecDepth 100000
theorem tbl6_ok : TblSnd Try.prog tbl6 := tbl_cons e141_ok (tbl_cons e142_ok (tbl_cons e144_ok (tbl_cons e145_ok (tbl_cons e147_ok (tbl_cons e148_ok (tbl_cons e150_ok (tbl_cons e151_ok (tbl_cons e154_ok (tbl_cons e155_ok (tbl_cons e157_ok (tbl_cons e158_ok (tbl_cons e160_ok (tbl_cons e161_ok (tbl_cons e164_ok (tbl_cons e165_ok (tbl_cons e167_ok (tbl_cons e168_ok (tbl_nil))))))))))))))))))
end Go.Proofs.Ytmdopblmkkameaa.Nm
