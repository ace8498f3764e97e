/- A closed law: tables of calls, by program. -/
import Derived.Test.YtmdopblmkkameaaNmL4P0
import Derived.Test.YtmdopblmkkameaaNmL4P1
namespace Go.Proofs.Ytmdopblmkkameaa.Nm
open Go Go.Lay
set_option maxRecDepth 100000
theorem tbl4_ok : TblSnd Try.prog tbl4 := tbl_cons e13_ok (tbl_cons e14_ok (tbl_cons e16_ok (tbl_cons e17_ok (tbl_cons e19_ok (tbl_cons e20_ok (tbl_cons e32_ok (tbl_cons e33_ok (tbl_cons e35_ok (tbl_cons e36_ok (tbl_cons e38_ok (tbl_cons e39_ok (tbl_cons e41_ok (tbl_cons e42_ok (tbl_cons e44_ok (tbl_cons e45_ok (tbl_cons e106_ok (tbl_cons e107_ok (tbl_cons e108_ok (tbl_cons e109_ok (tbl_cons e110_ok (tbl_cons e111_ok (tbl_cons e112_ok (tbl_cons e113_ok (tbl_cons e120_ok (tbl_cons e121_ok (tbl_cons e126_ok (tbl_cons e129_ok (tbl_cons e132_ok (tbl_cons e135_ok (tbl_cons e138_ok (tbl_cons e153_ok (tbl_cons e163_ok (tbl_cons e170_ok (tbl_nil))))))))))))))))))))))))))))))))))
end Go.Proofs.Ytmdopblmkkameaa.Nm
