/- A closed law: tables of calls, by program. -/
import Derived.Test.YtmdopblmkkameaaNmL2P0
import Derived.Test.YtmdopblmkkameaaNmL2P1
import Derived.Test.YtmdopblmkkameaaNmL2P2
import Derived.Test.YtmdopblmkkameaaNmL2P3
import Derived.Test.YtmdopblmkkameaaNmL2P4
namespace Go.Proofs.Ytmdopblmkkameaa.Nm
open Go Go.Lay
set_option maxRecDepth 100000
theorem tbl2_ok : TblSnd Try.prog tbl2 := tbl_cons e6_ok (tbl_cons e7_ok (tbl_cons e8_ok (tbl_cons e11_ok (tbl_cons e12_ok (tbl_cons e22_ok (tbl_cons e25_ok (tbl_cons e26_ok (tbl_cons e27_ok (tbl_cons e30_ok (tbl_cons e31_ok (tbl_cons e47_ok (tbl_cons e50_ok (tbl_cons e51_ok (tbl_cons e52_ok (tbl_cons e55_ok (tbl_cons e75_ok (tbl_cons e78_ok (tbl_cons e79_ok (tbl_cons e84_ok (tbl_cons e85_ok (tbl_cons e89_ok (tbl_cons e101_ok (tbl_cons e102_ok (tbl_cons e103_ok (tbl_cons e115_ok (tbl_cons e116_ok (tbl_cons e172_ok (tbl_cons e173_ok (tbl_cons e174_ok (tbl_cons e175_ok (tbl_cons e176_ok (tbl_cons e177_ok (tbl_nil)))))))))))))))))))))))))))))))))
end Go.Proofs.Ytmdopblmkkameaa.Nm
