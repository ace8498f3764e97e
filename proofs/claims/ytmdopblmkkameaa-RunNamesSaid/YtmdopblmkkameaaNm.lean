/- A closed law: tables of calls, by program. -/
import Derived.Test.YtmdopblmkkameaaNmL1P0
import Derived.Test.YtmdopblmkkameaaNmL1P1
import Derived.Test.YtmdopblmkkameaaNmL1P2
import Derived.Test.YtmdopblmkkameaaNmL1P3
import Derived.Test.YtmdopblmkkameaaNmL1P4
import Derived.Test.YtmdopblmkkameaaNmL1P5
import Derived.Test.YtmdopblmkkameaaNmL1P6
import Derived.Test.YtmdopblmkkameaaNmL1P7
import Derived.Test.YtmdopblmkkameaaNmL1P8
import Derived.Test.YtmdopblmkkameaaNmL1P9
import Derived.Test.YtmdopblmkkameaaNmL1P10
import Derived.Test.YtmdopblmkkameaaNmL1P11
import Derived.Test.YtmdopblmkkameaaNmL1P12
import Derived.Test.YtmdopblmkkameaaNmL1P13
namespace Go.Proofs.Ytmdopblmkkameaa.Nm
open Go Go.Lay
set_option maxRecDepth 100000
theorem tbl1_ok : TblSnd Try.prog tbl1 := tbl_cons e1_ok (tbl_cons e2_ok (tbl_cons e3_ok (tbl_cons e4_ok (tbl_cons e5_ok (tbl_cons e23_ok (tbl_cons e24_ok (tbl_cons e48_ok (tbl_cons e49_ok (tbl_cons e56_ok (tbl_cons e57_ok (tbl_cons e58_ok (tbl_cons e59_ok (tbl_cons e60_ok (tbl_cons e61_ok (tbl_cons e62_ok (tbl_cons e63_ok (tbl_cons e64_ok (tbl_cons e65_ok (tbl_cons e66_ok (tbl_cons e67_ok (tbl_cons e68_ok (tbl_cons e69_ok (tbl_cons e70_ok (tbl_cons e71_ok (tbl_cons e72_ok (tbl_cons e73_ok (tbl_cons e74_ok (tbl_cons e76_ok (tbl_cons e77_ok (tbl_cons e80_ok (tbl_cons e81_ok (tbl_cons e82_ok (tbl_cons e83_ok (tbl_cons e90_ok (tbl_cons e91_ok (tbl_cons e92_ok (tbl_cons e93_ok (tbl_cons e94_ok (tbl_cons e95_ok (tbl_cons e96_ok (tbl_cons e97_ok (tbl_cons e98_ok (tbl_cons e99_ok (tbl_cons e100_ok (tbl_cons e178_ok (tbl_nil))))))))))))))))))))))))))))))))))))))))))))))
theorem walk (w : World) : Calls Try.prog 14 #[] w fun e w' => e = .returned (.bool true) ∧ RowKit.Grown w w' :=
  walk_memo prog_ok tbl1_ok (N := 100000) (by kernel_rfl) w
end Go.Proofs.Ytmdopblmkkameaa.Nm
