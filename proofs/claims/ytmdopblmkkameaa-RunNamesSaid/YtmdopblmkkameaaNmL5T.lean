/- A closed law: tables of calls, by program. -/
import Derived.Test.YtmdopblmkkameaaNmL5P0
namespace Go.Proofs.Ytmdopblmkkameaa.Nm
open Go Go.Lay
set_option maxRecDepth 100000
theorem tbl5_ok : TblSnd Try.prog tbl5 := tbl_cons e124_ok (tbl_cons e125_ok (tbl_cons e127_ok (tbl_cons e128_ok (tbl_cons e130_ok (tbl_cons e131_ok (tbl_cons e133_ok (tbl_cons e134_ok (tbl_cons e136_ok (tbl_cons e137_ok (tbl_cons e143_ok (tbl_cons e146_ok (tbl_cons e149_ok (tbl_cons e152_ok (tbl_cons e156_ok (tbl_cons e159_ok (tbl_cons e162_ok (tbl_cons e166_ok (tbl_cons e169_ok (tbl_nil)))))))))))))))))))
end Go.Proofs.Ytmdopblmkkameaa.Nm
