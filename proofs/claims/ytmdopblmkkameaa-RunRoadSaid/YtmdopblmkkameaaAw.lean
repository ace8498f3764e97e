
import Derived.Test.YtmdopblmkkameaaAwP4
import Derived.Test.YtmdopblmkkameaaLayC
namespace Go.Proofs.Ytmdopblmkkameaa.Aw
open Go Go.Lay
set_option maxRecDepth 100000
theorem e72_ok : EntSnd Try.prog e72 := ent_full prog_ok tbl2_ok 100000 (by kernel_rfl)
theorem e73_ok : EntSnd Try.prog e73 := ent_pure prog_ok tbl2_ok 100000 (by kernel_rfl)
theorem e74_ok : EntSnd Try.prog e74 := ent_pure prog_ok tbl2_ok 100000 (by kernel_rfl)
theorem e75_ok : EntSnd Try.prog e75 := ent_full prog_ok tbl2_ok 100000 (by kernel_rfl)
theorem e76_ok : EntSnd Try.prog e76 := ent_pure prog_ok tbl2_ok 100000 (by kernel_rfl)
theorem e77_ok : EntSnd Try.prog e77 := ent_pure prog_ok tbl2_ok 100000 (by kernel_rfl)
theorem tbl1_ok : TblSnd Try.prog tbl1 := tbl_cons e1_ok (tbl_cons e2_ok (tbl_cons e3_ok (tbl_cons e15_ok (tbl_cons e16_ok (tbl_cons e72_ok (tbl_cons e73_ok (tbl_cons e74_ok (tbl_cons e75_ok (tbl_cons e76_ok (tbl_cons e77_ok (tbl_nil)))))))))))
theorem shut : ShutF Try.prog 17 := closed_of prog_ok tbl1_ok (N := 100000) (by kernel_rfl)
end Go.Proofs.Ytmdopblmkkameaa.Aw
