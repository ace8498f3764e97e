
import Derived.Test.YthcdddbghldmiaaAwB
import Derived.Test.YthcdddbghldmiaaLayC
namespace Go.Proofs.Ythcdddbghldmiaa.Aw
open Go Go.Lay
set_option maxRecDepth 100000
theorem e1_ok : EntSnd Try.prog e1 := ent_full prog_ok tbl_nil 100000 (by kernel_rfl)
theorem e2_ok : EntSnd Try.prog e2 := ent_full prog_ok tbl_nil 100000 (by kernel_rfl)
theorem e3_ok : EntSnd Try.prog e3 := ent_full prog_ok tbl_nil 100000 (by kernel_rfl)
theorem e4_ok : EntSnd Try.prog e4 := ent_full prog_ok tbl_nil 100000 (by kernel_rfl)
theorem e5_ok : EntSnd Try.prog e5 := ent_full prog_ok tbl_nil 100000 (by kernel_rfl)
theorem e6_ok : EntSnd Try.prog e6 := ent_pure prog_ok tbl_nil 100000 (by kernel_rfl)
theorem e7_ok : EntSnd Try.prog e7 := ent_full prog_ok tbl_nil 100000 (by kernel_rfl)
theorem e8_ok : EntSnd Try.prog e8 := ent_pure prog_ok tbl_nil 100000 (by kernel_rfl)
theorem e9_ok : EntSnd Try.prog e9 := ent_pure prog_ok tbl_nil 100000 (by kernel_rfl)
theorem tbl1_ok : TblSnd Try.prog tbl1 := tbl_cons e1_ok (tbl_cons e2_ok (tbl_cons e3_ok (tbl_cons e4_ok (tbl_cons e5_ok (tbl_cons e6_ok (tbl_cons e7_ok (tbl_cons e8_ok (tbl_cons e9_ok (tbl_nil)))))))))
theorem shut : ShutF Try.prog 17 := closed_of prog_ok tbl1_ok (N := 100000) (by kernel_rfl)
end Go.Proofs.Ythcdddbghldmiaa.Aw
