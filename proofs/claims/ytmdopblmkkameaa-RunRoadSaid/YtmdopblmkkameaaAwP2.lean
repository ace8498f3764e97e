
import Derived.Test.YtmdopblmkkameaaAwP1
namespace Go.Proofs.Ytmdopblmkkameaa.Aw
open Go Go.Lay
open Try renaming prog → Pg
set_option maxRecDepth 100000
theorem e6_ok : EntSnd Pg e6 := ent_full prog_ok tbl4_ok 100000 (by kernel_rfl)
theorem e7_ok : EntSnd Pg e7 := ent_full prog_ok tbl4_ok 100000 (by kernel_rfl)
theorem e8_ok : EntSnd Pg e8 := ent_full prog_ok tbl4_ok 100000 (by kernel_rfl)
theorem e9_ok : EntSnd Pg e9 := ent_full prog_ok tbl4_ok 100000 (by kernel_rfl)
theorem e10_ok : EntSnd Pg e10 := ent_full prog_ok tbl4_ok 100000 (by kernel_rfl)
theorem e11_ok : EntSnd Pg e11 := ent_pure prog_ok tbl4_ok 100000 (by kernel_rfl)
theorem e12_ok : EntSnd Pg e12 := ent_pure prog_ok tbl4_ok 100000 (by kernel_rfl)
theorem e13_ok : EntSnd Pg e13 := ent_pure prog_ok tbl4_ok 100000 (by kernel_rfl)
theorem e20_ok : EntSnd Pg e20 := ent_pure prog_ok tbl4_ok 100000 (by kernel_rfl)
theorem e21_ok : EntSnd Pg e21 := ent_full prog_ok tbl4_ok 100000 (by kernel_rfl)
theorem e26_ok : EntSnd Pg e26 := ent_full prog_ok tbl4_ok 100000 (by kernel_rfl)
theorem e29_ok : EntSnd Pg e29 := ent_full prog_ok tbl4_ok 100000 (by kernel_rfl)
theorem e32_ok : EntSnd Pg e32 := ent_full prog_ok tbl4_ok 100000 (by kernel_rfl)
theorem e35_ok : EntSnd Pg e35 := ent_full prog_ok tbl4_ok 100000 (by kernel_rfl)
theorem e38_ok : EntSnd Pg e38 := ent_full prog_ok tbl4_ok 100000 (by kernel_rfl)
theorem e53_ok : EntSnd Pg e53 := ent_full prog_ok tbl4_ok 100000 (by kernel_rfl)
theorem e63_ok : EntSnd Pg e63 := ent_full prog_ok tbl4_ok 100000 (by kernel_rfl)
theorem e70_ok : EntSnd Pg e70 := ent_full prog_ok tbl4_ok 100000 (by kernel_rfl)
theorem tbl3_ok : TblSnd Pg tbl3 := tbl_cons e6_ok (tbl_cons e7_ok (tbl_cons e8_ok (tbl_cons e9_ok (tbl_cons e10_ok (tbl_cons e11_ok (tbl_cons e12_ok (tbl_cons e13_ok (tbl_cons e20_ok (tbl_cons e21_ok (tbl_cons e26_ok (tbl_cons e29_ok (tbl_cons e32_ok (tbl_cons e35_ok (tbl_cons e38_ok (tbl_cons e53_ok (tbl_cons e63_ok (tbl_cons e70_ok (tbl_nil))))))))))))))))))
theorem e4_ok : EntSnd Pg e4 := ent_pure prog_ok tbl3_ok 100000 (by kernel_rfl)
theorem e5_ok : EntSnd Pg e5 := ent_pure prog_ok tbl3_ok 100000 (by kernel_rfl)
end Go.Proofs.Ytmdopblmkkameaa.Aw
