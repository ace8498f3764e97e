/- A closed law: tables of calls, by program. -/
import Derived.Test.YtgfiniccfpfplaaNmP23
namespace Go.Proofs.Ytgfiniccfpfplaa.Nm
open Go Go.Lay
set_option maxRecDepth 100000
theorem e415_ok : EntSnd Try.prog e415 := ent_pure prog_ok tbl2_ok 100000 (by kernel_rfl)
theorem tbl1_ok : TblSnd Try.prog tbl1 := tbl_cons e1_ok (tbl_cons e2_ok (tbl_cons e3_ok (tbl_cons e4_ok (tbl_cons e5_ok (tbl_cons e6_ok (tbl_cons e284_ok (tbl_cons e285_ok (tbl_cons e286_ok (tbl_cons e287_ok (tbl_cons e288_ok (tbl_cons e289_ok (tbl_cons e290_ok (tbl_cons e291_ok (tbl_cons e292_ok (tbl_cons e293_ok (tbl_cons e294_ok (tbl_cons e295_ok (tbl_cons e296_ok (tbl_cons e297_ok (tbl_cons e298_ok (tbl_cons e299_ok (tbl_cons e300_ok (tbl_cons e315_ok (tbl_cons e316_ok (tbl_cons e317_ok (tbl_cons e318_ok (tbl_cons e319_ok (tbl_cons e320_ok (tbl_cons e321_ok (tbl_cons e322_ok (tbl_cons e323_ok (tbl_cons e415_ok (tbl_nil)))))))))))))))))))))))))))))))))
theorem walk (w : World) : Calls Try.prog 4 #[] w fun e w' => e = .returned (.bool true) ∧ RowKit.Grown w w' :=
  walk_memo prog_ok tbl1_ok (N := 100000) (by kernel_rfl) w
end Go.Proofs.Ytgfiniccfpfplaa.Nm
