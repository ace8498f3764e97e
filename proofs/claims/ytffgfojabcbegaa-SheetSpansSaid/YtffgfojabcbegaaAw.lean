import Derived.Test.YtffgfojabcbegaaAwB
import Derived.Test.YtffgfojabcbegaaLayC

namespace Go.Proofs.Ytffgfojabcbegaa.Aw
open Go Go.Lay
set_option maxRecDepth 100000
theorem e1_ok : EntSnd Try.prog e1 := ent_full prog_ok tbl_nil 100000 (by kernel_rfl)
theorem e2_ok : EntSnd Try.prog e2 := ent_full prog_ok tbl_nil 100000 (by kernel_rfl)
theorem e3_ok : EntSnd Try.prog e3 := ent_full prog_ok tbl_nil 100000 (by kernel_rfl)
end Go.Proofs.Ytffgfojabcbegaa.Aw

namespace Go.Proofs.Ytffgfojabcbegaa.Aw
open Go Go.Lay
set_option maxRecDepth 100000
theorem e4_ok : EntSnd Try.prog e4 := ent_full prog_ok tbl_nil 100000 (by kernel_rfl)
end Go.Proofs.Ytffgfojabcbegaa.Aw

namespace Go.Proofs.Ytffgfojabcbegaa.Aw
open Go Go.Lay
set_option maxRecDepth 100000
theorem e5_ok : EntSnd Try.prog e5 := ent_full prog_ok tbl_nil 100000 (by kernel_rfl)
theorem e6_ok : EntSnd Try.prog e6 := ent_pure prog_ok tbl_nil 100000 (by kernel_rfl)
theorem tbl1_ok : TblSnd Try.prog tbl1 := tbl_cons e1_ok (tbl_cons e2_ok (tbl_cons e3_ok (tbl_cons e4_ok (tbl_cons e5_ok (tbl_cons e6_ok (tbl_nil))))))
theorem shut : ShutF Try.prog 12 := closed_of prog_ok tbl1_ok (N := 100000) (by kernel_rfl)
end Go.Proofs.Ytffgfojabcbegaa.Aw
