
import Derived.Test.YtffgfojabcbegaaAwB
namespace Go.Proofs.Ytffgfojabcbegaa.Aw
open Go Go.Lay
set_option maxRecDepth 100000
theorem e1_ok : EntSnd Try.prog e1 := ent_full prog_ok tbl_nil 100000 (by kernel_rfl)
theorem e2_ok : EntSnd Try.prog e2 := ent_full prog_ok tbl_nil 100000 (by kernel_rfl)
theorem e3_ok : EntSnd Try.prog e3 := ent_full prog_ok tbl_nil 100000 (by kernel_rfl)
end Go.Proofs.Ytffgfojabcbegaa.Aw
