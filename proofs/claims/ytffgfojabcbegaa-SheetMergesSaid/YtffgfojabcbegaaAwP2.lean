
import Derived.Test.YtffgfojabcbegaaAwP1
namespace Go.Proofs.Ytffgfojabcbegaa.Aw
open Go Go.Lay
set_option maxRecDepth 100000
theorem e4_ok : EntSnd Try.prog e4 := ent_full prog_ok tbl_nil 100000 (by kernel_rfl)
end Go.Proofs.Ytffgfojabcbegaa.Aw
