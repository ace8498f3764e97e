/- A closed law: tables of calls, by program. -/
import Derived.Test.YtgfiniccfpfplaaNmP21
namespace Go.Proofs.Ytgfiniccfpfplaa.Nm
open Go Go.Lay
set_option maxRecDepth 100000
theorem e284_ok : EntSnd Try.prog e284 := ent_full prog_ok tbl2_ok 100000 (by kernel_rfl)
end Go.Proofs.Ytgfiniccfpfplaa.Nm
