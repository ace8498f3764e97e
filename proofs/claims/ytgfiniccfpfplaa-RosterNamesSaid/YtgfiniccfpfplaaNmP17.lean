/- A closed law: tables of calls, by program. -/
import Derived.Test.YtgfiniccfpfplaaNmP16
namespace Go.Proofs.Ytgfiniccfpfplaa.Nm
open Go Go.Lay
set_option maxRecDepth 100000
theorem e279_ok : EntSnd Try.prog e279 := ent_full prog_ok tbl4_ok 100000 (by kernel_rfl)
end Go.Proofs.Ytgfiniccfpfplaa.Nm
