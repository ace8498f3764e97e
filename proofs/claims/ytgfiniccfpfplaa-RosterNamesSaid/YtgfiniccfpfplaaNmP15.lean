/- A closed law: tables of calls, by program. -/
import Derived.Test.YtgfiniccfpfplaaNmP14
namespace Go.Proofs.Ytgfiniccfpfplaa.Nm
open Go Go.Lay
set_option maxRecDepth 100000
theorem e278_ok : EntSnd Try.prog e278 := ent_full prog_ok tbl5_ok 100000 (by kernel_rfl)
end Go.Proofs.Ytgfiniccfpfplaa.Nm
