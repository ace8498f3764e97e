/- A closed law: tables of calls, by program. -/
import Derived.Test.YtgfiniccfpfplaaNmP12
namespace Go.Proofs.Ytgfiniccfpfplaa.Nm
open Go Go.Lay
set_option maxRecDepth 100000
theorem e180_ok : EntSnd Try.prog e180 := ent_full prog_ok tbl6_ok 100000 (by kernel_rfl)
theorem e181_ok : EntSnd Try.prog e181 := ent_pure prog_ok tbl6_ok 100000 (by kernel_rfl)
end Go.Proofs.Ytgfiniccfpfplaa.Nm
