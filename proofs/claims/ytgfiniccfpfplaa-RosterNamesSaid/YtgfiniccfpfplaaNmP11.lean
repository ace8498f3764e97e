/- A closed law: tables of calls, by program. -/
import Derived.Test.YtgfiniccfpfplaaNmP10
namespace Go.Proofs.Ytgfiniccfpfplaa.Nm
open Go Go.Lay
set_option maxRecDepth 100000
theorem e107_ok : EntSnd Try.prog e107 := ent_full prog_ok tbl7_ok 100000 (by kernel_rfl)
theorem e108_ok : EntSnd Try.prog e108 := ent_pure prog_ok tbl7_ok 100000 (by kernel_rfl)
theorem e178_ok : EntSnd Try.prog e178 := ent_full prog_ok tbl7_ok 100000 (by kernel_rfl)
theorem e179_ok : EntSnd Try.prog e179 := ent_pure prog_ok tbl7_ok 100000 (by kernel_rfl)
end Go.Proofs.Ytgfiniccfpfplaa.Nm
