/- A closed law: tables of calls, by program. -/
import Derived.Test.YtgfiniccfpfplaaNmP20
namespace Go.Proofs.Ytgfiniccfpfplaa.Nm
open Go Go.Lay
set_option maxRecDepth 100000
theorem e3_ok : EntSnd Try.prog e3 := ent_full prog_ok tbl2_ok 100000 (by kernel_rfl)
theorem e4_ok : EntSnd Try.prog e4 := ent_full prog_ok tbl2_ok 100000 (by kernel_rfl)
theorem e5_ok : EntSnd Try.prog e5 := ent_full prog_ok tbl2_ok 100000 (by kernel_rfl)
theorem e6_ok : EntSnd Try.prog e6 := ent_full prog_ok tbl2_ok 100000 (by kernel_rfl)
end Go.Proofs.Ytgfiniccfpfplaa.Nm
