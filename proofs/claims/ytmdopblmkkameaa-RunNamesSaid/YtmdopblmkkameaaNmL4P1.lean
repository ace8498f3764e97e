/- A closed law: tables of calls, by program. -/
import Derived.Test.YtmdopblmkkameaaNmL5T
namespace Go.Proofs.Ytmdopblmkkameaa.Nm
open Go Go.Lay
set_option maxRecDepth 100000
theorem e138_ok : EntSnd Try.prog e138 := ent_full prog_ok tbl5_ok 100000 (by kernel_rfl)
theorem e153_ok : EntSnd Try.prog e153 := ent_full prog_ok tbl5_ok 100000 (by kernel_rfl)
theorem e163_ok : EntSnd Try.prog e163 := ent_full prog_ok tbl5_ok 100000 (by kernel_rfl)
theorem e170_ok : EntSnd Try.prog e170 := ent_full prog_ok tbl5_ok 100000 (by kernel_rfl)
end Go.Proofs.Ytmdopblmkkameaa.Nm
