
import Derived.Test.YtmdopblmkkameaaRP
import Derived.Test.YtmdopblmkkameaaXI
namespace Go.Proofs.Ytmdopblmkkameaa
open Go Go.Lay
set_option linter.unusedVariables false
set_option linter.unusedSimpArgs false
set_option maxRecDepth 20000
theorem zeros_bool (n : Nat) : xG [.bool false] n = yL n fun _ => false := by
 rw [zHG]
 unfold yL
 rw [List.map_const', List.length_range]
section
variable {σ : St} {t : Tab} {pe pt : Option Addr} {le ce lt ct : Nat}
end
end Go.Proofs.Ytmdopblmkkameaa
