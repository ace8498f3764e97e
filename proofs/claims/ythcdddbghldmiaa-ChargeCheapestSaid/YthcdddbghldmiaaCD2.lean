
import Derived.Test.YthcdddbghldmiaaCD
namespace Go.Proofs.Ythcdddbghldmiaa
open Go Go.Lay
set_option linter.unusedVariables false
set_option linter.unusedSimpArgs false
set_option maxRecDepth 20000
section
variable {σ : St}
end
end Go.Proofs.Ythcdddbghldmiaa
