
import Derived.Test.YthcdddbghldmiaaHX
import Derived.Test.YthcdddbghldmiaaPF
import Derived.Test.YthcdddbghldmiaaXD
namespace Go.Proofs.Ythcdddbghldmiaa
open Go Go.Lay
set_option linter.unusedVariables false
set_option linter.unusedSimpArgs false
set_option maxRecDepth 20000
def TruthOK (g : Gar) (hs us : List Int) : Prop := hs.length = g.nb ∧ us.length = g.nb ∧ ∀ i b, g.buses[i]? = some b → inB (hs.getD i 0) b.hlo b.hhi = true ∧ inB (us.getD i 0) b.ulo b.uhi = true
section
variable {σ τ : St} {g : Gar} {p q pw : Option Addr} {l c m d lw cw : Nat} {ws hs us : List Int}
end
end Go.Proofs.Ythcdddbghldmiaa
