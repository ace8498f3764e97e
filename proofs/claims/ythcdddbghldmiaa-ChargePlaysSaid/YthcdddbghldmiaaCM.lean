
import Derived.Test.YthcdddbghldmiaaCG
import Derived.Test.YthcdddbghldmiaaPD
namespace Go.Proofs.Ythcdddbghldmiaa
open Go Go.Lay
set_option linter.unusedVariables false
set_option linter.unusedSimpArgs false
set_option maxRecDepth 20000
structure Good (g : Gar) (W : Wk) : Prop where
 feas : Feas g W
 pot : ∃ π, Pot (waysM g W) π ∧ ∀ v ∈ nodes g, -18000 ≤ π v ∧ π v ≤ 0
section
variable {σ τ : St} {w : Nat} {g : Gar} {W : Wk} {p q pp : Option Addr} {c d cp : Nat} {B : Nat → Nat}
end
end Go.Proofs.Ythcdddbghldmiaa
