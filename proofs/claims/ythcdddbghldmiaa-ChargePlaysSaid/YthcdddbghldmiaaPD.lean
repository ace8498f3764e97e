
import Derived.Test.YthcdddbghldmiaaPC
namespace Go.Proofs.Ythcdddbghldmiaa
set_option linter.unusedVariables false
section
variable {g : Gar} {W : Wk} {m : Int} {xs : List Wy} {by_ : By} {b0 : Nat}
end
def nodes (g : Gar) : List Nd := (List.range g.nb).map .bus ++ ((List.range g.ns).map .slot ++ [.grid])
end Go.Proofs.Ythcdddbghldmiaa
