
import Derived.Test.YthcdddbghldmiaaPA
namespace Go.Proofs.Ythcdddbghldmiaa
set_option linter.unusedVariables false
inductive Nd where
 | bus (i : Nat)
 | slot (s : Nat)
 | grid
 deriving DecidableEq
structure Wy where
 fr : Nd
 to : Nd
 rest : Int
 pr : Int
abbrev By := Nd → Option Wy
section
variable {E : List Wy} {V : List Nd} {S : Nd → Prop} {π : Nd → Int} {K : Int} {price : Nd → Option Int} {by_ : By}
end
end Go.Proofs.Ythcdddbghldmiaa
