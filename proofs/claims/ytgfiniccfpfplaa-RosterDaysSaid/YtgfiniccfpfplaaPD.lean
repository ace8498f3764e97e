
import Derived.Test.YtgfiniccfpfplaaPC
namespace Go.Proofs.Ytgfiniccfpfplaa
def xGU : List Int → List Int → Bool
 | a :: l, b :: m => if a = b then xGU l m else decide (b < a)
 | _, _ => false
abbrev xKY := List Int → List Int → Prop
def pick (out : Option (List Int × List Int)) (a v : List Int) : Option (List Int × List Int) :=
 match out with
 | none => some (a, v)
 | some (b, u) => if xGU v u then some (a, v) else some (b, u)
section
variable (w : Wk) (leaves : Bool) (wf : Nat → List Int → List Int)
def upd (st : Nat → Std) (k : Nat) (s : Std) : Nat → Std := fun j => if j = k then s else st j
end
section
variable {w : Wk} {leaves : Bool} {wf : Nat → List Int → List Int}
end
end Go.Proofs.Ytgfiniccfpfplaa
