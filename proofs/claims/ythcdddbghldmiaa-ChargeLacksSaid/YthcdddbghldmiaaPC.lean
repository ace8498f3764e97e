
import Derived.Test.YthcdddbghldmiaaPB
namespace Go.Proofs.Ythcdddbghldmiaa
set_option linter.unusedVariables false
structure Wk where
 plan : List (List Int)
 used : Nat → Int
theorem getD_set_ne {α : Type} {l : List α} {i j : Nat} {x d : α} (h : j ≠ i) : (l.set i x).getD j d = l.getD j d := by
 rw [List.getD_eq_getElem?_getD, List.getD_eq_getElem?_getD, List.getElem?_set, if_neg (fun e : i = j => h e.symm)]
end Go.Proofs.Ythcdddbghldmiaa
