import Derived.Test.YtgfiniccfpfplaaGreatPB

namespace Go.Proofs.YtgfiniccfpfplaaGreat
set_option linter.unusedVariables false
set_option linter.unusedSimpArgs false
section
variable {w x : Wk} {ros ros' tru tru' : Nat → Int}
theorem yDN {k D i : Nat} (h : xW w ros k D = some i) : i < w.duties.length ∧ ros i = (k : Int) ∧ (dty w i).day = (D : Int) :=
 zQY.1 (List.mem_of_mem_head? h)
section
variable {f : Nat → Nat}
end
end
end Go.Proofs.YtgfiniccfpfplaaGreat

namespace Go.Proofs.YtgfiniccfpfplaaGreat
set_option linter.unusedVariables false
set_option linter.unusedSimpArgs false
def moreL : List Int → List Int → Bool
 | a :: l, b :: m => if a = b then moreL l m else decide (b < a)
 | _, _ => false
def pick (out : Option (List Int × List Int)) (a v : List Int) : Option (List Int × List Int) :=
 match out with
 | none => some (a, v)
 | some (b, u) => if moreL v u then some (a, v) else some (b, u)
section
variable (w : Wk) (leaves : Bool) (wf : Nat → List Int → List Int)
def upd (st : Nat → Std) (k : Nat) (s : Std) : Nat → Std := fun j => if j = k then s else st j
end
section
variable {w : Wk} {leaves : Bool} {wf : Nat → List Int → List Int}
end
end Go.Proofs.YtgfiniccfpfplaaGreat

namespace Go.Proofs.YtgfiniccfpfplaaGreat
set_option linter.unusedVariables false
set_option linter.unusedSimpArgs false
section
variable {w : Wk} {D : Nat} {s t : Std} {d : Dty}
end
structure Val (w : Wk) (n : Nat) : Prop extends Days w n where
 on : ∀ i, i < w.duties.length → 0 ≤ (dty w i).on ∧ (dty w i).on ≤ (dty w i).hi
 used : ∀ k, k < w.drivers.length → (drv w k).used ≤ w.hours
section
variable {w : Wk} {leaves : Bool} {wf : Nat → List Int → List Int} {ros : Nat → Int}
end
end Go.Proofs.YtgfiniccfpfplaaGreat
