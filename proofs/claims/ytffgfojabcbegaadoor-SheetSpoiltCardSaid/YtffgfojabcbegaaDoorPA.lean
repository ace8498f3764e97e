
namespace Go.Proofs.YtffgfojabcbegaaDoor
structure Rec where
 m : Int
 s : Int
 t : Int
 k : Int
 a : Int
 b : Int
 deriving DecidableEq, Inhabited
def keyLt (x y : Rec) : Prop := x.m < y.m ∨ (x.m = y.m ∧ x.s < y.s)
instance (x y : Rec) : Decidable (keyLt x y) := by unfold keyLt; infer_instance
def insR (x : Rec) : List Rec → List Rec
 | [] => [x]
 | y :: ys => if keyLt x y then x :: y :: ys else y :: insR x ys
def step (o : List Rec) (x : Rec) : List Rec := if x ∈ o then o else insR x o
end Go.Proofs.YtffgfojabcbegaaDoor
