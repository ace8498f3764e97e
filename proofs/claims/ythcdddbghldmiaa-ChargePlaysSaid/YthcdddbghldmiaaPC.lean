
import Derived.Test.YthcdddbghldmiaaPB
namespace Go.Proofs.Ythcdddbghldmiaa
set_option linter.unusedVariables false
structure Wk where
 plan : List (List Int)
 used : Nat → Int
def wayB (g : Gar) (W : Wk) (i : Nat) (b : Bus) (s : Nat) : List Wy := [⟨.bus i, .slot s, b.rate - cell W.plan i s, prS g s⟩, ⟨.slot s, .bus i, cell W.plan i s, 0 - prS g s⟩]
def wayS (g : Gar) (W : Wk) (s : Nat) : List Wy := [⟨.slot s, .grid, pwS g s - W.used s, 0⟩, ⟨.grid, .slot s, W.used s, 0⟩]
def posW (l : List Wy) : List Wy := l.filter fun x => decide (0 < x.rest)
def waysI (g : Gar) (W : Wk) (i : Nat) (b : Bus) (n : Nat) : List Wy := ((List.range n).filter fun s : Nat => thereB b (s : Int)).flatMap fun s => posW (wayB g W i b s)
def waysU (g : Gar) (W : Wk) (k : Nat) : List Wy := (g.buses.take k).zipIdx.flatMap fun b => waysI g W b.2 b.1 g.ns
def waysV (g : Gar) (W : Wk) (k : Nat) : List Wy := (List.range k).flatMap fun s => posW (wayS g W s)
def waysM (g : Gar) (W : Wk) : List Wy := waysU g W g.nb ++ waysV g W g.ns
structure Feas (g : Gar) (W : Wk) : Prop where
 len : W.plan.length = g.nb
 row : ∀ r ∈ W.plan, r.length = g.ns
 cap : ∀ (i : Nat) (b : Bus), g.buses[i]? = some b → ∀ s, s < g.ns → 0 ≤ cell W.plan i s ∧ cell W.plan i s ≤ b.rate ∧ (0 < cell W.plan i s → thereB b (s : Int) = true)
 use : ∀ s, s < g.ns → W.used s = sumN g.nb fun i => cell W.plan i s
 pow : ∀ s, s < g.ns → W.used s ≤ pwS g s
 zero : ∀ s, g.ns ≤ s → W.used s = 0
theorem getD_set_ne {α : Type} {l : List α} {i j : Nat} {x d : α} (h : j ≠ i) : (l.set i x).getD j d = l.getD j d := by
 rw [List.getD_eq_getElem?_getD, List.getD_eq_getElem?_getD, List.getElem?_set, if_neg (fun e : i = j => h e.symm)]
end Go.Proofs.Ythcdddbghldmiaa
