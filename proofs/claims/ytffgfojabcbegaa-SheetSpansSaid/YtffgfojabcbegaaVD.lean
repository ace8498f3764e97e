import Derived.Test.YtffgfojabcbegaaPA
import Derived.Test.YtffgfojabcbegaaUN
import Derived.Test.YtffgfojabcbegaaTy

namespace Go.Proofs.Ytffgfojabcbegaa
set_option linter.unusedVariables false
def pLo (d rate : Int) : Int := (d * (1000 - rate)).tdiv 1000
def pHi (d rate : Int) : Int := (d * (1000 + rate) + 999).tdiv 1000
def winOf (rate : Int) (r s : Rec) : Int × Int :=
 if s = r then (s.a, s.a) else if s.s < r.s then (s.a + pLo (r.t - s.t) rate, s.a + pHi (r.t - s.t) rate) else (s.a - pHi (s.t - r.t) rate, s.a - pLo (s.t - r.t) rate)
def cutW (w x : Int × Int) : Int × Int := (max w.1 x.1, min w.2 x.2)
def cutS (rate : Int) (r : Rec) (w : Int × Int) (s : Rec) : Int × Int := if s.m = r.m ∧ s.k = 1 then cutW w (winOf rate r s) else w
def spanOf (L : List Rec) (rate : Int) (r : Rec) : Int × Int := L.foldl (cutS rate r) (0, 1000000)
def okW (w : Int × Int) : Bool := decide (w.1 ≤ w.2)
def spansOf (L : List Rec) (rate : Int) : Option (List (Int × Int)) := if L.all (fun r => okW (spanOf L rate r)) then some (L.map (spanOf L rate)) else none
structure Cnt where
 s : Int
 a : Int
 b : Int
 sales : Int
 coins : Int
 len : Int
 deriving DecidableEq
def c0 : Cnt := ⟨0, 0, 0, 0, 0, 0⟩
structure Lk where
 m : Int
 f : Int
 t : Int
 sales : Int
 coins : Int
 deriving DecidableEq
end Go.Proofs.Ytffgfojabcbegaa

namespace Go.Proofs.Ytffgfojabcbegaa
open Go Go.Lay
set_option linter.unusedVariables false
set_option linter.unusedSimpArgs false
set_option maxRecDepth 20000
def Bd (x : Rec) : Prop := (0 ≤ x.s ∧ x.s ≤ 10000000) ∧ (0 ≤ x.a ∧ x.a ≤ 10000000) ∧ (0 ≤ x.b ∧ x.b ≤ 10000000)
theorem bd_right {x : Rec} (h : rightB x = true) : Bd x := by
 have := rightB_iff h
 unfold Bd; omega
section
variable {σ : St}
end
end Go.Proofs.Ytffgfojabcbegaa
