
import Derived.Test.YtffgfojabcbegaaPA
namespace Go.Proofs.Ytffgfojabcbegaa
set_option linter.unusedVariables false
def pLo (d rate : Int) : Int := (d * (1000 - rate)).tdiv 1000
def pHi (d rate : Int) : Int := (d * (1000 + rate) + 999).tdiv 1000
def uG (rate : Int) (r s : Rec) : Int × Int :=
 if s = r then (s.a, s.a) else if s.s < r.s then (s.a + pLo (r.t - s.t) rate, s.a + pHi (r.t - s.t) rate) else (s.a - pHi (s.t - r.t) rate, s.a - pLo (s.t - r.t) rate)
def cutW (w x : Int × Int) : Int × Int := (max w.1 x.1, min w.2 x.2)
def zFM (rate : Int) (r : Rec) (w : Int × Int) (s : Rec) : Int × Int := if s.m = r.m ∧ s.k = 1 then cutW w (uG rate r s) else w
def xI (L : List Rec) (rate : Int) (r : Rec) : Int × Int := L.foldl (zFM rate r) (0, 1000000)
def okW (w : Int × Int) : Bool := decide (w.1 ≤ w.2)
def zAU (L : List Rec) (rate : Int) : Option (List (Int × Int)) := if L.all (fun r => okW (xI L rate r)) then some (L.map (xI L rate)) else none
structure Cnt where
 s : Int
 a : Int
 b : Int
 sales : Int
 coins : Int
 len : Int
 deriving DecidableEq
def c0 : Cnt := ⟨0, 0, 0, 0, 0, 0⟩
structure Lk where
 m : Int
 f : Int
 t : Int
 sales : Int
 coins : Int
 deriving DecidableEq
end Go.Proofs.Ytffgfojabcbegaa
