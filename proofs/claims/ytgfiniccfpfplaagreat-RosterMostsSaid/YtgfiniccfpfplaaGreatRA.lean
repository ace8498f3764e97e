
import Derived.Test.YtgfiniccfpfplaaGreatTy
import Derived.Test.YtgfiniccfpfplaaGreatLayD
namespace Go.Proofs.YtgfiniccfpfplaaGreat
open Go Go.Lay
set_option linter.unusedVariables false
set_option linter.unusedSimpArgs false
set_option maxRecDepth 20000
structure Rec where
 k:Int
 a:Int
 b:Int
 deriving DecidableEq,Inhabited
abbrev yC (n:Int):Value:=iV n
abbrev recL (x:Rec):List Value:=rcd x.k x.a x.b
def inB (n lo hi:Int):Bool:=decide (lo≤n) && decide (n≤hi)
theorem zBT {n lo hi:Int}:inB n lo hi=true↔lo≤n∧n≤hi:=by simp [inB]
theorem yAA {n lo hi:Int}:inB n lo hi=false↔¬ (lo≤n∧n≤hi):=by rw [← Bool.not_eq_true,zBT]
theorem vS {α:Type} {xs:List α} {i:Nat} {x:α} (h:xs[i]?=some x):xs.take (i+1)=xs.take i++[x]:=by
 rw [List.take_add_one,h];rfl
theorem le0 (σ:St):Le σ σ.re:=Le.re' (Le.refl _)
end Go.Proofs.YtgfiniccfpfplaaGreat
