
import Derived.Test.YthcdddbghldmiaaPC
namespace Go.Proofs.Ythcdddbghldmiaa
set_option linter.unusedVariables false
def needI (g : Gar) (i : Nat) : Int := match g.buses[i]? with | some b => needZ b | none => 0
def rateI (g : Gar) (i s : Nat) : Int := match g.buses[i]? with | some b => if thereB b (s : Int) then b.rate else 0 | none => 0
theorem needI_eq {g : Gar} {i : Nat} {b : Bus} (h : g.buses[i]? = some b) : needI g i = needZ b := by simp [needI, h]
theorem rateI_eq {g : Gar} {i s : Nat} {b : Bus} (h : g.buses[i]? = some b) : rateI g i s = if thereB b (s : Int) then b.rate else 0 := by simp [rateI, h]
def lackF (g : Gar) (P : Nat → Bool) : Int := (sumN g.nb fun i => if P i then needI g i else 0) - sumN g.ns fun s => min (sumN g.nb fun i => if P i then rateI g i s else 0) (pwS g s)
end Go.Proofs.Ythcdddbghldmiaa
