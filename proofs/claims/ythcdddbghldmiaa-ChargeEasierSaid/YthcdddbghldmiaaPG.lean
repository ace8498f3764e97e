
import Derived.Test.YthcdddbghldmiaaPE
namespace Go.Proofs.Ythcdddbghldmiaa
set_option linter.unusedVariables false
set_option linter.unusedSimpArgs false
theorem cell_at {rs rs' : List (List Int)} {i j s : Nat} (h : rs'[i]? = rs[j]?) : cell rs' i s = cell rs j s := by
 have e : rs'.getD i [] = rs.getD j [] := by rw [List.getD_eq_getElem?_getD, List.getD_eq_getElem?_getD, h]
 unfold cell; rw [e]
def without (g : Gar) (k : Nat) : Gar := ⟨g.slots, g.buses.take k ++ g.buses.drop (k + 1)⟩
theorem plan_mono {g x : Gar} {rs : List (List Int)} (hns : x.ns = g.ns) (hnb : x.nb = g.nb) (hb : ∀ (i : Nat) (b b' : Bus), g.buses[i]? = some b → x.buses[i]? = some b' → b.rate ≤ b'.rate ∧ needZ b' ≤ needZ b ∧ ∀ s : Nat, thereB b s = true → thereB b' s = true)
  (hpw : ∀ s, pwS g s ≤ pwS x s) (hpr : ∀ s, prS x s ≤ prS g s) (hP : PlanOK g rs) : PlanOK x rs ∧ costZ x rs ≤ costZ g rs := by
 have at_ : ∀ (i : Nat) (b' : Bus), x.buses[i]? = some b' → ∃ b, g.buses[i]? = some b := fun i b' h => by
  have hi : i < x.nb := (List.getElem?_eq_some_iff.1 h).1
  exact bus_at (by omega)
 refine ⟨⟨by rw [hP.len, hnb], fun r hr => by rw [hP.row r hr, hns], fun i b' h s hs => ?_, fun i b' h => ?_, fun s hs => ?_⟩, ?_⟩
 ·obtain ⟨b, hg⟩ := at_ i b' h
  have h1 := hP.cap i b hg s (by omega)
  have h2 := hb i b b' hg h
  exact ⟨h1.1, by omega, fun h3 => h2.2.2 s (h1.2.2 h3)⟩
 ·obtain ⟨b, hg⟩ := at_ i b' h
  have h1 := hP.need i b hg
  have h2 := hb i b b' hg h
  rw [hns]; omega
 ·have := hP.pow s (by omega)
  have := hpw s
  rw [hnb]; omega
 ·unfold costZ
  rw [hns, hnb]
  refine sumN_le (fun i hi => sumN_le (fun s hs => ?_))
  obtain ⟨b, hg⟩ := bus_at hi
  exact Int.mul_le_mul_of_nonneg_left (hpr s) (hP.cap i b hg s hs).1
end Go.Proofs.Ythcdddbghldmiaa
