
import Derived.Test.YthcdddbghldmiaaCO
import Derived.Test.YthcdddbghldmiaaCC
import Derived.Test.YthcdddbghldmiaaPA
import Derived.Test.YthcdddbghldmiaaCJ
import Derived.Test.YthcdddbghldmiaaCV
import Derived.Test.YthcdddbghldmiaaPG
namespace Go.Proofs.Ythcdddbghldmiaa
open Go Go.Lay
set_option linter.unusedVariables false
set_option linter.unusedSimpArgs false
set_option maxRecDepth 20000
section
variable {σ τ : St} {g : Gar} {p q pp : Option Addr} {l c m d n lp : Nat} {rs : List (List Int)} {vs : List Value}
theorem best_v (hg : GarP σ p g.ns q g.nb g) (hz : checkZ g = 0) : ∃ pl l cl σ' z e rs, CallsA Try.prog 18 [.agg ⟨garL p g.ns c q g.nb d⟩] σ (.tuple ⟨[.slice pl l cl, iV z, iV e]⟩) σ' ∧ New σ σ' ∧ RowsP σ' pl l rs ∧ l ≤ 5 ∧ (∀ r ∈ rs, r.length ≤ 12) ∧
  ((e = 9 ∧ z = 0 ∧ pl = none ∧ l = 0 ∧ ∀ rs, ¬ PlanOK g rs) ∨ (e = 0 ∧ PlanOK g rs ∧ z = costZ g rs ∧ ∀ rs, PlanOK g rs → z ≤ costZ g rs)) := by
 obtain ⟨pl, l, cl, σ', z, e, h1, h2, h3⟩ := Best_c (c := c) (d := d) hg
 rcases h3 with ⟨h, _⟩ | ⟨_, rfl, rfl, rfl, rfl, rfl, P, hP⟩ | ⟨hv, rfl, W, hG, hn, hr, rfl⟩
 ·exact absurd hz h
 ·exact ⟨_, _, _, _, _, _, [], h1, h2, ⟨[], ⟨SlP.nil _ _, rfl, by simp⟩, rfl, by simp⟩, by omega, by simp, .inl ⟨rfl, rfl, rfl, rfl, fun rs h => by have := plan_lack h P; omega⟩⟩
 ·have hl := hr.len
  have h1' := hv.ns; have h2' := hv.nb
  refine ⟨_, _, _, _, _, _, W.plan, h1, h2, hr, by rw [← hl, hG.feas.len]; exact h2', fun r hr => by rw [hG.feas.row r hr]; exact h1', .inr ⟨rfl, hG.feas.plan hn, rfl, fun rs h => ?_⟩⟩
  obtain ⟨π, hp, _⟩ := hG.pot
  exact best_least hv hG.feas hp hn h
theorem Valid.check (h : Valid g) : checkZ g = 0 := by
 have h1 := h.ns; have h2 := h.nb
 have h3 : g.slots.all slotB = true := List.all_eq_true.2 h.slot
 have h4 : g.buses.all busB = true := List.all_eq_true.2 h.bus
 unfold checkZ
 rw [if_neg (by show ¬ (12 < g.ns ∨ 5 < g.nb); omega), h3, h4]; rfl
theorem RefP.lta (h : RefP σ p l q m g) : ∀ a, p = some a → a.block < σ.next := slv_lt h.sl
theorem RefP.ltb (h : RefP σ p l q m g) : ∀ a, q = some a → a.block < σ.next := slv_lt h.bu
end
end Go.Proofs.Ythcdddbghldmiaa
