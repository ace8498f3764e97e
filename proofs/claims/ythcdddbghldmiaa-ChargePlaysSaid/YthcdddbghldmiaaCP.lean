
import Derived.Test.YthcdddbghldmiaaCO
import Derived.Test.YthcdddbghldmiaaCD
namespace Go.Proofs.Ythcdddbghldmiaa
open Go Go.Lay
set_option linter.unusedVariables false
set_option linter.unusedSimpArgs false
set_option maxRecDepth 20000
section
variable {σ τ : St} {w : Nat} {g : Gar} {W : Wk} {p q pp : Option Addr} {c d cp : Nat} {B : Nat → Nat}
theorem cost_c {lp : Nat} {rs : List (List Int)} (hg : GarP σ p g.ns q g.nb g) (hr : RowsP σ pp lp rs) : ∃ z e, CallsA Try.prog 32 [.agg ⟨garL p g.ns c q g.nb d⟩, .slice pp lp cp] σ (.tuple ⟨[iV z, iV e]⟩) σ ∧
  ((checkZ g ≠ 0 ∧ z = 0 ∧ e = checkZ g) ∨ (Valid g ∧ ¬ PlanOK g rs ∧ z = 0 ∧ e = 2) ∨ (Valid g ∧ PlanOK g rs ∧ z = costZ g rs ∧ e = 0)) := by
 have N1 : New σ.re (σ.re.row (garL p g.ns c q g.nb d) 2) := New.row _ _ _
 have g1 := hg.le ((le0 σ).trans N1.le)
 have r1 := hr.le ((le0 σ).trans N1.le)
 have c0 := check_c (c := c) (d := d) g1
 by_cases hz : checkZ g = 0
 rotate_left
 ·exact ⟨0, checkZ g, (cost_ra c0 ⟨rfl, Nat.le_refl _⟩).pure, .inl ⟨hz, rfl, rfl⟩⟩
 have hv := valid_of hz
 rw [hz] at c0
 obtain ⟨b, c1, hb⟩ := planned_c (c := c) (d := d) (cp := cp) g1 r1 hv
 cases b with
 | true =>
  have hP := hb.1 rfl
  exact ⟨_, _, (cost_rb c0 c1 (sum_c g1 r1 hv hP) ⟨rfl, Nat.le_refl _⟩).pure, .inr (.inr ⟨hv, hP, rfl, rfl⟩)⟩
 | false => exact ⟨_, _, (cost_rc c0 c1 ⟨rfl, Nat.le_refl _⟩).pure, .inr (.inl ⟨hv, (fun h => by have := hb.2 h; cases this), rfl, rfl⟩)⟩
end
end Go.Proofs.Ythcdddbghldmiaa
