
import Derived.Test.YthcdddbghldmiaaCC
import Derived.Test.YthcdddbghldmiaaXB
namespace Go.Proofs.Ythcdddbghldmiaa
open Go Go.Lay
set_option linter.unusedVariables false
set_option linter.unusedSimpArgs false
set_option maxRecDepth 20000
section
variable {σ τ : St} {g : Gar} {p q pp : Option Addr} {l c m d lp cp : Nat} {rs : List (List Int)}
theorem ready_c (h : RefP σ p l q m g) : CallsA Try.prog 25 [.agg ⟨garL p l c q m d⟩] σ (.bool (decide (l ≤ 15) && decide (m ≤ 8) && decide (checkZ g = 0))) σ := by
 have h1 := h.le ((le0 σ).trans (Le.row _ (garL p l c q m d) 2))
 have c1 := thin_c (σ := σ.re.row (garL p l c q m d) 2) (p := p) (l := l) (c := c) (q := q) (m := m) (d := d)
 have c2 := rFault_c (c := c) (d := d) h1
 cases ht : (decide (l ≤ 15) && decide (m ≤ 8)) with
 | false => rw [ht] at c1; exact (ready_rc c1 ⟨by simp, Nat.le_refl _⟩).pure
 | true =>
  rw [ht] at c1
  by_cases hz : checkZ g = 0
  ·rw [hz] at c2 ⊢; exact (ready_ra c1 c2 ⟨by simp, Nat.le_refl _⟩).pure
  ·exact (ready_rb c1 c2 ⟨by simp [hz], Nat.le_refl _⟩ hz).pure
end
end Go.Proofs.Ythcdddbghldmiaa
