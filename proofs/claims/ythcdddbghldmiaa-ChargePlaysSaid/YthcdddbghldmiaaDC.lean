
import Derived.Test.YthcdddbghldmiaaCC
import Derived.Test.YthcdddbghldmiaaXB
namespace Go.Proofs.Ythcdddbghldmiaa
open Go Go.Lay
set_option linter.unusedVariables false
set_option linter.unusedSimpArgs false
set_option maxRecDepth 20000
section
variable {σ τ : St} {g : Gar} {p q pp : Option Addr} {l c m d lp cp : Nat} {rs : List (List Int)}
theorem short_cases (h : RowsP σ p l rs) : CallsA Try.prog 31 [.slice p l c] σ (.bool false) σ ∨ (l ≤ 8 ∧ (∀ r ∈ rs, r.length ≤ 15) ∧ CallsA Try.prog 31 [.slice p l c] σ (.bool true) σ) := by
 rcases short_c (c := c) h with h1 | h1
 ·cases hb : (decide (l ≤ 8) && rs.all fun r => decide (r.length ≤ 15)) with
  | false => rw [hb] at h1; exact .inl h1
  | true =>
   rw [hb] at h1
   simp only [Bool.and_eq_true, decide_eq_true_eq, List.all_eq_true] at hb
   exact .inr ⟨hb.1, hb.2, h1⟩
 ·exact .inl h1.2
end
end Go.Proofs.Ythcdddbghldmiaa
