
import Derived.Test.YtffgfojabcbegaaWF
import Derived.Test.YtffgfojabcbegaaWE
import Derived.Test.YtffgfojabcbegaaXP
namespace Go.Proofs.Ytffgfojabcbegaa
open Go Go.Lay
set_option linter.unusedVariables false
set_option linter.unusedSimpArgs false
set_option maxRecDepth 20000
section
variable {σ : St}
theorem ready_c {p : Option Addr} {l c : Nat} {xs : List Rec} (h : yZ σ 59 p l xs) : zD Try.prog 26 [.slice p l c] σ (.bool (decide (l ≤ 60) && decide (zEL [xs] = 0))) σ := by
 by_cases h60 : l ≤ 60
 ·obtain ⟨b, σ7, k3, n3, k4⟩ := yTC (c := c) (SlV.le h (le0 σ)) (by omega)
  by_cases hz : zEL [xs] = 0
  ·rw [decide_eq_true h60, decide_eq_true hz]
   exact zK.pure (yWY k3 k4 ⟨rfl, n3.lw⟩ (by omega) hz)
  ·rw [decide_eq_true h60, decide_eq_false hz]
   exact zK.pure (yWX k3 k4 ⟨rfl, n3.lw⟩ (by omega) hz)
 ·rw [decide_eq_false h60]
  exact zK.pure (yWW ⟨rfl, Nat.le_refl _⟩ (by omega))
end
end Go.Proofs.Ytffgfojabcbegaa
