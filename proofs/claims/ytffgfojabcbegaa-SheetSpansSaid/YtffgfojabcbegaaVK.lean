
import Derived.Test.YtffgfojabcbegaaVG
import Derived.Test.YtffgfojabcbegaaUS
import Derived.Test.YtffgfojabcbegaaTy
namespace Go.Proofs.Ytffgfojabcbegaa
open Go Go.Lay
set_option linter.unusedVariables false
set_option linter.unusedSimpArgs false
set_option maxRecDepth 20000
theorem faultZ_right {xs : List Rec} (h : faultZ [xs] = 0) : xs.length ≤ 60 ∧ ∀ x ∈ xs, rightB x = true := by
 obtain ⟨_, h2, h3⟩ := faultZ_ok h
 exact ⟨h2 xs (by simp), h3 xs (by simp)⟩
section
variable {σ : St}
end
end Go.Proofs.Ytffgfojabcbegaa
