
import Derived.Test.YtffgfojabcbegaaSD
import Derived.Test.YtffgfojabcbegaaTy
import Derived.Test.YtffgfojabcbegaaLayD
namespace Go.Proofs.Ytffgfojabcbegaa
open Go Go.Lay
set_option linter.unusedVariables false
set_option linter.unusedSimpArgs false
set_option maxRecDepth 20000
section
variable {σ : St}
theorem zTB (zs : List Value) : ∀ N, (yZ zs N).length = N * zs.length
 | 0 => by simp [yZ]
 | N + 1 => by simp [yZ, zTB zs N, Nat.add_mul]; omega
theorem zQM {zs : List Value} (h : zs.all cellB = true) : ∀ N, (yZ zs N).all cellB = true
 | 0 => by simp [yZ]
 | N + 1 => by simp only [yZ, List.all_append, zQM h N, h, Bool.and_self]
theorem yHL {α : Type} {f : α → Value} (hf : ∀ x, (f x).cells.toList.all cellB = true) (r : List α) : (xH (r.map f)).all cellB = true := by
 induction r with
 | nil => rfl
 | cons x r ih => rw [List.map_cons, show f x :: r.map f = [f x] ++ r.map f from rfl, uH, List.all_append, ih, Bool.and_true]; simpa [xH] using hf x

end
end Go.Proofs.Ytffgfojabcbegaa
