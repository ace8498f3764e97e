
import Derived.Test.YtffgfojabcbegaaSD
import Derived.Test.YtffgfojabcbegaaTy
import Derived.Test.YtffgfojabcbegaaLayD
namespace Go.Proofs.Ytffgfojabcbegaa
open Go Go.Lay
set_option linter.unusedVariables false
set_option linter.unusedSimpArgs false
set_option maxRecDepth 20000
section
variable {σ : St}
theorem zSM (zs : List Value) : ∀ N, (yT zs N).length = N * zs.length
 | 0 => by simp [yT]
 | N + 1 => by simp [yT, zSM zs N, Nat.add_mul]; omega
theorem zQC {zs : List Value} (h : zs.all cellB = true) : ∀ N, (yT zs N).all cellB = true
 | 0 => by simp [yT]
 | N + 1 => by simp only [yT, List.all_append, zQC h N, h, Bool.and_self]
theorem yHL {α : Type} {f : α → Value} (hf : ∀ x, (f x).cells.toList.all cellB = true) (r : List α) : (zAI (r.map f)).all cellB = true := by
 induction r with
 | nil => rfl
 | cons x r ih => rw [List.map_cons, show f x :: r.map f = [f x] ++ r.map f from rfl, zDZ, List.all_append, ih, Bool.and_true]; simpa [zAI] using hf x

end
end Go.Proofs.Ytffgfojabcbegaa
