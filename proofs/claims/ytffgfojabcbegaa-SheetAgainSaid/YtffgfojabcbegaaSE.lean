
import Derived.Test.YtffgfojabcbegaaSD
import Derived.Test.YtffgfojabcbegaaTy
import Derived.Test.YtffgfojabcbegaaLayD
namespace Go.Proofs.Ytffgfojabcbegaa
open Go Go.Lay
set_option linter.unusedVariables false
set_option linter.unusedSimpArgs false
set_option maxRecDepth 20000
section
variable {σ : St}
theorem zUP (zs : List Value) : ∀ N, (xB zs N).length = N * zs.length
 | 0 => by simp [xB]
 | N + 1 => by simp [xB, zUP zs N, Nat.add_mul]; omega
theorem zRV {zs : List Value} (h : zs.all cellB = true) : ∀ N, (xB zs N).all cellB = true
 | 0 => by simp [xB]
 | N + 1 => by simp only [xB, List.all_append, zRV h N, h, Bool.and_self]
theorem yKB {α : Type} {f : α → Value} (hf : ∀ x, (f x).cells.toList.all cellB = true) (r : List α) : (wL (r.map f)).all cellB = true := by
 induction r with
 | nil => rfl
 | cons x r ih => rw [List.map_cons, show f x :: r.map f = [f x] ++ r.map f from rfl, zBS, List.all_append, ih, Bool.and_true]; simpa [wL] using hf x

end
end Go.Proofs.Ytffgfojabcbegaa
