
import Derived.Test.YtffgfojabcbegaaSD
import Derived.Test.YtffgfojabcbegaaTy
import Derived.Test.YtffgfojabcbegaaLayD
namespace Go.Proofs.Ytffgfojabcbegaa
open Go Go.Lay
set_option linter.unusedVariables false
set_option linter.unusedSimpArgs false
set_option maxRecDepth 20000
section
variable {σ : St}
theorem zerosA_len (zs : List Value) : ∀ N, (yS zs N).length = N * zs.length
 | 0 => by simp [yS]
 | N + 1 => by simp [yS, zerosA_len zs N, Nat.add_mul]; omega
theorem zerosA_cell {zs : List Value} (h : zs.all cellB = true) : ∀ N, (yS zs N).all cellB = true
 | 0 => by simp [yS]
 | N + 1 => by simp only [yS, List.all_append, zerosA_cell h N, h, Bool.and_self]
theorem flat_all {α : Type} {f : α → Value} (hf : ∀ x, (f x).cells.toList.all cellB = true) (r : List α) : (zAE (r.map f)).all cellB = true := by
 induction r with
 | nil => rfl
 | cons x r ih => rw [List.map_cons, show f x :: r.map f = [f x] ++ r.map f from rfl, zFX, List.all_append, ih, Bool.and_true]; simpa [zAE] using hf x

end
end Go.Proofs.Ytffgfojabcbegaa
