
import Derived.Test.YtffgfojabcbegaaTy
import Derived.Test.YtffgfojabcbegaaLayD
import Derived.Test.YtffgfojabcbegaaSI
namespace Go.Proofs.Ytffgfojabcbegaa
open Go Go.Lay
set_option linter.unusedVariables false
set_option linter.unusedSimpArgs false
set_option maxRecDepth 20000
theorem ins_len {x : Rec} : ∀ {l : List Rec}, (insR x l).length = l.length + 1
 | [] => rfl
 | y :: ys => by
  unfold insR
  split
  ·rfl
  ·rw [List.length_cons, ins_len]; rfl
theorem fold_len : ∀ {l o : List Rec}, (l.foldl step o).length ≤ o.length + l.length
 | [], o => Nat.le_refl _
 | x :: xs, o => by
  rw [List.foldl_cons]
  have h := fold_len (l := xs) (o := step o x)
  have h2 : (step o x).length ≤ o.length + 1 := by
   unfold step
   split
   ·omega
   ·rw [ins_len]; exact Nat.le_refl _
  rw [List.length_cons]; omega
theorem logL_len {l : List Rec} : (logL l).length ≤ l.length := by
 have := fold_len (l := l) (o := [])
 unfold logL; simpa using this
section
variable {σ : St}
end
end Go.Proofs.Ytffgfojabcbegaa
