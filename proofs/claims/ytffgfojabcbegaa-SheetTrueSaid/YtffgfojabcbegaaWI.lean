
import Derived.Test.YtffgfojabcbegaaWG
import Derived.Test.YtffgfojabcbegaaTy
namespace Go.Proofs.Ytffgfojabcbegaa
open Go Go.Lay
set_option linter.unusedVariables false
set_option linter.unusedSimpArgs false
set_option maxRecDepth 20000
theorem fault_of {xs : List Rec} (hl : xs.length ≤ 60) (hr : ∀ x ∈ xs, zZ x = true) : xD [xs] = 0 := by
 rw [faultZ_one, if_neg (by omega), if_pos (List.all_eq_true.2 hr)]
theorem log_self {l : List Rec} (hs : Srt l) (hc : vJ l) : xJ l = l := (logL_eq hc hs fun _ => Iff.rfl).symm
theorem byte_right {xs : List Rec} (hr : ∀ x ∈ xs, zZ x = true) : ∀ x ∈ xs, Byte x := fun x hx => by
 have := zEY (hr x hx)
 unfold Byte; omega
section
variable {σ σ8 : St}
end
end Go.Proofs.Ytffgfojabcbegaa
