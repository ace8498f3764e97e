
import Derived.Test.YtmdopblmkkameaaRN
namespace Go.Proofs.Ytmdopblmkkameaa
open Go Go.Lay
set_option linter.unusedVariables false
set_option linter.unusedSimpArgs false
set_option maxRecDepth 20000
section
variable {t : Tab} {ws : List Int}
end
section
variable {σ : St} {t : Tab} {pe pt : Option Addr} {le ce lt ct : Nat}
theorem aB_nil {i : Nat} : aB t (-1) [] i = true := rfl
theorem allL_nil {n : Nat} : (allL t (-1) [] n).length = n := by
 have e : allL t (-1) [] n = List.range n := List.filter_eq_self.2 (fun a _ => aB_nil)
 rw [e, List.length_range]
theorem ints_none : IntsP σ none 0 [] := ⟨SlP.nil _ _, rfl, by simp⟩
end
end Go.Proofs.Ytmdopblmkkameaa
