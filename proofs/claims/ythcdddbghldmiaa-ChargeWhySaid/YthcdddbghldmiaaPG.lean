
import Derived.Test.YthcdddbghldmiaaPE
namespace Go.Proofs.Ythcdddbghldmiaa
set_option linter.unusedVariables false
set_option linter.unusedSimpArgs false
theorem cell_at {rs rs' : List (List Int)} {i j s : Nat} (h : rs'[i]? = rs[j]?) : cell rs' i s = cell rs j s := by
 have e : rs'.getD i [] = rs.getD j [] := by rw [List.getD_eq_getElem?_getD, List.getD_eq_getElem?_getD, h]
 unfold cell; rw [e]
def without (g : Gar) (k : Nat) : Gar := ⟨g.slots, g.buses.take k ++ g.buses.drop (k + 1)⟩
end Go.Proofs.Ythcdddbghldmiaa
