
import Derived.Test.YthcdddbghldmiaaCB
namespace Go.Proofs.Ythcdddbghldmiaa
open Go Go.Lay
set_option linter.unusedVariables false
section
variable {σ : St} {t n : Nat} {a : Addr} {v : Value} {vs : List Value}
theorem LT (h : a.block < n := by
  first
  | assumption
  | omega
  | (dsimp only [aadd_blk, St.row_next, St.own_next]; first | assumption | omega)
  | exact Own.lt (by assumption)
  | exact slv_lt (by assumption) _ rfl
  | exact Nat.lt_succ_of_lt (Own.lt (by assumption))
  | exact Nat.lt_succ_of_lt (slv_lt (by assumption) _ rfl)) : a.block < n := h
end
end Go.Proofs.Ythcdddbghldmiaa
