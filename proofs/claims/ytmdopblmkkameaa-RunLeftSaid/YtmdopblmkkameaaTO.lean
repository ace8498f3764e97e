
import Derived.Test.YtmdopblmkkameaaTN
import Derived.Test.YtmdopblmkkameaaRP
import Derived.Test.YtmdopblmkkameaaTy
import Derived.Test.YtmdopblmkkameaaPS
namespace Go.Proofs.Ytmdopblmkkameaa
open Go Go.Lay
set_option linter.unusedVariables false
set_option linter.unusedSimpArgs false
set_option maxRecDepth 20000
section
variable {σ : St} {t : Tab} {pe pt : Option Addr} {le ce lt ct : Nat}
theorem aB_mns {x : List Nat} {i : Nat} : aB t (-1) (wI x) i = mns (fun _ => true) x i := by
  rw [aB_all]
  unfold mns
  rw [Bool.true_and]
  by_cases h : i ∈ x
  · rw [decide_eq_false (by simpa using h)]
    rw [Bool.eq_false_iff]
    intro hh
    have := List.all_eq_true.1 hh (i : Int) (List.mem_map.2 ⟨i, h, rfl⟩)
    simp at this
  · rw [decide_eq_true h]
    refine List.all_eq_true.2 fun w hw => ?_
    obtain ⟨y, hy, rfl⟩ := List.mem_map.1 hw
    exact decide_eq_true fun e => h (by have : y = i := by omega
                                        rw [← this]; exact hy)
end
end Go.Proofs.Ytmdopblmkkameaa
