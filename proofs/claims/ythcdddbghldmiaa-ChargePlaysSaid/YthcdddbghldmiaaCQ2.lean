
import Derived.Test.YthcdddbghldmiaaCQ
namespace Go.Proofs.Ythcdddbghldmiaa
open Go Go.Lay
set_option linter.unusedVariables false
theorem Same.gr {n0 m t n len c : Nat} {z z' : St} {p : Option Addr} {vs : List Value} (h : Same n0 z z') (k : Gr Try.prog z m t n p len c vs) : Gr Try.prog z' m t n p len c vs := by
 refine ⟨?_, k.len_eq, k.el⟩
 have h1 := k.app
 generalize flat vs = cs at h1 ⊢
 cases h1 with
 | nil => exact .nil
 | more a1 a2 a3 a4 a5 a6 a7 => exact .more (by rw [h.get _ a4 (fun _ _ _ _ _ _ _ e => by rw [a1] at e; cases e)]; exact a1) a2 a3 (Nat.lt_of_lt_of_le a4 h.next) a5 a6 a7
end Go.Proofs.Ythcdddbghldmiaa
