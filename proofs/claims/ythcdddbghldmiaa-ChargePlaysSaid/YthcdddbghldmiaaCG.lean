
import Derived.Test.YthcdddbghldmiaaCF
namespace Go.Proofs.Ythcdddbghldmiaa
open Go Go.Lay
set_option linter.unusedVariables false
set_option linter.unusedSimpArgs false
set_option maxRecDepth 20000
section
variable {σ τ : St} {w : Nat} {g : Gar} {W : Wk} {p q pp : Option Addr} {c d cp : Nat} {B : Nat → Nat}
theorem gr_not_defd {σ : St} {n0 t n len c m : Nat} {po : Option Addr} {vs : List Value} (h : Gr Try.prog σ n0 t n po len c vs) (hm : getB σ.heap m = some .defd) : ¬ AtP po m := by
 rintro ⟨a, e, rfl⟩
 subst e
 have h1 := h.app
 generalize flat vs = cs at h1
 cases h1 with
 | more k1 => rw [hm] at k1; cases k1
end
end Go.Proofs.Ythcdddbghldmiaa
