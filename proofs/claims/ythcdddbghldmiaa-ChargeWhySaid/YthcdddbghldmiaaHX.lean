
import Derived.Test.YthcdddbghldmiaaCB
namespace Go.Proofs.Ythcdddbghldmiaa
open Go Go.Lay
set_option linter.unusedVariables false
section
variable {σ : St} {t n : Nat} {a : Addr} {v : Value} {vs : List Value}
theorem ST {τ : St} {b k m : Nat} {cs ds : List Value} (h : Own σ b cs m) (hv : v.cells.toList = [v] := by rfl) (hs : sizeT Try.prog t = some 1 := by kernel_rfl) (hc : cellB v = true := by rfl) (hk : k < cs.length := by simp) (hd : cs.take k ++ ([v] ++ cs.drop (k + 1)) = ds := by rfl) (hτ : τ = σ.own b ds m := by rfl) :
  effOp Try.prog (evL [.pointer (some ⟨b, k, none⟩), v]) σ (.store t (.tmp 0) (.tmp 1)) = some (undef, τ) := by
 subst hτ; exact h.store hv hs (by simp [hc]) hk hd
end
end Go.Proofs.Ythcdddbghldmiaa
