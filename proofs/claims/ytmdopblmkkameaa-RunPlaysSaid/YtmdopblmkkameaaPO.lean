
import Derived.Test.YtmdopblmkkameaaPM
namespace Go.Proofs.Ytmdopblmkkameaa
set_option linter.unusedVariables false
theorem IsMax.mono {n a b : Nat} {E F : Nat → Nat → Prop} (h : IsMax n E a) (k : IsMax n F b) (hE : ∀ i k, i < n → k < n → E i k → F i k) : a ≤ b := by
 obtain ⟨nx, bf, h1, rfl⟩ := h.at_
 exact k.le nx bf ⟨fun k' hk hb => by obtain ⟨i, g1, g2, g3, g4⟩ := h1.b1 k' hk hb; exact ⟨i, g1, g2, hE i k' g1 hk g3, g4⟩, h1.n1⟩
end Go.Proofs.Ytmdopblmkkameaa
