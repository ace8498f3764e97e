import Derived.Test.YtffgfojabcbegaaVG
import Derived.Test.YtffgfojabcbegaaTy
import Derived.Test.YtffgfojabcbegaaWD

namespace Go.Proofs.Ytffgfojabcbegaa
open Go Go.Lay
set_option linter.unusedVariables false
set_option linter.unusedSimpArgs false
set_option maxRecDepth 20000
theorem yCZ {xs : List Rec} (h : xG [xs] = 0) : xs.length ≤ 60 ∧ ∀ x ∈ xs, yA x = true := by
 obtain ⟨_, h2, h3⟩ := zPX h
 exact ⟨h2 xs (by simp), h3 xs (by simp)⟩
section
variable {σ : St}
end
end Go.Proofs.Ytffgfojabcbegaa

namespace Go.Proofs.Ytffgfojabcbegaa
open Go Go.Lay
set_option linter.unusedVariables false
set_option linter.unusedSimpArgs false
set_option maxRecDepth 20000
section
variable {σ : St}
theorem codeZ_0 {xs : List Rec} (hcz : zEL [xs] = 0) : xG [xs] = 0 ∧ zIE xs = true := by
 have hflat : ([xs] : List (List Rec)).flatten = xs := by simp
 have hz : xG [xs] = 0 := by
  unfold zEL at hcz
  by_cases e : xG [xs] = 0
  ·exact e
  ·rw [if_neg e] at hcz; exact absurd hcz e
 refine ⟨hz, ?_⟩
 unfold zEL at hcz
 rw [if_pos hz, hflat] at hcz
 cases e : zIE xs with
 | true => rfl
 | false => rw [e] at hcz; cases hcz
theorem yTC {p : Option Addr} {l c : Nat} {xs : List Rec} (h : yZ σ 59 p l xs) (hl : l ≤ 1000000) : ∃ b σ7, zD Try.prog 16 [.slice p l c] σ (.slice (some ⟨b, 0, none⟩) 1 1) σ7 ∧ New σ σ7 ∧ zD Try.prog 19 [.slice (some ⟨b, 0, none⟩) 1 1] σ7 (iV (zEL [xs])) σ7 := by
 have hlen := h.len
 obtain ⟨b, σ7, k3, n3, o3, _⟩ := one_c (c := c) h
 exact ⟨b, σ7, k3, n3, fault_c (c := 1) (zAJ.single agg22 o3 (SlV.le h n3.le)) (by omega) (by intro r hr; simp at hr; subst hr; omega) (by rw [show ([xs] : List (List Rec)).flatten = xs by simp]; omega)⟩
end
end Go.Proofs.Ytffgfojabcbegaa
