import Derived.Test.YtffgfojabcbegaaVG
import Derived.Test.YtffgfojabcbegaaTy
import Derived.Test.YtffgfojabcbegaaWD

namespace Go.Proofs.Ytffgfojabcbegaa
open Go Go.Lay
set_option linter.unusedVariables false
set_option linter.unusedSimpArgs false
set_option maxRecDepth 20000
theorem faultZ_right {xs : List Rec} (h : xD [xs] = 0) : xs.length ≤ 60 ∧ ∀ x ∈ xs, zZ x = true := by
 obtain ⟨_, h2, h3⟩ := faultZ_ok h
 exact ⟨h2 xs (by simp), h3 xs (by simp)⟩
section
variable {σ : St}
end
end Go.Proofs.Ytffgfojabcbegaa

namespace Go.Proofs.Ytffgfojabcbegaa
open Go Go.Lay
set_option linter.unusedVariables false
set_option linter.unusedSimpArgs false
set_option maxRecDepth 20000
section
variable {σ : St}
theorem codeZ_0 {xs : List Rec} (hcz : zDY [xs] = 0) : xD [xs] = 0 ∧ zHP xs = true := by
 have hflat : ([xs] : List (List Rec)).flatten = xs := by simp
 have hz : xD [xs] = 0 := by
  unfold zDY at hcz
  by_cases e : xD [xs] = 0
  ·exact e
  ·rw [if_neg e] at hcz; exact absurd hcz e
 refine ⟨hz, ?_⟩
 unfold zDY at hcz
 rw [if_pos hz, hflat] at hcz
 cases e : zHP xs with
 | true => rfl
 | false => rw [e] at hcz; cases hcz
theorem one_fault {p : Option Addr} {l c : Nat} {xs : List Rec} (h : yZ σ 59 p l xs) (hl : l ≤ 1000000) : ∃ b σ7, zD Try.prog 16 [.slice p l c] σ (.slice (some ⟨b, 0, none⟩) 1 1) σ7 ∧ New σ σ7 ∧ zD Try.prog 19 [.slice (some ⟨b, 0, none⟩) 1 1] σ7 (iV (zDY [xs])) σ7 := by
 have hlen := h.len
 obtain ⟨b, σ7, k3, n3, o3, _⟩ := one_c (c := c) h
 exact ⟨b, σ7, k3, n3, fault_c (c := 1) (zAA.single agg22 o3 (SlV.le h n3.le)) (by omega) (by intro r hr; simp at hr; subst hr; omega) (by rw [show ([xs] : List (List Rec)).flatten = xs by simp]; omega)⟩
end
end Go.Proofs.Ytffgfojabcbegaa
