
import Derived.Test.YtffgfojabcbegaaSE
namespace Go.Proofs.Ytffgfojabcbegaa
open Go Go.Lay
set_option linter.unusedVariables false
set_option linter.unusedSimpArgs false
set_option maxRecDepth 20000
section
variable {σ : St}
theorem zAT.single {ts te b : Nat} {p : Option Addr} {l c : Nat} {xs : List Rec} (ha : zCE Try.prog ts = some false) (o : Own σ b [.slice p l c] 1) (h : xB σ te p l xs) : zAT σ ts te (some ⟨b, 0, none⟩) 1 [xs] := by
 have hl := h.len
 refine ⟨[.slice p l c], ⟨⟨rfl, o.rw⟩, rfl, ?_⟩, rfl, ?_⟩
 ·intro v hv
  simp at hv
  subst hv
  exact .inl ⟨ha, rfl, rfl⟩
 ·intro i r hi
  rcases i with _ | i
  ·cases hi; exact ⟨p, c, by rw [hl]; rfl, by rw [hl]; exact h⟩
  ·simp at hi
theorem yNO {xs : List Rec} : xV [xs] = if 60 < xs.length then 3 else if xs.all yL then 0 else 1 := by
 unfold xV
 by_cases h : xs.length ≤ 60
 ·cases h2 : xs.all yL <;> simp [h, h2, show ¬ 60 < xs.length by omega]
 ·simp [h, show 60 < xs.length by omega]
end
end Go.Proofs.Ytffgfojabcbegaa
