import Derived.Test.YtffgfojabcbegaaSE

namespace Go.Proofs.Ytffgfojabcbegaa
open Go Go.Lay
set_option linter.unusedVariables false
set_option linter.unusedSimpArgs false
set_option maxRecDepth 20000
theorem wrap8 (n : Int) : zBS .u8 n = n % 256 := by
 have e1 : (2 : Int) ^ 8 = 256 := by decide
 rw [uL]
 simp only [IntKind.wrap, IntKind.bits, IntKind.signed, e1, Bool.false_and, Bool.false_eq_true, if_false]
section
variable {σ : St}
end
end Go.Proofs.Ytffgfojabcbegaa

namespace Go.Proofs.Ytffgfojabcbegaa
open Go Go.Lay
set_option linter.unusedVariables false
set_option linter.unusedSimpArgs false
set_option maxRecDepth 20000
section
variable {σ : St}
theorem zAG.single {ts te b : Nat} {p : Option Addr} {l c : Nat} {xs : List Rec} (ha : zBQ Try.prog ts = some false) (o : Own σ b [.slice p l c] 1) (h : yP σ te p l xs) : zAG σ ts te (some ⟨b, 0, none⟩) 1 [xs] := by
 have hl := h.len
 refine ⟨[.slice p l c], ⟨⟨rfl, o.rw⟩, rfl, ?_⟩, rfl, ?_⟩
 ·intro v hv
  simp at hv
  subst hv
  exact .inl ⟨ha, rfl, rfl⟩
 ·intro i r hi
  rcases i with _ | i
  ·cases hi; exact ⟨p, c, by rw [hl]; rfl, by rw [hl]; exact h⟩
  ·simp at hi
end
end Go.Proofs.Ytffgfojabcbegaa
