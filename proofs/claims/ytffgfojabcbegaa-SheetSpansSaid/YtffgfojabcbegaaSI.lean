import Derived.Test.YtffgfojabcbegaaVD
import Derived.Test.YtffgfojabcbegaaSE

namespace Go.Proofs.Ytffgfojabcbegaa
set_option linter.unusedVariables false
theorem mono_t {L : List Rec} (hs : Srt L) (hc : Cons L) {x y : Rec} (hx : x ∈ L) (hy : y ∈ L) (hm : x.m = y.m) (h : x.s < y.s) : x.t ≤ y.t := by
 have c1 := hc x hx y hy
 by_cases ht : x.t ≤ y.t
 ·exact ht
 ·have : contraB x y = true := contraB_iff.2 ⟨fun e => by subst e; omega, hm, .inr (.inr ⟨h, by omega⟩)⟩
  simp_all
theorem same_s {L : List Rec} (hc : Cons L) {x y : Rec} (hx : x ∈ L) (hy : y ∈ L) (hm : x.m = y.m) (h : x.s = y.s) : x = y := hc.key hx hy ⟨hm, h⟩
section
variable {L : List Rec} {rate : Int} {W : Nat → Int}
theorem getD_of {i : Nat} {r : Rec} (h : L[i]? = some r) : L.getD i default = r := by rw [List.getD_eq_getElem?_getD, h]; rfl
end
end Go.Proofs.Ytffgfojabcbegaa

namespace Go.Proofs.Ytffgfojabcbegaa
open Go Go.Lay
set_option linter.unusedVariables false
set_option linter.unusedSimpArgs false
set_option maxRecDepth 20000
structure SameY (n0 : Nat) (Y : Nat → Prop) (z z' : St) : Prop where
 next : z.next ≤ z'.next
 get : ∀ y, y < z.next → ¬ Y y → (∀ tm ps a b st pend db, getB z.heap y ≠ some (.loop tm ps a b st pend db)) → getB z'.heap y = getB z.heap y
 old : ∀ y, y < n0 → getB z'.heap y = getB z.heap y
abbrev Same (n0 : Nat) (z z' : St) : Prop := SameY n0 (fun _ => False) z z'
end Go.Proofs.Ytffgfojabcbegaa

namespace Go.Proofs.Ytffgfojabcbegaa
open Go Go.Lay
set_option linter.unusedVariables false
set_option linter.unusedSimpArgs false
set_option maxRecDepth 20000
section
variable {σ : St}
theorem RowsP.single {ts te b : Nat} {p : Option Addr} {l c : Nat} {xs : List Rec} (ha : aggT Try.prog ts = some false) (o : Own σ b [.slice p l c] 1) (h : RecsP σ te p l xs) : RowsP σ ts te (some ⟨b, 0, none⟩) 1 [xs] := by
 have hl := h.len
 refine ⟨[.slice p l c], ⟨⟨rfl, o.rw⟩, rfl, ?_⟩, rfl, ?_⟩
 ·intro v hv
  simp at hv
  subst hv
  exact .inl ⟨ha, rfl, rfl⟩
 ·intro i r hi
  rcases i with _ | i
  ·cases hi; exact ⟨p, c, by rw [hl]; rfl, by rw [hl]; exact h⟩
  ·simp at hi
end
end Go.Proofs.Ytffgfojabcbegaa
