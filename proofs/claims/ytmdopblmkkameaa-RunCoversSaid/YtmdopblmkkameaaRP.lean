import Derived.Test.YtmdopblmkkameaaPM
import Derived.Test.YtmdopblmkkameaaRK

namespace Go.Proofs.Ytmdopblmkkameaa
set_option linter.unusedVariables false
theorem IsMax.mono {n a b : Nat} {E F : Nat → Nat → Prop} (h : IsMax n E a) (k : IsMax n F b) (hE : ∀ i k, i < n → k < n → E i k → F i k) : a ≤ b := by
 obtain ⟨nx, bf, h1, rfl⟩ := h.at_
 exact k.le nx bf ⟨fun k' hk hb => by obtain ⟨i, g1, g2, g3, g4⟩ := h1.b1 k' hk hb; exact ⟨i, g1, g2, hE i k' g1 hk g3, g4⟩, h1.n1⟩
end Go.Proofs.Ytmdopblmkkameaa

namespace Go.Proofs.Ytmdopblmkkameaa
open Go Go.Lay
set_option linter.unusedVariables false
set_option linter.unusedSimpArgs false
set_option maxRecDepth 20000
structure SeenD (N : Nat) (D : List Int) (seen : Nat → Bool) : Prop where
 at_ : ∀ k, k < N → seen k = decide ((k : Int) ∈ D)
 len : D.length = yZ N seen
theorem SeenD.more {N : Nat} {D : List Int} {seen : Nat → Bool} (h : SeenD N D seen) {x : Nat} (hx : x < N) (hn : ¬ (x : Int) ∈ D) : SeenD N (D ++ [(x : Int)]) (fun j => if j = x then true else seen j) := by
 refine ⟨fun k hk => ?_, ?_⟩
 ·by_cases e : k = x
  ·subst e; simp
  ·rw [if_neg e, h.at_ k hk]
   refine decide_eq_decide.2 ?_
   simp; intro h'; omega
 ·have h0 : seen x = false := by rw [h.at_ x hx]; simpa using hn
  have h1 := zDK (m := N) (Q := fun j => if j = x then true else seen j) hx (by simp)
  have h2 : yZ N (fun i => (if i = x then true else seen i) && !Nat.beq i x) = yZ N seen := zDL fun i hi => by
   by_cases e : i = x
   ·subst e; simp [h0]
   ·have : Nat.beq i x = false := by rw [Bool.eq_false_iff]; intro h'; exact e (Nat.eq_of_beq_eq_true h')
    rw [if_neg e, this]; simp
  rw [h2] at h1
  rw [List.length_append, h.len, h1]; rfl
theorem SeenD.le {N : Nat} {D : List Int} {seen : Nat → Bool} (h : SeenD N D seen) : D.length ≤ N := by
 rw [h.len]
 have := cntN_not (n := N) (P := seen); omega
theorem drop_at {α : Type} {l : List α} {i : Nat} {x : α} (h : l[i]? = some x) : l.drop i = x :: l.drop (i + 1) := by
 obtain ⟨hi, e⟩ := List.getElem?_eq_some_iff.1 h
 rw [List.drop_eq_getElem_cons hi, e]
section
variable {σ : St} {t : Tab} {pe pt : Option Addr} {le ce lt ct : Nat}
end
end Go.Proofs.Ytmdopblmkkameaa
