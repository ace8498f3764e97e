
import Derived.Test.YtffgfojabcbegaaUM
import Derived.Test.YtffgfojabcbegaaXC
namespace Go.Proofs.Ytffgfojabcbegaa
open Go Go.Lay
set_option linter.unusedVariables false
set_option linter.unusedSimpArgs false
set_option maxRecDepth 20000
def zHP (l : List Rec) : Bool := l.all fun x => l.all fun y => !wB x y
theorem zEN {l : List Rec} : zHP l = true ↔ vJ l := by
 unfold zHP vJ
 simp
section
variable {σ : St}
theorem rContra_c {x y : Rec} : zD Try.prog 66 [yI x, yI y] σ (.bool (wB x y)) σ := by
 have N : New σ.re ((σ.re.row (yL x) 6).row (yL y) 6) := (New.row _ _ _).row'
 have e := eql59 (x := x) (y := y) (o1 := .tmp 5) (o2 := .tmp 6)
 by_cases hxy : x = y
 ·rw [decide_eq_true hxy] at e
  have : wB x y = false := by rw [hxy]; exact contraB_self
  rw [this]
  exact (rContra_ra e ⟨rfl, N.lw⟩).pure
 rw [decide_eq_false hxy] at e
 have hn : ∀ b : Bool, (wB x y = true ↔ b = true) → wB x y = b := fun b h => by rw [Bool.eq_iff_iff]; exact h
 by_cases hm : x.m = y.m
 rotate_left
 ·rw [hn false (by rw [wA]; simp [hm])]
  exact (rContra_rb e ⟨rfl, N.lw⟩ hm).pure
 by_cases hs : x.s = y.s
 ·rw [hn true (by rw [wA]; simp [hm, hs, hxy])]
  exact (rContra_rc e ⟨rfl, N.lw⟩ hm hs).pure
 by_cases hs1 : y.s < x.s
 ·by_cases ht : x.t < y.t
  ·rw [hn true (by rw [wA]; simp [hm, hs1, ht, hxy])]
   exact (rContra_rd e ⟨rfl, N.lw⟩ hm hs hs1 ht).pure
  ·rw [hn false (by rw [wA]; simp [hm]; intro _; omega)]
   exact (rContra_rg e ⟨rfl, N.lw⟩ hm hs hs1 ht (by omega)).pure
 ·by_cases ht : y.t < x.t
  ·rw [hn true (by rw [wA]; refine ⟨fun _ => rfl, fun _ => ⟨hxy, hm, .inr (.inr ⟨by omega, ht⟩)⟩⟩)]
   exact (rContra_rh e ⟨rfl, N.lw⟩ hm hs hs1 (by omega) ht).pure
  ·rw [hn false (by rw [wA]; simp [hm]; intro _; omega)]
   exact (rContra_ri e ⟨rfl, N.lw⟩ hm hs hs1 (by omega) ht).pure
theorem rContras_c {p : Option Addr} {l c : Nat} {xs : List Rec} (h : yZ σ 59 p l xs) (hl : l ≤ 1073741824) : zD Try.prog 45 [.slice p l c] σ (.bool (!zHP xs)) σ := by
 have hlen := h.len
 have h0 : yZ σ.re 59 p l xs := SlV.le h (le0 σ)
 have bad : ∀ {x y : Rec}, x ∈ xs → y ∈ xs → wB x y = true → zHP xs = false := fun hx hy e => by
  cases hc : zHP xs with
  | false => rfl
  | true => rw [zEN.1 hc _ hx _ hy] at e; cases e
 refine zJ.pure (rContras_ra (P0 := fun τ => τ = σ.re ∧ ∀ (i j : Nat) (x y : Rec), j < i → i < l → xs[i]? = some x → xs[j]? = some y → wB x y = false) (Pr := fun b τ => τ = σ.re ∧ b = true ∧ zHP xs = false)
  (rContras_loop1 (Inv := fun k i τ => ∃ s : Nat, i = s ∧ s + k = l ∧ τ = σ.re ∧ ∀ (i j : Nat) (x y : Rec), j < i → i < s → xs[i]? = some x → xs[j]? = some y → wB x y = false) ?_ l 0 σ.re ⟨0, rfl, by omega, rfl, by omega⟩)
  (fun τ h => rContras_t1x0a ⟨?_, by rw [h.1]; exact Nat.le_refl _⟩) (fun b τ h => rContras_t1xra ⟨by rw [h.2.1, h.2.2]; rfl, by rw [h.1]; exact Nat.le_refl _⟩))
 rotate_left
 ·have : zHP xs = true := zEN.2 fun x hx y hy => by
   obtain ⟨i, hi, rfl⟩ := List.mem_iff_getElem.1 hx
   obtain ⟨j, hj, rfl⟩ := List.mem_iff_getElem.1 hy
   rcases Nat.lt_trichotomy i j with e | e | e
   ·rw [contraB_symm]
    exact h.2 j i _ _ e (by omega) (by simp [hj]) (by simp [hi])
   ·subst e; exact contraB_self
   ·exact h.2 i j _ _ e (by omega) (by simp [hi]) (by simp [hj])
  rw [this]; rfl
 rintro k i τ ⟨s, rfl, hk, rfl, ha⟩
 by_cases hs : s < l
 rotate_left
 ·exact rContras_s1b ⟨rfl, fun i j x y h1 h2 => ha i j x y h1 (by omega)⟩ (by omega)
 obtain ⟨a, rfl, x, hx, ld⟩ := zBZ h0 hs
 refine rContras_s1a (Pr := fun b τ => τ = σ.re ∧ b = true ∧ zHP xs = false) (P2 := fun τ => τ = σ.re ∧ ∀ (j : Nat) (y : Rec), j < s → xs[j]? = some y → wB x y = false)
  (rContras_loop2 (Inv := fun k i τ => ∃ s' : Nat, i = s' ∧ s' + k = s ∧ τ = σ.re ∧ ∀ (j : Nat) (y : Rec), j < s' → xs[j]? = some y → wB x y = false) ?_ s 0 σ.re ⟨0, rfl, by omega, rfl, by omega⟩)
  (fun b τ h => rContras_t2xra h) (fun τ h => rContras_t2x2a ⟨k - 1, by omega, s + 1, by omega, by omega, h.1, fun i j x' y h1 h2 h3 h4 => ?_⟩) (by omega)
 rotate_left
 ·by_cases e : i = s
  ·subst e
   rw [hx] at h3; cases h3
   exact h.2 j y h1 h4
  ·exact ha i j x' y h1 (by omega) h3 h4
 rintro k' i' τ ⟨s', rfl, hk', rfl, ha'⟩
 by_cases hs' : s' < s
 rotate_left
 ·exact rContras_s2c ⟨rfl, fun j y h1 => ha' j y (by omega)⟩ (by omega)
 obtain ⟨a', ea, y, hy, ldy⟩ := zBZ h0 (show s' < l by omega)
 cases ea
 have c := rContra_c (σ := σ.re) (x := x) (y := y)
 cases hc : wB x y with
 | true =>
  rw [hc] at c
  exact rContras_s2a ld ldy c ⟨rfl, rfl, bad (List.mem_of_getElem? hx) (List.mem_of_getElem? hy) hc⟩ (by omega) (by omega) (by omega)
 | false =>
  rw [hc] at c
  refine rContras_s2b ld ldy c ⟨k' - 1, by omega, s' + 1, by omega, by omega, rfl, fun j z h1 h2 => ?_⟩ (by omega) (by omega) (by omega)
  by_cases e : j = s'
  ·subst e
   rw [hy] at h2; cases h2
   exact hc
  ·exact ha' j z (by omega) h2
end
end Go.Proofs.Ytffgfojabcbegaa
