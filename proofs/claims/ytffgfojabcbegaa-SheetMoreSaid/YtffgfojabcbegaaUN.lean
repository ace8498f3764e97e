
import Derived.Test.YtffgfojabcbegaaUM
import Derived.Test.YtffgfojabcbegaaXC
namespace Go.Proofs.Ytffgfojabcbegaa
open Go Go.Lay
set_option linter.unusedVariables false
set_option linter.unusedSimpArgs false
set_option maxRecDepth 20000
def zIE (l : List Rec) : Bool := l.all fun x => l.all fun y => !wE x y
theorem zFB {l : List Rec} : zIE l = true ↔ vD l := by
 unfold zIE vD
 simp
section
variable {σ : St}
theorem yRW {x y : Rec} : zD Try.prog 66 [yH x, yH y] σ (.bool (wE x y)) σ := by
 have N : New σ.re ((σ.re.row (yI x) 6).row (yI y) 6) := (New.row _ _ _).row'
 have e := eql59 (x := x) (y := y) (o1 := .tmp 5) (o2 := .tmp 6)
 by_cases hxy : x = y
 ·rw [decide_eq_true hxy] at e
  have : wE x y = false := by rw [hxy]; exact zOW
  rw [this]
  exact (yKU e ⟨rfl, N.lw⟩).pure
 rw [decide_eq_false hxy] at e
 have hn : ∀ b : Bool, (wE x y = true ↔ b = true) → wE x y = b := fun b h => by rw [Bool.eq_iff_iff]; exact h
 by_cases hm : x.m = y.m
 rotate_left
 ·rw [hn false (by rw [wD]; simp [hm])]
  exact (yKT e ⟨rfl, N.lw⟩ hm).pure
 by_cases hs : x.s = y.s
 ·rw [hn true (by rw [wD]; simp [hm, hs, hxy])]
  exact (yKS e ⟨rfl, N.lw⟩ hm hs).pure
 by_cases hs1 : y.s < x.s
 ·by_cases ht : x.t < y.t
  ·rw [hn true (by rw [wD]; simp [hm, hs1, ht, hxy])]
   exact (yKR e ⟨rfl, N.lw⟩ hm hs hs1 ht).pure
  ·rw [hn false (by rw [wD]; simp [hm]; intro _; omega)]
   exact (yKQ e ⟨rfl, N.lw⟩ hm hs hs1 ht (by omega)).pure
 ·by_cases ht : y.t < x.t
  ·rw [hn true (by rw [wD]; refine ⟨fun _ => rfl, fun _ => ⟨hxy, hm, .inr (.inr ⟨by omega, ht⟩)⟩⟩)]
   exact (yKP e ⟨rfl, N.lw⟩ hm hs hs1 (by omega) ht).pure
  ·rw [hn false (by rw [wD]; simp [hm]; intro _; omega)]
   exact (yKO e ⟨rfl, N.lw⟩ hm hs hs1 (by omega) ht).pure
theorem yKN {p : Option Addr} {l c : Nat} {xs : List Rec} (h : yZ σ 59 p l xs) (hl : l ≤ 1073741824) : zD Try.prog 45 [.slice p l c] σ (.bool (!zIE xs)) σ := by
 have hlen := h.len
 have h0 : yZ σ.re 59 p l xs := SlV.le h (le0 σ)
 have bad : ∀ {x y : Rec}, x ∈ xs → y ∈ xs → wE x y = true → zIE xs = false := fun hx hy e => by
  cases hc : zIE xs with
  | false => rfl
  | true => rw [zFB.1 hc _ hx _ hy] at e; cases e
 refine zK.pure (yES (P0 := fun τ => τ = σ.re ∧ ∀ (i j : Nat) (x y : Rec), j < i → i < l → xs[i]? = some x → xs[j]? = some y → wE x y = false) (Pr := fun b τ => τ = σ.re ∧ b = true ∧ zIE xs = false)
  (zTM (Inv := fun k i τ => ∃ s : Nat, i = s ∧ s + k = l ∧ τ = σ.re ∧ ∀ (i j : Nat) (x y : Rec), j < i → i < s → xs[i]? = some x → xs[j]? = some y → wE x y = false) ?_ l 0 σ.re ⟨0, rfl, by omega, rfl, by omega⟩)
  (fun τ h => zTK ⟨?_, by rw [h.1]; exact Nat.le_refl _⟩) (fun b τ h => zTJ ⟨by rw [h.2.1, h.2.2]; rfl, by rw [h.1]; exact Nat.le_refl _⟩))
 rotate_left
 ·have : zIE xs = true := zFB.2 fun x hx y hy => by
   obtain ⟨i, hi, rfl⟩ := List.mem_iff_getElem.1 hx
   obtain ⟨j, hj, rfl⟩ := List.mem_iff_getElem.1 hy
   rcases Nat.lt_trichotomy i j with e | e | e
   ·rw [yDD]
    exact h.2 j i _ _ e (by omega) (by simp [hj]) (by simp [hi])
   ·subst e; exact zOW
   ·exact h.2 i j _ _ e (by omega) (by simp [hi]) (by simp [hj])
  rw [this]; rfl
 rintro k i τ ⟨s, rfl, hk, rfl, ha⟩
 by_cases hs : s < l
 rotate_left
 ·exact yBL ⟨rfl, fun i j x y h1 h2 => ha i j x y h1 (by omega)⟩ (by omega)
 obtain ⟨a, rfl, x, hx, ld⟩ := zAO h0 hs
 refine yBM (Pr := fun b τ => τ = σ.re ∧ b = true ∧ zIE xs = false) (P2 := fun τ => τ = σ.re ∧ ∀ (j : Nat) (y : Rec), j < s → xs[j]? = some y → wE x y = false)
  (zTL (Inv := fun k i τ => ∃ s' : Nat, i = s' ∧ s' + k = s ∧ τ = σ.re ∧ ∀ (j : Nat) (y : Rec), j < s' → xs[j]? = some y → wE x y = false) ?_ s 0 σ.re ⟨0, rfl, by omega, rfl, by omega⟩)
  (fun b τ h => zTH h) (fun τ h => zTI ⟨k - 1, by omega, s + 1, by omega, by omega, h.1, fun i j x' y h1 h2 h3 h4 => ?_⟩) (by omega)
 rotate_left
 ·by_cases e : i = s
  ·subst e
   rw [hx] at h3; cases h3
   exact h.2 j y h1 h4
  ·exact ha i j x' y h1 (by omega) h3 h4
 rintro k' i' τ ⟨s', rfl, hk', rfl, ha'⟩
 by_cases hs' : s' < s
 rotate_left
 ·exact yBI ⟨rfl, fun j y h1 => ha' j y (by omega)⟩ (by omega)
 obtain ⟨a', ea, y, hy, ldy⟩ := zAO h0 (show s' < l by omega)
 cases ea
 have c := yRW (σ := σ.re) (x := x) (y := y)
 cases hc : wE x y with
 | true =>
  rw [hc] at c
  exact yBK ld ldy c ⟨rfl, rfl, bad (List.mem_of_getElem? hx) (List.mem_of_getElem? hy) hc⟩ (by omega) (by omega) (by omega)
 | false =>
  rw [hc] at c
  refine yBJ ld ldy c ⟨k' - 1, by omega, s' + 1, by omega, by omega, rfl, fun j z h1 h2 => ?_⟩ (by omega) (by omega) (by omega)
  by_cases e : j = s'
  ·subst e
   rw [hy] at h2; cases h2
   exact hc
  ·exact ha' j z (by omega) h2
end
end Go.Proofs.Ytffgfojabcbegaa
