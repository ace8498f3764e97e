
import Derived.Test.YtffgfojabcbegaaUM
import Derived.Test.YtffgfojabcbegaaXC
namespace Go.Proofs.Ytffgfojabcbegaa
open Go Go.Lay
set_option linter.unusedVariables false
set_option linter.unusedSimpArgs false
set_option maxRecDepth 20000
def zGE (l : List Rec) : Bool := l.all fun x => l.all fun y => !wC x y
theorem vY {l : List Rec} : zGE l = true ↔ zAQ l := by
 unfold zGE zAQ
 simp
section
variable {σ : St}
def zCG (rs : List (List Rec)) : Int := if yS rs = 0 then (if zGE rs.flatten = true then (if 60 < (xU rs.flatten).length then 3 else 0) else 6) else yS rs
theorem yRC {p : Option Addr} {l c : Nat} {rs : List (List Rec)} (h : vT σ 28 79 p l rs) (hl : l ≤ 1073741824) (hb : ∀ r ∈ rs, r.length ≤ 1073741824 ∧ ∀ x ∈ r, zSM x) :
  (zCG rs ≠ 0 ∧ zD Try.prog 31 [.slice p l c] σ (.tuple ⟨[.slice none 0 0, iV (zCG rs)]⟩) σ) ∨
  (zCG rs = 0 ∧ ∃ q d σ', zD Try.prog 31 [.slice p l c] σ (.tuple ⟨[.slice q (xU rs.flatten).length d, iV 0]⟩) σ' ∧ New σ σ' ∧ yK σ' 79 q (xU rs.flatten).length (xU rs.flatten)) := by
 have h0 := h.le (le0 σ)
 rcases zUR (c := c) h0 hl hb with ⟨hz, k⟩ | ⟨hz, hc, k⟩ | ⟨hz, hc, q, d, τ, k, N, hr⟩
 ·have e : zCG rs = yS rs := by unfold zCG; rw [if_neg hz]
  rw [e]
  exact .inl ⟨hz, (yJI k ⟨rfl, Nat.le_refl _⟩ hz).pure⟩
 ·have e : zCG rs = 6 := by unfold zCG; rw [if_pos hz, if_neg (fun h => hc (vY.1 h))]
  rw [e]
  exact .inl ⟨by decide, (yJI k ⟨rfl, Nat.le_refl _⟩ (by decide)).pure⟩
 ·have e1 : zCG rs = if 60 < (xU rs.flatten).length then 3 else 0 := by unfold zCG; rw [if_pos hz, if_pos (vY.2 hc)]
  by_cases h6 : 60 < (xU rs.flatten).length
  ·have e : zCG rs = 3 := by rw [e1, if_pos h6]
   rw [e]
   exact .inl ⟨by decide, (Merge_rb k ⟨rfl, N.lw⟩ rfl (by omega)).pure⟩
  ·have e : zCG rs = 0 := by rw [e1, if_neg h6]
   obtain ⟨v, σ', g1, g2, q', d', rfl, g3⟩ := zJ.new (P := Try.prog) (f := 31) (args := [.slice p l c]) (σ := σ) (Q := fun v s => ∃ q d, v = .tuple ⟨[.slice q (xU rs.flatten).length d, iV 0]⟩ ∧ yK s 79 q (xU rs.flatten).length (xU rs.flatten)) (Merge_rc k ⟨N, q, d, rfl, hr⟩ rfl (by omega)) (by rintro v s s' ⟨q, d, rfl, g⟩ hle; exact ⟨q, d, rfl, SlV.le g hle⟩) (by
    rintro v s hr ⟨q, d, rfl, g⟩
    refine ⟨q, d, rfl, ?_⟩
    cases q with
    | none => exact zHE g
    | some a => exact Bool.noConfusion (show false = true from hr))
   exact .inr ⟨e, q', d', σ', g1, g2, g3⟩
theorem ySH {x y : Rec} : zD Try.prog 66 [yO x, yO y] σ (.bool (wC x y)) σ := by
 have N : New σ.re ((σ.re.row (yY x) 6).row (yY y) 6) := (New.row _ _ _).row'
 have e := eql59 (x := x) (y := y) (o1 := .tmp 5) (o2 := .tmp 6)
 by_cases hxy : x = y
 ·rw [decide_eq_true hxy] at e
  have : wC x y = false := by rw [hxy]; exact zOZ
  rw [this]
  exact (yKV e ⟨rfl, N.lw⟩).pure
 rw [decide_eq_false hxy] at e
 have hn : ∀ b : Bool, (wC x y = true ↔ b = true) → wC x y = b := fun b h => by rw [Bool.eq_iff_iff]; exact h
 by_cases hm : x.m = y.m
 rotate_left
 ·rw [hn false (by rw [wB]; simp [hm])]
  exact (yKU e ⟨rfl, N.lw⟩ hm).pure
 by_cases hs : x.s = y.s
 ·rw [hn true (by rw [wB]; simp [hm, hs, hxy])]
  exact (yKT e ⟨rfl, N.lw⟩ hm hs).pure
 by_cases hs1 : y.s < x.s
 ·by_cases ht : x.t < y.t
  ·rw [hn true (by rw [wB]; simp [hm, hs1, ht, hxy])]
   exact (yKS e ⟨rfl, N.lw⟩ hm hs hs1 ht).pure
  ·rw [hn false (by rw [wB]; simp [hm]; intro _; omega)]
   exact (yKR e ⟨rfl, N.lw⟩ hm hs hs1 ht (by omega)).pure
 ·by_cases ht : y.t < x.t
  ·rw [hn true (by rw [wB]; refine ⟨fun _ => rfl, fun _ => ⟨hxy, hm, .inr (.inr ⟨by omega, ht⟩)⟩⟩)]
   exact (yKQ e ⟨rfl, N.lw⟩ hm hs hs1 (by omega) ht).pure
  ·rw [hn false (by rw [wB]; simp [hm]; intro _; omega)]
   exact (yKP e ⟨rfl, N.lw⟩ hm hs hs1 (by omega) ht).pure
theorem yKO {p : Option Addr} {l c : Nat} {xs : List Rec} (h : yK σ 59 p l xs) (hl : l ≤ 1073741824) : zD Try.prog 45 [.slice p l c] σ (.bool (!zGE xs)) σ := by
 have hlen := h.len
 have h0 : yK σ.re 59 p l xs := SlV.le h (le0 σ)
 have bad : ∀ {x y : Rec}, x ∈ xs → y ∈ xs → wC x y = true → zGE xs = false := fun hx hy e => by
  cases hc : zGE xs with
  | false => rfl
  | true => rw [vY.1 hc _ hx _ hy] at e; cases e
 refine zJ.pure (yEX (P0 := fun τ => τ = σ.re ∧ ∀ (i j : Nat) (x y : Rec), j < i → i < l → xs[i]? = some x → xs[j]? = some y → wC x y = false) (Pr := fun b τ => τ = σ.re ∧ b = true ∧ zGE xs = false)
  (zTX (Inv := fun k i τ => ∃ s : Nat, i = s ∧ s + k = l ∧ τ = σ.re ∧ ∀ (i j : Nat) (x y : Rec), j < i → i < s → xs[i]? = some x → xs[j]? = some y → wC x y = false) ?_ l 0 σ.re ⟨0, rfl, by omega, rfl, by omega⟩)
  (fun τ h => zTV ⟨?_, by rw [h.1]; exact Nat.le_refl _⟩) (fun b τ h => zTU ⟨by rw [h.2.1, h.2.2]; rfl, by rw [h.1]; exact Nat.le_refl _⟩))
 rotate_left
 ·have : zGE xs = true := vY.2 fun x hx y hy => by
   obtain ⟨i, hi, rfl⟩ := List.mem_iff_getElem.1 hx
   obtain ⟨j, hj, rfl⟩ := List.mem_iff_getElem.1 hy
   rcases Nat.lt_trichotomy i j with e | e | e
   ·rw [yDI]
    exact h.2 j i _ _ e (by omega) (by simp [hj]) (by simp [hi])
   ·subst e; exact zOZ
   ·exact h.2 i j _ _ e (by omega) (by simp [hi]) (by simp [hj])
  rw [this]; rfl
 rintro k i τ ⟨s, rfl, hk, rfl, ha⟩
 by_cases hs : s < l
 rotate_left
 ·exact yBL ⟨rfl, fun i j x y h1 h2 => ha i j x y h1 (by omega)⟩ (by omega)
 obtain ⟨a, rfl, x, hx, ld⟩ := zAX h0 hs
 refine yBM (Pr := fun b τ => τ = σ.re ∧ b = true ∧ zGE xs = false) (P2 := fun τ => τ = σ.re ∧ ∀ (j : Nat) (y : Rec), j < s → xs[j]? = some y → wC x y = false)
  (zTW (Inv := fun k i τ => ∃ s' : Nat, i = s' ∧ s' + k = s ∧ τ = σ.re ∧ ∀ (j : Nat) (y : Rec), j < s' → xs[j]? = some y → wC x y = false) ?_ s 0 σ.re ⟨0, rfl, by omega, rfl, by omega⟩)
  (fun b τ h => zTS h) (fun τ h => zTT ⟨k - 1, by omega, s + 1, by omega, by omega, h.1, fun i j x' y h1 h2 h3 h4 => ?_⟩) (by omega)
 rotate_left
 ·by_cases e : i = s
  ·subst e
   rw [hx] at h3; cases h3
   exact h.2 j y h1 h4
  ·exact ha i j x' y h1 (by omega) h3 h4
 rintro k' i' τ ⟨s', rfl, hk', rfl, ha'⟩
 by_cases hs' : s' < s
 rotate_left
 ·exact yBI ⟨rfl, fun j y h1 => ha' j y (by omega)⟩ (by omega)
 obtain ⟨a', ea, y, hy, ldy⟩ := zAX h0 (show s' < l by omega)
 cases ea
 have c := ySH (σ := σ.re) (x := x) (y := y)
 cases hc : wC x y with
 | true =>
  rw [hc] at c
  exact yBK ld ldy c ⟨rfl, rfl, bad (List.mem_of_getElem? hx) (List.mem_of_getElem? hy) hc⟩ (by omega) (by omega) (by omega)
 | false =>
  rw [hc] at c
  refine yBJ ld ldy c ⟨k' - 1, by omega, s' + 1, by omega, by omega, rfl, fun j z h1 h2 => ?_⟩ (by omega) (by omega) (by omega)
  by_cases e : j = s'
  ·subst e
   rw [hy] at h2; cases h2
   exact hc
  ·exact ha' j z (by omega) h2
end
end Go.Proofs.Ytffgfojabcbegaa
