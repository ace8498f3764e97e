
import Derived.Test.YtmdopblmkkameaaSA
namespace Go.Proofs.Ytmdopblmkkameaa
open Go Go.Lay
set_option linter.unusedVariables false
set_option linter.unusedSimpArgs false
set_option maxRecDepth 20000
section
variable {σ : St}
theorem sindex_c {p : Option Addr} {l c : Nat} {xs : List Int} {v : Int} (h : yU σ p l xs) (hl : l ≤ 100000) : ∃ n : Int, zD Try.prog 87 [.slice p l c, iV v] σ (iV n) σ ∧ ((v ∈ xs ∧ 0 ≤ n) ∨ (¬ v ∈ xs ∧ n = -1)) := by
 have hxl := h.len
 have h0 : yU σ.re p l xs := SlV.le h (le0 σ)
 have hmain : zN Try.prog 87 [.slice p l c, iV v] σ.re fun w s => σ.next ≤ s.low ∧ ∃ n : Int, w = iV n ∧ ((v ∈ xs ∧ 0 ≤ n) ∨ (¬ v ∈ xs ∧ n = -1)) := by
  refine sindex_ra (Pr := fun n τ => τ = σ.re ∧ v ∈ xs ∧ 0 ≤ n) (P0 := fun τ => τ = σ.re ∧ ¬ v ∈ xs) (sindex_loop1 (Inv := fun k i τ => ∃ s : Nat, i = s ∧ s + k = l ∧ τ = σ.re ∧ ¬ v ∈ xs.take s) ?_ l 0 σ.re ⟨0, rfl, by omega, rfl, by simp⟩) ?_ ?_
  ·rintro k i τ ⟨s, rfl, hk, hτ, hn⟩
   subst hτ
   by_cases hs : s < l
   rotate_left
   ·refine sindex_s1c ⟨rfl, ?_⟩ (by omega)
    rw [List.take_of_length_le (by omega)] at hn; exact hn
   obtain ⟨a, rfl, x, hx, ld⟩ := vP h0 hs
   by_cases e : v = x
   ·exact sindex_s1a ld ⟨rfl, by rw [e]; exact List.mem_of_getElem? hx, by omega⟩ (by omega) (by omega) e
   ·refine sindex_s1b ld ⟨k - 1, by omega, s + 1, by omega, by omega, rfl, ?_⟩ (by omega) (by omega) e (by omega)
    rw [uS hx]; simp [hn]; exact e
  ·rintro n τ ⟨rfl, h1, h2⟩; exact sindex_t1xra ⟨Nat.le_refl _, n, rfl, .inl ⟨h1, h2⟩⟩
  ·rintro τ ⟨rfl, h1⟩; exact sindex_t1x0a ⟨Nat.le_refl _, -1, rfl, .inr ⟨h1, rfl⟩⟩
 obtain ⟨w, s, h1, h2, n, rfl, h3⟩ := hmain
 exact ⟨n, zN.pure ⟨_, s, h1, rfl, h2⟩, h3⟩
theorem contains_c {p : Option Addr} {l c : Nat} {xs : List Int} {v : Int} (h : yU σ p l xs) (hl : l ≤ 100000) : zD Try.prog 72 [.slice p l c, iV v] σ (.bool (decide (v ∈ xs))) σ := by
 obtain ⟨n, h1, h2⟩ := sindex_c (c := c) (v := v) (SlV.le h (le0 σ)) hl
 refine zN.pure ?_
 rcases h2 with ⟨hm, hn⟩ | ⟨hm, hn⟩
 ·exact contains_ra h1 ⟨by rw [decide_eq_true hm], Nat.le_refl _⟩ hn
 ·exact contains_rb h1 ⟨by rw [decide_eq_false hm], Nat.le_refl _⟩ (by omega)
end
end Go.Proofs.Ytmdopblmkkameaa
