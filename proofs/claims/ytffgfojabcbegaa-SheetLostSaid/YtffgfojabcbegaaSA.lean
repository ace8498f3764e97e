
import Derived.Test.YtffgfojabcbegaaXA
import Derived.Test.YtffgfojabcbegaaPA
namespace Go.Proofs.Ytffgfojabcbegaa
open Go Go.Lay
set_option linter.unusedVariables false
set_option linter.unusedSimpArgs false
set_option maxRecDepth 20000
abbrev zAQ (n : Int) : Value := iV n
abbrev yH (x : Rec) : List Value := rcd x.m x.s x.t x.k x.a x.b
abbrev yP (x : Rec) : Value := .agg ⟨yH x⟩
def inB (n lo hi : Int) : Bool := decide (lo ≤ n) && decide (n ≤ hi)
theorem zJO {n lo hi : Int} : inB n lo hi = true ↔ lo ≤ n ∧ n ≤ hi := by simp [inB]
theorem wD {α : Type} {xs : List α} {i : Nat} {x : α} (h : xs[i]? = some x) : xs.take (i + 1) = xs.take i ++ [x] := by
 rw [List.take_add_one, h]; rfl
def yL (x : Rec) : Bool := inB x.m 0 999 && inB x.s 1 9999 && inB x.t 0 1000000 && (if x.k = 0 then inB x.a 0 99 && inB x.b 0 10000 else if x.k = 1 then inB x.a 0 1000000 && decide (x.b = 0) else if x.k = 2 then inB x.a 0 9999 && inB x.b 0 10000000 else false)
theorem zFV {x : Rec} (h : yL x = true) : 0 ≤ x.m ∧ x.m ≤ 999 ∧ 1 ≤ x.s ∧ x.s ≤ 9999 ∧ 0 ≤ x.t ∧ x.t ≤ 1000000 ∧ 0 ≤ x.k ∧ x.k ≤ 2 ∧ 0 ≤ x.a ∧ x.a ≤ 1000000 ∧ 0 ≤ x.b ∧ x.b ≤ 10000000 := by
 unfold yL at h
 simp only [Bool.and_eq_true, zJO] at h
 obtain ⟨⟨⟨h1, h2⟩, h3⟩, h4⟩ := h
 split at h4
 ·simp only [Bool.and_eq_true, zJO] at h4; omega
 ·split at h4
  ·simp only [Bool.and_eq_true, zJO, decide_eq_true_eq] at h4; omega
  ·split at h4
   ·simp only [Bool.and_eq_true, zJO] at h4; omega
   ·cases h4
section
variable {σ : St}
theorem le0 (σ : St) : Le σ σ.re := Le.re' (Le.refl _)
theorem zCG {α : Type} {t n len i : Nat} {p : Option Addr} {xs : List α} {f : α → Value} (h : SlV Try.prog σ t n p len (xs.map f)) (hi : i < len) : ∃ a, p = some a ∧ ∃ x, xs[i]? = some x ∧ zD Try.prog σ t (zJ a (Int.toNat (i : Int) * n)) = some (f x) := by
 obtain ⟨a, rfl, _⟩ := h.some hi
 have hl : i < xs.length := by have := h.2.1; simp at this; omega
 exact ⟨a, rfl, xs[i], by simp, h.at rfl (by simp [hl])⟩
theorem xR {n lo hi : Int} : zG Try.prog 48 [iV n, iV lo, iV hi] σ (.bool (inB n lo hi)) σ := by
 by_cases h1 : lo ≤ n <;> by_cases h2 : n ≤ hi
 ·exact (yRW ⟨by simp [inB, h1, h2], Nat.le_refl _⟩).pure
 ·exact (yRV ⟨by simp [inB, h1, h2], Nat.le_refl _⟩).pure
 ·exact (zXQ ⟨by simp [inB, h1], Nat.le_refl _⟩).pure
 ·exact (zXQ ⟨by simp [inB, h1], Nat.le_refl _⟩).pure
theorem wH {n lo hi : Int} : zG Try.prog 24 [iV n, iV lo, iV hi] σ (.bool (inB n lo hi)) σ := by
 by_cases h1 : lo ≤ n <;> by_cases h2 : n ≤ hi
 ·exact (rIn_ra ⟨by simp [inB, h1, h2], Nat.le_refl _⟩).pure
 ·exact (rIn_rb ⟨by simp [inB, h1, h2], Nat.le_refl _⟩).pure
 ·exact (yYG ⟨by simp [inB, h1], Nat.le_refl _⟩).pure
 ·exact (yYG ⟨by simp [inB, h1], Nat.le_refl _⟩).pure
theorem sale_c {x : Rec} : zG Try.prog 85 [yP x] σ (.bool (inB x.a 0 99 && inB x.b 0 10000)) σ := by
 cases h : inB x.a 0 99 with
 | true => exact (sale_ra (by rw [← h]; exact xR) xR ⟨by rw [Bool.true_and], Nat.le_refl _⟩).pure
 | false => exact (sale_rb (by rw [← h]; exact xR) ⟨rfl, Nat.le_refl _⟩).pure
theorem sync_c {x : Rec} : zG Try.prog 86 [yP x] σ (.bool (inB x.a 0 1000000 && decide (x.b = 0))) σ := by
 cases h : inB x.a 0 1000000 with
 | true =>
  by_cases hb : x.b = 0
  ·exact (sync_ra (by rw [← h]; exact xR) ⟨by simp [hb], Nat.le_refl _⟩ hb).pure
  ·exact (sync_rb (by rw [← h]; exact xR) ⟨by simp [hb], Nat.le_refl _⟩ hb).pure
 | false => exact (sync_rc (by rw [← h]; exact xR) ⟨rfl, Nat.le_refl _⟩).pure
theorem closes_c {x : Rec} : zG Try.prog 87 [yP x] σ (.bool (inB x.a 0 9999 && inB x.b 0 10000000)) σ := by
 cases h : inB x.a 0 9999 with
 | true => exact (yVS (by rw [← h]; exact xR) xR ⟨by rw [Bool.true_and], Nat.le_refl _⟩).pure
 | false => exact (yVR (by rw [← h]; exact xR) ⟨rfl, Nat.le_refl _⟩).pure
end
end Go.Proofs.Ytffgfojabcbegaa
