
import Derived.Test.YtgfiniccfpfplaaPD
namespace Go.Proofs.Ytgfiniccfpfplaa
structure RM (w : Wk) (D : Nat) (s t : Std) : Prop where
 used : s.used = t.used
 day : s.day = t.day
 le : s.day ≤ (D : Int)
 row : (D : Int) - 1 ≤ s.day → s.row = t.row
 free : s.free = t.free ∨ s.free ≤ 1440 * (D : Int) - w.rest ∧ t.free ≤ 1440 * (D : Int) - w.rest
section
variable {w : Wk} {D : Nat} {s t : Std} {d : Dty}
theorem RM.holds (h : RM w D s t) (hd : d.day = (D : Int)) (ho : 0 ≤ d.on) {q : Nat} {x : Drv} : holds w q x d s = holds w q x d t := by
 have h1 := h.day
 match q with
 | 0 => rfl
 | 1 => rfl
 | 2 => simp only [Ytgfiniccfpfplaa.holds, h1]
 | 3 =>
  simp only [Ytgfiniccfpfplaa.holds, h1]
  congr 1
  apply decide_eq_decide.2
  have := h.free
  omega
 | q + 4 =>
  simp only [Ytgfiniccfpfplaa.holds, h1]
  by_cases e : t.day = d.day
  ·rw [decide_eq_true e]; rfl
  ·congr 1
   have e2 : (take s d d.on).row = (take t d d.on).row := by
    unfold take
    rw [if_neg (by omega), if_neg e]
    simp only
    by_cases e3 : t.day = d.day - 1
    ·rw [if_pos (by omega), if_pos e3, h.row (by omega)]
    ·rw [if_neg (by omega), if_neg e3]
   rw [e2]
theorem RM.take (h : RM w D s t) (hd : d.day = (D : Int)) {e : Int} : RM w D (take s d e) (take t d e) := by
 have h1 := h.day
 have h2 := h.used
 have h3 := h.le
 unfold Ytgfiniccfpfplaa.take
 by_cases e1 : t.day = d.day
 ·rw [if_pos (by omega), if_pos e1]
  exact ⟨by simp only; omega, by simp only; omega, by simp only; omega, h.row, h.free⟩
 ·rw [if_neg (by omega), if_neg e1]
  refine ⟨by simp only; omega, rfl, by simp only; omega, ?_, .inl rfl⟩
  intro _
  simp only
  by_cases e3 : t.day = d.day - 1
  ·rw [if_pos (by omega), if_pos e3, h.row (by omega)]
  ·rw [if_neg (by omega), if_neg e3]
end
structure Val (w : Wk) (n : Nat) : Prop extends Days w n where
 on : ∀ i, i < w.N.length → 0 ≤ (dty w i).on ∧ (dty w i).on ≤ (dty w i).hi
 used : ∀ k, k < w.L.length → (drv w k).used ≤ w.j
section
variable {w : Wk} {leaves : Bool} {wf : Nat → List Int → List Int} {ros : Nat → Int}
end
end Go.Proofs.Ytgfiniccfpfplaa
