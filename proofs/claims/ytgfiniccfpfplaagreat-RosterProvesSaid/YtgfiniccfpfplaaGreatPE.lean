import Derived.Test.YtgfiniccfpfplaaGreatPB

namespace Go.Proofs.YtgfiniccfpfplaaGreat
set_option linter.unusedVariables false
set_option linter.unusedSimpArgs false
section
variable {w x : Wk} {ros ros' tru tru' : Nat → Int}
theorem yDD {k D i : Nat} (h : xW w ros k D = some i) : i < w.duties.length ∧ ros i = (k : Int) ∧ (dty w i).day = (D : Int) :=
 zQO.1 (List.mem_of_mem_head? h)
section
variable {f : Nat → Nat}
end
end
end Go.Proofs.YtgfiniccfpfplaaGreat

namespace Go.Proofs.YtgfiniccfpfplaaGreat
set_option linter.unusedVariables false
set_option linter.unusedSimpArgs false
def moreL : List Int → List Int → Bool
 | a :: l, b :: m => if a = b then moreL l m else decide (b < a)
 | _, _ => false
def pick (out : Option (List Int × List Int)) (a v : List Int) : Option (List Int × List Int) :=
 match out with
 | none => some (a, v)
 | some (b, u) => if moreL v u then some (a, v) else some (b, u)
section
variable (w : Wk) (leaves : Bool) (wf : Nat → List Int → List Int)
def upd (st : Nat → Std) (k : Nat) (s : Std) : Nat → Std := fun j => if j = k then s else st j
end
section
variable {w : Wk} {leaves : Bool} {wf : Nat → List Int → List Int}
end
end Go.Proofs.YtgfiniccfpfplaaGreat

namespace Go.Proofs.YtgfiniccfpfplaaGreat
set_option linter.unusedVariables false
set_option linter.unusedSimpArgs false
structure RM (w : Wk) (D : Nat) (s t : Std) : Prop where
 used : s.used = t.used
 day : s.day = t.day
 le : s.day ≤ (D : Int)
 row : (D : Int) - 1 ≤ s.day → s.row = t.row
 free : s.free = t.free ∨ s.free ≤ 1440 * (D : Int) - w.rest ∧ t.free ≤ 1440 * (D : Int) - w.rest
section
variable {w : Wk} {D : Nat} {s t : Std} {d : Dty}
theorem RM.holds (h : RM w D s t) (hd : d.day = (D : Int)) (ho : 0 ≤ d.on) {q : Nat} {x : Drv} : holds w q x d s = holds w q x d t := by
 have h1 := h.day
 match q with
 | 0 => rfl
 | 1 => rfl
 | 2 => simp only [YtgfiniccfpfplaaGreat.holds, h1]
 | 3 =>
  simp only [YtgfiniccfpfplaaGreat.holds, h1]
  congr 1
  apply decide_eq_decide.2
  have := h.free
  omega
 | q + 4 =>
  simp only [YtgfiniccfpfplaaGreat.holds, h1]
  by_cases e : t.day = d.day
  ·rw [decide_eq_true e]; rfl
  ·congr 1
   have e2 : (take s d d.on).row = (take t d d.on).row := by
    unfold take
    rw [if_neg (by omega), if_neg e]
    simp only
    by_cases e3 : t.day = d.day - 1
    ·rw [if_pos (by omega), if_pos e3, h.row (by omega)]
    ·rw [if_neg (by omega), if_neg e3]
   rw [e2]
theorem RM.take (h : RM w D s t) (hd : d.day = (D : Int)) {e : Int} : RM w D (take s d e) (take t d e) := by
 have h1 := h.day
 have h2 := h.used
 have h3 := h.le
 unfold YtgfiniccfpfplaaGreat.take
 by_cases e1 : t.day = d.day
 ·rw [if_pos (by omega), if_pos e1]
  exact ⟨by simp only; omega, by simp only; omega, by simp only; omega, h.row, h.free⟩
 ·rw [if_neg (by omega), if_neg e1]
  refine ⟨by simp only; omega, rfl, by simp only; omega, ?_, .inl rfl⟩
  intro _
  simp only
  by_cases e3 : t.day = d.day - 1
  ·rw [if_pos (by omega), if_pos e3, h.row (by omega)]
  ·rw [if_neg (by omega), if_neg e3]
end
structure Val (w : Wk) (n : Nat) : Prop extends Days w n where
 on : ∀ i, i < w.duties.length → 0 ≤ (dty w i).on ∧ (dty w i).on ≤ (dty w i).hi
 used : ∀ k, k < w.drivers.length → (drv w k).used ≤ w.hours
section
variable {w : Wk} {leaves : Bool} {wf : Nat → List Int → List Int} {ros : Nat → Int}
end
end Go.Proofs.YtgfiniccfpfplaaGreat
