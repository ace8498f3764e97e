
import Derived.Test.YtgfiniccfpfplaaGreatRP
namespace Go.Proofs.YtgfiniccfpfplaaGreat
open Go Go.Lay
set_option linter.unusedVariables false
set_option linter.unusedSimpArgs false
set_option maxRecDepth 20000
section
variable {w : Wk} {ros tru : Nat → Int} {l m : Nat}
structure StB (s : Std) (n : Nat) : Prop where
 free : -10080 ≤ s.free ∧ s.free ≤ 100000
 day : -1 ≤ s.day ∧ s.day ≤ 6
 row : 0 ≤ s.row ∧ s.row ≤ 15 + s.day
 used : 0 ≤ s.used ∧ s.used ≤ 20000 + 1440 * n
theorem StB.ok {s : Std} {n : Nat} (h : StB s n) (hn : n ≤ 200) : StOk s := by
 have h1 := h.free; have h2 := h.day; have h3 := h.row; have h4 := h.used
 exact ⟨by omega, by omega, by omega, by omega⟩
theorem StB.mono {s : Std} {n n' : Nat} (h : StB s n) (hn : n ≤ n') : StB s n' := ⟨h.free, h.day, h.row, by have := h.used; omega⟩
theorem StB.take {s : Std} {x : Dty} {e : Int} {n : Nat} (h : StB s n) (hx : 0 ≤ x.day ∧ x.day ≤ 6) (he : x.on ≤ e ∧ e ≤ x.on + 1440) (ho : 0 ≤ x.on ∧ x.on ≤ 1439) (hd : s.day ≤ x.day) : StB (take s x e) (n + 1) := by
 have h1 := h.free; have h2 := h.day; have h3 := h.row; have h4 := h.used
 unfold Go.Proofs.YtgfiniccfpfplaaGreat.take
 by_cases e1 : s.day = x.day
 ·rw [if_pos e1]
  exact ⟨h1, h2, h3, by simp only; omega⟩
 ·rw [if_neg e1]
  refine ⟨by simp only; omega, ⟨by simp only; omega, hx.2⟩, ?_, by simp only; omega⟩
  simp only
  by_cases e2 : s.day = x.day - 1
  ·rw [if_pos e2]; omega
  ·rw [if_neg e2]; omega
theorem zZI {k D j : Nat} : (wG w ros tru k D j).day ≤ (D : Int) := by
 obtain ⟨h1, h2⟩ := zVP (w := w) (ros := ros) (tru := tru) (k := k) (D := D) (j := j)
 by_cases e : onL w ros k D j = []
 ·rw [h2 e, (zMM (w := w) (ros := ros) (tru := tru) (k := k) (D := D)).2.2]
  have := zIK (w := w) (ros := ros) (k := k) (D := D)
  omega
 ·rw [h1.2 e]; exact Int.le_refl _
theorem standI_b (hs : Sane w l m) (hl : w.duties.length = l) (ht : ∀ i, i < l → (dty w i).on ≤ tru i ∧ tru i ≤ (dty w i).on + 1440) {k : Nat} (hk : k < m) : ∀ {D j : Nat}, j ≤ l → StB (wG w ros tru k D j) (D * l + j) := by
 have step : ∀ {D j : Nat}, j < l → StB (wG w ros tru k D j) (D * l + j) → StB (wG w ros tru k D (j + 1)) (D * l + (j + 1)) := by
  intro D j hj h
  rw [zPP]
  split
  ·rename_i hh
   unfold his at hh
   simp only [Bool.and_eq_true, decide_eq_true_eq] at hh
   have hd := hs.duty j hj
   have := zZI (w := w) (ros := ros) (tru := tru) (k := k) (D := D) (j := j)
   exact h.take ⟨hd.1, hd.2.1⟩ (ht j hj) ⟨hd.2.2.1, hd.2.2.2.1⟩ (by omega)
  ·exact h.mono (by omega)
 have day : ∀ {D : Nat}, StB (wG w ros tru k D 0) (D * l + 0) → ∀ {j : Nat}, j ≤ l → StB (wG w ros tru k D j) (D * l + j) := by
  intro D h0 j
  induction j with
  | zero => intro _; exact h0
  | succ j ih => intro hj; exact step (by omega) (ih (by omega))
 intro D
 induction D with
 | zero =>
  intro j hj
  refine day ?_ hj
  have := hs.dr k hk
  show StB (before (drv w k)) _
  exact ⟨⟨this.1, by show (drv w k).off ≤ _; omega⟩, ⟨Int.le_refl _, by show (-1 : Int) ≤ 6; omega⟩, ⟨this.2.2.1, by show (drv w k).row ≤ 15 + (-1 : Int); omega⟩, ⟨this.2.2.2.2.1, by show (drv w k).used ≤ _; omega⟩⟩
 | succ D ih =>
  intro j hj
  refine day ?_ hj
  have h := ih (Nat.le_refl l)
  have e : wG w ros tru k (D + 1) 0 = wG w ros tru k D l := by
   rw [← hl]; rfl
  rw [e, Nat.add_mul, Nat.one_mul]
  exact h
def stF (w : Wk) (ros tru : Nat → Int) (m D j : Nat) : Nat → Std := fun k => if k < m then wG w ros tru k D j else std0
theorem stF_next {D : Nat} : stF w ros tru m (D + 1) 0 = stF w ros tru m D w.duties.length := rfl
theorem yIB {D j : Nat} (h : ¬ ((dty w j).day = (D : Int) ∧ 0 ≤ ros j)) : stF w ros tru m D (j + 1) = stF w ros tru m D j := by
 funext k
 unfold stF
 split
 ·rw [zPP, if_neg]
  unfold his
  simp only [Bool.and_eq_true, decide_eq_true_eq]
  rintro ⟨h1, h2⟩
  exact h ⟨h2, by omega⟩
 ·rfl
theorem stF_take {D j k : Nat} (hk : k < m) (hd : (dty w j).day = (D : Int)) (hr : ros j = (k : Int)) : stF w ros tru m D (j + 1) = upd (stF w ros tru m D j) k (take (stF w ros tru m D j k) (dty w j) (tru j)) := by
 funext i
 unfold stF upd
 by_cases e : i = k
 ·subst e
  rw [if_pos hk, if_pos rfl, if_pos hk, zPP, if_pos (by unfold his; simp [hd, hr])]; rfl
 ·rw [if_neg e]
  show (if i < m then wG w ros tru i D (j + 1) else std0) = if i < m then wG w ros tru i D j else std0
  have e2 : wG w ros tru i D (j + 1) = wG w ros tru i D j := by rw [zPP, if_neg (by unfold his; simp [hd, hr]; omega)]
  rw [e2]
theorem yDM {D j : Nat} (h : ¬ ((dty w j).day = (D : Int) ∧ ros j ≠ -1)) : zGX w ros tru D (j + 1) = zGX w ros tru D j := by
 rw [ySP]
 split
 ·rename_i hd
  have : ros j = -1 := Decidable.not_not.1 fun e => h ⟨hd, e⟩
  unfold zOH
  rw [if_pos this, List.append_nil]
 ·rw [List.append_nil]
theorem dayB_take {D j k : Nat} (hk : k < m) (hd : (dty w j).day = (D : Int)) (hr : ros j = (k : Int)) : zGX w ros tru D (j + 1) = zGX w ros tru D j ++ zOI w k j (stF w ros tru m D j k) 5 := by
 rw [ySP, if_pos hd]
 congr 1
 unfold zOH zOI stF
 rw [if_neg (by omega), if_pos hk, show (ros j).toNat = k by omega]
end
end Go.Proofs.YtgfiniccfpfplaaGreat
