import Derived.Test.YtffgfojabcbegaaVG
import Derived.Test.YtffgfojabcbegaaUP
import Derived.Test.YtffgfojabcbegaaTy
import Derived.Test.YtffgfojabcbegaaWD
import Derived.Test.YtffgfojabcbegaaWB

namespace Go.Proofs.Ytffgfojabcbegaa
open Go Go.Lay
set_option linter.unusedVariables false
set_option linter.unusedSimpArgs false
set_option maxRecDepth 20000
theorem zRU {L : List Rec} : ∀ {j : Nat} {o : List Lk}, uG L j = some o → o.length ≤ j
 | 0, o, ho => by cases ho; exact Nat.le_refl _
 | j + 1, o, ho => by
  cases hp : uG L j with
  | none => rw [zJF hp (Nat.le_succ j)] at ho; cases ho
  | some o' =>
   have := zRU hp
   cases hx : L[j]? with
   | none =>
    have : uG L (j + 1) = none := by
     show (match uG L j, L[j]? with | some o, some r => _ | _, _ => none) = none
     rw [hp, hx]
    rw [this] at ho; cases ho
   | some x =>
    rw [zES hp hx] at ho
    split at ho
    ·split at ho
     ·split at ho
      ·cases ho; simp; omega
      ·cases ho; omega
     ·cases ho
    ·cases ho; omega
section
variable {σ : St}
end
end Go.Proofs.Ytffgfojabcbegaa

namespace Go.Proofs.Ytffgfojabcbegaa
open Go Go.Lay
set_option linter.unusedVariables false
set_option linter.unusedSimpArgs false
set_option maxRecDepth 20000
theorem yDE {xs : List Rec} (h : yS [xs] = 0) : xs.length ≤ 60 ∧ ∀ x ∈ xs, yD x = true := by
 obtain ⟨_, h2, h3⟩ := zMN h
 exact ⟨h2 xs (by simp), h3 xs (by simp)⟩
section
variable {σ : St}
end
end Go.Proofs.Ytffgfojabcbegaa

namespace Go.Proofs.Ytffgfojabcbegaa
open Go Go.Lay
set_option linter.unusedVariables false
set_option linter.unusedSimpArgs false
set_option maxRecDepth 20000
section
variable {σ : St}
theorem codeZ_0 {xs : List Rec} (hcz : zEQ [xs] = 0) : yS [xs] = 0 ∧ zGE xs = true := by
 have hflat : ([xs] : List (List Rec)).flatten = xs := by simp
 have hz : yS [xs] = 0 := by
  unfold zEQ at hcz
  by_cases e : yS [xs] = 0
  ·exact e
  ·rw [if_neg e] at hcz; exact absurd hcz e
 refine ⟨hz, ?_⟩
 unfold zEQ at hcz
 rw [if_pos hz, hflat] at hcz
 cases e : zGE xs with
 | true => rfl
 | false => rw [e] at hcz; cases hcz
theorem yTN {p : Option Addr} {l c : Nat} {xs : List Rec} (h : yK σ 59 p l xs) (hl : l ≤ 1000000) : ∃ b σ7, zD Try.prog 16 [.slice p l c] σ (.slice (some ⟨b, 0, none⟩) 1 1) σ7 ∧ New σ σ7 ∧ zD Try.prog 19 [.slice (some ⟨b, 0, none⟩) 1 1] σ7 (iV (zEQ [xs])) σ7 := by
 have hlen := h.len
 obtain ⟨b, σ7, k3, n3, o3, _⟩ := one_c (c := c) h
 exact ⟨b, σ7, k3, n3, fault_c (c := 1) (vT.single agg22 o3 (SlV.le h n3.le)) (by omega) (by intro r hr; simp at hr; subst hr; omega) (by rw [show ([xs] : List (List Rec)).flatten = xs by simp]; omega)⟩
end
end Go.Proofs.Ytffgfojabcbegaa

namespace Go.Proofs.Ytffgfojabcbegaa
open Go Go.Lay
set_option linter.unusedVariables false
set_option maxRecDepth 20000
variable {l q1 : Option Addr} {l_l l_c l1 c1 : Nat} {σ2 σ : St} {n3 : Int} {Q : Value → St → Prop}
theorem yWN (h1 : zD Try.prog 16 [.slice l l_l l_c] σ (.slice q1 l1 c1) σ2) (h2 : zD Try.prog 19 [.slice q1 l1 c1] σ2 (iV n3) σ2) (nx : Q (.bool true) σ2) (u1 : ((l_l : Nat) : Int) ≤ 60 := by omega) (u2 : n3 = 0 := by omega) : zJ Try.prog 26 [.slice l l_l l_c] σ Q :=
 zH [.g, .g, .g, .b true, .g, .g, .c (.slice q1 l1 c1) σ2, .c (iV n3) σ2, .b true, .g, .g] (kc (by kernel_rfl) (ai (yN u1) (ai h1 (ai h2 (ai (xL u2) nx)))))
theorem yWM (h1 : zD Try.prog 16 [.slice l l_l l_c] σ (.slice q1 l1 c1) σ2) (h2 : zD Try.prog 19 [.slice q1 l1 c1] σ2 (iV n3) σ2) (nx : Q (.bool false) σ2) (u1 : ((l_l : Nat) : Int) ≤ 60 := by omega) (u2 : ¬ n3 = 0 := by omega) : zJ Try.prog 26 [.slice l l_l l_c] σ Q :=
 zH [.g, .g, .g, .b true, .g, .g, .c (.slice q1 l1 c1) σ2, .c (iV n3) σ2, .b false, .g, .g] (kc (by kernel_rfl) (ai (yN u1) (ai h1 (ai h2 (ai (yP u2) nx)))))
theorem yWL (nx : Q (.bool false) σ) (u1 : ¬ ((l_l : Nat) : Int) ≤ 60 := by omega) : zJ Try.prog 26 [.slice l l_l l_c] σ Q :=
 zH [.g, .g, .g, .b false, .g, .g, .g] (kc (by kernel_rfl) (ai (yR u1) nx))
end Go.Proofs.Ytffgfojabcbegaa

namespace Go.Proofs.Ytffgfojabcbegaa
open Go Go.Lay
set_option linter.unusedVariables false
set_option linter.unusedSimpArgs false
set_option maxRecDepth 20000
section
variable {σ : St}
theorem ready_c {p : Option Addr} {l c : Nat} {xs : List Rec} (h : yK σ 59 p l xs) : zD Try.prog 26 [.slice p l c] σ (.bool (decide (l ≤ 60) && decide (zEQ [xs] = 0))) σ := by
 by_cases h60 : l ≤ 60
 ·obtain ⟨b, σ7, k3, n3, k4⟩ := yTN (c := c) (SlV.le h (le0 σ)) (by omega)
  by_cases hz : zEQ [xs] = 0
  ·rw [decide_eq_true h60, decide_eq_true hz]
   exact zJ.pure (yWN k3 k4 ⟨rfl, n3.lw⟩ (by omega) hz)
  ·rw [decide_eq_true h60, decide_eq_false hz]
   exact zJ.pure (yWM k3 k4 ⟨rfl, n3.lw⟩ (by omega) hz)
 ·rw [decide_eq_false h60]
  exact zJ.pure (yWL ⟨rfl, Nat.le_refl _⟩ (by omega))
end
end Go.Proofs.Ytffgfojabcbegaa

namespace Go.Proofs.Ytffgfojabcbegaa
open Go Go.Lay
set_option linter.unusedVariables false
set_option linter.unusedSimpArgs false
set_option maxRecDepth 20000
theorem yKC {ox oy : Operand} {t : TypeId} {a b : Int} (h : b ≠ 0) : wG Try.prog .rem t ox oy (iV a) (iV b) = some (iV (a.tmod b)) := by
 simp [wG, zFS, yCY, h]
section
variable {σ : St}
end
end Go.Proofs.Ytffgfojabcbegaa

namespace Go.Proofs.Ytffgfojabcbegaa
open Go Go.Lay
set_option linter.unusedVariables false
set_option linter.unusedSimpArgs false
set_option maxRecDepth 20000
theorem zVI {xs : List Rec} (hl : xs.length ≤ 60) (hr : ∀ x ∈ xs, yD x = true) : yS [xs] = 0 := by
 rw [yNM, if_neg (by omega), if_pos (List.all_eq_true.2 hr)]
theorem zJK {xs : List Rec} (hr : ∀ x ∈ xs, yD x = true) : ∀ x ∈ xs, zSM x := fun x hx => by
 have := zFU (hr x hx)
 unfold zSM; omega
section
variable {σ σ8 : St}
end
end Go.Proofs.Ytffgfojabcbegaa

namespace Go.Proofs.Ytffgfojabcbegaa
open Go Go.Lay
set_option linter.unusedVariables false
set_option linter.unusedSimpArgs false
set_option maxRecDepth 20000
theorem lk_list {x y : Lk} : [x.m, x.f, x.t, x.sales, x.coins] = [y.m, y.f, y.t, y.sales, y.coins] ↔ x = y := by
 constructor
 ·intro h; simp at h; cases x; cases y; simp_all
 ·rintro rfl; rfl
theorem pv_eq70 (x y : Lk) : zY Try.prog (Op.equal 70 (lkV x) (lkV y)) = some (decide (x = y)) := by
 have h := yKY (P := Try.prog) (t := 70) (n := 5) (d := 9998) (by kernel_rfl) («as» := [x.m, x.f, x.t, x.sales, x.coins]) (bs := [y.m, y.f, y.t, y.sales, y.coins]) rfl rfl
 rw [show decide (x = y) = decide ([x.m, x.f, x.t, x.sales, x.coins] = [y.m, y.f, y.t, y.sales, y.coins]) from decide_eq_decide.2 lk_list.symm]
 exact h
theorem neq70 {x y : Lk} {o1 o2 : Operand} : wG Try.prog .neq 70 o1 o2 (lkV x) (lkV y) = some (.bool (!decide (x = y))) := by
 have e : ∀ (x1 x2 x3 x4 x5 y1 y2 y3 y4 y5 : Int), wG Try.prog .neq 70 o1 o2 (.agg ⟨zQ x1 x2 x3 x4 x5⟩) (.agg ⟨zQ y1 y2 y3 y4 y5⟩) = (zY Try.prog (do eqGuard .neq 70 o1 o2 (.agg ⟨zQ x1 x2 x3 x4 x5⟩) (.agg ⟨zQ y1 y2 y3 y4 y5⟩); binOp .neq 70 (.agg ⟨zQ x1 x2 x3 x4 x5⟩) (.agg ⟨zQ y1 y2 y3 y4 y5⟩))).filter (zN RD) := fun _ _ _ _ _ _ _ _ _ _ => by kernel_rfl
 have e1 : ∀ (x1 x2 x3 x4 x5 y1 y2 y3 y4 y5 : Int), zY Try.prog (eqGuard .neq 70 o1 o2 (.agg ⟨zQ x1 x2 x3 x4 x5⟩) (.agg ⟨zQ y1 y2 y3 y4 y5⟩)) = some () := fun _ _ _ _ _ _ _ _ _ _ => by kernel_rfl
 have e2 : ∀ x y : List Value, binOp .neq 70 (.agg ⟨x⟩) (.agg ⟨y⟩) = (do let r ← Op.equal 70 (.agg ⟨x⟩) (.agg ⟨y⟩); pure (.bool (!r))) := fun _ _ => rfl
 rw [e, wJ, e1]
 simp only [Option.bind_some]
 rw [e2, wJ, pv_eq70]
 rfl
section
variable {σ σ0 τ : St}
end
end Go.Proofs.Ytffgfojabcbegaa

namespace Go.Proofs.Ytffgfojabcbegaa
open Go Go.Lay
set_option linter.unusedVariables false
set_option linter.unusedSimpArgs false
set_option maxRecDepth 20000
section
variable {P : Program} {σ : St}
end
theorem zOF (xs : List Rec) : (xH (xs.map yO)).all cellB = true := by
 induction xs with
 | nil => rfl
 | cons x xs ih =>
  rw [List.map_cons, show (yO x :: xs.map yO) = [yO x] ++ xs.map yO from rfl, uH, List.all_append, ih]
  rfl
theorem rate_bd {rate : Int} (h : 0 ≤ rate) : 0 ≤ rate.tmod 1001 ∧ rate.tmod 1001 ≤ 1000 := by
 have h1 := Int.tmod_nonneg 1001 h
 have h2 := Int.tmod_lt_of_pos rate (show (0 : Int) < 1001 by omega)
 omega
section
variable {σ : St}
theorem yWO {p : Option Addr} {l c : Nat} {xs : List Rec} (h : yK σ 59 p l xs) : zD Try.prog 26 [.slice p l c] σ (.bool false) σ ∨ (zD Try.prog 26 [.slice p l c] σ (.bool true) σ ∧ l ≤ 60 ∧ zAQ xs ∧ ∀ x ∈ xs, yD x = true) := by
 have k1 := ready_c (c := c) h
 by_cases hrd : l ≤ 60 ∧ zEQ [xs] = 0
 rotate_left
 ·have e : (decide (l ≤ 60) && decide (zEQ [xs] = 0)) = false := by
   cases e : (decide (l ≤ 60) && decide (zEQ [xs] = 0)) with
   | false => rfl
   | true => simp at e; exact absurd e hrd
  rw [e] at k1
  exact .inl k1
 obtain ⟨h60, hcz⟩ := hrd
 rw [decide_eq_true h60, decide_eq_true hcz] at k1
 obtain ⟨hf, hcb⟩ := codeZ_0 hcz
 exact .inr ⟨k1, h60, vY.1 hcb, (yDE hf).2⟩
end
end Go.Proofs.Ytffgfojabcbegaa
