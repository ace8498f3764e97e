
import Derived.Test.YtffgfojabcbegaaSC
namespace Go.Proofs.Ytffgfojabcbegaa
open Go Go.Lay
open Try renaming prog → Pg
set_option linter.unusedVariables false
set_option linter.unusedSimpArgs false
set_option maxRecDepth 20000
theorem zYB : AppT Pg 28 28 79 6 := zNY (by kernel_rfl)
theorem zMO : AppT Pg 22 22 59 6 := zNY (by kernel_rfl)
theorem zMI (x : Rec) : zJM Pg 79 6 (yE x) := .inr ⟨zDV, yX, _, rfl, rfl⟩
theorem zHI (x : Rec) : zJM Pg 59 6 (yE x) := .inr ⟨zHP, uC, _, rfl, rfl⟩
def recQ (j : Nat) : IntKind := if j = 3 then .u8 else .i64
theorem yCY (x : Rec) (j : Nat) (n : Int) (h : [x.m, x.s, x.t, x.k, x.a, x.b][j]? = some n) : (⟨yN x⟩ : Array Value)[j]? = some (.int (recQ j) n) := by
 rcases j with _ | _ | _ | _ | _ | _ | j <;> simp_all [recQ]
theorem yHL {x y : Rec} : [x.m, x.s, x.t, x.k, x.a, x.b] = [y.m, y.s, y.t, y.k, y.a, y.b] ↔ x = y := by
 constructor
 ·intro h; simp at h; cases x; cases y; simp_all
 ·rintro rfl; rfl
theorem pv_eq79 (x y : Rec) : yI Pg (Op.equal 79 (yE x) (yE y)) = some (decide (x = y)) := by
 have h := yDS (P := Pg) (t := 79) (n := 6) (d := 9998) recQ (by kernel_rfl) («as» := [x.m, x.s, x.t, x.k, x.a, x.b]) (bs := [y.m, y.s, y.t, y.k, y.a, y.b]) (xs := ⟨yN x⟩) (ys := ⟨yN y⟩) rfl rfl (yCY x) (yCY y)
 rw [show decide (x = y) = decide ([x.m, x.s, x.t, x.k, x.a, x.b] = [y.m, y.s, y.t, y.k, y.a, y.b]) from decide_eq_decide.2 yHL.symm]
 exact h
theorem pv_eq59 (x y : Rec) : yI Pg (Op.equal 59 (yE x) (yE y)) = some (decide (x = y)) := by
 have h := yDS (P := Pg) (t := 59) (n := 6) (d := 9998) recQ (by kernel_rfl) («as» := [x.m, x.s, x.t, x.k, x.a, x.b]) (bs := [y.m, y.s, y.t, y.k, y.a, y.b]) (xs := ⟨yN x⟩) (ys := ⟨yN y⟩) rfl rfl (yCY x) (yCY y)
 rw [show decide (x = y) = decide ([x.m, x.s, x.t, x.k, x.a, x.b] = [y.m, y.s, y.t, y.k, y.a, y.b]) from decide_eq_decide.2 yHL.symm]
 exact h
theorem eql59 {x y : Rec} {o1 o2 : Operand} : vZ Pg .eql 59 o1 o2 (yE x) (yE y) = some (.bool (decide (x = y))) := by
 have e : ∀ (x1 x2 x3 x4 x5 x6 y1 y2 y3 y4 y5 y6 : Int), vZ Pg .eql 59 o1 o2 (.agg ⟨rcd x1 x2 x3 x4 x5 x6⟩) (.agg ⟨rcd y1 y2 y3 y4 y5 y6⟩) = (yI Pg (do eqGuard .eql 59 o1 o2 (.agg ⟨rcd x1 x2 x3 x4 x5 x6⟩) (.agg ⟨rcd y1 y2 y3 y4 y5 y6⟩); binOp .eql 59 (.agg ⟨rcd x1 x2 x3 x4 x5 x6⟩) (.agg ⟨rcd y1 y2 y3 y4 y5 y6⟩))).filter (zQ RD) := fun _ _ _ _ _ _ _ _ _ _ _ _ => by kernel_rfl
 have e1 : ∀ (x1 x2 x3 x4 x5 x6 y1 y2 y3 y4 y5 y6 : Int), yI Pg (eqGuard .eql 59 o1 o2 (.agg ⟨rcd x1 x2 x3 x4 x5 x6⟩) (.agg ⟨rcd y1 y2 y3 y4 y5 y6⟩)) = some () := fun _ _ _ _ _ _ _ _ _ _ _ _ => by kernel_rfl
 have e2 : ∀ x y : List Value, binOp .eql 59 (.agg ⟨x⟩) (.agg ⟨y⟩) = (do let r ← Op.equal 59 (.agg ⟨x⟩) (.agg ⟨y⟩); pure (.bool r)) := fun _ _ => rfl
 rw [e, uK, e1]
 simp only [Option.bind_some]
 rw [e2, uK, pv_eq59]
 rfl
theorem neq79 {x y : Rec} {o1 o2 : Operand} : vZ Pg .neq 79 o1 o2 (yE x) (yE y) = some (.bool (!decide (x = y))) := by
 have e : ∀ (x1 x2 x3 x4 x5 x6 y1 y2 y3 y4 y5 y6 : Int), vZ Pg .neq 79 o1 o2 (.agg ⟨rcd x1 x2 x3 x4 x5 x6⟩) (.agg ⟨rcd y1 y2 y3 y4 y5 y6⟩) = (yI Pg (do eqGuard .neq 79 o1 o2 (.agg ⟨rcd x1 x2 x3 x4 x5 x6⟩) (.agg ⟨rcd y1 y2 y3 y4 y5 y6⟩); binOp .neq 79 (.agg ⟨rcd x1 x2 x3 x4 x5 x6⟩) (.agg ⟨rcd y1 y2 y3 y4 y5 y6⟩))).filter (zQ RD) := fun _ _ _ _ _ _ _ _ _ _ _ _ => by kernel_rfl
 have e1 : ∀ (x1 x2 x3 x4 x5 x6 y1 y2 y3 y4 y5 y6 : Int), yI Pg (eqGuard .neq 79 o1 o2 (.agg ⟨rcd x1 x2 x3 x4 x5 x6⟩) (.agg ⟨rcd y1 y2 y3 y4 y5 y6⟩)) = some () := fun _ _ _ _ _ _ _ _ _ _ _ _ => by kernel_rfl
 have e2 : ∀ x y : List Value, binOp .neq 79 (.agg ⟨x⟩) (.agg ⟨y⟩) = (do let r ← Op.equal 79 (.agg ⟨x⟩) (.agg ⟨y⟩); pure (.bool (!r))) := fun _ _ => rfl
 rw [e, uK, e1]
 simp only [Option.bind_some]
 rw [e2, uK, pv_eq79]
 rfl
section
variable {σ : St}
theorem zYC {α : Type} {xs : List α} {i : Nat} {f : α → Bool} {x : α} (h : xs[i]? = some x) (ha : (xs.take i).all f = true) (hf : f x = true) : (xs.take (i + 1)).all f = true := by rw [xK h, List.all_append, ha]; simp [hf]
theorem yRR {α : Type} {xs : List α} {f : α → Bool} {x : α} (h : x ∈ xs) (hf : f x = false) : xs.all f = false := by
 cases e : xs.all f with
 | false => rfl
 | true => rw [List.all_eq_true.1 e x h] at hf; cases hf
theorem rFault_c {p : Option Addr} {l c : Nat} {rs : List (List Rec)} (h : zAY σ 31 59 p l rs) (hl : l ≤ 1073741824) (hr : ∀ r ∈ rs, r.length ≤ 1073741824) : zF Pg 15 [.slice p l c] σ (iV (xR rs)) σ := by
 have hlen := h.len
 have h0 := h.le (le0 σ)
 by_cases h6 : 6 < l
 ·exact (yWA ⟨by simp [xR, hlen, h6], Nat.le_refl _⟩).pure
 have n6 : ¬ 6 < rs.length := by omega
 refine zM.pure (yVZ (Pr := fun n τ => τ = σ.re ∧ n = xR rs) (P0 := fun τ => τ = σ.re ∧ (rs.all fun r => decide (r.length ≤ 60)) = true)
  (yDL (Inv := fun k i τ => ∃ s : Nat, i = s ∧ s + k = l ∧ τ = σ.re ∧ ((rs.take s).all fun r => decide (r.length ≤ 60)) = true) ?_ l 0 σ.re ⟨0, rfl, by omega, rfl, by simp⟩)
  (fun n τ h => yDH ⟨by rw [h.2], by rw [h.1]; exact Nat.le_refl _⟩) (fun τ h => ?_) (by omega))
 ·rintro k i τ ⟨s, rfl, hk, rfl, ha⟩
  by_cases hs : s < l
  rotate_left
  ·exact yMZ ⟨rfl, by rwa [List.take_of_length_le (by omega)] at ha⟩ (by omega)
  obtain ⟨a, rfl, r, q, d, hr', ld, _⟩ := h0.row hs
  have ld := ld _ (Le.refl _)
  by_cases e : r.length ≤ 60
  ·exact yNA ld ⟨k - 1, by omega, s + 1, by omega, by omega, rfl, zYC hr' ha (by simp [e])⟩ (by omega) (by omega) (by omega)
  ·exact yNB ld ⟨rfl, by simp only [xR, n6, if_false, yRR (f := fun r : List Rec => decide (r.length ≤ 60)) (List.mem_of_getElem? hr') (by simp [e])]; rfl⟩ (by omega) (by omega) (by omega)
 obtain ⟨rfl, h60⟩ := h
 refine yDI (P2 := fun τ => τ = σ.re ∧ (rs.all fun r => r.all yG) = true) (Pr := fun n τ => τ = σ.re ∧ n = xR rs)
  (yDK (Inv := fun k i τ => ∃ s : Nat, i = s ∧ s + k = l ∧ τ = σ.re ∧ ((rs.take s).all fun r => r.all yG) = true) ?_ l 0 σ.re ⟨0, rfl, by omega, rfl, by simp⟩)
  (fun τ h => yDG ⟨by simp only [xR, n6, if_false, h60, h.2]; rfl, by rw [h.1]; exact Nat.le_refl _⟩) (fun n τ h => yDF ⟨by rw [h.2], by rw [h.1]; exact Nat.le_refl _⟩)
 rintro k i τ ⟨s, rfl, hk, rfl, ha⟩
 by_cases hs : s < l
 rotate_left
 ·exact yMX ⟨rfl, by rwa [List.take_of_length_le (by omega)] at ha⟩ (by omega)
 obtain ⟨a, rfl, r, q, d, hr', ld, hq⟩ := h0.row hs
 have ld := ld _ (Le.refl _)
 have hrl := hr r (List.mem_of_getElem? hr')
 refine yMY (Pr := fun n τ => τ = σ.re ∧ n = xR rs) (P4 := fun τ => τ = σ.re ∧ r.all yG = true)
  (yDJ (Inv := fun k i τ => ∃ s' : Nat, i = s' ∧ s' + k = r.length ∧ τ = σ.re ∧ (r.take s').all yG = true) ?_ r.length 0 σ.re ⟨0, rfl, by omega, rfl, by simp⟩)
  (fun n τ h => yDD h) (fun τ h => yDE ⟨k - 1, by omega, s + 1, by omega, by omega, h.1, zYC hr' ha h.2⟩) (by omega)
 rintro k' i' τ ⟨s', rfl, hk', rfl, ha'⟩
 by_cases hs' : s' < r.length
 rotate_left
 ·exact yMU ld ⟨rfl, by rwa [List.take_of_length_le (by omega)] at ha'⟩ (by omega) (by omega)
 obtain ⟨a', rfl, x, hx, ldx⟩ := zAO hq hs'
 have c := rRight_c (σ := σ.re) (x := x)
 cases hb : yG x with
 | true => rw [hb] at c; exact yMW ld ldx c ⟨k' - 1, by omega, s' + 1, by omega, by omega, rfl, zYC hx ha' hb⟩ (by omega) (by omega) (by omega)
 | false =>
  rw [hb] at c
  have e2 := yRR (f := fun r : List Rec => r.all yG) (List.mem_of_getElem? hr') (yRR (List.mem_of_getElem? hx) hb)
  exact yMV ld ldx c ⟨rfl, by simp only [xR, n6, if_false, h60, e2]; rfl⟩ (by omega) (by omega) (by omega)
theorem one_c {p : Option Addr} {l c : Nat} {xs : List Rec} (h : yU σ 59 p l xs) : ∃ b σ', zF Pg 16 [.slice p l c] σ (.slice (some ⟨b, 0, none⟩) 1 1) σ' ∧ New σ σ' ∧ Own σ' b [.slice p l c] 1 ∧ σ.next ≤ b := by
 obtain ⟨v, σ', h1, h2, b, rfl, h3, h4⟩ := zM.new (P := Pg) (f := 16) (args := [.slice p l c]) (σ := σ) (Q := fun v s => ∃ b, v = .slice (some ⟨b, 0, none⟩) 1 1 ∧ Own s b [.slice p l c] 1 ∧ σ.next ≤ b) (one_ra ⟨New.row _ _ _, _, rfl, zE _ _ _, Nat.le_refl _⟩)
  (by rintro v s s' ⟨b, rfl, h, h'⟩ hl; exact ⟨b, rfl, h.le hl, h'⟩) (by rintro v s hr ⟨b, rfl, _⟩; exact Bool.noConfusion (show false = true from hr))
 exact ⟨b, σ', h1, h2, h3, h4⟩
theorem yCG {p : Option Addr} {l c : Nat} {xs : List Rec} (h : yU σ 59 p l xs) (hl : l ≤ 1073741823) : ∃ p' c' σ', zF Pg 14 [.slice p l c] σ (.slice p' l c') σ' ∧ New σ σ' ∧ yU σ' 79 p' l xs ∧ ∀ b, AtP p' b → σ.next ≤ b := by
 have hlen := h.len
 refine zM.newSl (yRV (P0 := fun p' l' c' τ => l' = l ∧ New σ.re τ ∧ Gr Pg τ σ.next 79 6 p' l c' (xs.map yE)) (zYV (Inv := fun k p' l' c' i τ => ∃ s : Nat, i = s ∧ l' = s ∧ s + k = l ∧ New σ.re τ ∧ Gr Pg τ σ.next 79 6 p' s c' ((xs.take s).map yE)) ?_ l none 0 0 0 σ.re ⟨0, rfl, rfl, by omega, New.refl _, by simpa using Gr.nil⟩) ?_)
 ·rintro k p' l' c' i τ ⟨s, rfl, rfl, hk, hN, hg⟩
  by_cases hs : l' < l
  rotate_left
  ·have : l' = l := by omega
   subst this
   rw [List.take_of_length_le (by omega)] at hg
   exact yLL ⟨rfl, hN, hg⟩ (by omega)
  obtain ⟨a, rfl, x, hx, ld⟩ := zAO ((SlV.le h (le0 σ)).le hN.le) hs
  obtain ⟨p4, c4, τ2, g1, g2, g3, g4, g5⟩ := grow (σ0 := σ.re) (yE x) zYB hg hN (New.refl τ) (zMI _) (by omega) (e := rfl) (hc := rfl)
  exact yLM ld record_c g1 ⟨k - 1, by omega, l' + 1, by omega, rfl, by omega, g3, by rw [xK hx, List.map_append]; exact g2⟩ (by omega)
 ·rintro p' l' c' τ ⟨rfl, hN, hg⟩
  exact zYU ⟨hN, p', c', rfl, hg.slv, fun b hb => (hg.bd hb).1⟩
end
end Go.Proofs.Ytffgfojabcbegaa
