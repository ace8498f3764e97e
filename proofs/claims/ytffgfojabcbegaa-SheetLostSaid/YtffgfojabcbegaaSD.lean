
import Derived.Test.YtffgfojabcbegaaSC
namespace Go.Proofs.Ytffgfojabcbegaa
open Go Go.Lay
open Try renaming prog → Pg
set_option linter.unusedVariables false
set_option linter.unusedSimpArgs false
set_option maxRecDepth 20000
theorem zWT : AppT Pg 28 28 79 6 := zMW (by kernel_rfl)
theorem zWS : AppT Pg 22 22 59 6 := zMW (by kernel_rfl)
theorem zLK (x : Rec) : zMZ Pg 79 6 (yP x) := .inr ⟨zDE, xC, _, rfl, rfl⟩
theorem zIO (x : Rec) : zMZ Pg 59 6 (yP x) := .inr ⟨zCT, xP, _, rfl, rfl⟩
def recQ (j : Nat) : IntKind := if j = 3 then .u8 else .i64
theorem yBI (x : Rec) (j : Nat) (n : Int) (h : [x.m, x.s, x.t, x.k, x.a, x.b][j]? = some n) : (⟨yH x⟩ : Array Value)[j]? = some (.int (recQ j) n) := by
 rcases j with _ | _ | _ | _ | _ | _ | j <;> simp_all [recQ]
theorem yFG {x y : Rec} : [x.m, x.s, x.t, x.k, x.a, x.b] = [y.m, y.s, y.t, y.k, y.a, y.b] ↔ x = y := by
 constructor
 ·intro h; simp at h; cases x; cases y; simp_all
 ·rintro rfl; rfl
theorem pv_eq79 (x y : Rec) : yM Pg (Op.equal 79 (yP x) (yP y)) = some (decide (x = y)) := by
 have h := yCC (P := Pg) (t := 79) (n := 6) (d := 9998) recQ (by kernel_rfl) («as» := [x.m, x.s, x.t, x.k, x.a, x.b]) (bs := [y.m, y.s, y.t, y.k, y.a, y.b]) (xs := ⟨yH x⟩) (ys := ⟨yH y⟩) rfl rfl (yBI x) (yBI y)
 rw [show decide (x = y) = decide ([x.m, x.s, x.t, x.k, x.a, x.b] = [y.m, y.s, y.t, y.k, y.a, y.b]) from decide_eq_decide.2 yFG.symm]
 exact h
theorem pv_eq59 (x y : Rec) : yM Pg (Op.equal 59 (yP x) (yP y)) = some (decide (x = y)) := by
 have h := yCC (P := Pg) (t := 59) (n := 6) (d := 9998) recQ (by kernel_rfl) («as» := [x.m, x.s, x.t, x.k, x.a, x.b]) (bs := [y.m, y.s, y.t, y.k, y.a, y.b]) (xs := ⟨yH x⟩) (ys := ⟨yH y⟩) rfl rfl (yBI x) (yBI y)
 rw [show decide (x = y) = decide ([x.m, x.s, x.t, x.k, x.a, x.b] = [y.m, y.s, y.t, y.k, y.a, y.b]) from decide_eq_decide.2 yFG.symm]
 exact h
theorem eql59 {x y : Rec} {o1 o2 : Operand} : uM Pg .eql 59 o1 o2 (yP x) (yP y) = some (.bool (decide (x = y))) := by
 have e : ∀ (x1 x2 x3 x4 x5 x6 y1 y2 y3 y4 y5 y6 : Int), uM Pg .eql 59 o1 o2 (.agg ⟨rcd x1 x2 x3 x4 x5 x6⟩) (.agg ⟨rcd y1 y2 y3 y4 y5 y6⟩) = (yM Pg (do eqGuard .eql 59 o1 o2 (.agg ⟨rcd x1 x2 x3 x4 x5 x6⟩) (.agg ⟨rcd y1 y2 y3 y4 y5 y6⟩); binOp .eql 59 (.agg ⟨rcd x1 x2 x3 x4 x5 x6⟩) (.agg ⟨rcd y1 y2 y3 y4 y5 y6⟩))).filter (zQ RD) := fun _ _ _ _ _ _ _ _ _ _ _ _ => by kernel_rfl
 have e1 : ∀ (x1 x2 x3 x4 x5 x6 y1 y2 y3 y4 y5 y6 : Int), yM Pg (eqGuard .eql 59 o1 o2 (.agg ⟨rcd x1 x2 x3 x4 x5 x6⟩) (.agg ⟨rcd y1 y2 y3 y4 y5 y6⟩)) = some () := fun _ _ _ _ _ _ _ _ _ _ _ _ => by kernel_rfl
 have e2 : ∀ x y : List Value, binOp .eql 59 (.agg ⟨x⟩) (.agg ⟨y⟩) = (do let r ← Op.equal 59 (.agg ⟨x⟩) (.agg ⟨y⟩); pure (.bool r)) := fun _ _ => rfl
 rw [e, zAI, e1]
 simp only [Option.bind_some]
 rw [e2, zAI, pv_eq59]
 rfl
theorem neq79 {x y : Rec} {o1 o2 : Operand} : uM Pg .neq 79 o1 o2 (yP x) (yP y) = some (.bool (!decide (x = y))) := by
 have e : ∀ (x1 x2 x3 x4 x5 x6 y1 y2 y3 y4 y5 y6 : Int), uM Pg .neq 79 o1 o2 (.agg ⟨rcd x1 x2 x3 x4 x5 x6⟩) (.agg ⟨rcd y1 y2 y3 y4 y5 y6⟩) = (yM Pg (do eqGuard .neq 79 o1 o2 (.agg ⟨rcd x1 x2 x3 x4 x5 x6⟩) (.agg ⟨rcd y1 y2 y3 y4 y5 y6⟩); binOp .neq 79 (.agg ⟨rcd x1 x2 x3 x4 x5 x6⟩) (.agg ⟨rcd y1 y2 y3 y4 y5 y6⟩))).filter (zQ RD) := fun _ _ _ _ _ _ _ _ _ _ _ _ => by kernel_rfl
 have e1 : ∀ (x1 x2 x3 x4 x5 x6 y1 y2 y3 y4 y5 y6 : Int), yM Pg (eqGuard .neq 79 o1 o2 (.agg ⟨rcd x1 x2 x3 x4 x5 x6⟩) (.agg ⟨rcd y1 y2 y3 y4 y5 y6⟩)) = some () := fun _ _ _ _ _ _ _ _ _ _ _ _ => by kernel_rfl
 have e2 : ∀ x y : List Value, binOp .neq 79 (.agg ⟨x⟩) (.agg ⟨y⟩) = (do let r ← Op.equal 79 (.agg ⟨x⟩) (.agg ⟨y⟩); pure (.bool (!r))) := fun _ _ => rfl
 rw [e, zAI, e1]
 simp only [Option.bind_some]
 rw [e2, zAI, pv_eq79]
 rfl
section
variable {σ : St}
theorem zWU {α : Type} {xs : List α} {i : Nat} {f : α → Bool} {x : α} (h : xs[i]? = some x) (ha : (xs.take i).all f = true) (hf : f x = true) : (xs.take (i + 1)).all f = true := by rw [wD h, List.all_append, ha]; simp [hf]
theorem yOU {α : Type} {xs : List α} {f : α → Bool} {x : α} (h : x ∈ xs) (hf : f x = false) : xs.all f = false := by
 cases e : xs.all f with
 | false => rfl
 | true => rw [List.all_eq_true.1 e x h] at hf; cases hf
theorem yYH {p : Option Addr} {l c : Nat} {rs : List (List Rec)} (h : zAT σ 31 59 p l rs) (hl : l ≤ 1073741824) (hr : ∀ r ∈ rs, r.length ≤ 1073741824) : zG Pg 15 [.slice p l c] σ (iV (xV rs)) σ := by
 have hlen := h.len
 have h0 := h.le (le0 σ)
 by_cases h6 : 6 < l
 ·exact (ySX ⟨by simp [xV, hlen, h6], Nat.le_refl _⟩).pure
 have n6 : ¬ 6 < rs.length := by omega
 refine zO.pure (ySW (Pr := fun n τ => τ = σ.re ∧ n = xV rs) (P0 := fun τ => τ = σ.re ∧ (rs.all fun r => decide (r.length ≤ 60)) = true)
  (yBV (Inv := fun k i τ => ∃ s : Nat, i = s ∧ s + k = l ∧ τ = σ.re ∧ ((rs.take s).all fun r => decide (r.length ≤ 60)) = true) ?_ l 0 σ.re ⟨0, rfl, by omega, rfl, by simp⟩)
  (fun n τ h => yBR ⟨by rw [h.2], by rw [h.1]; exact Nat.le_refl _⟩) (fun τ h => ?_) (by omega))
 ·rintro k i τ ⟨s, rfl, hk, rfl, ha⟩
  by_cases hs : s < l
  rotate_left
  ·exact yKW ⟨rfl, by rwa [List.take_of_length_le (by omega)] at ha⟩ (by omega)
  obtain ⟨a, rfl, r, q, d, hr', ld, _⟩ := h0.row hs
  have ld := ld _ (Le.refl _)
  by_cases e : r.length ≤ 60
  ·exact yKX ld ⟨k - 1, by omega, s + 1, by omega, by omega, rfl, zWU hr' ha (by simp [e])⟩ (by omega) (by omega) (by omega)
  ·exact yKY ld ⟨rfl, by simp only [xV, n6, if_false, yOU (f := fun r : List Rec => decide (r.length ≤ 60)) (List.mem_of_getElem? hr') (by simp [e])]; rfl⟩ (by omega) (by omega) (by omega)
 obtain ⟨rfl, h60⟩ := h
 refine yBS (P2 := fun τ => τ = σ.re ∧ (rs.all fun r => r.all yL) = true) (Pr := fun n τ => τ = σ.re ∧ n = xV rs)
  (yBU (Inv := fun k i τ => ∃ s : Nat, i = s ∧ s + k = l ∧ τ = σ.re ∧ ((rs.take s).all fun r => r.all yL) = true) ?_ l 0 σ.re ⟨0, rfl, by omega, rfl, by simp⟩)
  (fun τ h => yBQ ⟨by simp only [xV, n6, if_false, h60, h.2]; rfl, by rw [h.1]; exact Nat.le_refl _⟩) (fun n τ h => yBP ⟨by rw [h.2], by rw [h.1]; exact Nat.le_refl _⟩)
 rintro k i τ ⟨s, rfl, hk, rfl, ha⟩
 by_cases hs : s < l
 rotate_left
 ·exact yKU ⟨rfl, by rwa [List.take_of_length_le (by omega)] at ha⟩ (by omega)
 obtain ⟨a, rfl, r, q, d, hr', ld, hq⟩ := h0.row hs
 have ld := ld _ (Le.refl _)
 have hrl := hr r (List.mem_of_getElem? hr')
 refine yKV (Pr := fun n τ => τ = σ.re ∧ n = xV rs) (P4 := fun τ => τ = σ.re ∧ r.all yL = true)
  (yBT (Inv := fun k i τ => ∃ s' : Nat, i = s' ∧ s' + k = r.length ∧ τ = σ.re ∧ (r.take s').all yL = true) ?_ r.length 0 σ.re ⟨0, rfl, by omega, rfl, by simp⟩)
  (fun n τ h => yBN h) (fun τ h => yBO ⟨k - 1, by omega, s + 1, by omega, by omega, h.1, zWU hr' ha h.2⟩) (by omega)
 rintro k' i' τ ⟨s', rfl, hk', rfl, ha'⟩
 by_cases hs' : s' < r.length
 rotate_left
 ·exact yKR ld ⟨rfl, by rwa [List.take_of_length_le (by omega)] at ha'⟩ (by omega) (by omega)
 obtain ⟨a', rfl, x, hx, ldx⟩ := zCG hq hs'
 have c := yXT (σ := σ.re) (x := x)
 cases hb : yL x with
 | true => rw [hb] at c; exact yKT ld ldx c ⟨k' - 1, by omega, s' + 1, by omega, by omega, rfl, zWU hx ha' hb⟩ (by omega) (by omega) (by omega)
 | false =>
  rw [hb] at c
  have e2 := yOU (f := fun r : List Rec => r.all yL) (List.mem_of_getElem? hr') (yOU (List.mem_of_getElem? hx) hb)
  exact yKS ld ldx c ⟨rfl, by simp only [xV, n6, if_false, h60, e2]; rfl⟩ (by omega) (by omega) (by omega)
theorem one_c {p : Option Addr} {l c : Nat} {xs : List Rec} (h : xB σ 59 p l xs) : ∃ b σ', zG Pg 16 [.slice p l c] σ (.slice (some ⟨b, 0, none⟩) 1 1) σ' ∧ New σ σ' ∧ Own σ' b [.slice p l c] 1 ∧ σ.next ≤ b := by
 obtain ⟨v, σ', h1, h2, b, rfl, h3, h4⟩ := zO.new (P := Pg) (f := 16) (args := [.slice p l c]) (σ := σ) (Q := fun v s => ∃ b, v = .slice (some ⟨b, 0, none⟩) 1 1 ∧ Own s b [.slice p l c] 1 ∧ σ.next ≤ b) (one_ra ⟨New.row _ _ _, _, rfl, zE _ _ _, Nat.le_refl _⟩)
  (by rintro v s s' ⟨b, rfl, h, h'⟩ hl; exact ⟨b, rfl, h.le hl, h'⟩) (by rintro v s hr ⟨b, rfl, _⟩; exact Bool.noConfusion (show false = true from hr))
 exact ⟨b, σ', h1, h2, h3, h4⟩
theorem zQM {p : Option Addr} {l c : Nat} {xs : List Rec} (h : xB σ 59 p l xs) (hl : l ≤ 1073741823) : ∃ p' c' σ', zG Pg 14 [.slice p l c] σ (.slice p' l c') σ' ∧ New σ σ' ∧ xB σ' 79 p' l xs ∧ ∀ b, AtP p' b → σ.next ≤ b := by
 have hlen := h.len
 refine zO.newSl (yOW (P0 := fun p' l' c' τ => l' = l ∧ New σ.re τ ∧ Gr Pg τ σ.next 79 6 p' l c' (xs.map yP)) (zXN (Inv := fun k p' l' c' i τ => ∃ s : Nat, i = s ∧ l' = s ∧ s + k = l ∧ New σ.re τ ∧ Gr Pg τ σ.next 79 6 p' s c' ((xs.take s).map yP)) ?_ l none 0 0 0 σ.re ⟨0, rfl, rfl, by omega, New.refl _, by simpa using Gr.nil⟩) ?_)
 ·rintro k p' l' c' i τ ⟨s, rfl, rfl, hk, hN, hg⟩
  by_cases hs : l' < l
  rotate_left
  ·have : l' = l := by omega
   subst this
   rw [List.take_of_length_le (by omega)] at hg
   exact yJI ⟨rfl, hN, hg⟩ (by omega)
  obtain ⟨a, rfl, x, hx, ld⟩ := zCG ((SlV.le h (le0 σ)).le hN.le) hs
  obtain ⟨p4, c4, τ2, g1, g2, g3, g4, g5⟩ := grow (σ0 := σ.re) (yP x) zWT hg hN (New.refl τ) (zLK _) (by omega) (e := rfl) (hc := rfl)
  exact yJJ ld yXO g1 ⟨k - 1, by omega, l' + 1, by omega, rfl, by omega, g3, by rw [wD hx, List.map_append]; exact g2⟩ (by omega)
 ·rintro p' l' c' τ ⟨rfl, hN, hg⟩
  exact zXM ⟨hN, p', c', rfl, hg.slv, fun b hb => (hg.bd hb).1⟩
end
end Go.Proofs.Ytffgfojabcbegaa
