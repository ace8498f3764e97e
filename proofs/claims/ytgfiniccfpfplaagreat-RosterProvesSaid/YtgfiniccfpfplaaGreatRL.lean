import Derived.Test.YtgfiniccfpfplaaGreatRJ

namespace Go.Proofs.YtgfiniccfpfplaaGreat
open Go Go.Lay
set_option linter.unusedVariables false
set_option linter.unusedSimpArgs false
set_option maxRecDepth 20000
open Go.Sort (swp PermIn SortedIn Below SWO)
def bLt (x y : Rec) : Prop := x.a < y.a ∨ x.a = y.a ∧ (x.k < y.k ∨ x.k = y.k ∧ x.b < y.b)
instance (x y : Rec) : Decidable (bLt x y) := by unfold bLt; infer_instance
def yNC (x y : Rec) : Bool := decide (bLt x y)
theorem swo_b : SWO yNC := by
 refine ⟨fun x => ?_, fun x y z h1 h2 => ?_, fun x y z h1 h2 => ?_⟩
 ·simp only [yNC, decide_eq_false_iff_not]; unfold bLt; omega
 ·simp only [yNC, decide_eq_true_eq] at *
  unfold bLt at *; omega
 ·simp only [yNC, decide_eq_false_iff_not] at *
  unfold bLt at *; omega
def BOk (x : Rec) : Prop := 0 ≤ x.k ∧ x.k ≤ 5 ∧ 0 ≤ x.a ∧ x.a ≤ 100 ∧ 0 ≤ x.b ∧ x.b ≤ 100
section
variable {σ : St}
theorem cmpOr_c {x y z : Int} {b c : Nat} (o : Own σ b [iV x, iV y, iV z] 1) : zE Tryz.prog 80 [.slice (some ⟨b, 0, none⟩) 3 c] σ (iV (if x = 0 then (if y = 0 then z else y) else x)) σ := by
 have h0 := o.re
 have l0 := h0.ldI (P := Tryz.prog) (t := 3) (i := 0) (v := iV x) zP rfl
 have l1 := h0.ldI (P := Tryz.prog) (t := 3) (i := 1) (v := iV y) zP rfl
 have l2 := h0.ldI (P := Tryz.prog) (t := 3) (i := 2) (v := iV z) zP rfl
 refine zN.pure (cmpOr_ra (Pr := fun n τ => τ = σ.re ∧ n = if x = 0 then (if y = 0 then z else y) else x) (P0 := fun τ => τ = σ.re ∧ x = 0 ∧ y = 0 ∧ z = 0)
  (yMT (Inv := fun k i τ => τ = σ.re ∧ ((i = 0 ∧ k = 3) ∨ (i = 1 ∧ k = 2 ∧ x = 0) ∨ (i = 2 ∧ k = 1 ∧ x = 0 ∧ y = 0) ∨ (i = 3 ∧ x = 0 ∧ y = 0 ∧ z = 0))) ?_ 3 0 σ.re ⟨rfl, .inl ⟨rfl, rfl⟩⟩)
  (fun n τ h => yMR ⟨by rw [h.2], by rw [h.1]; exact Nat.le_refl _⟩) (fun τ h => yMS ⟨by simp [h.2.1, h.2.2.1, h.2.2.2], by rw [h.1]; exact Nat.le_refl _⟩))
 rintro k i τ ⟨rfl, ⟨rfl, rfl⟩ | ⟨rfl, rfl, hx⟩ | ⟨rfl, rfl, hx, hy⟩ | ⟨rfl, hx, hy, hz⟩⟩
 ·by_cases hx : x = 0
  ·exact zSC l0 ⟨2, by omega, rfl, .inr (.inl ⟨rfl, rfl, hx⟩)⟩
  ·exact zSD l0 ⟨rfl, by rw [if_neg hx]⟩
 ·by_cases hy : y = 0
  ·exact zSC l1 ⟨1, by omega, rfl, .inr (.inr (.inl ⟨rfl, rfl, hx, hy⟩))⟩
  ·exact zSD l1 ⟨rfl, by rw [if_pos hx, if_neg hy]⟩
 ·by_cases hz : z = 0
  ·exact zSC l2 ⟨0, by omega, rfl, .inr (.inr (.inr ⟨rfl, hx, hy, hz⟩))⟩
  ·exact zSD l2 ⟨rfl, by rw [if_pos hx, if_pos hy]⟩
 ·exact cmpOr_s1c ⟨rfl, hx, hy, hz⟩
theorem cmp_b : Cmp 79 [] yNC BOk := by
 intro τ x y hx hy
 unfold BOk at hx hy
 refine ⟨if x.a - y.a = 0 then (if x.k - y.k = 0 then x.b - y.b else x.k - y.k) else x.a - y.a, ?_, ?_⟩
 ·have N : New τ.re (((τ.re.row (zDJ x) 3).row (zDJ y) 3).row [iV (x.a - y.a), iV (x.k - y.k), iV (x.b - y.b)] 1) := ((New.row _ _ _).row').row'
  exact zN.pure (cmpF_ra (cmpOr_c (zD _ _ _)) ⟨rfl, N.lw⟩ (by omega) (by omega) (by omega) (by omega) (by omega))
 ·simp only [yNC, decide_eq_true_eq]
  unfold bLt
  by_cases h : x.a - y.a = 0
  ·rw [if_pos h]
   by_cases h2 : x.k - y.k = 0
   ·rw [if_pos h2]; omega
   ·rw [if_neg h2]; omega
  ·rw [if_neg h]; omega
end
end Go.Proofs.YtgfiniccfpfplaaGreat

namespace Go.Proofs.YtgfiniccfpfplaaGreat
open Go Go.Lay
set_option linter.unusedVariables false
set_option linter.unusedSimpArgs false
set_option maxRecDepth 20000
abbrev zKL (s : Std) : List Value := zW s.free s.row s.used s.day
def stL (f : Nat → Std) : List Value := zKL (f 0) ++ (zKL (f 1) ++ (zKL (f 2) ++ (zKL (f 3) ++ (zKL (f 4) ++ zKL (f 5)))))
def zVG : List Value := [xE 0, xE 0, xE 0, xE 0, xE 0, xE 0, xE 0, xE 0, xE 0, xE 0, xE 0, xE 0, xE 0, xE 0, xE 0, xE 0, xE 0, xE 0, xE 0, xE 0, xE 0, xE 0, xE 0, xE 0]
def std0 : Std := ⟨0, 0, 0, 0⟩
section
variable {σ : St} {b n : Nat} {f : Nat → Std}
theorem stL_ld (o : Own σ b (stL f) n) {i : Nat} (hi : i < 6) : zC Tryz.prog σ 107 ⟨b, 0 + Int.toNat (i : Int) * 4, none⟩ = some (yXE (f i)) := by
 rw [Int.toNat_natCast]
 match i, hi with
 | 0, _ => exact o.ldN (k := 0) zDG xT (ds := zKL (f 0)) rfl rfl (by simp [stL])
 | 1, _ => exact o.ldN (k := 4) zDG xT (ds := zKL (f 1)) rfl rfl (by simp [stL])
 | 2, _ => exact o.ldN (k := 8) zDG xT (ds := zKL (f 2)) rfl rfl (by simp [stL])
 | 3, _ => exact o.ldN (k := 12) zDG xT (ds := zKL (f 3)) rfl rfl (by simp [stL])
 | 4, _ => exact o.ldN (k := 16) zDG xT (ds := zKL (f 4)) rfl rfl (by simp [stL])
 | 5, _ => exact o.ldN (k := 20) zDG xT (ds := zKL (f 5)) rfl rfl (by simp [stL])
theorem stL_used (o : Own σ b (stL f) n) {i : Nat} (hi : i < 6) : zC Tryz.prog σ 3 ⟨b, 0 + Int.toNat (i : Int) * 4 + 2, none⟩ = some (xE (f i).used) := by
 rw [Int.toNat_natCast]
 match i, hi with
 | 0, _ => exact o.ld (k := 2) rfl zP rfl
 | 1, _ => exact o.ld (k := 6) rfl zP rfl
 | 2, _ => exact o.ld (k := 10) rfl zP rfl
 | 3, _ => exact o.ld (k := 14) rfl zP rfl
 | 4, _ => exact o.ld (k := 18) rfl zP rfl
 | 5, _ => exact o.ld (k := 22) rfl zP rfl
theorem yUT (o : Own σ b (stL f) n) : zC Tryz.prog σ 109 ⟨b, 0, none⟩ = some (.agg ⟨stL f⟩) := o.ldN (k := 0) agg109 yUU (ds := stL f) rfl rfl (by simp [stL])
theorem stL_st (o : Own σ b (stL f) n) {i : Nat} (hi : i < 6) (s : Std) : zQ Tryz.prog (evL [.pointer (some ⟨b, 0 + Int.toNat (i : Int) * 4, none⟩), yXE s]) σ (.store 107 (.tmp 0) (.tmp 1)) = some (undef, σ.own b (stL (upd f i s)) n) := by
 rw [Int.toNat_natCast]
 match i, hi with
 | 0, _ => exact o.store (k := 0) (vs := zKL s) rfl xT rfl (by simp [stL]) rfl
 | 1, _ => exact o.store (k := 4) (vs := zKL s) rfl xT rfl (by simp [stL]) rfl
 | 2, _ => exact o.store (k := 8) (vs := zKL s) rfl xT rfl (by simp [stL]) rfl
 | 3, _ => exact o.store (k := 12) (vs := zKL s) rfl xT rfl (by simp [stL]) rfl
 | 4, _ => exact o.store (k := 16) (vs := zKL s) rfl xT rfl (by simp [stL]) rfl
 | 5, _ => exact o.store (k := 20) (vs := zKL s) rfl xT rfl (by simp [stL]) rfl
theorem yUS (o : Own σ b (stL f) n) (g : Nat → Std) : zQ Tryz.prog (evL [.pointer (some ⟨b, 0, none⟩), .agg ⟨stL g⟩]) σ (.store 109 (.tmp 0) (.tmp 1)) = some (undef, σ.own b (stL g) n) :=
 o.store (k := 0) (vs := stL g) rfl yUU rfl (by simp [stL]) rfl
def st0 (w : Wk) (j : Nat) : Nat → Std := fun k => if k < j then before (drv w k) else std0
theorem st0_s {w : Wk} {j : Nat} : upd (st0 w j) j (before (drv w j)) = st0 w (j + 1) := by
 funext k
 unfold upd st0
 by_cases e : k = j
 ·subst e; rw [if_pos rfl, if_pos (by omega)]
 ·rw [if_neg e]
  by_cases h : k < j
  ·rw [if_pos h, if_pos (by omega)]
  ·rw [if_neg h, if_neg (by omega)]
variable {w : Wk} {p q : Option Addr} {l m c d : Nat}
theorem yXB (h : WkP σ 85 88 w p l q m) (hm : m ≤ 6) : zE Tryz.prog 74 [.agg ⟨wkc w.days p l c q m d w.rest w.run w.hours⟩] σ (.agg ⟨stL (st0 w m)⟩) σ := by
 have hmm := h.len.2
 obtain ⟨σ1, hσ1⟩ : ∃ σ1, σ1 = (σ.re.row (wkc w.days p l c q m d w.rest w.run w.hours) 6).row zVG 4 := ⟨_, rfl⟩
 have N1 : New σ.re σ1 := by rw [hσ1]; exact (New.row _ _ _).row'
 have L1 : Le σ σ1 := (le0 σ).trans N1.le
 have o1 : Own σ1 (σ.next + 1) (stL (st0 w 0)) 4 := by
  rw [hσ1]
  exact zD (σ.re.row (wkc w.days p l c q m d w.rest w.run w.hours) 6) zVG 4
 have hr : zX RD (.agg ⟨stL (st0 w m)⟩) = true := rfl
 refine zN.pure (hv := hr) (yNY (zZG (Inv := fun k i τ => New σ.re τ ∧ ∃ j : Nat, i = j ∧ j + k = m ∧ Own τ (σ.next + 1) (stL (st0 w j)) 4) (Q0 := fun τ => New σ.re τ ∧ Own τ (σ.next + 1) (stL (st0 w m)) 4) ?_ m 0 σ1 ⟨N1, 0, rfl, by omega, o1⟩ |> fun h => by rw [hσ1] at h; exact h) ?_)
 ·rintro k i τ ⟨hN, j, rfl, hk, o⟩
  by_cases hj : j < m
  rotate_left
  ·have : j = m := by omega
   subst this
   exact yHU ⟨hN, o⟩ (by omega)
  have LL := (le0 σ).trans hN.le
  obtain ⟨a, rfl, p', l', c', r', n', d', s', j', e', lx, _, _, _, _⟩ := (h.le LL).vld yNH zRH hj
  have hN2 : New σ.re ((τ.row (zG none 0 0 none 0 0 none 0 0 0 0 0) 6).own τ.next (zG p' l' c' r' n' d' s' j' e' (drv w j).off (drv w j).row (drv w j).used) 6) := hN.row'.own hN.le.next
  have o2 : Own ((τ.row (zG none 0 0 none 0 0 none 0 0 0 0 0) 6).own τ.next (zG p' l' c' r' n' d' s' j' e' (drv w j).off (drv w j).row (drv w j).used) 6) (σ.next + 1) (stL (st0 w j)) 4 := o.row.own (by have := o.lt; omega)
  refine yHV lx (stL_st o2 (i := j) (by omega) (before (drv w j))) ⟨k - 1, by omega, hN2.own (by show σ.next ≤ σ.next + 1; omega), j + 1, by omega, by omega, ?_⟩ (by omega) (by omega) (by omega) (by omega)
  rw [← st0_s]
  exact o2.put
 ·rintro τ ⟨hN, o⟩
  exact zZF (yUT o) (yUS o _) (yUT o.put) ⟨rfl, (hN.own (by show σ.next ≤ σ.next + 1; omega)).lw⟩
theorem yKB : ∃ b σ', zE Tryz.prog 76 [] σ (.slice (some ⟨b, 0, none⟩) 5 5) σ' ∧ New σ σ' ∧ σ.next ≤ b ∧ Row σ' ⟨b, 0, none⟩ [.int .u8 0, .func (.func 92) ⟨[]⟩ ⟨[]⟩, .int .u8 1, .func (.func 93) ⟨[]⟩ ⟨[]⟩, .int .u8 2, .func (.func 94) ⟨[]⟩ ⟨[]⟩, .int .u8 3, .func (.func 95) ⟨[]⟩ ⟨[]⟩, .int .u8 4, .func (.func 96) ⟨[]⟩ ⟨[]⟩] := by
 obtain ⟨v, σ', h1, h2, b, rfl, h3, h4⟩ := zN.new (σ := σ) (P := Tryz.prog) (f := 76) (args := []) (Q := fun v s => ∃ b, v = .slice (some ⟨b, 0, none⟩) 5 5 ∧ σ.next ≤ b ∧ Row s ⟨b, 0, none⟩ [.int .u8 0, .func (.func 92) ⟨[]⟩ ⟨[]⟩, .int .u8 1, .func (.func 93) ⟨[]⟩ ⟨[]⟩, .int .u8 2, .func (.func 94) ⟨[]⟩ ⟨[]⟩, .int .u8 3, .func (.func 95) ⟨[]⟩ ⟨[]⟩, .int .u8 4, .func (.func 96) ⟨[]⟩ ⟨[]⟩])
  (yFH ⟨New.row _ _ _, σ.re.next, rfl, Nat.le_refl _, xQ _ _ _⟩) (by rintro v s s' ⟨b, rfl, g1, g2⟩ hle; exact ⟨b, rfl, g1, g2.le hle⟩) (by rintro v s hr ⟨b, rfl, _⟩; cases hr)
 exact ⟨b, σ', h1, h2, h3, h4⟩
end
end Go.Proofs.YtgfiniccfpfplaaGreat
