
import Derived.Test.YtgfiniccfpfplaaGreatRG
import Derived.Test.YtgfiniccfpfplaaGreatRH
import Derived.Test.YtgfiniccfpfplaaGreatXH
namespace Go.Proofs.YtgfiniccfpfplaaGreat
open Go Go.Lay
open Tryz renaming prog → Pg
set_option linter.unusedVariables false
set_option linter.unusedSimpArgs false
set_option maxRecDepth 20000
theorem yDB (xs : List Int) : ∀ (_ : IntKind), zBZ (xs.map xE) = xs.map xE := by
 intro _
 induction xs with
 | nil => rfl
 | cons x xs ih => simp only [zBZ, List.map_cons, List.flatMap_cons] at ih ⊢; rw [ih]; rfl
section
variable {σ : St}
theorem yGA {p : Option Addr} {l c : Nat} {xs : List Int} (h : yU σ p l xs) (hl : l ≤ 1073741824) :
  ∃ p' c' σ', zE Pg 19 [.slice p l c] σ (.slice p' l c') σ' ∧ New σ σ' ∧ yU σ' p' l xs ∧ ∀ b, AtP p' b → σ.next ≤ b := by
 have hc : (zBZ (xs.map xE)).all cellB = true := by rw [yDB xs .i64]; simp [List.all_eq_true]; intro a _; rfl
 have N1 : New σ.re (σ.re.row [] 1) := New.row _ _ _
 obtain ⟨p6, c6, s5, ap1, A6, O6, b6⟩ := Ax.append (P := Pg) (k := c) (n0 := σ.re.next) zSM (Ax.lit (len := 0) (zD σ.re [] 1) rfl ((xC 0).2 zDB) (Nat.le_refl _)) (SlV.le h ((le0 σ).trans N1.le)).1 (by omega) hc N1.nx
 rw [Nat.zero_add] at ap1 A6
 have N5 : New σ.re s5 := N1.of_only O6 (by rintro b ⟨a, e, rfl⟩; cases e; exact Nat.le_refl _)
 exact zN.newSl (list_ra ap1 ⟨N5, p6, c6, rfl, Ax.slv (by simpa using A6) (by simpa using h.2.1) h.2.2, fun b hb => (A6.bd b hb).1⟩)
theorem yYL {p : Option Addr} {l c : Nat} {xs : List Int} (h : yU σ p l xs) (hl : l ≤ 1073741824) : zE Pg 27 [.slice p l c] σ (iV ((xs.filter fun x => decide (0 ≤ x)).length : Nat)) σ := by
 have h1 := h.re
 have e1 := h.len
 refine (yPV (zZR (Inv := fun k i3 i4 τ => τ = σ.re ∧ ∃ j : Nat, i4 = j ∧ j + k = l ∧ i3 = (((xs.take j).filter fun x => decide (0 ≤ x)).length : Nat) ∧ ((xs.take j).filter fun x => decide (0 ≤ x)).length ≤ j) (Q0 := fun i3 τ => τ = σ.re ∧ i3 = ((xs.filter fun x => decide (0 ≤ x)).length : Nat)) ?_ l 0 0 σ.re ⟨rfl, 0, rfl, by omega, rfl, Nat.le_refl _⟩) ?_).pure
 ·rintro k i3 i4 τ ⟨rfl, j, rfl, hk, rfl, hle⟩
  by_cases hj : j < l
  ·obtain ⟨a, rfl, x, hx, l1⟩ := vQ h1 hj
   have es : (xs.take (j + 1)).filter (fun x => decide (0 ≤ x)) = (xs.take j).filter (fun x => decide (0 ≤ x)) ++ if 0 ≤ x then [x] else [] := by
    rw [uS hx, List.filter_append]
    by_cases e : 0 ≤ x <;> simp [e]
   by_cases e : 0 ≤ x
   ·rw [if_pos e] at es
    exact yJH l1 ⟨k - 1, by omega, rfl, j + 1, by omega, by omega, by rw [es, List.length_append]; simp, by rw [es, List.length_append]; show _ + 1 ≤ _; omega⟩ (by omega) (by omega) e (by omega) (by omega)
   ·rw [if_neg e, List.append_nil] at es
    exact yJG l1 ⟨k - 1, by omega, rfl, j + 1, by omega, by omega, by rw [es], by rw [es]; omega⟩ (by omega) (by omega) e (by omega)
  ·rw [List.take_of_length_le (by omega)]
   exact yJF ⟨rfl, rfl⟩ (by omega)
 ·rintro i3 τ ⟨rfl, rfl⟩
  exact zZQ ⟨rfl, Nat.le_refl _⟩
theorem covers_c {p : Option Addr} {l c : Nat} {xs : List Int} (h : yU σ p l xs) (hl : l ≤ 1073741824) : zE Pg 63 [.slice p l c] σ (iV ((xs.filter fun x => decide (x ≠ -1)).length : Nat)) σ := by
 have h1 := h.re
 have e1 := h.len
 refine (covers_ra (yGO (Inv := fun k i3 i4 τ => τ = σ.re ∧ ∃ j : Nat, i4 = j ∧ j + k = l ∧ i3 = (((xs.take j).filter fun x => decide (x ≠ -1)).length : Nat) ∧ ((xs.take j).filter fun x => decide (x ≠ -1)).length ≤ j) (Q0 := fun i3 τ => τ = σ.re ∧ i3 = ((xs.filter fun x => decide (x ≠ -1)).length : Nat)) ?_ l 0 0 σ.re ⟨rfl, 0, rfl, by omega, rfl, Nat.le_refl _⟩) ?_).pure
 ·rintro k i3 i4 τ ⟨rfl, j, rfl, hk, rfl, hle⟩
  by_cases hj : j < l
  ·obtain ⟨a, rfl, x, hx, l1⟩ := vQ h1 hj
   have es : (xs.take (j + 1)).filter (fun x => decide (x ≠ -1)) = (xs.take j).filter (fun x => decide (x ≠ -1)) ++ if x ≠ -1 then [x] else [] := by
    rw [uS hx, List.filter_append]
    by_cases e : x ≠ -1 <;> simp [e]
   by_cases e : x ≠ -1
   ·rw [if_pos e] at es
    exact ySS l1 ⟨k - 1, by omega, rfl, j + 1, by omega, by omega, by rw [es, List.length_append]; simp, by rw [es, List.length_append]; show _ + 1 ≤ _; omega⟩ (by omega) (by omega) e (by omega) (by omega)
   ·rw [if_neg e, List.append_nil] at es
    exact ySR l1 ⟨k - 1, by omega, rfl, j + 1, by omega, by omega, by rw [es], by rw [es]; omega⟩ (by omega) (by omega) (Decidable.not_not.1 e) (by omega)
  ·rw [List.take_of_length_le (by omega)]
   exact ySQ ⟨rfl, rfl⟩ (by omega)
 ·rintro i3 τ ⟨rfl, rfl⟩
  exact yGN ⟨rfl, Nat.le_refl _⟩
section
variable {w : Wk} {p q r t : Option Addr} {l m c d rl rc tl tc : Nat} {rs ts : List Int}
theorem ends_c (h : WkP σ 85 88 w p l q m) (hl : l ≤ 1000) : ∃ p' c' σ', zE Pg 86 [.agg ⟨wkc w.days p l c q m d w.rest w.run w.hours⟩] σ (.slice p' l c') σ' ∧ New σ σ' ∧ yU σ' p' l (vW w) ∧ ∀ b, AtP p' b → σ.next ≤ b := by
 have hn := h.len.1
 obtain ⟨σ1, hσ1⟩ : ∃ σ1, σ1 = σ.re.row (wkc w.days p l c q m d w.rest w.run w.hours) 6 := ⟨_, rfl⟩
 have N1 : New σ.re σ1 := by rw [hσ1]; exact New.row _ _ _
 have L1 : Le σ σ1 := (le0 σ).trans N1.le
 refine zN.newSl (ends_ra (ySK (Inv := fun k p' l' c' i τ => New σ1 τ ∧ ∃ j : Nat, i = j ∧ j + k = l ∧ l' = j ∧ Gr Pg τ σ1.next 3 1 p' l' c' (((vW w).take j).map xE))
  (Q0 := fun p' l' c' τ => New σ1 τ ∧ l' = l ∧ Gr Pg τ σ1.next 3 1 p' l' c' ((vW w).map xE)) ?_ l none 0 0 0 _ ⟨by rw [← hσ1]; exact New.refl _, 0, rfl, by omega, rfl, Gr.nil⟩) ?_)
 ·rintro k p' l' c' i τ ⟨hN, j, rfl, hk, rfl, hg⟩
  by_cases hj : l' < l
  ·obtain ⟨a, rfl, x, hx, lx⟩ := vQ (SlV.le h.dty (L1.trans hN.le)) hj
   have hN2 : New τ ((τ.row (zF 0 0 0 0 0) 5).own τ.next (zF x.day x.on x.lo x.hi x.route) 5) := (New.row _ _ _).own (Nat.le_refl _)
   obtain ⟨q7, d7, τ', g1, g2, g3, _, _⟩ := grow (xE x.hi) zSM hg hN hN2 (zQX _) (by omega)
   have hx2 : (vW w)[l']? = some x.hi := by unfold vW; rw [List.getElem?_map, hx]; rfl
   refine ends_s1a lx g1 ⟨k - 1, by omega, g3, l' + 1, by omega, by omega, rfl, ?_⟩ (by omega) (by omega) (by omega)
   rw [uS hx2, List.map_append]
   exact g2
  ·have : l' = l := by omega
   subst this
   refine ends_s1b ⟨hN, rfl, ?_⟩ (by omega)
   rwa [List.take_of_length_le (by unfold vW; rw [List.length_map]; omega)] at hg
 ·rintro p' l' c' τ ⟨hN, rfl, hg⟩
  refine ySJ ⟨N1.trans hN, p', c', rfl, hg.slv, fun b hb => ?_⟩
  have := (hg.bd hb).1
  have := N1.nx
  show σ.re.next ≤ b
  omega
theorem yWW (h : WkP σ 85 88 w p l q m) (hr : yU σ r rl rs) (hl : rl ≤ 1073741824) (hm : m ≤ 1073741824) : zE Pg 52 [.agg ⟨wkc w.days p l c q m d w.rest w.run w.hours⟩, .slice r rl rc] σ (.bool (zGT w rs)) σ := by
 have hn := h.len.1
 have hmm := h.len.2
 have el := hr.len
 by_cases hh : rl = l
 rotate_left
 ·have : zGT w rs = false := by unfold zGT; rw [decide_eq_false (by omega), Bool.and_false]
  rw [this]
  exact (yNP ⟨rfl, Nat.le_refl _⟩ (by omega)).pure
 have L1 : Le σ (σ.re.row (wkc w.days p l c q m d w.rest w.run w.hours) 6) := (le0 σ).trans (Le.row _ _ _)
 have hk0 := xQ σ.re (wkc w.days p l c q m d w.rest w.run w.hours) 6
 have ca := allI_c (cap := rc) (g := 73) (gc := [.pointer (some ⟨σ.re.next, 0, none⟩)]) (f := fun x => inB x (-1) ((w.drivers.length : Int) - 1)) (SlV.le hr L1) hl (fun x _ τ hτ => by
  have ld : zC Pg τ.re 32 (zK ⟨σ.re.next, 0, none⟩ 2) = some (.slice q m d) := ((hk0.le hτ).re).load1 zFC rfl
  rw [hmm]
  exact (yOJ ld zKS ⟨rfl, Nat.le_refl _⟩ (by omega)).pure)
 have : zGT w rs = rs.all (fun x => inB x (-1) ((w.drivers.length : Int) - 1)) := by unfold zGT; rw [decide_eq_true (by omega), Bool.and_true]
 rw [this]
 exact (yNQ ca ⟨rfl, Nat.le_refl _⟩ (by omega)).pure
theorem rLegal_c (h : WkP σ 92 76 w p l q m) (hs : Sane w l m) (hr : yU σ r l rs) : zE Pg 31 [.agg ⟨wkc w.days p l c q m d w.rest w.run w.hours⟩, .slice r l rc] σ (.bool (decide (zAY w (zL rs) (zL (vW w)) m = []))) σ := by
 have hn := h.len.1
 have hl12 := hs.l12
 obtain ⟨σ1, hσ1⟩ : ∃ σ1, σ1 = σ.re.row (wkc w.days p l c q m d w.rest w.run w.hours) 6 := ⟨_, rfl⟩
 have N1 : New σ.re σ1 := by rw [hσ1]; exact New.row _ _ _
 have L1 : Le σ σ1 := (le0 σ).trans N1.le
 have hk0 := xQ σ.re (wkc w.days p l c q m d w.rest w.run w.hours) 6
 rw [← hσ1] at hk0
 obtain ⟨p2, c2, σ2, k2, n2, s2, f2⟩ := yXY (c := c) (d := d) (h.le L1) (by omega)
 have L2 := L1.trans n2.le
 have hte : ∀ i, i < l → (dty w i).on ≤ zL (vW w) i ∧ zL (vW w) i ≤ (dty w i).on + 1440 := by
  intro i hi
  have e : zL (vW w) i = (dty w i).hi := by
   unfold zL vW dty
   rw [List.getD_eq_getElem?_getD, List.getElem?_map, List.getD_eq_getElem?_getD, List.getElem?_eq_getElem (by omega)]; rfl
  rw [e]
  have := hs.duty i hi
  omega
 obtain ⟨p3, c3, σ3, k3, n3, s3, f3⟩ := yYN (c := c) (d := d) (rc := rc) (tc := c2) (h.le L2) hs (SlV.le hr L2) s2 hte
 have hlow : σ.next ≤ σ3.low := ((N1.trans n2).trans n3).lw
 have pab : ∀ a, p = some a → a.block < σ.next := xS h.dty
 have qab : ∀ a, q = some a → a.block < σ.next := by obtain ⟨vs, h1, _⟩ := h.drv; exact xS h1
 have rab : ∀ a, r = some a → a.block < σ.next := xS hr
 have ld : zC Pg σ2 25 ⟨σ.re.next, 0, none⟩ = some (.agg ⟨wkc w.days p l c q m d w.rest w.run w.hours⟩) := (hk0.le n2.le).ldN (k := 0) wA xA (ds := wkc w.days p l c q m d w.rest w.run w.hours) rfl rfl (by simp)
 have nx1 : σ1.next = σ.next + 1 := by rw [hσ1]; rfl
 have nx2 := n2.le.next
 have hb1 : zU σ1.next [.agg ⟨wkc w.days p l c q m d w.rest w.run w.hours⟩] := zI (zIW (fun a e => by have := pab a e; omega) (fun a e => by have := qab a e; omega)) zM
 have hb2 : zU σ2.next [.agg ⟨wkc w.days p l c q m d w.rest w.run w.hours⟩, .slice r l rc, .slice p2 l c2] := zI (zIW (fun a e => by have := pab a e; omega) (fun a e => by have := qab a e; omega)) (zI (vO (fun a e => by have := rab a e; omega)) (zI (vO (xS s2)) zM))
 have hb3 : zU σ3.next [.slice p3 (zAY w (zL rs) (zL (vW w)) m).length c3] := zI (vO (xS s3)) zM
 rw [hσ1] at k2 hb1
 by_cases e : zAY w (zL rs) (zL (vW w)) m = []
 ·rw [decide_eq_true e]
  exact (yXX k2 k3 hb1 hb2 hb3 ⟨⟨by show σ.next < _; omega, rfl⟩, ld⟩ ⟨rfl, hlow⟩ (by rw [e]; rfl)).pure
 ·rw [decide_eq_false e]
  exact (yXW k2 k3 hb1 hb2 hb3 ⟨⟨by show σ.next < _; omega, rfl⟩, ld⟩ ⟨rfl, hlow⟩ (fun h => e (List.length_eq_zero_iff.1 (by omega)))).pure
end
end
end Go.Proofs.YtgfiniccfpfplaaGreat
