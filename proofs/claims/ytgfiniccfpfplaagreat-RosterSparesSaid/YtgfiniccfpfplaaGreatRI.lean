
import Derived.Test.YtgfiniccfpfplaaGreatRG
import Derived.Test.YtgfiniccfpfplaaGreatRH
import Derived.Test.YtgfiniccfpfplaaGreatXH
namespace Go.Proofs.YtgfiniccfpfplaaGreat
open Go Go.Lay
open Tryz renaming prog → Pg
set_option linter.unusedVariables false
set_option linter.unusedSimpArgs false
set_option maxRecDepth 20000
theorem zEO (xs : List Int) : ∀ (_ : IntKind), zBC (xs.map yT) = xs.map yT := by
 intro _
 induction xs with
 | nil => rfl
 | cons x xs ih => simp only [zBC, List.map_cons, List.flatMap_cons] at ih ⊢; rw [ih]; rfl
section
variable {σ : St}
theorem ints_c {p q : Option Addr} {l c m d : Nat} {xs ys : List Int} (h1 : yP σ p l xs) (h2 : yP σ q m ys) (hl : l ≤ 1073741824) : zF Pg 30 [.slice p l c, .slice q m d] σ (.bool (decide (xs = ys))) σ := by
 have e1 := h1.len; have e2 := h2.len
 by_cases hlm : l = m
 ·subst hlm
  have h1 := h1.re
  have h2 := h2.re
  refine (ints_rb (yRW (Inv := fun k i5 τ => τ = σ.re ∧ ∃ i : Nat, i5 = i ∧ i + k = l ∧ xs.take i = ys.take i) (Qr := fun x τ => τ = σ.re ∧ x = false ∧ xs ≠ ys) (Q0 := fun τ => τ = σ.re ∧ xs = ys) ?_ l 0 σ.re ⟨rfl, 0, rfl, by omega, rfl⟩) ?_ ?_).pure
  ·rintro k i5 τ ⟨rfl, i, rfl, hk, he⟩
   by_cases hi : i < l
   ·obtain ⟨a, rfl, x, hx, l1⟩ := vO h1 hi
    obtain ⟨b, rfl, y, hy, l2⟩ := vO h2 hi
    by_cases hxy : x = y
    ·exact ints_s1b l1 l2 ⟨k - 1, by omega, rfl, i + 1, by omega, by omega, by rw [uR hx, uR hy, he, hxy]⟩
    ·exact ints_s1a l1 l2 ⟨rfl, rfl, fun e => hxy (by rw [e, hy] at hx; exact (Option.some.inj hx).symm)⟩
   ·rw [List.take_of_length_le (by omega), List.take_of_length_le (by omega)] at he
    exact ints_s1c ⟨rfl, he⟩
  ·rintro x τ ⟨rfl, rfl, hne⟩
   exact yRU ⟨by simp [hne], Nat.le_refl _⟩
  ·rintro τ ⟨rfl, rfl⟩
   exact yRV ⟨by simp, Nat.le_refl _⟩
 ·rw [show decide (xs = ys) = false by simp; intro e; apply hlm; rw [← e1, ← e2, e]]
  exact (ints_ra ⟨rfl, Nat.le_refl _⟩).pure
theorem yGJ {p : Option Addr} {l c : Nat} {xs : List Int} (h : yP σ p l xs) (hl : l ≤ 1073741824) :
  ∃ p' c' σ', zF Pg 19 [.slice p l c] σ (.slice p' l c') σ' ∧ New σ σ' ∧ yP σ' p' l xs ∧ ∀ b, AtP p' b → σ.next ≤ b := by
 have hc : (zBC (xs.map yT)).all cellB = true := by rw [zEO xs .i64]; simp [List.all_eq_true]; intro a _; rfl
 have N1 : New σ.re (σ.re.row [] 1) := New.row _ _ _
 obtain ⟨p6, c6, s5, ap1, A6, O6, b6⟩ := Ax.append (P := Pg) (k := c) (n0 := σ.re.next) zEV (Ax.lit (len := 0) (zE σ.re [] 1) rfl ((xD 0).2 zFJ) (Nat.le_refl _)) (SlV.le h ((le0 σ).trans N1.le)).1 (by omega) hc N1.nx
 rw [Nat.zero_add] at ap1 A6
 have N5 : New σ.re s5 := N1.of_only O6 (by rintro b ⟨a, e, rfl⟩; cases e; exact Nat.le_refl _)
 exact zO.newSl (list_ra ap1 ⟨N5, p6, c6, rfl, Ax.slv (by simpa using A6) (by simpa using h.2.1) h.2.2, fun b hb => (A6.bd b hb).1⟩)
section
variable {w : Wk} {p q r t : Option Addr} {l m c d rl rc tl tc : Nat} {rs ts : List Int}
theorem ends_c (h : WkP σ 85 88 w p l q m) (hl : l ≤ 1000) : ∃ p' c' σ', zF Pg 86 [.agg ⟨wkc w.days p l c q m d w.rest w.run w.hours⟩] σ (.slice p' l c') σ' ∧ New σ σ' ∧ yP σ' p' l (uF w) ∧ ∀ b, AtP p' b → σ.next ≤ b := by
 have hn := h.len.1
 obtain ⟨σ1, hσ1⟩ : ∃ σ1, σ1 = σ.re.row (wkc w.days p l c q m d w.rest w.run w.hours) 6 := ⟨_, rfl⟩
 have N1 : New σ.re σ1 := by rw [hσ1]; exact New.row _ _ _
 have L1 : Le σ σ1 := (le0 σ).trans N1.le
 refine zO.newSl (ends_ra (ySP (Inv := fun k p' l' c' i τ => New σ1 τ ∧ ∃ j : Nat, i = j ∧ j + k = l ∧ l' = j ∧ Gr Pg τ σ1.next 3 1 p' l' c' (((uF w).take j).map yT))
  (Q0 := fun p' l' c' τ => New σ1 τ ∧ l' = l ∧ Gr Pg τ σ1.next 3 1 p' l' c' ((uF w).map yT)) ?_ l none 0 0 0 _ ⟨by rw [← hσ1]; exact New.refl _, 0, rfl, by omega, rfl, Gr.nil⟩) ?_)
 ·rintro k p' l' c' i τ ⟨hN, j, rfl, hk, rfl, hg⟩
  by_cases hj : l' < l
  ·obtain ⟨a, rfl, x, hx, lx⟩ := vO (SlV.le h.dty (L1.trans hN.le)) hj
   have hN2 : New τ ((τ.row (zD 0 0 0 0 0) 5).own τ.next (zD x.day x.on x.lo x.hi x.route) 5) := (New.row _ _ _).own (Nat.le_refl _)
   obtain ⟨q7, d7, τ', g1, g2, g3, _, _⟩ := grow (yT x.hi) zEV hg hN hN2 (zHH _) (by omega)
   have hx2 : (uF w)[l']? = some x.hi := by unfold uF; rw [List.getElem?_map, hx]; rfl
   refine ends_s1a lx g1 ⟨k - 1, by omega, g3, l' + 1, by omega, by omega, rfl, ?_⟩ (by omega) (by omega) (by omega)
   rw [uR hx2, List.map_append]
   exact g2
  ·have : l' = l := by omega
   subst this
   refine ends_s1b ⟨hN, rfl, ?_⟩ (by omega)
   rwa [List.take_of_length_le (by unfold uF; rw [List.length_map]; omega)] at hg
 ·rintro p' l' c' τ ⟨hN, rfl, hg⟩
  refine ySO ⟨N1.trans hN, p', c', rfl, hg.slv, fun b hb => ?_⟩
  have := (hg.bd hb).1
  have := N1.nx
  show σ.re.next ≤ b
  omega
theorem yAR (h : WkP σ 85 88 w p l q m) (hr : yP σ r rl rs) (hl : rl ≤ 1073741824) (hm : m ≤ 1073741824) : zF Pg 52 [.agg ⟨wkc w.days p l c q m d w.rest w.run w.hours⟩, .slice r rl rc] σ (.bool (zDI w rs)) σ := by
 have hn := h.len.1
 have hmm := h.len.2
 have el := hr.len
 by_cases hh : rl = l
 rotate_left
 ·have : zDI w rs = false := by unfold zDI; rw [decide_eq_false (by omega), Bool.and_false]
  rw [this]
  exact (yNW ⟨rfl, Nat.le_refl _⟩ (by omega)).pure
 have L1 : Le σ (σ.re.row (wkc w.days p l c q m d w.rest w.run w.hours) 6) := (le0 σ).trans (Le.row _ _ _)
 have hk0 := xS σ.re (wkc w.days p l c q m d w.rest w.run w.hours) 6
 have ca := allI_c (cap := rc) (g := 73) (gc := [.pointer (some ⟨σ.re.next, 0, none⟩)]) (f := fun x => inB x (-1) ((w.drivers.length : Int) - 1)) (SlV.le hr L1) hl (fun x _ τ hτ => by
  have ld : zC Pg τ.re 32 (zM ⟨σ.re.next, 0, none⟩ 2) = some (.slice q m d) := ((hk0.le hτ).re).load1 zDR rfl
  rw [hmm]
  exact (yOP ld zGR ⟨rfl, Nat.le_refl _⟩ (by omega)).pure)
 have : zDI w rs = rs.all (fun x => inB x (-1) ((w.drivers.length : Int) - 1)) := by unfold zDI; rw [decide_eq_true (by omega), Bool.and_true]
 rw [this]
 exact (yNX ca ⟨rfl, Nat.le_refl _⟩ (by omega)).pure
theorem rLegal_c (h : WkP σ 92 76 w p l q m) (hs : Sane w l m) (hr : yP σ r l rs) : zF Pg 31 [.agg ⟨wkc w.days p l c q m d w.rest w.run w.hours⟩, .slice r l rc] σ (.bool (decide (zCE w (zP rs) (zP (uF w)) m = []))) σ := by
 have hn := h.len.1
 have hl12 := hs.l12
 obtain ⟨σ1, hσ1⟩ : ∃ σ1, σ1 = σ.re.row (wkc w.days p l c q m d w.rest w.run w.hours) 6 := ⟨_, rfl⟩
 have N1 : New σ.re σ1 := by rw [hσ1]; exact New.row _ _ _
 have L1 : Le σ σ1 := (le0 σ).trans N1.le
 have hk0 := xS σ.re (wkc w.days p l c q m d w.rest w.run w.hours) 6
 rw [← hσ1] at hk0
 obtain ⟨p2, c2, σ2, k2, n2, s2, f2⟩ := yYG (c := c) (d := d) (h.le L1) (by omega)
 have L2 := L1.trans n2.le
 have hte : ∀ i, i < l → (dty w i).on ≤ zP (uF w) i ∧ zP (uF w) i ≤ (dty w i).on + 1440 := by
  intro i hi
  have e : zP (uF w) i = (dty w i).hi := by
   unfold zP uF dty
   rw [List.getD_eq_getElem?_getD, List.getElem?_map, List.getD_eq_getElem?_getD, List.getElem?_eq_getElem (by omega)]; rfl
  rw [e]
  have := hs.duty i hi
  omega
 obtain ⟨p3, c3, σ3, k3, n3, s3, f3⟩ := yYU (c := c) (d := d) (rc := rc) (tc := c2) (h.le L2) hs (SlV.le hr L2) s2 hte
 have hlow : σ.next ≤ σ3.low := ((N1.trans n2).trans n3).lw
 have pab : ∀ a, p = some a → a.block < σ.next := xH h.dty
 have qab : ∀ a, q = some a → a.block < σ.next := by obtain ⟨vs, h1, _⟩ := h.drv; exact xH h1
 have rab : ∀ a, r = some a → a.block < σ.next := xH hr
 have ld : zC Pg σ2 25 ⟨σ.re.next, 0, none⟩ = some (.agg ⟨wkc w.days p l c q m d w.rest w.run w.hours⟩) := (hk0.le n2.le).ldN (k := 0) zAT wV (ds := wkc w.days p l c q m d w.rest w.run w.hours) rfl rfl (by simp)
 have nx1 : σ1.next = σ.next + 1 := by rw [hσ1]; rfl
 have nx2 := n2.le.next
 have hb1 : zV σ1.next [.agg ⟨wkc w.days p l c q m d w.rest w.run w.hours⟩] := zJ (zGO (fun a e => by have := pab a e; omega) (fun a e => by have := qab a e; omega)) zN
 have hb2 : zV σ2.next [.agg ⟨wkc w.days p l c q m d w.rest w.run w.hours⟩, .slice r l rc, .slice p2 l c2] := zJ (zGO (fun a e => by have := pab a e; omega) (fun a e => by have := qab a e; omega)) (zJ (wA (fun a e => by have := rab a e; omega)) (zJ (wA (xH s2)) zN))
 have hb3 : zV σ3.next [.slice p3 (zCE w (zP rs) (zP (uF w)) m).length c3] := zJ (wA (xH s3)) zN
 rw [hσ1] at k2 hb1
 by_cases e : zCE w (zP rs) (zP (uF w)) m = []
 ·rw [decide_eq_true e]
  exact (yYF k2 k3 hb1 hb2 hb3 ⟨⟨by show σ.next < _; omega, rfl⟩, ld⟩ ⟨rfl, hlow⟩ (by rw [e]; rfl)).pure
 ·rw [decide_eq_false e]
  exact (yYE k2 k3 hb1 hb2 hb3 ⟨⟨by show σ.next < _; omega, rfl⟩, ld⟩ ⟨rfl, hlow⟩ (fun h => e (List.length_eq_zero_iff.1 (by omega)))).pure
end
end
end Go.Proofs.YtgfiniccfpfplaaGreat
