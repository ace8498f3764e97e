import Derived.Test.YtgfiniccfpfplaaGreatRG
import Derived.Test.YtgfiniccfpfplaaGreatRH
import Derived.Test.YtgfiniccfpfplaaGreatXH
import Derived.Test.YtgfiniccfpfplaaGreatRA
import Derived.Sort.AssemblyPlain

namespace Go.Proofs.YtgfiniccfpfplaaGreat
open Go Go.Lay
open Tryz renaming prog → Pg
set_option linter.unusedVariables false
set_option linter.unusedSimpArgs false
set_option maxRecDepth 20000
theorem zEN (xs : List Int) : ∀ (_ : IntKind), zBB (xs.map yS) = xs.map yS := by
 intro _
 induction xs with
 | nil => rfl
 | cons x xs ih => simp only [zBB, List.map_cons, List.flatMap_cons] at ih ⊢; rw [ih]; rfl
section
variable {σ : St}
theorem ints_c {p q : Option Addr} {l c m d : Nat} {xs ys : List Int} (h1 : yO σ p l xs) (h2 : yO σ q m ys) (hl : l ≤ 1073741824) : zE Pg 30 [.slice p l c, .slice q m d] σ (.bool (decide (xs = ys))) σ := by
 have e1 := h1.len; have e2 := h2.len
 by_cases hlm : l = m
 ·subst hlm
  have h1 := h1.re
  have h2 := h2.re
  refine (ints_rb (yRX (Inv := fun k i5 τ => τ = σ.re ∧ ∃ i : Nat, i5 = i ∧ i + k = l ∧ xs.take i = ys.take i) (Qr := fun x τ => τ = σ.re ∧ x = false ∧ xs ≠ ys) (Q0 := fun τ => τ = σ.re ∧ xs = ys) ?_ l 0 σ.re ⟨rfl, 0, rfl, by omega, rfl⟩) ?_ ?_).pure
  ·rintro k i5 τ ⟨rfl, i, rfl, hk, he⟩
   by_cases hi : i < l
   ·obtain ⟨a, rfl, x, hx, l1⟩ := vN h1 hi
    obtain ⟨b, rfl, y, hy, l2⟩ := vN h2 hi
    by_cases hxy : x = y
    ·exact ints_s1b l1 l2 ⟨k - 1, by omega, rfl, i + 1, by omega, by omega, by rw [uQ hx, uQ hy, he, hxy]⟩
    ·exact ints_s1a l1 l2 ⟨rfl, rfl, fun e => hxy (by rw [e, hy] at hx; exact (Option.some.inj hx).symm)⟩
   ·rw [List.take_of_length_le (by omega), List.take_of_length_le (by omega)] at he
    exact ints_s1c ⟨rfl, he⟩
  ·rintro x τ ⟨rfl, rfl, hne⟩
   exact yRV ⟨by simp [hne], Nat.le_refl _⟩
  ·rintro τ ⟨rfl, rfl⟩
   exact yRW ⟨by simp, Nat.le_refl _⟩
 ·rw [show decide (xs = ys) = false by simp; intro e; apply hlm; rw [← e1, ← e2, e]]
  exact (ints_ra ⟨rfl, Nat.le_refl _⟩).pure
theorem yGI {p : Option Addr} {l c : Nat} {xs : List Int} (h : yO σ p l xs) (hl : l ≤ 1073741824) :
  ∃ p' c' σ', zE Pg 19 [.slice p l c] σ (.slice p' l c') σ' ∧ New σ σ' ∧ yO σ' p' l xs ∧ ∀ b, AtP p' b → σ.next ≤ b := by
 have hc : (zBB (xs.map yS)).all cellB = true := by rw [zEN xs .i64]; simp [List.all_eq_true]; intro a _; rfl
 have N1 : New σ.re (σ.re.row [] 1) := New.row _ _ _
 obtain ⟨p6, c6, s5, ap1, A6, O6, b6⟩ := Ax.append (P := Pg) (k := c) (n0 := σ.re.next) zEU (Ax.lit (len := 0) (zD σ.re [] 1) rfl ((xC 0).2 zFH) (Nat.le_refl _)) (SlV.le h ((le0 σ).trans N1.le)).1 (by omega) hc N1.nx
 rw [Nat.zero_add] at ap1 A6
 have N5 : New σ.re s5 := N1.of_only O6 (by rintro b ⟨a, e, rfl⟩; cases e; exact Nat.le_refl _)
 exact zM.newSl (list_ra ap1 ⟨N5, p6, c6, rfl, Ax.slv (by simpa using A6) (by simpa using h.2.1) h.2.2, fun b hb => (A6.bd b hb).1⟩)
section
variable {w : Wk} {p q r t : Option Addr} {l m c d rl rc tl tc : Nat} {rs ts : List Int}
theorem ends_c (h : WkP σ 85 88 w p l q m) (hl : l ≤ 1000) : ∃ p' c' σ', zE Pg 86 [.agg ⟨wkc w.days p l c q m d w.rest w.run w.hours⟩] σ (.slice p' l c') σ' ∧ New σ σ' ∧ yO σ' p' l (uE w) ∧ ∀ b, AtP p' b → σ.next ≤ b := by
 have hn := h.len.1
 obtain ⟨σ1, hσ1⟩ : ∃ σ1, σ1 = σ.re.row (wkc w.days p l c q m d w.rest w.run w.hours) 6 := ⟨_, rfl⟩
 have N1 : New σ.re σ1 := by rw [hσ1]; exact New.row _ _ _
 have L1 : Le σ σ1 := (le0 σ).trans N1.le
 refine zM.newSl (ends_ra (ySQ (Inv := fun k p' l' c' i τ => New σ1 τ ∧ ∃ j : Nat, i = j ∧ j + k = l ∧ l' = j ∧ Gr Pg τ σ1.next 3 1 p' l' c' (((uE w).take j).map yS))
  (Q0 := fun p' l' c' τ => New σ1 τ ∧ l' = l ∧ Gr Pg τ σ1.next 3 1 p' l' c' ((uE w).map yS)) ?_ l none 0 0 0 _ ⟨by rw [← hσ1]; exact New.refl _, 0, rfl, by omega, rfl, Gr.nil⟩) ?_)
 ·rintro k p' l' c' i τ ⟨hN, j, rfl, hk, rfl, hg⟩
  by_cases hj : l' < l
  ·obtain ⟨a, rfl, x, hx, lx⟩ := vN (SlV.le h.dty (L1.trans hN.le)) hj
   have hN2 : New τ ((τ.row (zF 0 0 0 0 0) 5).own τ.next (zF x.day x.on x.lo x.hi x.route) 5) := (New.row _ _ _).own (Nat.le_refl _)
   obtain ⟨q7, d7, τ', g1, g2, g3, _, _⟩ := grow (yS x.hi) zEU hg hN hN2 (zHD _) (by omega)
   have hx2 : (uE w)[l']? = some x.hi := by unfold uE; rw [List.getElem?_map, hx]; rfl
   refine ends_s1a lx g1 ⟨k - 1, by omega, g3, l' + 1, by omega, by omega, rfl, ?_⟩ (by omega) (by omega) (by omega)
   rw [uQ hx2, List.map_append]
   exact g2
  ·have : l' = l := by omega
   subst this
   refine ends_s1b ⟨hN, rfl, ?_⟩ (by omega)
   rwa [List.take_of_length_le (by unfold uE; rw [List.length_map]; omega)] at hg
 ·rintro p' l' c' τ ⟨hN, rfl, hg⟩
  refine ySP ⟨N1.trans hN, p', c', rfl, hg.slv, fun b hb => ?_⟩
  have := (hg.bd hb).1
  have := N1.nx
  show σ.re.next ≤ b
  omega
theorem yAQ (h : WkP σ 85 88 w p l q m) (hr : yO σ r rl rs) (hl : rl ≤ 1073741824) (hm : m ≤ 1073741824) : zE Pg 52 [.agg ⟨wkc w.days p l c q m d w.rest w.run w.hours⟩, .slice r rl rc] σ (.bool (zDH w rs)) σ := by
 have hn := h.len.1
 have hmm := h.len.2
 have el := hr.len
 by_cases hh : rl = l
 rotate_left
 ·have : zDH w rs = false := by unfold zDH; rw [decide_eq_false (by omega), Bool.and_false]
  rw [this]
  exact (yNV ⟨rfl, Nat.le_refl _⟩ (by omega)).pure
 have L1 : Le σ (σ.re.row (wkc w.days p l c q m d w.rest w.run w.hours) 6) := (le0 σ).trans (Le.row _ _ _)
 have hk0 := xR σ.re (wkc w.days p l c q m d w.rest w.run w.hours) 6
 have ca := allI_c (cap := rc) (g := 73) (gc := [.pointer (some ⟨σ.re.next, 0, none⟩)]) (f := fun x => inB x (-1) ((w.drivers.length : Int) - 1)) (SlV.le hr L1) hl (fun x _ τ hτ => by
  have ld : zC Pg τ.re 32 (zK ⟨σ.re.next, 0, none⟩ 2) = some (.slice q m d) := ((hk0.le hτ).re).load1 zDQ rfl
  rw [hmm]
  exact (yOO ld zGN ⟨rfl, Nat.le_refl _⟩ (by omega)).pure)
 have : zDH w rs = rs.all (fun x => inB x (-1) ((w.drivers.length : Int) - 1)) := by unfold zDH; rw [decide_eq_true (by omega), Bool.and_true]
 rw [this]
 exact (yNW ca ⟨rfl, Nat.le_refl _⟩ (by omega)).pure
theorem rLegal_c (h : WkP σ 92 76 w p l q m) (hs : Sane w l m) (hr : yO σ r l rs) : zE Pg 31 [.agg ⟨wkc w.days p l c q m d w.rest w.run w.hours⟩, .slice r l rc] σ (.bool (decide (zCD w (zN rs) (zN (uE w)) m = []))) σ := by
 have hn := h.len.1
 have hl12 := hs.l12
 obtain ⟨σ1, hσ1⟩ : ∃ σ1, σ1 = σ.re.row (wkc w.days p l c q m d w.rest w.run w.hours) 6 := ⟨_, rfl⟩
 have N1 : New σ.re σ1 := by rw [hσ1]; exact New.row _ _ _
 have L1 : Le σ σ1 := (le0 σ).trans N1.le
 have hk0 := xR σ.re (wkc w.days p l c q m d w.rest w.run w.hours) 6
 rw [← hσ1] at hk0
 obtain ⟨p2, c2, σ2, k2, n2, s2, f2⟩ := yYI (c := c) (d := d) (h.le L1) (by omega)
 have L2 := L1.trans n2.le
 have hte : ∀ i, i < l → (dty w i).on ≤ zN (uE w) i ∧ zN (uE w) i ≤ (dty w i).on + 1440 := by
  intro i hi
  have e : zN (uE w) i = (dty w i).hi := by
   unfold zN uE dty
   rw [List.getD_eq_getElem?_getD, List.getElem?_map, List.getD_eq_getElem?_getD, List.getElem?_eq_getElem (by omega)]; rfl
  rw [e]
  have := hs.duty i hi
  omega
 obtain ⟨p3, c3, σ3, k3, n3, s3, f3⟩ := yYW (c := c) (d := d) (rc := rc) (tc := c2) (h.le L2) hs (SlV.le hr L2) s2 hte
 have hlow : σ.next ≤ σ3.low := ((N1.trans n2).trans n3).lw
 have pab : ∀ a, p = some a → a.block < σ.next := xG h.dty
 have qab : ∀ a, q = some a → a.block < σ.next := by obtain ⟨vs, h1, _⟩ := h.drv; exact xG h1
 have rab : ∀ a, r = some a → a.block < σ.next := xG hr
 have ld : zC Pg σ2 25 ⟨σ.re.next, 0, none⟩ = some (.agg ⟨wkc w.days p l c q m d w.rest w.run w.hours⟩) := (hk0.le n2.le).ldN (k := 0) zAS wU (ds := wkc w.days p l c q m d w.rest w.run w.hours) rfl rfl (by simp)
 have nx1 : σ1.next = σ.next + 1 := by rw [hσ1]; rfl
 have nx2 := n2.le.next
 have hb1 : zT σ1.next [.agg ⟨wkc w.days p l c q m d w.rest w.run w.hours⟩] := zG (zGK (fun a e => by have := pab a e; omega) (fun a e => by have := qab a e; omega)) zL
 have hb2 : zT σ2.next [.agg ⟨wkc w.days p l c q m d w.rest w.run w.hours⟩, .slice r l rc, .slice p2 l c2] := zG (zGK (fun a e => by have := pab a e; omega) (fun a e => by have := qab a e; omega)) (zG (xZ (fun a e => by have := rab a e; omega)) (zG (xZ (xG s2)) zL))
 have hb3 : zT σ3.next [.slice p3 (zCD w (zN rs) (zN (uE w)) m).length c3] := zG (xZ (xG s3)) zL
 rw [hσ1] at k2 hb1
 by_cases e : zCD w (zN rs) (zN (uE w)) m = []
 ·rw [decide_eq_true e]
  exact (yYH k2 k3 hb1 hb2 hb3 ⟨⟨by show σ.next < _; omega, rfl⟩, ld⟩ ⟨rfl, hlow⟩ (by rw [e]; rfl)).pure
 ·rw [decide_eq_false e]
  exact (yYG k2 k3 hb1 hb2 hb3 ⟨⟨by show σ.next < _; omega, rfl⟩, ld⟩ ⟨rfl, hlow⟩ (fun h => e (List.length_eq_zero_iff.1 (by omega)))).pure
end
end
end Go.Proofs.YtgfiniccfpfplaaGreat

namespace Go.Proofs.YtgfiniccfpfplaaGreat
open Go Go.Lay
set_option linter.unusedVariables false
set_option linter.unusedSimpArgs false
set_option maxRecDepth 20000
open Go.Sort (swp)
def zDI (d : Array Rec) : List Value := d.toList.flatMap zDO
theorem zRV : ∀ l : List Rec, (l.flatMap zDO).length = l.length * 3
 | [] => rfl
 | x :: l => by rw [List.flatMap_cons, List.length_append, zRV l]; simp; omega
theorem zYY (d : Array Rec) : (zDI d).length = d.size * 3 := by unfold zDI; rw [zRV]; simp
def Dt (σ : St) (b : Nat) (s : Option Nat) (d : Array Rec) : Prop := b < σ.next ∧ ∃ log nx, yJ σ.heap b = some (.cells (zDI d) 3 ((s.getD 0, d.size * 3) :: log) nx false)
section
variable {σ τ : St} {b : Nat} {s : Option Nat} {d d0 : Array Rec}
theorem Dt.le (h : Dt σ b s d) (k : Le σ τ) : Dt τ b s d := by
 obtain ⟨h1, log, nx, h2⟩ := h
 exact ⟨Nat.lt_of_lt_of_le h1 k.next, log, nx, by rw [k.get b h1]; exact h2⟩
theorem Dt.only {S : Nat → Prop} (h : Dt σ b s d) (k : Only S σ τ) (hs : ¬ S b) : Dt τ b s d := by
 obtain ⟨h1, log, nx, h2⟩ := h
 exact ⟨Nat.lt_of_lt_of_le h1 k.next, log, nx, by rw [k.get b h1 hs]; exact h2⟩
theorem yAZ : ∀ (l : List Rec) (i : Nat) (x : Rec), l[i]? = some x → ((l.flatMap zDO).drop (i * 3)).take 3 = zDO x
 | [], i, x, h => by simp at h
 | y :: l, 0, x, h => by
  cases h
  rw [List.flatMap_cons, Nat.zero_mul, List.drop_zero]
  exact List.take_left' rfl
 | y :: l, i + 1, x, h => by
  rw [List.flatMap_cons, Nat.add_mul, Nat.one_mul, Nat.add_comm (i * 3), ← List.drop_drop, show List.drop 3 (zDO y ++ l.flatMap zDO) = l.flatMap zDO from rfl]
  exact yAZ l i x (by simpa using h)
theorem yJF : ∀ (l : List Rec) (i : Nat) (x : Rec), i < l.length → (l.flatMap zDO).take (i * 3) ++ (zDO x ++ (l.flatMap zDO).drop (i * 3 + 3)) = (l.set i x).flatMap zDO
 | [], i, x, h => by simp at h
 | y :: l, 0, x, h => by
  rw [List.set_cons_zero, List.flatMap_cons, List.flatMap_cons, Nat.zero_mul, List.take_zero, List.nil_append, Nat.zero_add, show List.drop 3 (zDO y ++ l.flatMap zDO) = l.flatMap zDO from rfl]
 | y :: l, i + 1, x, h => by
  rw [List.set_cons_succ, List.flatMap_cons, List.flatMap_cons, ← yJF l i x (by simpa using h), show (i + 1) * 3 = 3 + i * 3 by omega, List.take_append, List.drop_append, show 3 + i * 3 + 3 - (zDO y).length = i * 3 + 3 by simp; omega, show 3 + i * 3 - (zDO y).length = i * 3 by simp]
  rw [List.take_of_length_le (by simp), List.drop_of_length_le (by simp), List.nil_append, List.append_assoc]
theorem getD_at {i : Nat} (h : i < d.size) : d.toList[i]? = some d[i]! := by
 rw [Array.getElem?_toList, getElem!_pos d i h, Array.getElem?_eq_getElem h]
theorem Dt.ld (h : Dt σ b s d) {i : Int} (h0 : 0 ≤ i) (hi : i < (d.size : Int)) : zC Tryz.prog σ 45 (zK ⟨b, 0, s⟩ (Int.toNat i * 3)) = some (zHK d[i.toNat]!) := by
 obtain ⟨h1, log, nx, h2⟩ := h
 have hlt : i.toNat < d.size := by omega
 have hr : yQ σ ⟨b, 0 + i.toNat * 3, s⟩ 3 = some (zDO d[i.toNat]!) := by
  have hle : Nat.ble (0 + i.toNat * 3 + 3) (d.size * 3) = true := (zY _ _).2 (by omega)
  unfold yQ
  simp only [h2, yC, zAE, Nat.beq_refl, cond_true, hle]
  rw [Nat.zero_add]
  unfold zDI
  rw [yAZ _ _ _ (getD_at hlt)]
 have hR : Row σ ⟨b, 0 + i.toNat * 3, s⟩ (zDO d[i.toNat]!) := ⟨hr, h1⟩
 exact hR.loadN (P := Tryz.prog) (t := 45) (k := 0) agg45 yEU rfl rfl (by simp)
theorem Dt.st (h : Dt σ b s d) {i : Int} (x : Rec) (h0 : 0 ≤ i) (hi : i < (d.size : Int)) :
  ∃ σ', zQ Tryz.prog (evL [.pointer (some (zK ⟨b, 0, s⟩ (Int.toNat i * 3))), zHK x]) σ (.store 45 (.tmp 0) (.tmp 1)) = some (undef, σ') ∧ Dt σ' b s (d.setIfInBounds i.toNat x) ∧ Only (· = b) σ σ' ∧ σ'.low ≤ b := by
 obtain ⟨h1, log, nx, h2⟩ := h
 have hlt : i.toNat < d.size := by omega
 have hw : wY σ ⟨b, 0 + i.toNat * 3, s⟩ (zDO x) = some (σ.put b (.cells (zDI (d.setIfInBounds i.toNat x)) 3 [(s.getD 0, d.size * 3)] nx false)) := by
  have e6 : (zDO x).length = 3 := rfl
  have hc : (Nat.beq (s.getD 0) (s.getD 0) && Nat.ble (0 + i.toNat * 3 + 3) (d.size * 3) && !false && (zDO x).all cellB) = true := by
   rw [Nat.beq_refl, (zY _ _).2 (show 0 + i.toNat * 3 + 3 ≤ d.size * 3 by omega)]; rfl
  unfold wY
  simp only [h2, yC, e6, hc, cond_true, zIB, St.write_eq]
  have e : (zDI d).take (0 + i.toNat * 3) ++ (zDO x ++ (zDI d).drop (0 + i.toNat * 3 + 3)) = zDI (d.setIfInBounds i.toNat x) := by
   rw [Nat.zero_add]
   unfold zDI
   rw [Array.toList_setIfInBounds]
   exact yJF d.toList i.toNat x (by simpa using hlt)
  rw [e]
 refine ⟨σ.put b (.cells (zDI (d.setIfInBounds i.toNat x)) 3 [(s.getD 0, d.size * 3)] nx false), ?_, ⟨h1, [], nx, ?_⟩, Only.put (.inr rfl), by simp; omega⟩
 ·have e0 : zQ Tryz.prog (evL [.pointer (some (zK ⟨b, 0, s⟩ (Int.toNat i * 3))), zHK x]) σ (.store 45 (.tmp 0) (.tmp 1)) = (wY σ ⟨b, 0 + i.toNat * 3, s⟩ (zDO x)).map fun σ' => (undef, σ') := by
   have e1 : ∀ l : List Value, evL l (.tmp 0) = l.getD 0 undef := fun _ => rfl
   have e2 : ∀ l : List Value, evL l (.tmp 1) = l.getD 1 undef := fun _ => rfl
   have e3 : yW Tryz.prog 45 = some 3 := yEU
   unfold zQ
   simp only [e1, e2, List.getD_cons_zero, List.getD_cons_succ, zFL, e3]
   rfl
  rw [e0, hw]; rfl
 ·rw [St.put_get, if_pos rfl, Array.size_setIfInBounds]
end
end Go.Proofs.YtgfiniccfpfplaaGreat
