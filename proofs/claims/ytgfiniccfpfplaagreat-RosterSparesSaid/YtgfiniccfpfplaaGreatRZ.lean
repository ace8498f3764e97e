import Derived.Test.YtgfiniccfpfplaaGreatRW
import Derived.Test.YtgfiniccfpfplaaGreatRD
import Derived.Test.YtgfiniccfpfplaaGreatRF
import Derived.Test.YtgfiniccfpfplaaGreatXJ

namespace Go.Proofs.YtgfiniccfpfplaaGreat
open Go Go.Lay
set_option linter.unusedVariables false
set_option linter.unusedSimpArgs false
set_option maxRecDepth 20000
section
variable {σ : St} {w : Wk} {p q r t : Option Addr} {l m c d rl rc tl tc : Nat} {rs ts : List Int}
theorem legal_c {n : Nat} (hnd : w.days = (n : Int)) (hn7 : n ≤ 7) (hv : Days w n) (h : WkP σ 85 88 w p l q m) (hs : Sane w l m) (hsh : zHT w) (hr : yO σ r l rs) (hro : ∀ i, i < l → -1 ≤ zN rs i ∧ zN rs i < (m : Int)) : zE Tryz.prog 62 [.agg ⟨wkc w.days p l c q m d w.rest w.run w.hours⟩, .slice r l rc] σ (.bool (decide (zCD w (zN rs) (zN (uE w)) m = []))) σ := by
 have hn := h.len.1
 have hl12 := hs.l12
 obtain ⟨σ1, hσ1⟩ : ∃ σ1, σ1 = σ.re.row (wkc w.days p l c q m d w.rest w.run w.hours) 6 := ⟨_, rfl⟩
 have N1 : New σ.re σ1 := by rw [hσ1]; exact New.row _ _ _
 have L1 : Le σ σ1 := (le0 σ).trans N1.le
 have hk0 := xR σ.re (wkc w.days p l c q m d w.rest w.run w.hours) 6
 rw [← hσ1] at hk0
 obtain ⟨p2, c2, σ2, k2, n2, s2, f2⟩ := ends_c (c := c) (d := d) (h.le L1) (by omega)
 have L2 := L1.trans n2.le
 have hte : ∀ i, i < l → (dty w i).on ≤ zN (uE w) i ∧ zN (uE w) i ≤ (dty w i).on + 1440 := by
  intro i hi
  have e : zN (uE w) i = (dty w i).hi := by
   unfold zN uE dty
   rw [List.getD_eq_getElem?_getD, List.getElem?_map, List.getD_eq_getElem?_getD, List.getElem?_eq_getElem (by omega)]; rfl
  rw [e]
  have := hs.duty i hi
  omega
 obtain ⟨p3, c3, σ3, k3, n3, s3, f3⟩ := broken_c (c := c) (d := d) (rc := rc) (tc := c2) hnd hn7 hv (h.le L2) hs hsh (SlV.le hr L2) s2 hro hte
 have hlow : σ.next ≤ σ3.low := ((N1.trans n2).trans n3).lw
 have pab : ∀ a, p = some a → a.block < σ.next := xG h.dty
 have qab : ∀ a, q = some a → a.block < σ.next := by obtain ⟨vs, h1, _⟩ := h.drv; exact xG h1
 have rab : ∀ a, r = some a → a.block < σ.next := xG hr
 have ld : zC Tryz.prog σ2 34 ⟨σ.re.next, 0, none⟩ = some (.agg ⟨wkc w.days p l c q m d w.rest w.run w.hours⟩) := (hk0.le n2.le).ldN (k := 0) zAR wC (ds := wkc w.days p l c q m d w.rest w.run w.hours) rfl rfl (by simp)
 have nx1 : σ1.next = σ.next + 1 := by rw [hσ1]; rfl
 have nx2 := n2.le.next
 have hb1 : zT σ1.next [.agg ⟨wkc w.days p l c q m d w.rest w.run w.hours⟩] := zG (zGK (fun a e => by have := pab a e; omega) (fun a e => by have := qab a e; omega)) zL
 have hb2 : zT σ2.next [.agg ⟨wkc w.days p l c q m d w.rest w.run w.hours⟩, .slice r l rc, .slice p2 l c2] := zG (zGK (fun a e => by have := pab a e; omega) (fun a e => by have := qab a e; omega)) (zG (xZ (fun a e => by have := rab a e; omega)) (zG (xZ (xG s2)) zL))
 have hb3 : zT σ3.next [.slice p3 (zCD w (zN rs) (zN (uE w)) m).length c3] := zG (xZ (xG s3)) zL
 rw [hσ1] at k2 hb1
 by_cases e : zCD w (zN rs) (zN (uE w)) m = []
 ·rw [decide_eq_true e]
  exact (legal_ra k2 k3 hb1 hb2 hb3 ⟨⟨by show σ.next < _; omega, rfl⟩, ld⟩ ⟨rfl, hlow⟩ (by rw [e]; rfl)).pure
 ·rw [decide_eq_false e]
  exact (legal_rb k2 k3 hb1 hb2 hb3 ⟨⟨by show σ.next < _; omega, rfl⟩, ld⟩ ⟨rfl, hlow⟩ (fun h => e (List.length_eq_zero_iff.1 (by omega)))).pure
end
end Go.Proofs.YtgfiniccfpfplaaGreat

namespace Go.Proofs.YtgfiniccfpfplaaGreat
set_option linter.unusedVariables false
set_option linter.unusedSimpArgs false
section
variable {w : Wk} {l m : Nat}
theorem zMD (h : xH w = 0) : w.duties.length ≤ 12 ∧ w.drivers.length ≤ 6 ∧ uY w = true ∧ (∀ x ∈ w.duties, zAN w x = true) ∧ ∀ x ∈ w.drivers, zCS w x = true := by
 unfold xH at h
 split at h
 ·cases h
 ·rename_i h1
  split at h
  ·rename_i h2
   rw [Bool.and_eq_true, Bool.and_eq_true, List.all_eq_true, List.all_eq_true] at h2
   exact ⟨by omega, by omega, h2.1, h2.2.1, h2.2.2⟩
  ·cases h
theorem yGT {i : Nat} (h : i < w.duties.length) : dty w i ∈ w.duties := by
 unfold dty
 rw [List.getD_eq_getElem?_getD, List.getElem?_eq_getElem h]
 exact List.getElem_mem h
theorem zVQ {k : Nat} (h : k < w.drivers.length) : drv w k ∈ w.drivers := by
 unfold drv
 rw [List.getD_eq_getElem?_getD, List.getElem?_eq_getElem h]
 exact List.getElem_mem h
theorem zYM (h : uY w = true) : (1 ≤ w.days ∧ w.days ≤ 7) ∧ (0 ≤ w.rest ∧ w.rest ≤ 3000) ∧ (1 ≤ w.run ∧ w.run ≤ 14) ∧ 0 ≤ w.hours ∧ w.hours ≤ 20000 := by
 unfold uY at h
 simp only [Bool.and_eq_true, zBV] at h
 exact h
theorem zPQ {d : Dty} (h : zAN w d = true) : (0 ≤ d.day ∧ d.day ≤ w.days - 1) ∧ (0 ≤ d.on ∧ d.on ≤ 1439) ∧ (d.on ≤ d.lo ∧ d.lo ≤ d.hi) ∧ d.hi ≤ d.on + 1440 ∧ 0 ≤ d.route ∧ d.route ≤ 15 := by
 unfold zAN at h
 simp only [Bool.and_eq_true, zBV, Bool.not_eq_true', decide_eq_false_iff_not, Int.not_lt] at h
 exact h
theorem yDV {x : Drv} (h : zCS w x = true) : vW x.knows 0 15 = true ∧ vW x.leave 0 (w.days - 1) = true ∧ vW x.wish 0 (w.days - 1) = true ∧ (-10080 ≤ x.off ∧ x.off ≤ 1440) ∧ (0 ≤ x.row ∧ x.row ≤ 14) ∧ 0 ≤ x.used ∧ x.used ≤ w.hours := by
 unfold zCS at h
 simp only [Bool.and_eq_true, zBV] at h
 exact h
theorem Sane.of (h : xH w = 0) (hsh : zHT w) (hl : w.duties.length = l) (hm : w.drivers.length = m) : Sane w l m := by
 obtain ⟨h1, h2, h3, h4, h5⟩ := zMD h
 obtain ⟨hd, hr, hu, hh⟩ := zYM h3
 refine ⟨by omega, by omega, ?_, ?_, ?_, hr, hu, hh⟩
 ·intro i hi
  have := zPQ (h4 _ (yGT (by omega : i < w.duties.length)))
  omega
 ·intro k hk
  have := yDV (h5 _ (zVQ (by omega : k < w.drivers.length)))
  omega
 ·intro k hk
  exact hsh _ (zVQ (by omega : k < w.drivers.length))
theorem days_ex (h : xH w = 0) : ∃ n : Nat, w.days = (n : Int) ∧ 1 ≤ n ∧ n ≤ 7 ∧ Val w n := by
 obtain ⟨h1, h2, h3, h4, h5⟩ := zMD h
 obtain ⟨hd, hr, hu, hh⟩ := zYM h3
 refine ⟨w.days.toNat, by omega, by omega, by omega, ⟨⟨by omega, ?_⟩, ?_, ?_⟩⟩
 ·intro i hi
  have := zPQ (h4 _ (yGT hi))
  omega
 ·intro i hi
  have := zPQ (h4 _ (yGT hi))
  omega
 ·intro k hk
  have := yDV (h5 _ (zVQ hk))
  omega
end
end Go.Proofs.YtgfiniccfpfplaaGreat

namespace Go.Proofs.YtgfiniccfpfplaaGreat
open Go Go.Lay
set_option linter.unusedVariables false
set_option linter.unusedSimpArgs false
set_option maxRecDepth 20000
section
variable {σ : St} {w : Wk} {p q r t : Option Addr} {l m c d rl rc tl tc : Nat} {rs ts : List Int}
theorem newTup {f : FuncId} {args : List Value} {tt n len : Nat} {vs : List Value} {e : Int} (h : zM Tryz.prog f args σ.re fun v s => New σ.re s ∧ ∃ p c, v = .tuple ⟨[.slice p len c, iV e]⟩ ∧ SlV Tryz.prog s tt n p len vs ∧ ∀ b, AtP p b → σ.next ≤ b) :
  ∃ p c σ', zE Tryz.prog f args σ (.tuple ⟨[.slice p len c, iV e]⟩) σ' ∧ New σ σ' ∧ SlV Tryz.prog σ' tt n p len vs ∧ ∀ b, AtP p b → σ.next ≤ b := by
 obtain ⟨v, σ', h1, h2, p, c, rfl, h3, h4⟩ := zM.new (Q := fun v s => ∃ p c, v = .tuple ⟨[.slice p len c, iV e]⟩ ∧ SlV Tryz.prog s tt n p len vs ∧ ∀ b, AtP p b → σ.next ≤ b) h (by
  rintro v s s' ⟨p, c, rfl, g1, g2⟩ hle; exact ⟨p, c, rfl, g1.le hle, g2⟩) (by
  rintro v s hr ⟨p, c, rfl, g1, g2⟩
  cases p with
  | none => exact ⟨none, c, rfl, zQB g1, fun b hb => (AtP.none hb).elim⟩
  | some a => exact Bool.noConfusion (show false = true from hr))
 exact ⟨p, c, σ', h1, h2, h3, h4⟩
theorem yCM : zDH w rs = true ↔ rs.length = w.duties.length ∧ ∀ i, i < rs.length → -1 ≤ zN rs i ∧ zN rs i < (w.drivers.length : Int) := by
 unfold zDH
 rw [Bool.and_eq_true, decide_eq_true_eq, List.all_eq_true, And.comm]
 refine and_congr_right fun hl => ⟨fun h i hi => ?_, fun h x hx => ?_⟩
 ·have := zBV.1 (h rs[i] (List.getElem_mem hi))
  have e : zN rs i = rs[i] := by unfold zN; rw [List.getD_eq_getElem?_getD, List.getElem?_eq_getElem hi]; rfl
  omega
 ·obtain ⟨i, hi, rfl⟩ := List.getElem_of_mem hx
  have := h i hi
  have e : zN rs i = rs[i] := by unfold zN; rw [List.getD_eq_getElem?_getD, List.getElem?_eq_getElem hi]; rfl
  exact zBV.2 (by omega)
end
end Go.Proofs.YtgfiniccfpfplaaGreat
