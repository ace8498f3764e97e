import Derived.Test.YtgfiniccfpfplaaGreatRW
import Derived.Test.YtgfiniccfpfplaaGreatRD
import Derived.Test.YtgfiniccfpfplaaGreatRF
import Derived.Test.YtgfiniccfpfplaaGreatXJ

namespace Go.Proofs.YtgfiniccfpfplaaGreat
open Go Go.Lay
set_option linter.unusedVariables false
set_option linter.unusedSimpArgs false
set_option maxRecDepth 20000
section
variable {σ : St} {w : Wk} {p q r t : Option Addr} {l m c d rl rc tl tc : Nat} {rs ts : List Int}
theorem legal_c {n : Nat} (hnd : w.days = (n : Int)) (hn7 : n ≤ 7) (hv : Days w n) (h : WkP σ 85 88 w p l q m) (hs : Sane w l m) (hsh : zIY w) (hr : yU σ r l rs) (hro : ∀ i, i < l → -1 ≤ zL rs i ∧ zL rs i < (m : Int)) : zE Tryz.prog 62 [.agg ⟨wkc w.days p l c q m d w.rest w.run w.hours⟩, .slice r l rc] σ (.bool (decide (zAY w (zL rs) (zL (vW w)) m = []))) σ := by
 have hn := h.len.1
 have hl12 := hs.l12
 obtain ⟨σ1, hσ1⟩ : ∃ σ1, σ1 = σ.re.row (wkc w.days p l c q m d w.rest w.run w.hours) 6 := ⟨_, rfl⟩
 have N1 : New σ.re σ1 := by rw [hσ1]; exact New.row _ _ _
 have L1 : Le σ σ1 := (le0 σ).trans N1.le
 have hk0 := xQ σ.re (wkc w.days p l c q m d w.rest w.run w.hours) 6
 rw [← hσ1] at hk0
 obtain ⟨p2, c2, σ2, k2, n2, s2, f2⟩ := ends_c (c := c) (d := d) (h.le L1) (by omega)
 have L2 := L1.trans n2.le
 have hte : ∀ i, i < l → (dty w i).on ≤ zL (vW w) i ∧ zL (vW w) i ≤ (dty w i).on + 1440 := by
  intro i hi
  have e : zL (vW w) i = (dty w i).hi := by
   unfold zL vW dty
   rw [List.getD_eq_getElem?_getD, List.getElem?_map, List.getD_eq_getElem?_getD, List.getElem?_eq_getElem (by omega)]; rfl
  rw [e]
  have := hs.duty i hi
  omega
 obtain ⟨p3, c3, σ3, k3, n3, s3, f3⟩ := broken_c (c := c) (d := d) (rc := rc) (tc := c2) hnd hn7 hv (h.le L2) hs hsh (SlV.le hr L2) s2 hro hte
 have hlow : σ.next ≤ σ3.low := ((N1.trans n2).trans n3).lw
 have pab : ∀ a, p = some a → a.block < σ.next := xS h.dty
 have qab : ∀ a, q = some a → a.block < σ.next := by obtain ⟨vs, h1, _⟩ := h.drv; exact xS h1
 have rab : ∀ a, r = some a → a.block < σ.next := xS hr
 have ld : zC Tryz.prog σ2 34 ⟨σ.re.next, 0, none⟩ = some (.agg ⟨wkc w.days p l c q m d w.rest w.run w.hours⟩) := (hk0.le n2.le).ldN (k := 0) uN xL (ds := wkc w.days p l c q m d w.rest w.run w.hours) rfl rfl (by simp)
 have nx1 : σ1.next = σ.next + 1 := by rw [hσ1]; rfl
 have nx2 := n2.le.next
 have hb1 : zU σ1.next [.agg ⟨wkc w.days p l c q m d w.rest w.run w.hours⟩] := zI (zIW (fun a e => by have := pab a e; omega) (fun a e => by have := qab a e; omega)) zM
 have hb2 : zU σ2.next [.agg ⟨wkc w.days p l c q m d w.rest w.run w.hours⟩, .slice r l rc, .slice p2 l c2] := zI (zIW (fun a e => by have := pab a e; omega) (fun a e => by have := qab a e; omega)) (zI (vO (fun a e => by have := rab a e; omega)) (zI (vO (xS s2)) zM))
 have hb3 : zU σ3.next [.slice p3 (zAY w (zL rs) (zL (vW w)) m).length c3] := zI (vO (xS s3)) zM
 rw [hσ1] at k2 hb1
 by_cases e : zAY w (zL rs) (zL (vW w)) m = []
 ·rw [decide_eq_true e]
  exact (legal_ra k2 k3 hb1 hb2 hb3 ⟨⟨by show σ.next < _; omega, rfl⟩, ld⟩ ⟨rfl, hlow⟩ (by rw [e]; rfl)).pure
 ·rw [decide_eq_false e]
  exact (legal_rb k2 k3 hb1 hb2 hb3 ⟨⟨by show σ.next < _; omega, rfl⟩, ld⟩ ⟨rfl, hlow⟩ (fun h => e (List.length_eq_zero_iff.1 (by omega)))).pure
end
end Go.Proofs.YtgfiniccfpfplaaGreat

namespace Go.Proofs.YtgfiniccfpfplaaGreat
set_option linter.unusedVariables false
set_option linter.unusedSimpArgs false
section
variable {w : Wk} {l m : Nat}
theorem zLU (h : wB w = 0) : w.duties.length ≤ 12 ∧ w.drivers.length ≤ 6 ∧ zAA w = true ∧ (∀ x ∈ w.duties, zAN w x = true) ∧ ∀ x ∈ w.drivers, zCN w x = true := by
 unfold wB at h
 split at h
 ·cases h
 ·rename_i h1
  split at h
  ·rename_i h2
   rw [Bool.and_eq_true, Bool.and_eq_true, List.all_eq_true, List.all_eq_true] at h2
   exact ⟨by omega, by omega, h2.1, h2.2.1, h2.2.2⟩
  ·cases h
theorem yGL {i : Nat} (h : i < w.duties.length) : dty w i ∈ w.duties := by
 unfold dty
 rw [List.getD_eq_getElem?_getD, List.getElem?_eq_getElem h]
 exact List.getElem_mem h
theorem zVD {k : Nat} (h : k < w.drivers.length) : drv w k ∈ w.drivers := by
 unfold drv
 rw [List.getD_eq_getElem?_getD, List.getElem?_eq_getElem h]
 exact List.getElem_mem h
theorem zYA (h : zAA w = true) : (1 ≤ w.days ∧ w.days ≤ 7) ∧ (0 ≤ w.rest ∧ w.rest ≤ 3000) ∧ (1 ≤ w.run ∧ w.run ≤ 14) ∧ 0 ≤ w.hours ∧ w.hours ≤ 20000 := by
 unfold zAA at h
 simp only [Bool.and_eq_true, zDC] at h
 exact h
theorem zPF {d : Dty} (h : zAN w d = true) : (0 ≤ d.day ∧ d.day ≤ w.days - 1) ∧ (0 ≤ d.on ∧ d.on ≤ 1439) ∧ (d.on ≤ d.lo ∧ d.lo ≤ d.hi) ∧ d.hi ≤ d.on + 1440 ∧ 0 ≤ d.route ∧ d.route ≤ 15 := by
 unfold zAN at h
 simp only [Bool.and_eq_true, zDC, Bool.not_eq_true', decide_eq_false_iff_not, Int.not_lt] at h
 exact h
theorem yDL {x : Drv} (h : zCN w x = true) : vZ x.knows 0 15 = true ∧ vZ x.leave 0 (w.days - 1) = true ∧ vZ x.wish 0 (w.days - 1) = true ∧ (-10080 ≤ x.off ∧ x.off ≤ 1440) ∧ (0 ≤ x.row ∧ x.row ≤ 14) ∧ 0 ≤ x.used ∧ x.used ≤ w.hours := by
 unfold zCN at h
 simp only [Bool.and_eq_true, zDC] at h
 exact h
theorem Sane.of (h : wB w = 0) (hsh : zIY w) (hl : w.duties.length = l) (hm : w.drivers.length = m) : Sane w l m := by
 obtain ⟨h1, h2, h3, h4, h5⟩ := zLU h
 obtain ⟨hd, hr, hu, hh⟩ := zYA h3
 refine ⟨by omega, by omega, ?_, ?_, ?_, hr, hu, hh⟩
 ·intro i hi
  have := zPF (h4 _ (yGL (by omega : i < w.duties.length)))
  omega
 ·intro k hk
  have := yDL (h5 _ (zVD (by omega : k < w.drivers.length)))
  omega
 ·intro k hk
  exact hsh _ (zVD (by omega : k < w.drivers.length))
theorem days_ex (h : wB w = 0) : ∃ n : Nat, w.days = (n : Int) ∧ 1 ≤ n ∧ n ≤ 7 ∧ Val w n := by
 obtain ⟨h1, h2, h3, h4, h5⟩ := zLU h
 obtain ⟨hd, hr, hu, hh⟩ := zYA h3
 refine ⟨w.days.toNat, by omega, by omega, by omega, ⟨⟨by omega, ?_⟩, ?_, ?_⟩⟩
 ·intro i hi
  have := zPF (h4 _ (yGL hi))
  omega
 ·intro i hi
  have := zPF (h4 _ (yGL hi))
  omega
 ·intro k hk
  have := yDL (h5 _ (zVD hk))
  omega
end
end Go.Proofs.YtgfiniccfpfplaaGreat

namespace Go.Proofs.YtgfiniccfpfplaaGreat
open Go Go.Lay
set_option linter.unusedVariables false
set_option linter.unusedSimpArgs false
set_option maxRecDepth 20000
section
variable {σ : St} {w : Wk} {p q r t : Option Addr} {l m c d rl rc tl tc : Nat} {rs ts : List Int}
theorem yCF : zGT w rs = true ↔ rs.length = w.duties.length ∧ ∀ i, i < rs.length → -1 ≤ zL rs i ∧ zL rs i < (w.drivers.length : Int) := by
 unfold zGT
 rw [Bool.and_eq_true, decide_eq_true_eq, List.all_eq_true, And.comm]
 refine and_congr_right fun hl => ⟨fun h i hi => ?_, fun h x hx => ?_⟩
 ·have := zDC.1 (h rs[i] (List.getElem_mem hi))
  have e : zL rs i = rs[i] := by unfold zL; rw [List.getD_eq_getElem?_getD, List.getElem?_eq_getElem hi]; rfl
  omega
 ·obtain ⟨i, hi, rfl⟩ := List.getElem_of_mem hx
  have := h i hi
  have e : zL rs i = rs[i] := by unfold zL; rw [List.getD_eq_getElem?_getD, List.getElem?_eq_getElem hi]; rfl
  exact zDC.2 (by omega)
def zYG (rs : List Int) : Nat := (rs.filter fun x => decide (0 ≤ x)).length
def zDZ (w : Wk) (rs : List Int) (least : Int) : Bool := decide (wB w = 0) && (zGT w rs && (decide (zAY w (zL rs) (zL (vW w)) w.drivers.length = []) && decide (least ≤ (zYG rs : Int))))
theorem yAK {least : Int} (h : WkP σ 85 88 w p l q m) (hsh : zIY w) (hr : yU σ r rl rs) (hrl : rl ≤ 1073741824) :
  zE Tryz.prog 35 [.agg ⟨wkc w.days p l c q m d w.rest w.run w.hours⟩, .slice r rl rc, iV least] σ (.bool (zDZ w rs least)) σ := by
 have hln := h.len.1
 have hm := h.len.2
 obtain ⟨σ1, hσ1⟩ : ∃ σ1, σ1 = σ.re.row (wkc w.days p l c q m d w.rest w.run w.hours) 6 := ⟨_, rfl⟩
 have N1 : New σ.re σ1 := by rw [hσ1]; exact New.row _ _ _
 have L1 : Le σ σ1 := (le0 σ).trans N1.le
 have k1 := yNN (c := c) (d := d) (h.le L1) hsh
 rw [hσ1] at k1
 by_cases hf : wB w = 0
 rotate_left
 ·have : zDZ w rs least = false := by unfold zDZ; rw [decide_eq_false hf]; rfl
  rw [this]
  exact (zYY k1 ⟨rfl, Nat.le_refl _⟩ hf).pure
 have hm6 := (zLU hf).2.1
 have k2 := yWW (c := c) (d := d) (rc := rc) (h.le L1) (SlV.le hr L1) hrl (by omega)
 rw [hσ1] at k2
 cases b2 : zGT w rs with
 | false =>
  have : zDZ w rs least = false := by unfold zDZ; rw [b2, decide_eq_true hf]; rfl
  rw [b2] at k2
  rw [this]
  exact (zYZ k1 k2 ⟨rfl, Nat.le_refl _⟩ hf).pure
 | true =>
 rw [b2] at k2
 obtain ⟨r1, r2⟩ := yCF.1 b2
 have el := hr.len
 have hrll : rl = l := by omega
 subst hrll
 obtain ⟨n, hn, hn1, hn7, hv⟩ := days_ex hf
 have hs := Sane.of hf hsh hln hm
 have k3 := legal_c (c := c) (d := d) (rc := rc) hn hn7 hv.toDays (h.le L1) hs hsh (SlV.le hr L1) (fun i hi => by have := r2 i (by omega); omega)
 have k4 := covers_c (c := rc) (SlV.le hr L1) hrl
 have ec : (rs.filter fun x => decide (x ≠ -1)) = rs.filter fun x => decide (0 ≤ x) := by
  apply List.filter_congr
  intro x hx
  obtain ⟨i, hi, rfl⟩ := List.getElem_of_mem hx
  have := r2 i hi
  have e : zL rs i = rs[i] := by unfold zL; rw [List.getD_eq_getElem?_getD, List.getElem?_eq_getElem hi]; rfl
  apply decide_eq_decide.2
  omega
 rw [ec] at k4
 rw [hσ1] at k3 k4
 have e : zDZ w rs least = (decide (zAY w (zL rs) (zL (vW w)) m = []) && decide (least ≤ (zYG rs : Int))) := by unfold zDZ; rw [b2, decide_eq_true hf, hm]; rfl
 rw [e]
 by_cases h3 : zAY w (zL rs) (zL (vW w)) m = []
 ·rw [decide_eq_true h3] at k3 ⊢
  by_cases h4 : least ≤ (zYG rs : Int)
  ·rw [decide_eq_true h4]
   exact (zZC k1 k2 k3 k4 ⟨rfl, Nat.le_refl _⟩ hf h4).pure
  ·rw [decide_eq_false h4]
   exact (zZB k1 k2 k3 k4 ⟨rfl, Nat.le_refl _⟩ hf h4).pure
 ·rw [decide_eq_false h3] at k3 ⊢
  exact (zZA k1 k2 k3 ⟨rfl, Nat.le_refl _⟩ hf).pure
end
end Go.Proofs.YtgfiniccfpfplaaGreat
