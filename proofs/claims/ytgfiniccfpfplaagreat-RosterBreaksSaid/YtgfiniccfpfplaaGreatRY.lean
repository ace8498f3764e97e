import Derived.Test.YtgfiniccfpfplaaGreatRV
import Derived.Test.YtgfiniccfpfplaaGreatRD
import Derived.Test.YtgfiniccfpfplaaGreatRF

namespace Go.Proofs.YtgfiniccfpfplaaGreat
open Go Go.Lay
set_option linter.unusedVariables false
set_option linter.unusedSimpArgs false
set_option maxRecDepth 20000
section
variable {σ : St} {w : Wk} {p q r t : Option Addr} {l m c d rc tc : Nat} {rs ts : List Int} {ros tru : Nat → Int}
theorem cellW_len {D i : Nat} : (zOU w ros tru D i).length ≤ 5 := by
 unfold zOU
 split
 ·simp
 ·have := List.length_filterMap_le (fun q => if holds w q (drv w (ros i).toNat) (dty w i) (wF w ros tru (ros i).toNat D i) = true then none else some (⟨q, (ros i).toNat, i⟩ : Bch)) (List.range 5)
  simpa using this
theorem zYV {D : Nat} : ∀ {j : Nat}, (zHC w ros tru D j).length ≤ 5 * j
 | 0 => by simp [zHC]
 | j + 1 => by
  have ih := zYV (D := D) (j := j)
  rw [ySR, List.length_append]
  have := cellW_len (w := w) (ros := ros) (tru := tru) (D := D) (i := j)
  split
  ·omega
  ·simp only [List.length_nil]; omega
theorem zXW : ∀ {D : Nat}, (zFD w ros tru D).length ≤ 5 * w.duties.length * D
 | 0 => by simp [zFD]
 | D + 1 => by
  have ih := zXW (D := D)
  rw [outB_s, List.length_append, Nat.mul_add, Nat.mul_one]
  have := zYV (w := w) (ros := ros) (tru := tru) (D := D) (j := w.duties.length)
  omega
theorem broken_c {n : Nat} (hn : w.days = (n : Int)) (hn7 : n ≤ 7) (hv : Days w n) (h : WkP σ 85 88 w p l q m) (hs : Sane w l m) (hsh : zJF w) (hr : yS σ r l rs) (ht : yS σ t l ts) (hro : ∀ i, i < l → -1 ≤ zP rs i ∧ zP rs i < (m : Int))
  (hts : ∀ i, i < l → (dty w i).on ≤ zP ts i ∧ zP ts i ≤ (dty w i).on + 1440) :
  ∃ p' c' σ', zF Tryz.prog 54 [.agg ⟨wkc w.days p l c q m d w.rest w.run w.hours⟩, .slice r l rc, .slice t l tc] σ (.slice p' (zDL w (zP rs) (zP ts) m).length c') σ' ∧ New σ σ' ∧ SlV Tryz.prog σ' 45 3 p' (zDL w (zP rs) (zP ts) m).length ((zDL w (zP rs) (zP ts) m).map zFH) ∧ ∀ b, AtP p' b → σ.next ≤ b := by
 have hl := h.len.1
 have hm := h.len.2
 have hm6 := hs.m6
 have hl12 := hs.l12
 have hRos : Ros w (zP rs) := ⟨fun i hi => by have := hro i (by omega); omega⟩
 obtain ⟨s4, hs4⟩ : ∃ s, s = (((σ.re.row (wkc w.days p l c q m d w.rest w.run w.hours) 6).row [.slice r l rc] 1).row [.slice t l tc] 1).row [.slice none 0 0] 1 := ⟨_, rfl⟩
 have N4 : New σ.re s4 := by rw [hs4]; exact ((New.row _ _ _).row'.row').row'
 have L4 : Le σ s4 := (le0 σ).trans N4.le
 have x4 : s4.next = σ.next + 4 := by rw [hs4]; rfl
 have cb := yXB (c := c) (d := d) (h.le L4) hm6
 have oz : Own (s4.row zVS 4) (σ.next + 4) (stL fun _ => std0) 4 := by
  have := zE s4 zVS 4
  rw [x4] at this; exact this
 have st := yUR oz (st0 w m)
 obtain ⟨s5, hs5⟩ : ∃ s, s = (s4.row zVS 4).own (σ.next + 4) (stL (st0 w m)) 4 := ⟨_, rfl⟩
 have N5 : New σ.re s5 := by rw [hs5]; exact N4.row'.own (by show σ.next ≤ σ.next + 4; omega)
 have w1 : Row s5 ⟨σ.next, 0, none⟩ (wkc w.days p l c q m d w.rest w.run w.hours) := by
  rw [hs5, hs4]
  exact (xU σ.re (wkc w.days p l c q m d w.rest w.run w.hours) 6).row.row.row.row.own (by show σ.next ≠ _; omega)
 have w2 : Row s5 ⟨σ.next + 1, 0, none⟩ [.slice r l rc] := by
  rw [hs5, hs4]
  exact (xU (σ.re.row (wkc w.days p l c q m d w.rest w.run w.hours) 6) [.slice r l rc] 1).row.row.row.own (by show σ.next + 1 ≠ _; omega)
 have w3 : Row s5 ⟨σ.next + 2, 0, none⟩ [.slice t l tc] := by
  rw [hs5, hs4]
  exact (xU ((σ.re.row (wkc w.days p l c q m d w.rest w.run w.hours) 6).row [.slice r l rc] 1) [.slice t l tc] 1).row.row.own (by show σ.next + 2 ≠ _; omega)
 have w4 : Own s5 (σ.next + 3) [.slice none 0 0] 1 := by
  rw [hs5, hs4]
  exact (zE (((σ.re.row (wkc w.days p l c q m d w.rest w.run w.hours) 6).row [.slice r l rc] 1).row [.slice t l tc] 1) [.slice none 0 0] 1).row.own (by show σ.next + 3 ≠ _; omega)
 have w5 : Own s5 (σ.next + 4) (stL (st0 w m)) 4 := by rw [hs5]; exact oz.put
 have J0 : J σ (wkc w.days p l c q m d w.rest w.run w.hours) (.slice r l rc) (.slice t l tc) (fun x => x ∈ ([] : List Nat)) (st0 w m) [] s5 := ⟨N5, w1, w2, w3, w5, none, 0, w4, Gr.nil, fun b hb => by obtain ⟨a, e, _⟩ := hb; cases e⟩
 have hA : ∀ D j, D ≤ 6 → j ≤ l → (zFD w (zP rs) (zP ts) D ++ zHC w (zP rs) (zP ts) D j).length ≤ 450 := by
  intro D j hD hj
  rw [List.length_append]
  have h1 := zXW (w := w) (ros := zP rs) (tru := zP ts) (D := D)
  have h2 := zYV (w := w) (ros := zP rs) (tru := zP ts) (D := D) (j := j)
  have h3 : 5 * w.duties.length * D ≤ 5 * 12 * 6 := Nat.mul_le_mul (by omega) hD
  omega
 have hO : (zFD w (zP rs) (zP ts) n).length ≤ 420 := by
  have h1 := zXW (w := w) (ros := zP rs) (tru := zP ts) (D := n)
  have h3 : 5 * w.duties.length * n ≤ 5 * 12 * 7 := Nat.mul_le_mul (by omega) hn7
  omega
 have l0 : zC Tryz.prog s5 3 ⟨σ.re.next, 0, none⟩ = some (iV w.days) := w1.ld zQ rfl
 have run := days_run hn hn7 h hs hsh hr ht hro hts hA J0
 rw [hs4] at cb
 refine zN.newSl (broken_ra cb (by rw [← hs4]; exact hs5 ▸ st) l0 run ?_)
 rintro ms z ⟨Jz, hnd, hms⟩
 have lr := long_run (σ := σ) hm6 (by omega) (fun y hy => (hms y hy).2) Jz
 refine yHD (Jz.wk.ld (k := 2) zFI rfl) lr ?_
 rintro z2 ⟨J2, O2⟩
 have hlb := yCM (w := w) (ros := zP rs) (tru := zP ts) (n := n) (k := m)
 refine sort_end (σ := σ) J2 (fun y hy => ⟨by rw [O2.get y (hms y hy).2.2 (fun hh => hh hy)]; exact (hms y hy).1, (hms y hy).2.1, by have := (hms y hy).2.2; have := O2.next; omega⟩) hnd (by rw [List.length_append]; omega) ?_ ?_
 ·intro b hb
  have hb : b ∈ yNM w (zP rs) (zP ts) n := by unfold yNM; rw [hm]; exact hb
  obtain ⟨h1, h2, _⟩ := (yNL hv hRos).1 hb
  omega
 ·intro A' h1 h2
  have := yXF hv hRos (l := A') (by unfold yNM; rw [hm]; exact h1) h2
  rw [this, hm]
end
end Go.Proofs.YtgfiniccfpfplaaGreat

namespace Go.Proofs.YtgfiniccfpfplaaGreat
set_option linter.unusedVariables false
set_option linter.unusedSimpArgs false
section
variable {w : Wk} {l m : Nat}
theorem zMA (h : xF w = 0) : w.duties.length ≤ 12 ∧ w.drivers.length ≤ 6 ∧ uW w = true ∧ (∀ x ∈ w.duties, zAL w x = true) ∧ ∀ x ∈ w.drivers, zCN w x = true := by
 unfold xF at h
 split at h
 ·cases h
 ·rename_i h1
  split at h
  ·rename_i h2
   rw [Bool.and_eq_true, Bool.and_eq_true, List.all_eq_true, List.all_eq_true] at h2
   exact ⟨by omega, by omega, h2.1, h2.2.1, h2.2.2⟩
  ·cases h
theorem yGW {i : Nat} (h : i < w.duties.length) : dty w i ∈ w.duties := by
 unfold dty
 rw [List.getD_eq_getElem?_getD, List.getElem?_eq_getElem h]
 exact List.getElem_mem h
theorem zVP {k : Nat} (h : k < w.drivers.length) : drv w k ∈ w.drivers := by
 unfold drv
 rw [List.getD_eq_getElem?_getD, List.getElem?_eq_getElem h]
 exact List.getElem_mem h
theorem zYQ (h : uW w = true) : (1 ≤ w.days ∧ w.days ≤ 7) ∧ (0 ≤ w.rest ∧ w.rest ≤ 3000) ∧ (1 ≤ w.run ∧ w.run ≤ 14) ∧ 0 ≤ w.hours ∧ w.hours ≤ 20000 := by
 unfold uW at h
 simp only [Bool.and_eq_true, zBR] at h
 exact h
theorem zPR {d : Dty} (h : zAL w d = true) : (0 ≤ d.day ∧ d.day ≤ w.days - 1) ∧ (0 ≤ d.on ∧ d.on ≤ 1439) ∧ (d.on ≤ d.lo ∧ d.lo ≤ d.hi) ∧ d.hi ≤ d.on + 1440 ∧ 0 ≤ d.route ∧ d.route ≤ 15 := by
 unfold zAL at h
 simp only [Bool.and_eq_true, zBR, Bool.not_eq_true', decide_eq_false_iff_not, Int.not_lt] at h
 exact h
theorem yDT {x : Drv} (h : zCN w x = true) : vU x.knows 0 15 = true ∧ vU x.leave 0 (w.days - 1) = true ∧ vU x.wish 0 (w.days - 1) = true ∧ (-10080 ≤ x.off ∧ x.off ≤ 1440) ∧ (0 ≤ x.row ∧ x.row ≤ 14) ∧ 0 ≤ x.used ∧ x.used ≤ w.hours := by
 unfold zCN at h
 simp only [Bool.and_eq_true, zBR] at h
 exact h
theorem Sane.of (h : xF w = 0) (hsh : zJF w) (hl : w.duties.length = l) (hm : w.drivers.length = m) : Sane w l m := by
 obtain ⟨h1, h2, h3, h4, h5⟩ := zMA h
 obtain ⟨hd, hr, hu, hh⟩ := zYQ h3
 refine ⟨by omega, by omega, ?_, ?_, ?_, hr, hu, hh⟩
 ·intro i hi
  have := zPR (h4 _ (yGW (by omega : i < w.duties.length)))
  omega
 ·intro k hk
  have := yDT (h5 _ (zVP (by omega : k < w.drivers.length)))
  omega
 ·intro k hk
  exact hsh _ (zVP (by omega : k < w.drivers.length))
theorem days_ex (h : xF w = 0) : ∃ n : Nat, w.days = (n : Int) ∧ 1 ≤ n ∧ n ≤ 7 ∧ Val w n := by
 obtain ⟨h1, h2, h3, h4, h5⟩ := zMA h
 obtain ⟨hd, hr, hu, hh⟩ := zYQ h3
 refine ⟨w.days.toNat, by omega, by omega, by omega, ⟨⟨by omega, ?_⟩, ?_, ?_⟩⟩
 ·intro i hi
  have := zPR (h4 _ (yGW hi))
  omega
 ·intro i hi
  have := zPR (h4 _ (yGW hi))
  omega
 ·intro k hk
  have := yDT (h5 _ (zVP hk))
  omega
end
end Go.Proofs.YtgfiniccfpfplaaGreat
