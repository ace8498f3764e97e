
import Derived.Test.YtgfiniccfpfplaaGreatRE
import Derived.Test.YtgfiniccfpfplaaGreatRF
namespace Go.Proofs.YtgfiniccfpfplaaGreat
open Go Go.Lay
set_option linter.unusedVariables false
set_option linter.unusedSimpArgs false
set_option maxRecDepth 20000
def zDH (w : Wk) (rs : List Int) : Bool := rs.all (fun x => inB x (-1) ((w.drivers.length : Int) - 1)) && decide (rs.length = w.duties.length)
def uE (w : Wk) : List Int := w.duties.map Dty.hi
section
variable {σ : St} {w : Wk} {p q r t : Option Addr} {l m c d rl rc tl tc : Nat} {rs ts : List Int} {td tv : Nat}
theorem zTE (h : WkP σ 92 76 w p l q m) (hr : yO σ r rl rs) (hl : rl ≤ 1073741824) (hm : m ≤ 1073741824) : zE Tryz.prog 21 [.agg ⟨wkc w.days p l c q m d w.rest w.run w.hours⟩, .slice r rl rc] σ (.bool (zDH w rs)) σ := by
 have hn := h.len.1
 have hmm := h.len.2
 have el := hr.len
 obtain ⟨σ1, hσ1⟩ : ∃ σ1, σ1 = σ.re.row (wkc w.days p l c q m d w.rest w.run w.hours) 6 := ⟨_, rfl⟩
 have hk0 := xR σ.re (wkc w.days p l c q m d w.rest w.run w.hours) 6
 rw [← hσ1] at hk0
 have hr0 : yO σ1 r rl rs := by rw [hσ1]; exact SlV.le hr ((le0 σ).trans (Le.row _ _ _))
 have lD : zC Tryz.prog σ1 22 ⟨σ.re.next, 1, none⟩ = some (.slice p l c) := hk0.ld zBI rfl
 have lV : zC Tryz.prog σ1 23 ⟨σ.re.next, 2, none⟩ = some (.slice q m d) := hk0.ld zCI rfl
 have low1 : σ.next ≤ σ1.low := by rw [hσ1]; exact Nat.le_refl _
 refine (yFC (zUZ (Inv := fun k i τ => τ = σ1 ∧ ∃ j : Nat, i = j ∧ j + k = rl ∧ (rs.take j).all (fun x => inB x (-1) ((w.drivers.length : Int) - 1)) = true) (Qr := fun b τ => τ = σ1 ∧ b = false ∧ zDH w rs = false)
  (Q0 := fun τ => τ = σ1 ∧ rs.all (fun x => inB x (-1) ((w.drivers.length : Int) - 1)) = true) ?_ rl 0 _ ⟨hσ1.symm, 0, rfl, by omega, rfl⟩) ?_ ?_).pure
 ·rintro k i τ ⟨rfl, j, rfl, hk, ha⟩
  by_cases hj : j < rl
  rotate_left
  ·exact zZT ⟨rfl, by rwa [List.take_of_length_le (by omega)] at ha⟩ (by omega)
  obtain ⟨a, rfl, x, hx, lx⟩ := vN hr0 hj
  have cin := yJI (σ := τ) (n := x) (lo := -1) (hi := (m : Int) - 1)
  cases hb : inB x (-1) ((m : Int) - 1) with
  | true => rw [hb] at cin; exact zZV lx lV cin ⟨k - 1, by omega, rfl, j + 1, by omega, by omega, zRL hx ha (by rw [hmm]; exact hb)⟩ (by omega) (by omega) (by omega) (by omega)
  | false => rw [hb] at cin; exact zZU lx lV cin ⟨rfl, rfl, by unfold zDH; rw [yHJ (f := fun x => inB x (-1) ((w.drivers.length : Int) - 1)) (List.mem_of_getElem? hx) (by rw [hmm]; exact hb)]; rfl⟩ (by omega) (by omega) (by omega)
 ·rintro b τ ⟨rfl, rfl, e⟩
  exact zUW ⟨by rw [e], low1⟩
 ·rintro τ ⟨rfl, e⟩
  by_cases hh : rl = l
  ·exact zUY lD ⟨by unfold zDH; rw [e, decide_eq_true (by omega)]; rfl, low1⟩ (by omega)
  ·exact zUX lD ⟨by unfold zDH; rw [e, decide_eq_false (by omega)]; rfl, low1⟩ (by omega)
theorem yYI (h : WkP σ 92 76 w p l q m) (hl : l ≤ 1000) : ∃ p' c' σ', zE Tryz.prog 40 [.agg ⟨wkc w.days p l c q m d w.rest w.run w.hours⟩] σ (.slice p' l c') σ' ∧ New σ σ' ∧ yO σ' p' l (uE w) ∧ ∀ b, AtP p' b → σ.next ≤ b := by
 have hn := h.len.1
 obtain ⟨σ1, hσ1⟩ : ∃ σ1, σ1 = σ.re.row (wkc w.days p l c q m d w.rest w.run w.hours) 6 := ⟨_, rfl⟩
 have hk0 := xR σ.re (wkc w.days p l c q m d w.rest w.run w.hours) 6
 rw [← hσ1] at hk0
 have N1 : New σ.re σ1 := by rw [hσ1]; exact New.row _ _ _
 have L1 : Le σ σ1 := (le0 σ).trans N1.le
 refine zM.newSl (yPA (zZS (Inv := fun k p' l' c' i τ => New σ1 τ ∧ ∃ j : Nat, i = j ∧ j + k = l ∧ l' = j ∧ Gr Tryz.prog τ σ1.next 3 1 p' l' c' (((uE w).take j).map yS))
  (Q0 := fun p' l' c' τ => New σ1 τ ∧ l' = l ∧ Gr Tryz.prog τ σ1.next 3 1 p' l' c' ((uE w).map yS)) ?_ l none 0 0 0 _ ⟨by rw [← hσ1]; exact New.refl _, 0, rfl, by omega, rfl, Gr.nil⟩) ?_)
 ·rintro k p' l' c' i τ ⟨hN, j, rfl, hk, rfl, hg⟩
  have lD : zC Tryz.prog τ 22 ⟨σ.re.next, 1, none⟩ = some (.slice p l c) := (hk0.le hN.le).ld zBI rfl
  by_cases hj : l' < l
  ·obtain ⟨a, rfl, l3⟩ := (h.le (L1.trans hN.le)).dld (i := l') (k := 3) (n := (dty w l').hi) hj (by omega) rfl
   obtain ⟨q7, d7, τ', g1, g2, g3, _, _⟩ := grow (yS (dty w l').hi) zEU hg hN (New.refl τ) (zHD _) (by omega)
   have hx : (uE w)[l']? = some (dty w l').hi := by
    unfold uE dty
    rw [List.getElem?_map, List.getD_eq_getElem?_getD, List.getElem?_eq_getElem (by omega)]; rfl
   refine yJH lD l3 g1 ⟨k - 1, by omega, g3, l' + 1, by omega, by omega, rfl, ?_⟩ (by omega) (by omega) (by omega)
   rw [uQ hx, List.map_append]
   exact g2
  ·have : l' = l := by omega
   subst this
   refine yJG lD ⟨hN, rfl, ?_⟩ (by omega)
   rwa [List.take_of_length_le (by unfold uE; rw [List.length_map]; omega)] at hg
 ·rintro p' l' c' τ ⟨hN, rfl, hg⟩
  refine zZR ⟨N1.trans hN, p', c', rfl, hg.slv, fun b hb => ?_⟩
  have := (hg.bd hb).1
  have := N1.nx
  show σ.re.next ≤ b
  omega
end
end Go.Proofs.YtgfiniccfpfplaaGreat
