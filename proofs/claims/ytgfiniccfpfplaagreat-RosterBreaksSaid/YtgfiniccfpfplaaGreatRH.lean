
import Derived.Test.YtgfiniccfpfplaaGreatRE
import Derived.Test.YtgfiniccfpfplaaGreatRF
namespace Go.Proofs.YtgfiniccfpfplaaGreat
open Go Go.Lay
set_option linter.unusedVariables false
set_option linter.unusedSimpArgs false
set_option maxRecDepth 20000
def zDD (w : Wk) (rs : List Int) : Bool := rs.all (fun x => inB x (-1) ((w.drivers.length : Int) - 1)) && decide (rs.length = w.duties.length)
def zJI (w : Wk) (ts : List Int) (j : Nat) : Bool := (List.range j).all fun i => inB (ts.getD i 0) (dty w i).lo (dty w i).hi
def zAY (w : Wk) (ts : List Int) : Bool := zJI w ts (min ts.length w.duties.length) && decide (ts.length = w.duties.length)
section
variable {σ : St} {w : Wk} {p q r t : Option Addr} {l m c d rl rc tl tc : Nat} {rs ts : List Int} {td tv : Nat}
theorem zTG (h : WkP σ 92 76 w p l q m) (hr : yS σ r rl rs) (hl : rl ≤ 1073741824) (hm : m ≤ 1073741824) : zE Tryz.prog 21 [.agg ⟨wkc w.days p l c q m d w.rest w.run w.hours⟩, .slice r rl rc] σ (.bool (zDD w rs)) σ := by
 have hn := h.len.1
 have hmm := h.len.2
 have el := hr.len
 obtain ⟨σ1, hσ1⟩ : ∃ σ1, σ1 = σ.re.row (wkc w.days p l c q m d w.rest w.run w.hours) 6 := ⟨_, rfl⟩
 have hk0 := xQ σ.re (wkc w.days p l c q m d w.rest w.run w.hours) 6
 rw [← hσ1] at hk0
 have hr0 : yS σ1 r rl rs := by rw [hσ1]; exact SlV.le hr ((le0 σ).trans (Le.row _ _ _))
 have lD : zC Tryz.prog σ1 22 ⟨σ.re.next, 1, none⟩ = some (.slice p l c) := hk0.ld zCF rfl
 have lV : zC Tryz.prog σ1 23 ⟨σ.re.next, 2, none⟩ = some (.slice q m d) := hk0.ld zCT rfl
 have low1 : σ.next ≤ σ1.low := by rw [hσ1]; exact Nat.le_refl _
 refine (yFG (zUY (Inv := fun k i τ => τ = σ1 ∧ ∃ j : Nat, i = j ∧ j + k = rl ∧ (rs.take j).all (fun x => inB x (-1) ((w.drivers.length : Int) - 1)) = true) (Qr := fun b τ => τ = σ1 ∧ b = false ∧ zDD w rs = false)
  (Q0 := fun τ => τ = σ1 ∧ rs.all (fun x => inB x (-1) ((w.drivers.length : Int) - 1)) = true) ?_ rl 0 _ ⟨hσ1.symm, 0, rfl, by omega, rfl⟩) ?_ ?_).pure
 ·rintro k i τ ⟨rfl, j, rfl, hk, ha⟩
  by_cases hj : j < rl
  rotate_left
  ·exact zZT ⟨rfl, by rwa [List.take_of_length_le (by omega)] at ha⟩ (by omega)
  obtain ⟨a, rfl, x, hx, lx⟩ := vN hr0 hj
  have cin := yVC (σ := τ) (n := x) (lo := -1) (hi := (m : Int) - 1)
  cases hb : inB x (-1) ((m : Int) - 1) with
  | true => rw [hb] at cin; exact zZV lx lV cin ⟨k - 1, by omega, rfl, j + 1, by omega, by omega, zRH hx ha (by rw [hmm]; exact hb)⟩ (by omega) (by omega) (by omega) (by omega)
  | false => rw [hb] at cin; exact zZU lx lV cin ⟨rfl, rfl, by unfold zDD; rw [zSS (f := fun x => inB x (-1) ((w.drivers.length : Int) - 1)) (List.mem_of_getElem? hx) (by rw [hmm]; exact hb)]; rfl⟩ (by omega) (by omega) (by omega)
 ·rintro b τ ⟨rfl, rfl, e⟩
  exact zUV ⟨by rw [e], low1⟩
 ·rintro τ ⟨rfl, e⟩
  by_cases hh : rl = l
  ·exact zUX lD ⟨by unfold zDD; rw [e, decide_eq_true (by omega)]; rfl, low1⟩ (by omega)
  ·exact zUW lD ⟨by unfold zDD; rw [e, decide_eq_false (by omega)]; rfl, low1⟩ (by omega)
theorem zWX (h : WkP σ 92 76 w p l q m) (hr : yS σ t tl ts) (hl : tl ≤ 1073741824) : zE Tryz.prog 22 [.agg ⟨wkc w.days p l c q m d w.rest w.run w.hours⟩, .slice t tl tc] σ (.bool (zAY w ts)) σ := by
 have hn := h.len.1
 have el := hr.len
 obtain ⟨σ1, hσ1⟩ : ∃ σ1, σ1 = σ.re.row (wkc w.days p l c q m d w.rest w.run w.hours) 6 := ⟨_, rfl⟩
 have hk0 := xQ σ.re (wkc w.days p l c q m d w.rest w.run w.hours) 6
 rw [← hσ1] at hk0
 have L1 : Le σ σ1 := by rw [hσ1]; exact (le0 σ).trans (Le.row _ _ _)
 have hr0 : yS σ1 t tl ts := SlV.le hr L1
 have h0 := h.le L1
 have lD : zC Tryz.prog σ1 22 ⟨σ.re.next, 1, none⟩ = some (.slice p l c) := hk0.ld zCF rfl
 have low1 : σ.next ≤ σ1.low := by rw [hσ1]; exact Nat.le_refl _
 have no : ∀ j, j < tl → j < l → inB (ts.getD j 0) (dty w j).lo (dty w j).hi = false → zAY w ts = false := by
  intro j h1 h2 h3
  unfold zAY zJI
  rw [zSS (f := fun i => inB (ts.getD i 0) (dty w i).lo (dty w i).hi) (List.mem_range.2 (by omega)) h3]; rfl
 refine (yJH (zWW (Inv := fun k i τ => τ = σ1 ∧ ∃ j : Nat, i = j ∧ j + k = tl ∧ j ≤ l ∧ zJI w ts j = true) (Qr := fun b τ => τ = σ1 ∧ b = false ∧ zAY w ts = false)
  (Q0 := fun τ => τ = σ1 ∧ zJI w ts (min ts.length w.duties.length) = true) ?_ tl 0 _ ⟨hσ1.symm, 0, rfl, by omega, by omega, rfl⟩) ?_ ?_).pure
 ·rintro k i τ ⟨rfl, j, rfl, hk, hjl, ha⟩
  by_cases hj : j < tl
  rotate_left
  ·exact yFC ⟨rfl, by rw [show min ts.length w.duties.length = j by omega]; exact ha⟩ (by omega)
  by_cases hj2 : j < l
  rotate_left
  ·exact yFD lD ⟨rfl, by rw [show min ts.length w.duties.length = j by omega]; exact ha⟩ (by omega) (by omega)
  obtain ⟨a, rfl, x, hx, lx⟩ := vN hr0 hj
  obtain ⟨b, hb1, l3⟩ := h0.dld (i := j) (k := 2) (n := (dty w j).lo) hj2 (by omega) rfl
  obtain ⟨b', hb2, l4⟩ := h0.dld (i := j) (k := 3) (n := (dty w j).hi) hj2 (by omega) rfl
  subst hb1
  cases hb2
  have gx : ts.getD j 0 = x := yF hx
  have cin := yVC (σ := τ) (n := x) (lo := (dty w j).lo) (hi := (dty w j).hi)
  cases hb : inB x (dty w j).lo (dty w j).hi with
  | true =>
   rw [hb] at cin
   exact yFF lD lx l3 l4 cin ⟨k - 1, by omega, rfl, j + 1, by omega, by omega, by omega, by
    unfold zJI at ha ⊢
    rw [List.range_succ, List.all_append, ha]; simp only [List.all_cons, List.all_nil, Bool.and_true, Bool.true_and]; rw [gx]; exact hb⟩ (by omega) (by omega) (by omega) (by omega) (by omega)
  | false => rw [hb] at cin; exact yFE lD lx l3 l4 cin ⟨rfl, rfl, no j hj hj2 (by rw [gx]; exact hb)⟩ (by omega) (by omega) (by omega) (by omega)
 ·rintro b τ ⟨rfl, rfl, e⟩
  exact zWT ⟨by rw [e], low1⟩
 ·rintro τ ⟨rfl, e⟩
  by_cases hh : tl = l
  ·exact zWV lD ⟨by unfold zAY; rw [e, decide_eq_true (by omega)]; rfl, low1⟩ (by omega)
  ·exact zWU lD ⟨by unfold zAY; rw [e, decide_eq_false (by omega)]; rfl, low1⟩ (by omega)
end
end Go.Proofs.YtgfiniccfpfplaaGreat
