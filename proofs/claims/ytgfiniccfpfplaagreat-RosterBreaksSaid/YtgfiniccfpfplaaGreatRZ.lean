
import Derived.Test.YtgfiniccfpfplaaGreatRY
import Derived.Test.YtgfiniccfpfplaaGreatXJ
namespace Go.Proofs.YtgfiniccfpfplaaGreat
open Go Go.Lay
open Tryz renaming prog → Pg
set_option linter.unusedVariables false
set_option linter.unusedSimpArgs false
set_option maxRecDepth 20000
section
variable {σ : St} {w : Wk} {p q r t : Option Addr} {l m c d rl rc tl tc : Nat} {rs ts : List Int}
theorem yHZ (h : WkP σ 85 88 w p l q m) (hr : yS σ t tl ts) (hl : tl ≤ 1073741824) : zE Pg 53 [.agg ⟨wkc w.days p l c q m d w.rest w.run w.hours⟩, .slice t tl tc] σ (.bool (zAY w ts)) σ := by
 have hn := h.len.1
 have el := hr.len
 obtain ⟨σ1, hσ1⟩ : ∃ σ1, σ1 = σ.re.row (wkc w.days p l c q m d w.rest w.run w.hours) 6 := ⟨_, rfl⟩
 have hk0 := xQ σ.re (wkc w.days p l c q m d w.rest w.run w.hours) 6
 rw [← hσ1] at hk0
 have N1 : New σ.re σ1 := by rw [hσ1]; exact New.row _ _ _
 have L1 : Le σ σ1 := (le0 σ).trans N1.le
 by_cases hh : tl = l
 rotate_left
 ·have : zAY w ts = false := by unfold zAY; rw [decide_eq_false (by omega), Bool.and_false]
  rw [this]
  exact (yXA ⟨rfl, Nat.le_refl _⟩ (by omega)).pure
 have no : ∀ j, j < tl → j < l → inB (ts.getD j 0) (dty w j).lo (dty w j).hi = false → zAY w ts = false := by
  intro j h1 h2 h3
  unfold zAY zJI
  rw [zSS (f := fun i => inB (ts.getD i 0) (dty w i).lo (dty w i).hi) (List.mem_range.2 (by omega)) h3]; rfl
 refine (yWZ (yEQ (Inv := fun k i τ => New σ1 τ ∧ ∃ j : Nat, i = j ∧ j + k = tl ∧ zJI w ts j = true) (Qr := fun b τ => New σ1 τ ∧ b = false ∧ zAY w ts = false)
  (Q0 := fun τ => New σ1 τ ∧ zAY w ts = true) ?_ tl 0 _ ⟨by rw [← hσ1]; exact New.refl _, 0, rfl, by omega, rfl⟩) ?_ ?_ (by omega)).pure
 ·rintro k i τ ⟨hN, j, rfl, hk, ha⟩
  have LL : Le σ τ := L1.trans hN.le
  by_cases hj : j < tl
  rotate_left
  ·exact yNT ⟨hN, by unfold zAY; rw [show min ts.length w.duties.length = j by omega, ha, decide_eq_true (by omega)]; rfl⟩ (by omega)
  have hj2 : j < l := by omega
  obtain ⟨a, rfl, x, hx, lx⟩ := vN (SlV.le hr LL) hj
  obtain ⟨b, rfl, y, hy, ly⟩ := vN (SlV.le h.dty LL) hj2
  have gx : ts.getD j 0 = x := yF hx
  have gy : dty w j = y := by unfold dty; rw [List.getD_eq_getElem?_getD, hy]; rfl
  have lD : zC Pg τ 31 ⟨σ.re.next, 1, none⟩ = some (.slice (some b) l c) := (hk0.le hN.le).ld zDI rfl
  have ls : zC Pg τ 83 (zK b ((Int.toNat (j : Int) * 5) + 2)) = some (.agg ⟨[iV y.lo, iV y.hi]⟩) := by
   obtain ⟨_, e, hrow⟩ := (SlV.le h.dty LL).some hj2
   cases e
   rw [Int.toNat_natCast]
   have hv : ((zAU (w.duties.map zCI)).drop (j * 5 + 2)).take 2 = [iV y.lo, iV y.hi] := by
    have key : ∀ (xs : List Dty) (j : Nat), xs[j]? = some y → ((zAU (xs.map zCI)).drop (j * 5 + 2)).take 2 = [iV y.lo, iV y.hi] := by
     intro xs
     induction xs with
     | nil => intro j h; simp at h
     | cons x xs ih =>
      intro j h
      cases j with
      | zero =>
       have : x = y := by simpa using h
       subst this; rfl
      | succ j =>
       have := ih j (by simpa using h)
       have e : (j + 1) * 5 + 2 = 5 + (j * 5 + 2) := by omega
       rw [e, ← List.drop_drop]
       exact this
    exact key _ _ hy
   have hlen : (zAU (w.duties.map zCI)).length = l * 5 := (SlV.le h.dty LL).1.1
   exact hrow.loadN agg83 yOM hv rfl (by rw [hlen]; omega)
  have N2 : New τ ((τ.row [iV 0, iV 0] 2).own τ.next [iV y.lo, iV y.hi] 2) := (New.row _ _ _).own (Nat.le_refl _)
  have cin := zHV (σ := (τ.row [iV 0, iV 0] 2).own τ.next [iV y.lo, iV y.hi] 2) (n := x) (lo := y.lo) (hi := y.hi)
  cases hb : inB x y.lo y.hi with
  | true =>
   rw [hb] at cin
   exact yNV lx lD ls cin ⟨k - 1, by omega, hN.trans N2, j + 1, by omega, by omega, by
    unfold zJI at ha ⊢
    rw [List.range_succ, List.all_append, ha]; simp only [List.all_cons, List.all_nil, Bool.and_true, Bool.true_and]; rw [gx, gy]; exact hb⟩ (by omega) (by omega) (by omega) (by omega)
  | false => rw [hb] at cin; exact yNU lx lD ls cin ⟨hN.trans N2, rfl, no j hj hj2 (by rw [gx, gy]; exact hb)⟩ (by omega) (by omega) (by omega)
 ·rintro b τ ⟨hN, rfl, e⟩
  exact yEO ⟨by rw [e], (N1.trans hN).lw⟩
 ·rintro τ ⟨hN, e⟩
  exact yEP ⟨by rw [e], (N1.trans hN).lw⟩
theorem newTup {f : FuncId} {args : List Value} {tt n len : Nat} {vs : List Value} {e : Int} (h : zL Pg f args σ.re fun v s => New σ.re s ∧ ∃ p c, v = .tuple ⟨[.slice p len c, iV e]⟩ ∧ SlV Pg s tt n p len vs ∧ ∀ b, AtP p b → σ.next ≤ b) :
  ∃ p c σ', zE Pg f args σ (.tuple ⟨[.slice p len c, iV e]⟩) σ' ∧ New σ σ' ∧ SlV Pg σ' tt n p len vs ∧ ∀ b, AtP p b → σ.next ≤ b := by
 obtain ⟨v, σ', h1, h2, p, c, rfl, h3, h4⟩ := zL.new (Q := fun v s => ∃ p c, v = .tuple ⟨[.slice p len c, iV e]⟩ ∧ SlV Pg s tt n p len vs ∧ ∀ b, AtP p b → σ.next ≤ b) h (by
  rintro v s s' ⟨p, c, rfl, g1, g2⟩ hle; exact ⟨p, c, rfl, g1.le hle, g2⟩) (by
  rintro v s hr ⟨p, c, rfl, g1, g2⟩
  cases p with
  | none => exact ⟨none, c, rfl, zPY g1, fun b hb => (AtP.none hb).elim⟩
  | some a => exact Bool.noConfusion (show false = true from hr))
 exact ⟨p, c, σ', h1, h2, h3, h4⟩
theorem yCO : zDD w rs = true ↔ rs.length = w.duties.length ∧ ∀ i, i < rs.length → -1 ≤ zN rs i ∧ zN rs i < (w.drivers.length : Int) := by
 unfold zDD
 rw [Bool.and_eq_true, decide_eq_true_eq, List.all_eq_true, And.comm]
 refine and_congr_right fun hl => ⟨fun h i hi => ?_, fun h x hx => ?_⟩
 ·have := zBR.1 (h rs[i] (List.getElem_mem hi))
  have e : zN rs i = rs[i] := by unfold zN; rw [List.getD_eq_getElem?_getD, List.getElem?_eq_getElem hi]; rfl
  omega
 ·obtain ⟨i, hi, rfl⟩ := List.getElem_of_mem hx
  have := h i hi
  have e : zN rs i = rs[i] := by unfold zN; rw [List.getD_eq_getElem?_getD, List.getElem?_eq_getElem hi]; rfl
  exact zBR.2 (by omega)
theorem yCN : zAY w ts = true ↔ ts.length = w.duties.length ∧ ∀ i, i < ts.length → (dty w i).lo ≤ zN ts i ∧ zN ts i ≤ (dty w i).hi := by
 unfold zAY zJI
 rw [Bool.and_eq_true, decide_eq_true_eq, List.all_eq_true, And.comm]
 refine and_congr_right fun hl => ⟨fun h i hi => ?_, fun h i hi => ?_⟩
 ·exact zBR.1 (h i (List.mem_range.2 (by omega)))
 ·have := List.mem_range.1 hi
  exact zBR.2 (h i (by omega))
def zAO (w : Wk) (rs ts : List Int) : Int := if xG w ≠ 0 then xG w else if zDD w rs && zAY w ts then 0 else 2
theorem Breaks_no (h : WkP σ 85 88 w p l q m) (hsh : zJD w) (hr : yS σ r rl rs) (ht : yS σ t tl ts) (hrl : rl ≤ 1073741824) (htl : tl ≤ 1073741824) (hz : zAO w rs ts ≠ 0) :
  zE Pg 18 [.agg ⟨wkc w.days p l c q m d w.rest w.run w.hours⟩, .slice r rl rc, .slice t tl tc] σ (.tuple ⟨[.slice none 0 0, iV (zAO w rs ts)]⟩) σ := by
 have hm := h.len.2
 obtain ⟨σ1, hσ1⟩ : ∃ σ1, σ1 = σ.re.row (wkc w.days p l c q m d w.rest w.run w.hours) 6 := ⟨_, rfl⟩
 have N1 : New σ.re σ1 := by rw [hσ1]; exact New.row _ _ _
 have L1 : Le σ σ1 := (le0 σ).trans N1.le
 have k1 := zMP (c := c) (d := d) (h.le L1) hsh
 rw [hσ1] at k1
 by_cases hf : xG w = 0
 rotate_left
 ·have : zAO w rs ts = xG w := by unfold zAO; rw [if_pos hf]
  rw [this]
  exact (Breaks_ra k1 ⟨rfl, Nat.le_refl _⟩ hf).pure
 have hm6 := (zMB hf).2.1
 have k2 := yAS (c := c) (d := d) (rc := rc) (h.le L1) (SlV.le hr L1) hrl (by omega)
 have k3 := yHZ (c := c) (d := d) (tc := tc) (h.le L1) (SlV.le ht L1) htl
 rw [hσ1] at k2 k3
 have e : zAO w rs ts = if zDD w rs && zAY w ts then 0 else 2 := by unfold zAO; rw [if_neg (by omega)]
 cases b2 : zDD w rs with
 | false =>
  rw [b2] at k2 e
  rw [e]
  exact (Breaks_rd k1 k2 ⟨rfl, Nat.le_refl _⟩ hf).pure
 | true =>
 cases b3 : zAY w ts with
 | false =>
  rw [b2] at k2 e
  rw [b3] at k3 e
  rw [e]
  exact (Breaks_rc k1 k2 k3 ⟨rfl, Nat.le_refl _⟩ hf).pure
 | true => rw [b2, b3] at e; exact absurd e hz
theorem yUO (h : WkP σ 85 88 w p l q m) (hsh : zJD w) (hr : yS σ r rl rs) (ht : yS σ t tl ts) (hrl : rl ≤ 1073741824) (htl : tl ≤ 1073741824) (hz : zAO w rs ts = 0) :
  ∃ p' c' σ', zE Pg 18 [.agg ⟨wkc w.days p l c q m d w.rest w.run w.hours⟩, .slice r rl rc, .slice t tl tc] σ (.tuple ⟨[.slice p' (zDN w (zN rs) (zN ts) m).length c', iV 0]⟩) σ' ∧ New σ σ' ∧ SlV Pg σ' 45 3 p' (zDN w (zN rs) (zN ts) m).length ((zDN w (zN rs) (zN ts) m).map zFH) ∧ ∀ b, AtP p' b → σ.next ≤ b := by
 have hln := h.len.1
 have hm := h.len.2
 have hf : xG w = 0 := by
  by_cases e : xG w = 0
  ·exact e
  ·unfold zAO at hz; rw [if_pos e] at hz; exact hz
 have e : (zDD w rs && zAY w ts) = true := by
  unfold zAO at hz
  rw [if_neg (by omega)] at hz
  split at hz
  ·assumption
  ·cases hz
 rw [Bool.and_eq_true] at e
 obtain ⟨b2, b3⟩ := e
 obtain ⟨r1, r2⟩ := yCO.1 b2
 obtain ⟨t1, t2⟩ := yCN.1 b3
 have el := hr.len
 have et := ht.len
 have hrll : rl = l := by omega
 have htll : tl = l := by omega
 subst hrll htll
 obtain ⟨n, hn, hn1, hn7, hv⟩ := days_ex hf
 have hs := Sane.of hf hsh hln hm
 obtain ⟨σ1, hσ1⟩ : ∃ σ1, σ1 = σ.re.row (wkc w.days p tl c q m d w.rest w.run w.hours) 6 := ⟨_, rfl⟩
 have N1 : New σ.re σ1 := by rw [hσ1]; exact New.row _ _ _
 have L1 : Le σ σ1 := (le0 σ).trans N1.le
 have hm6 := hs.m6
 have k1 := zMP (c := c) (d := d) (h.le L1) hsh
 have k2 := yAS (c := c) (d := d) (rc := rc) (h.le L1) (SlV.le hr L1) hrl (by omega)
 have k3 := yHZ (c := c) (d := d) (tc := tc) (h.le L1) (SlV.le ht L1) htl
 obtain ⟨p4, c4, σ4, k4, n4, s4, f4⟩ := broken_c (c := c) (d := d) (rc := rc) (tc := tc) hn hn7 hv.toDays (h.le L1) hs hsh (SlV.le hr L1) (SlV.le ht L1) (fun i hi => by have := r2 i (by omega); omega) (fun i hi => by
  have := t2 i (by omega)
  have := hs.duty i hi
  omega)
 rw [b2] at k2
 rw [b3] at k3
 rw [hσ1] at k1 k2 k3 k4
 exact newTup (Breaks_rb k1 k2 k3 k4 ⟨N1.trans n4, p4, c4, rfl, s4, fun b hb => by have := f4 b hb; have := N1.nx; show σ.re.next ≤ b; omega⟩ hf)
end
end Go.Proofs.YtgfiniccfpfplaaGreat
