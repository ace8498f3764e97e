
import Derived.Test.YthcdddbghldmiaaEG
import Derived.Test.YthcdddbghldmiaaCO
import Derived.Test.YthcdddbghldmiaaCD
import Derived.Test.YthcdddbghldmiaaCJ
import Derived.Test.YthcdddbghldmiaaCE
import Derived.Test.YthcdddbghldmiaaCC
import Derived.Test.YthcdddbghldmiaaXB
import Derived.Test.YthcdddbghldmiaaPL
import Derived.Test.YthcdddbghldmiaaXD
namespace Go.Proofs.Ythcdddbghldmiaa
open Go Go.Lay
open Try renaming prog → Pg
set_option linter.unusedVariables false
set_option linter.unusedSimpArgs false
set_option maxRecDepth 20000
section
variable {σ : St} {g : Gar} {p q wp up : Option Addr} {l c m d lw lu cw cu : Nat} {ws us : List Int}
theorem zeros5 : ints5 0 0 0 0 0 = vecL 5 (fun _ => 0) := rfl
theorem rNeeds_c (hR : RefP σ p g.ns q g.nb g) (hv : Valid g) : CallsA Pg 22 [.agg ⟨garL p g.ns c q g.nb d⟩] σ (.agg ⟨iL (ndL g)⟩) σ := by
 have hnb := hv.nb
 obtain ⟨n0, hn0⟩ : ∃ n0, n0 = σ.re.next := ⟨_, rfl⟩
 have hsig : σ.re.next = σ.next := rfl
 let V : Nat → Nat → Int := fun j i => if i < j then needI g i else 0
 have hfin : vecL 5 (V g.nb) = iL (ndL g) := by
  show _ = ((List.range 5).map (needI g)).map _
  rw [List.map_map]
  unfold vecL
  apply List.map_congr_left
  intro i _
  by_cases h : i < g.nb
  ·simp [V, h]
  ·have : g.buses[i]? = none := List.getElem?_eq_none (by unfold Gar.nb at h; omega)
   simp [V, h, needI, this]
 refine RunsQ.pure (v := .agg ⟨iL (ndL g)⟩) ?_ (hv := by
  unfold ndL
  show rigidB RD (.agg ⟨iL [needI g 0, needI g 1, needI g 2, needI g 3, needI g 4]⟩) = true
  rfl)
 refine rNeeds_ra (P0 := fun τ => New σ.re τ ∧ Own τ (n0 + 1) (ints5 0 0 0 0 0) 1 ∧ Own τ (n0 + 2) (vecL 5 (V g.nb)) 1) ?_ ?_
 ·rw [← hn0]
  refine rNeeds_loop1 (Inv := fun k i τ => ∃ j : Nat, i = j ∧ j + k = g.nb ∧ New σ.re τ ∧ Own τ n0 (garL p g.ns c q g.nb d) 2 ∧ Own τ (n0 + 1) (ints5 0 0 0 0 0) 1 ∧ Own τ (n0 + 2) (vecL 5 (V j)) 1) ?_ g.nb 0 _ ⟨0, rfl, by omega, ((New.row _ _ _).row').row', ?_, ?_, ?_⟩
  rotate_left
  ·rw [hn0]; exact (own_new _ _ _).row.row
  ·rw [hn0]; exact (own_new (σ.re.row (garL p g.ns c q g.nb d) 2) _ _).row
  ·have : vecL 5 (V 0) = ints5 0 0 0 0 0 := by rw [zeros5]; exact vecL_congr (fun s _ => by simp [V])
   rw [this, hn0]; exact own_new ((σ.re.row (garL p g.ns c q g.nb d) 2).row (ints5 0 0 0 0 0) 1) _ _
  rintro k i τ ⟨j, rfl, hk, h1, o1, o2, o3⟩
  by_cases hj : j < g.nb
  rotate_left
  ·have : j = g.nb := by omega
   subst this
   exact rNeeds_s1b (o1.ld rfl agg23 (k := 1) rfl) ⟨h1, o2, o3⟩
  obtain ⟨a, rfl, bus, hbus, ldb⟩ := slv_at (hR.le ((le0 σ).trans h1.le)).bu hj
  have st : effOp Pg (evL [.pointer (some ⟨n0 + 2, 0 + Int.toNat (j : Int) * 1, none⟩), iV (needZ bus)]) τ (.store 3 (.tmp 0) (.tmp 1)) = some (undef, τ.own (n0 + 2) (vecL 5 (V (j + 1))) 1) := by
   have := o3.stI (P := Pg) (t := 3) (v := iV (needZ bus)) (i := j) rfl size3 rfl (by rw [vecL_len]; omega)
   rw [vecL_set (by omega), show (fun s' => if s' = j then needZ bus else V j s') = V (j + 1) from by
    funext s'
    show (if s' = j then needZ bus else if s' < j then needI g s' else 0) = if s' < j + 1 then needI g s' else 0
    by_cases e : s' = j
    ·subst e; rw [if_pos rfl, if_pos (by omega), needI_eq hbus]
    ·rw [if_neg e]
     by_cases e2 : s' < j
     ·rw [if_pos e2, if_pos (by omega)]
     ·rw [if_neg e2, if_neg (by omega)]] at this
   exact this
  refine rNeeds_s1a (o1.ld rfl agg23 (k := 1) rfl) ldb (rNeed_c (hv.b hbus)) st ⟨k - 1, by omega, j + 1, by omega, by omega, h1.own (by omega), o1.own (by omega), o2.own (by omega), ?_⟩
  refine ⟨?_, o3.lt⟩
  show getB (τ.put _ _).heap (n0 + 2) = _
  rw [St.put_get, if_pos rfl]
 rintro τ ⟨h1, o2, o3⟩
 rw [← hn0]
 rw [hfin] at o3
 have hl5 : (iL (ndL g)).length = 5 := by simp [ndL]
 have l1 := o3.ldN (P := Pg) agg39 size39 (k := 0) (ds := iL (ndL g)) (by rw [List.drop_zero, List.take_of_length_le (by omega)]) hl5 (by omega)
 have st : effOp Pg (evL [.pointer (some ⟨n0 + 1, 0, none⟩), .agg ⟨iL (ndL g)⟩]) τ (.store 39 (.tmp 0) (.tmp 1)) = some (undef, τ.own (n0 + 1) (iL (ndL g)) 1) := by
  refine o2.store (k := 0) (t := 39) (v := .agg ⟨iL (ndL g)⟩) (vs := iL (ndL g)) rfl (by rw [hl5]; exact size39) ?_ (by rw [hl5]; exact Nat.le_refl _) ?_
  ·simp only [List.all_eq_true, List.mem_map]; rintro v ⟨x, _, rfl⟩; rfl
  ·rw [hl5]; simp
 have l2 := (o2.put (ds := iL (ndL g))).ldN (P := Pg) agg39 size39 (k := 0) (ds := iL (ndL g)) (by rw [List.drop_zero, List.take_of_length_le (by omega)]) hl5 (by omega)
 exact rNeeds_t1x0a l1 st l2 ⟨rfl, (h1.own (by omega)).lw⟩
theorem few_c (hR : RefP σ p g.ns q g.nb g) : ∃ b, CallsA Pg 16 [.agg ⟨garL p g.ns c q g.nb d⟩] σ (.bool b) σ ∧ (b = true → g.ns ≤ 15 ∧ g.nb ≤ 8) := by
 have N1 : New σ.re (σ.re.row (garL p g.ns c q g.nb d) 2) := New.row _ _ _
 have R1 := hR.le ((le0 σ).trans N1.le)
 have c1 := thin_c (σ := σ.re.row (garL p g.ns c q g.nb d) 2) (p := p) (l := g.ns) (c := c) (q := q) (m := g.nb) (d := d)
 cases ht : (decide (g.ns ≤ 15) && decide (g.nb ≤ 8)) with
 | false => rw [ht] at c1; exact ⟨false, (few_rh c1 c1 ⟨rfl, Nat.le_refl _⟩).pure, by simp⟩
 | true =>
 rw [ht] at c1
 simp only [Bool.and_eq_true, decide_eq_true_eq] at ht
 have cF := rFault_c (c := c) (d := d) R1
 by_cases hz : checkZ g = 0
 rotate_left
 ·exact ⟨true, (few_ra c1 cF c1 ⟨rfl, Nat.le_refl _⟩).pure, fun _ => ht⟩
 have hv := valid_of hz
 rw [hz] at cF
 have cN := rNeeds_c (c := c) (d := d) R1 hv
 have hl5 : (iL (ndL g)).length = 5 := by simp [ndL]
 obtain ⟨y, hy⟩ : ∃ y, y = ((σ.re.row (garL p g.ns c q g.nb d) 2).row (ints5 0 0 0 0 0) 1).own (σ.re.next + 1) (iL (ndL g)) 1 := ⟨_, rfl⟩
 have st : effOp Pg (evL [.pointer (some ⟨σ.re.next + 1, 0, none⟩), .agg ⟨iL (ndL g)⟩]) ((σ.re.row (garL p g.ns c q g.nb d) 2).row (ints5 0 0 0 0 0) 1) (.store 39 (.tmp 0) (.tmp 1)) = some (undef, y) := by
  rw [hy]
  refine (own_new (σ.re.row (garL p g.ns c q g.nb d) 2) (ints5 0 0 0 0 0) 1).store (k := 0) (t := 39) (v := .agg ⟨iL (ndL g)⟩) (vs := iL (ndL g)) rfl (by rw [hl5]; exact size39) ?_ (by rw [hl5]; exact Nat.le_refl _) ?_
  ·simp only [List.all_eq_true, List.mem_map]; rintro v ⟨x, _, rfl⟩; rfl
  ·rw [hl5]; simp
 have n2 : New σ.re y := by rw [hy]; exact N1.row'.own (by simp)
 have o1 : Own y σ.re.next (garL p g.ns c q g.nb d) 2 := by rw [hy]; exact (own_new σ.re _ _).row.own (by omega)
 have o2 : Own y (σ.re.next + 1) (iL [needI g 0, needI g 1, needI g 2, needI g 3, needI g 4]) 1 := by rw [hy]; exact (own_new (σ.re.row (garL p g.ns c q g.nb d) 2) (ints5 0 0 0 0 0) 1).put
 have l5 := o1.ld (P := Pg) rfl agg22 (k := 0) (v := .slice p g.ns c) rfl
 have l6 := o1.ld (P := Pg) rfl agg23 (k := 1) (v := .slice q g.nb d) rfl
 have l7 := o2.ld (P := Pg) rfl agg3 (k := 0) (v := iV (needI g 0)) rfl
 have l8 := o2.ld (P := Pg) rfl agg3 (k := 1) (v := iV (needI g 1)) rfl
 have l9 := o2.ld (P := Pg) rfl agg3 (k := 2) (v := iV (needI g 2)) rfl
 by_cases h1 : g.ns ≤ 4
 rotate_left
 ·exact ⟨false, (few_rg c1 cF cN st l5 ⟨rfl, n2.lw⟩).pure, by simp⟩
 by_cases h2 : g.nb ≤ 3
 rotate_left
 ·exact ⟨false, (few_rf c1 cF cN st l5 l6 ⟨rfl, n2.lw⟩).pure, by simp⟩
 by_cases h3 : needI g 0 ≤ 9
 rotate_left
 ·exact ⟨false, (few_re c1 cF cN st l5 l6 l7 ⟨rfl, n2.lw⟩).pure, by simp⟩
 by_cases h4 : needI g 1 ≤ 9
 rotate_left
 ·exact ⟨false, (few_rd c1 cF cN st l5 l6 l7 l8 ⟨rfl, n2.lw⟩).pure, by simp⟩
 by_cases h5 : needI g 2 ≤ 9
 rotate_left
 ·exact ⟨false, (few_rc c1 cF cN st l5 l6 l7 l8 l9 ⟨rfl, n2.lw⟩).pure, by simp⟩
 ·exact ⟨true, (few_rb c1 cF cN st l5 l6 l7 l8 l9 ⟨rfl, n2.lw⟩).pure, fun _ => ht⟩
theorem cheapest_c (hR : RefP σ p g.ns q g.nb g) (hv : Valid g) : ∃ r z', CallsA Pg 21 [.agg ⟨garL p g.ns c q g.nb d⟩, iV 0, .agg ⟨iL (ndL g)⟩, .map (some σ.next)] (σ.add (.map [])) (iV r) z' ∧ New σ z' ∧ IsLeast (ChR g g.ns (ndL g)) r := by
 have N1 : New σ (σ.add (.map [])) := New.add _ _
 have hp : ∀ a, p = some a → a.block ≠ σ.next := fun a e => by have := hR.lt1 a e; omega
 have hq : ∀ a, q = some a → a.block ≠ σ.next := fun a e => by have := hR.lt2 a e; omega
 have hN : NdOK (ndL g) := ⟨by simp [ndL], fun i => by
  by_cases h5 : i < 5
  ·rw [ndL_get h5]; exact needI_le hv i
  ·have : (ndL g).length ≤ i := by simp [ndL]; omega
   rw [List.getD_eq_getElem?_getD, List.getElem?_eq_none this]; simp⟩
 obtain ⟨r, z', F', c1, c2, c3, c4, c5⟩ := cheap (c := c) (d := d) hv hp hq g.ns (Nat.le_refl _) (σ.add (.map [])) (fun _ => none) (ndL g) hN (hR.le N1.le) (MapF.new σ) (fun key r h => by cases h)
 rw [Nat.sub_self] at c1
 exact ⟨r, z', c1, N1.of_only c2 (by rintro b rfl; exact Nat.le_refl _), c5⟩
end
end Go.Proofs.Ythcdddbghldmiaa
