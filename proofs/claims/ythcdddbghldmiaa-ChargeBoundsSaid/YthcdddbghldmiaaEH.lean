
import Derived.Test.YthcdddbghldmiaaEG
import Derived.Test.YthcdddbghldmiaaCS
import Derived.Test.YthcdddbghldmiaaCC
import Derived.Test.YthcdddbghldmiaaPA
import Derived.Test.YthcdddbghldmiaaXB
import Derived.Test.YthcdddbghldmiaaPL
import Derived.Test.YthcdddbghldmiaaXD
namespace Go.Proofs.Ythcdddbghldmiaa
open Go Go.Lay
open Try renaming prog → Pg
set_option linter.unusedVariables false
set_option linter.unusedSimpArgs false
set_option maxRecDepth 20000
section
variable {σ : St} {g : Gar} {p q wp up : Option Addr} {l c m d lw lu cw cu : Nat} {ws us : List Int}
theorem zeros5 : ints5 0 0 0 0 0 = vecL 5 (fun _ => 0) := rfl
theorem rNeeds_c (hR : RefP σ p g.ns q g.nb g) (hv : Valid g) : CallsA Pg 22 [.agg ⟨garL p g.ns c q g.nb d⟩] σ (.agg ⟨iL (ndL g)⟩) σ := by
 have hnb := hv.nb
 obtain ⟨n0, hn0⟩ : ∃ n0, n0 = σ.re.next := ⟨_, rfl⟩
 have hsig : σ.re.next = σ.next := rfl
 let V : Nat → Nat → Int := fun j i => if i < j then needI g i else 0
 have hfin : vecL 5 (V g.nb) = iL (ndL g) := by
  show _ = ((List.range 5).map (needI g)).map _
  rw [List.map_map]
  unfold vecL
  apply List.map_congr_left
  intro i _
  by_cases h : i < g.nb
  ·simp [V, h]
  ·have : g.buses[i]? = none := List.getElem?_eq_none (by unfold Gar.nb at h; omega)
   simp [V, h, needI, this]
 refine RunsQ.pure (v := .agg ⟨iL (ndL g)⟩) ?_ (hv := by
  unfold ndL
  show rigidB RD (.agg ⟨iL [needI g 0, needI g 1, needI g 2, needI g 3, needI g 4]⟩) = true
  rfl)
 refine rNeeds_ra (P0 := fun τ => New σ.re τ ∧ Own τ (n0 + 1) (ints5 0 0 0 0 0) 1 ∧ Own τ (n0 + 2) (vecL 5 (V g.nb)) 1) ?_ ?_
 ·rw [← hn0]
  refine rNeeds_loop1 (Inv := fun k i τ => ∃ j : Nat, i = j ∧ j + k = g.nb ∧ New σ.re τ ∧ Own τ n0 (garL p g.ns c q g.nb d) 2 ∧ Own τ (n0 + 1) (ints5 0 0 0 0 0) 1 ∧ Own τ (n0 + 2) (vecL 5 (V j)) 1) ?_ g.nb 0 _ ⟨0, rfl, by omega, ((New.row _ _ _).row').row', ?_, ?_, ?_⟩
  rotate_left
  ·rw [hn0]; exact (own_new _ _ _).row.row
  ·rw [hn0]; exact (own_new (σ.re.row (garL p g.ns c q g.nb d) 2) _ _).row
  ·have : vecL 5 (V 0) = ints5 0 0 0 0 0 := by rw [zeros5]; exact vecL_congr (fun s _ => by simp [V])
   rw [this, hn0]; exact own_new ((σ.re.row (garL p g.ns c q g.nb d) 2).row (ints5 0 0 0 0 0) 1) _ _
  rintro k i τ ⟨j, rfl, hk, h1, o1, o2, o3⟩
  by_cases hj : j < g.nb
  rotate_left
  ·have : j = g.nb := by omega
   subst this
   exact rNeeds_s1b (o1.ld rfl agg23 (k := 1) rfl) ⟨h1, o2, o3⟩
  obtain ⟨a, rfl, bus, hbus, ldb⟩ := slv_at (hR.le ((le0 σ).trans h1.le)).bu hj
  have st : effOp Pg (evL [.pointer (some ⟨n0 + 2, 0 + Int.toNat (j : Int) * 1, none⟩), iV (needZ bus)]) τ (.store 3 (.tmp 0) (.tmp 1)) = some (undef, τ.own (n0 + 2) (vecL 5 (V (j + 1))) 1) := by
   have := o3.stI (P := Pg) (t := 3) (v := iV (needZ bus)) (i := j) rfl size3 rfl (by rw [vecL_len]; omega)
   rw [vecL_set (by omega), show (fun s' => if s' = j then needZ bus else V j s') = V (j + 1) from by
    funext s'
    show (if s' = j then needZ bus else if s' < j then needI g s' else 0) = if s' < j + 1 then needI g s' else 0
    by_cases e : s' = j
    ·subst e; rw [if_pos rfl, if_pos (by omega), needI_eq hbus]
    ·rw [if_neg e]
     by_cases e2 : s' < j
     ·rw [if_pos e2, if_pos (by omega)]
     ·rw [if_neg e2, if_neg (by omega)]] at this
   exact this
  refine rNeeds_s1a (o1.ld rfl agg23 (k := 1) rfl) ldb (rNeed_c (hv.b hbus)) st ⟨k - 1, by omega, j + 1, by omega, by omega, h1.own (by omega), o1.own (by omega), o2.own (by omega), ?_⟩
  refine ⟨?_, o3.lt⟩
  show getB (τ.put _ _).heap (n0 + 2) = _
  rw [St.put_get, if_pos rfl]
 rintro τ ⟨h1, o2, o3⟩
 rw [← hn0]
 rw [hfin] at o3
 have hl5 : (iL (ndL g)).length = 5 := by simp [ndL]
 have l1 := o3.ldN (P := Pg) agg39 size39 (k := 0) (ds := iL (ndL g)) (by rw [List.drop_zero, List.take_of_length_le (by omega)]) hl5 (by omega)
 have st : effOp Pg (evL [.pointer (some ⟨n0 + 1, 0, none⟩), .agg ⟨iL (ndL g)⟩]) τ (.store 39 (.tmp 0) (.tmp 1)) = some (undef, τ.own (n0 + 1) (iL (ndL g)) 1) := by
  refine o2.store (k := 0) (t := 39) (v := .agg ⟨iL (ndL g)⟩) (vs := iL (ndL g)) rfl (by rw [hl5]; exact size39) ?_ (by rw [hl5]; exact Nat.le_refl _) ?_
  ·simp only [List.all_eq_true, List.mem_map]; rintro v ⟨x, _, rfl⟩; rfl
  ·rw [hl5]; simp
 have l2 := (o2.put (ds := iL (ndL g))).ldN (P := Pg) agg39 size39 (k := 0) (ds := iL (ndL g)) (by rw [List.drop_zero, List.take_of_length_le (by omega)]) hl5 (by omega)
 exact rNeeds_t1x0a l1 st l2 ⟨rfl, (h1.own (by omega)).lw⟩
theorem few_c (hR : RefP σ p g.ns q g.nb g) : ∃ b, CallsA Pg 16 [.agg ⟨garL p g.ns c q g.nb d⟩] σ (.bool b) σ ∧ (b = true → g.ns ≤ 15 ∧ g.nb ≤ 8) := by
 have N1 : New σ.re (σ.re.row (garL p g.ns c q g.nb d) 2) := New.row _ _ _
 have R1 := hR.le ((le0 σ).trans N1.le)
 have c1 := thin_c (σ := σ.re.row (garL p g.ns c q g.nb d) 2) (p := p) (l := g.ns) (c := c) (q := q) (m := g.nb) (d := d)
 cases ht : (decide (g.ns ≤ 15) && decide (g.nb ≤ 8)) with
 | false => rw [ht] at c1; exact ⟨false, (few_rh c1 c1 ⟨rfl, Nat.le_refl _⟩).pure, by simp⟩
 | true =>
 rw [ht] at c1
 simp only [Bool.and_eq_true, decide_eq_true_eq] at ht
 have cF := rFault_c (c := c) (d := d) R1
 by_cases hz : checkZ g = 0
 rotate_left
 ·exact ⟨true, (few_ra c1 cF c1 ⟨rfl, Nat.le_refl _⟩).pure, fun _ => ht⟩
 have hv := valid_of hz
 rw [hz] at cF
 have cN := rNeeds_c (c := c) (d := d) R1 hv
 have hl5 : (iL (ndL g)).length = 5 := by simp [ndL]
 obtain ⟨y, hy⟩ : ∃ y, y = ((σ.re.row (garL p g.ns c q g.nb d) 2).row (ints5 0 0 0 0 0) 1).own (σ.re.next + 1) (iL (ndL g)) 1 := ⟨_, rfl⟩
 have st : effOp Pg (evL [.pointer (some ⟨σ.re.next + 1, 0, none⟩), .agg ⟨iL (ndL g)⟩]) ((σ.re.row (garL p g.ns c q g.nb d) 2).row (ints5 0 0 0 0 0) 1) (.store 39 (.tmp 0) (.tmp 1)) = some (undef, y) := by
  rw [hy]
  refine (own_new (σ.re.row (garL p g.ns c q g.nb d) 2) (ints5 0 0 0 0 0) 1).store (k := 0) (t := 39) (v := .agg ⟨iL (ndL g)⟩) (vs := iL (ndL g)) rfl (by rw [hl5]; exact size39) ?_ (by rw [hl5]; exact Nat.le_refl _) ?_
  ·simp only [List.all_eq_true, List.mem_map]; rintro v ⟨x, _, rfl⟩; rfl
  ·rw [hl5]; simp
 have n2 : New σ.re y := by rw [hy]; exact N1.row'.own (by simp)
 have o1 : Own y σ.re.next (garL p g.ns c q g.nb d) 2 := by rw [hy]; exact (own_new σ.re _ _).row.own (by omega)
 have o2 : Own y (σ.re.next + 1) (iL [needI g 0, needI g 1, needI g 2, needI g 3, needI g 4]) 1 := by rw [hy]; exact (own_new (σ.re.row (garL p g.ns c q g.nb d) 2) (ints5 0 0 0 0 0) 1).put
 have l5 := o1.ld (P := Pg) rfl agg22 (k := 0) (v := .slice p g.ns c) rfl
 have l6 := o1.ld (P := Pg) rfl agg23 (k := 1) (v := .slice q g.nb d) rfl
 have l7 := o2.ld (P := Pg) rfl agg3 (k := 0) (v := iV (needI g 0)) rfl
 have l8 := o2.ld (P := Pg) rfl agg3 (k := 1) (v := iV (needI g 1)) rfl
 have l9 := o2.ld (P := Pg) rfl agg3 (k := 2) (v := iV (needI g 2)) rfl
 by_cases h1 : g.ns ≤ 4
 rotate_left
 ·exact ⟨false, (few_rg c1 cF cN st l5 ⟨rfl, n2.lw⟩).pure, by simp⟩
 by_cases h2 : g.nb ≤ 3
 rotate_left
 ·exact ⟨false, (few_rf c1 cF cN st l5 l6 ⟨rfl, n2.lw⟩).pure, by simp⟩
 by_cases h3 : needI g 0 ≤ 9
 rotate_left
 ·exact ⟨false, (few_re c1 cF cN st l5 l6 l7 ⟨rfl, n2.lw⟩).pure, by simp⟩
 by_cases h4 : needI g 1 ≤ 9
 rotate_left
 ·exact ⟨false, (few_rd c1 cF cN st l5 l6 l7 l8 ⟨rfl, n2.lw⟩).pure, by simp⟩
 by_cases h5 : needI g 2 ≤ 9
 rotate_left
 ·exact ⟨false, (few_rc c1 cF cN st l5 l6 l7 l8 l9 ⟨rfl, n2.lw⟩).pure, by simp⟩
 ·exact ⟨true, (few_rb c1 cF cN st l5 l6 l7 l8 l9 ⟨rfl, n2.lw⟩).pure, fun _ => ht⟩
theorem sur_eq (x : Int) : (decide (0 ≤ x) && inB x (-100000) 100000) = inB x 0 100000 := by
 unfold inB
 by_cases h1 : 0 ≤ x <;> by_cases h2 : x ≤ 100000 <;> simp [h1, h2] <;> omega
theorem rAreWorths_c (hw : IntsP σ wp lw ws) (hu : IntsP σ up lu us) (hl : g.ns ≤ 100000) (hl2 : g.nb ≤ 100000) : ∃ b, CallsA Pg 42 [.agg ⟨garL p g.ns c q g.nb d⟩, .slice wp lw cw, .slice up lu cu] σ (.bool b) σ ∧ (b = true ↔ AreW g ws us) := by
 have e1 := hw.len; have e2 := hu.len
 by_cases h1 : lw = g.nb
 rotate_left
 ·exact ⟨false, (rAreWorths_ra ⟨rfl, Nat.le_refl _⟩).pure, by simp; intro h; exact h1 (e1.symm.trans h.1)⟩
 by_cases h2 : lu = g.ns
 rotate_left
 ·exact ⟨false, (rAreWorths_rb ⟨rfl, Nat.le_refl _⟩).pure, by simp; intro h; exact h2 (e2.symm.trans h.2.1)⟩
 have key : RunsQ Pg 42 [.agg ⟨garL p g.ns c q g.nb d⟩, .slice wp lw cw, .slice up lu cu] σ.re fun v s => ∃ b, (v = .bool b ∧ σ.next ≤ s.low) ∧ (b = true ↔ AreW g ws us) := by
  obtain ⟨y, hy⟩ : ∃ y, y = σ.re.row (garL p g.ns c q g.nb d) 2 := ⟨_, rfl⟩
  have N1 : New σ.re y := by rw [hy]; exact New.row _ _ _
  have hle := (le0 σ).trans N1.le
  have hw' : IntsP y wp lw ws := SlV.le hw hle
  have hu' : IntsP y up lu us := SlV.le hu hle
  refine rAreWorths_rc (Pr := fun b τ => τ = y ∧ b = false ∧ ¬ AreW g ws us) (P0 := fun τ => τ = y ∧ ws.all (fun x => inB x (-100000) 100000) = true) ?_ ?_ ?_
  ·rw [← hy]
   refine rAreWorths_loop1 (Inv := fun k i τ => ∃ j : Nat, i = j ∧ j + k = lw ∧ τ = y ∧ (ws.take j).all (fun x => inB x (-100000) 100000) = true) ?_ lw 0 y ⟨0, rfl, by omega, rfl, by simp⟩
   rintro k i τ ⟨j, rfl, hk, rfl, ha⟩
   by_cases hj : j < lw
   rotate_left
   ·exact rAreWorths_s1c ⟨rfl, by rwa [List.take_of_length_le (by omega)] at ha⟩
   obtain ⟨a, rfl, x, hx, ld⟩ := slv_at hw' hj
   have ci := rIn_c (σ := τ) (n := x) (lo := -100000) (hi := 100000)
   have hs := all_snoc (f := fun x => inB x (-100000) 100000) hx ha
   cases hb : inB x (-100000) 100000 with
   | true => rw [hb] at ci hs; exact rAreWorths_s1a ld ci ⟨k - 1, by omega, j + 1, by omega, by omega, rfl, hs⟩
   | false => rw [hb] at ci hs; exact rAreWorths_s1b ld ci ⟨rfl, rfl, fun h => by have := all_false (i := j + 1) hs; rw [h.2.2.1] at this; cases this⟩
  ·rintro b τ ⟨rfl, rfl, h⟩
   exact rAreWorths_t1xra ⟨false, ⟨rfl, N1.lw⟩, by simp [h]⟩
  ·rintro τ ⟨rfl, hA⟩
   refine rAreWorths_t1x0a (Pr := fun b τ' => τ' = τ ∧ b = false ∧ ¬ AreW g ws us) (P2 := fun τ' => τ' = τ ∧ us.all (fun x => inB x 0 100000) = true) ?_ ?_ ?_
   ·refine rAreWorths_loop2 (Inv := fun k i τ' => ∃ j : Nat, i = j ∧ j + k = lu ∧ τ' = τ ∧ (us.take j).all (fun x => inB x 0 100000) = true) ?_ lu 0 τ ⟨0, rfl, by omega, rfl, by simp⟩
    rintro k i τ' ⟨j, rfl, hk, rfl, ha⟩
    by_cases hj : j < lu
    rotate_left
    ·exact rAreWorths_s2c ⟨rfl, by rwa [List.take_of_length_le (by omega)] at ha⟩
    obtain ⟨a, rfl, x, hx, ld⟩ := slv_at hu' hj
    have ci := rIn_c (σ := τ') (n := x) (lo := 0) (hi := 100000)
    have hs := all_snoc (f := fun x => inB x 0 100000) hx ha
    cases hb : inB x 0 100000 with
    | true => rw [hb] at ci hs; exact rAreWorths_s2a ld ci ⟨k - 1, by omega, j + 1, by omega, by omega, rfl, hs⟩
    | false => rw [hb] at ci hs; exact rAreWorths_s2b ld ci ⟨rfl, rfl, fun h => by have := all_false (i := j + 1) hs; have h4 := h.2.2.2; simp only [sur_eq] at h4; rw [h4] at this; cases this⟩
   ·rintro b τ' ⟨rfl, rfl, h⟩
    exact rAreWorths_t2xra ⟨false, ⟨rfl, N1.lw⟩, by simp [h]⟩
   ·rintro τ' ⟨rfl, hB⟩
    exact rAreWorths_t2x2a ⟨true, ⟨rfl, N1.lw⟩, by simp only [true_iff]; exact ⟨e1.trans h1, e2.trans h2, hA, by simp only [sur_eq]; exact hB⟩⟩
 obtain ⟨v, s, h1, b, h2, h3⟩ := key
 exact ⟨b, RunsQ.pure ⟨v, s, h1, h2⟩, h3⟩
theorem rBound_c (hR : RefP σ p g.ns q g.nb g) (hv : Valid g) (hw : IntsP σ wp g.nb ws) (hu : IntsP σ up g.ns us) (hA : AreW g ws us) :
  CallsA Pg 43 [.agg ⟨garL p g.ns c q g.nb d⟩, .slice wp g.nb cw, .slice up g.ns cu] σ (iV (boundZ g (fun i => ws.getD i 0) (fun s => us.getD s 0))) σ := by
 have hns := hv.ns; have hnb := hv.nb
 obtain ⟨w, hwd⟩ : ∃ w : Nat → Int, w = fun i => ws.getD i 0 := ⟨_, rfl⟩
 obtain ⟨t, htd⟩ : ∃ t : Nat → Int, t = fun s => us.getD s 0 := ⟨_, rfl⟩
 rw [← hwd, ← htd]
 have gd : ∀ (l : List Int) (P : Int → Prop), P 0 → (∀ x ∈ l, P x) → ∀ i, P (l.getD i 0) := fun l P h0 h i => by
  rw [List.getD_eq_getElem?_getD]
  cases hx : l[i]? with
  | none => exact h0
  | some x => exact h x (List.mem_of_getElem? hx)
 have hwb : ∀ i, -100000 ≤ w i ∧ w i ≤ 100000 := fun i => by
  rw [hwd]
  exact gd ws (fun x => -100000 ≤ x ∧ x ≤ 100000) (by omega) (fun x hx => inB_iff.1 (List.all_eq_true.1 hA.2.2.1 x hx)) i
 have hub : ∀ i, 0 ≤ t i ∧ t i ≤ 100000 := fun i => by
  rw [htd]
  exact gd us (fun x => 0 ≤ x ∧ x ≤ 100000) (by omega) (fun x hx => by have h4 := List.all_eq_true.1 hA.2.2.2 x hx; rw [sur_eq] at h4; exact inB_iff.1 h4) i
 have b1 : ∀ s, 0 ≤ pwS g s * t s ∧ pwS g s * t s ≤ 100000000 := fun s => by
  have h1 := hv.pw s; have h2 := hub s
  have := mulS_bd (A := 1000) (C := 100000) h1.1 h1.2 (show -100000 ≤ t s by omega) h2.2 (by omega)
  have h3 := Int.mul_nonneg h1.1 h2.1
  omega
 have b2 : ∀ i, -100000000 ≤ needI g i * w i ∧ needI g i * w i ≤ 100000000 := fun i => by
  have h1 := needI_le hv i; have h2 := hwb i
  have := mulS_bd (A := 1000) (C := 100000) h1.1 h1.2 h2.1 h2.2 (by omega); omega
 have b3 : ∀ i s, 0 ≤ rateI g i s * max 0 (w i - prS g s - t s) ∧ rateI g i s * max 0 (w i - prS g s - t s) ≤ 100000000 := fun i s => by
  have h1 := rateI_le hv i s; have h3 := hwb i; have h4 := hub s; have h5 := hv.pr s
  have := mulS_bd (A := 1000) (C := 100000) (b := max 0 (w i - prS g s - t s)) h1.1 h1.2 (by omega) (by omega) (by omega)
  have h6 := Int.mul_nonneg h1.1 (show 0 ≤ max 0 (w i - prS g s - t s) by omega)
  omega
 have s1 : ∀ j, j ≤ g.ns → 0 ≤ sumN j (fun s => pwS g s * t s) ∧ sumN j (fun s => pwS g s * t s) ≤ 1200000000 := fun j hj => by
  have := sumN_bd (n := j) (B := 100000000) (f := fun s => pwS g s * t s) (fun i _ => b1 i); omega
 have s2 : ∀ i j, j ≤ g.ns → -1300000000 ≤ bndI g w t i j ∧ bndI g w t i j ≤ 1300000000 := fun i j hj => by
  have h1 := sumN_bd (n := j) (B := 100000000) (f := fun s => rateI g i s * max 0 (w i - prS g s - t s)) (fun s _ => b3 i s)
  have h2 := b2 i
  unfold bndI; omega
 have s3 : ∀ j, j ≤ g.nb → -6500000000 ≤ sumN j (fun i => bndI g w t i g.ns) ∧ sumN j (fun i => bndI g w t i g.ns) ≤ 6500000000 := fun j hj => by
  have := sumN_bdC (n := j) (C := 1300000000) (f := fun i => bndI g w t i g.ns) (fun i _ => s2 i _ (Nat.le_refl _)); omega
 obtain ⟨S0, hS0⟩ : ∃ S0, S0 = sumN g.ns (fun s => pwS g s * t s) := ⟨_, rfl⟩
 have hS0b := s1 g.ns (Nat.le_refl _)
 rw [← hS0] at hS0b
 have hres : boundZ g w t = sumN g.nb (fun i => bndI g w t i g.ns) - S0 := by rw [hS0]; rfl
 obtain ⟨n0, hn0⟩ : ∃ n0, n0 = σ.re.next := ⟨_, rfl⟩
 obtain ⟨y, hy⟩ : ∃ y, y = σ.re.row (garL p g.ns c q g.nb d) 2 := ⟨_, rfl⟩
 have N1 : New σ.re y := by rw [hy]; exact New.row _ _ _
 have o1 : Own y n0 (garL p g.ns c q g.nb d) 2 := by rw [hy, hn0]; exact own_new _ _ _
 have hle := (le0 σ).trans N1.le
 refine (rBound_ra (P0 := fun n τ => τ = y ∧ n = 0 - S0) ?_ ?_).pure
 ·rw [← hy, ← hn0]
  refine rBound_loop1 (Inv := fun k n i τ => ∃ j : Nat, i = j ∧ j + k = g.ns ∧ τ = y ∧ n = 0 - sumN j (fun s => pwS g s * t s)) ?_ g.ns 0 0 y ⟨0, rfl, by omega, rfl, by simp [sumN]⟩
  rintro k n i τ ⟨j, rfl, hk, rfl, rfl⟩
  by_cases hj : j < g.ns
  rotate_left
  ·have : j = g.ns := by omega
   subst this
   exact rBound_s1b (o1.ld rfl agg22 (k := 0) rfl) ⟨rfl, by rw [hS0]⟩
  obtain ⟨az, rfl, x, hx, ldw, _⟩ := pw_at (hR.le hle).sl hj
  obtain ⟨au, rfl, u, hu', ldu⟩ := slv_at (SlV.le hu hle) hj
  have eu : t j = u := by rw [htd]; simp [hu']
  have epw : pwS g j = x.pw := pwS_eq hx
  have h1 := b1 j; have h2 := s1 j (by omega); have h3 := s1 (j + 1) (by omega)
  rw [eu, epw] at h1
  have e3 : sumN (j + 1) (fun s => pwS g s * t s) = sumN j (fun s => pwS g s * t s) + x.pw * u := by simp only [sumN, eu, epw]
  exact rBound_s1a (o1.ld rfl agg22 (k := 0) rfl) ldw ldu ⟨k - 1, by omega, j + 1, by omega, by omega, rfl, by rw [e3]; omega⟩
 rintro n τ ⟨rfl, rfl⟩
 rw [← hn0]
 refine rBound_t1x0a (P2 := fun n τ' => New σ.re τ' ∧ n = boundZ g w t) ?_ ?_
 rotate_left
 ·rintro n τ' ⟨h1, rfl⟩
  exact rBound_t2x2a ⟨rfl, h1.lw⟩
 refine rBound_loop2 (Inv := fun k n i τ' => ∃ j : Nat, i = j ∧ j + k = g.nb ∧ New σ.re τ' ∧ Own τ' n0 (garL p g.ns c q g.nb d) 2 ∧ n = sumN j (fun i => bndI g w t i g.ns) - S0) ?_ g.nb _ 0 τ ⟨0, rfl, by omega, N1, o1, by simp [sumN]⟩
 rintro k n i τ' ⟨j, rfl, hk, h1, o1', rfl⟩
 by_cases hj : j < g.nb
 rotate_left
 ·have : j = g.nb := by omega
  subst this
  exact rBound_s2b (o1'.ld rfl agg23 (k := 1) rfl) ⟨h1, by rw [hres]⟩
 have hle' := (le0 σ).trans h1.le
 obtain ⟨aq, rfl, bus, hbus, ldb⟩ := slv_at (hR.le hle').bu hj
 obtain ⟨y2, hy2⟩ : ∃ y2, y2 = (τ'.row (ints9 0 0 0 0 0 0 0 0 0) 9).own τ'.next (busL bus) 9 := ⟨_, rfl⟩
 have n2 : New τ' y2 := by rw [hy2]; exact (New.row _ _ _).own (Nat.le_refl _)
 have ob : Own y2 τ'.next (busL bus) 9 := by rw [hy2]; exact Own.cp _ _ _ _
 have o12 := o1'.le n2.le
 have N2 := h1.trans n2
 have hle2 := (le0 σ).trans N2.le
 obtain ⟨aw, rfl, x, hx, ldx⟩ := slv_at (SlV.le hw hle2) hj
 have ex : w j = x := by rw [hwd]; simp [hx]
 have en := needI_eq hbus
 have h2 := b2 j
 rw [en, ex] at h2
 have h3 := s3 j (by omega)
 have cn := rNeed_c (σ := y2) (hv.b hbus)
 rw [hy2] at cn
 have awl : aw.block < τ'.next := Nat.lt_of_lt_of_le (slv_lt hw _ rfl) hle'.next
 have ldx' := ldx
 rw [hy2] at ldx'
 refine rBound_s2a (P4 := fun n τ'' => τ'' = y2 ∧ n = sumN (j + 1) (fun i => bndI g w t i g.ns) - S0) (o1'.ld rfl agg23 (k := 1) rfl) ldb cn ldx' ?_ ?_
 rotate_left
 ·rintro n τ'' ⟨rfl, rfl⟩
  exact rBound_t3x4a ⟨k - 1, by omega, j + 1, by omega, by omega, N2, o12, rfl⟩
 rw [← hy2]
 refine rBound_loop3 (Inv := fun k n i τ'' => ∃ s : Nat, i = s ∧ s + k = g.ns ∧ τ'' = y2 ∧ n = sumN j (fun i => bndI g w t i g.ns) - S0 + bndI g w t j s) ?_ g.ns _ 0 y2 ⟨0, rfl, by omega, rfl, by simp only [bndI, sumN, en, ex]; omega⟩
 rintro k' n i τ'' ⟨s, rfl, hk', rfl, rfl⟩
 by_cases hs : s < g.ns
 rotate_left
 ·have : s = g.ns := by omega
  subst this
  exact rBound_s3c (o12.ld rfl agg22 (k := 0) rfl) ⟨rfl, by rw [sumN]; omega⟩
 have ct := rThere_c (σ := τ'') (b := bus) (s := (s : Int))
 have g2 := s2 j s (by omega)
 have g3 := s2 j (s + 1) (by omega)
 have est : bndI g w t j (s + 1) = bndI g w t j s - rateI g j s * max 0 (w j - prS g s - t s) := by simp only [bndI, sumN]; omega
 cases ht : thereB bus (s : Int) with
 | false =>
  rw [ht] at ct
  have er : rateI g j s = 0 := by rw [rateI_eq hbus, if_neg (by simp [ht])]
  rw [er, Int.zero_mul] at est
  exact rBound_s3b (o12.ld rfl agg22 (k := 0) rfl) (ob.ldN agg52 size52 (k := 0) rfl rfl (by simp)) ct ⟨k' - 1, by omega, s + 1, by omega, by omega, rfl, by omega⟩
 | true =>
  rw [ht] at ct
  have er : rateI g j s = bus.rate := by rw [rateI_eq hbus, if_pos ht]
  obtain ⟨az, rfl, z, hz, _, ldp⟩ := pw_at (hR.le hle2).sl hs
  obtain ⟨au, rfl, u, hu', ldu⟩ := slv_at (SlV.le hu hle2) hs
  have eu : t s = u := by rw [htd]; simp [hu']
  have epr : prS g s = z.pr := prS_eq hz
  have g4 := b3 j s
  have g5 := hub s; have g6 := hv.pr s; have g7 := hwb j
  rw [er, ex, epr, eu] at est g4
  rw [eu] at g5; rw [epr] at g6; rw [ex] at g7
  exact rBound_s3a (o12.ld rfl agg22 (k := 0) rfl) (ob.ldN agg52 size52 (k := 0) rfl rfl (by simp)) ct (ob.ld rfl agg3 (k := 2) rfl) ldx ldp ldu max_see ⟨k' - 1, by omega, s + 1, by omega, by omega, rfl, by omega⟩
theorem cheapest_c (hR : RefP σ p g.ns q g.nb g) (hv : Valid g) : ∃ r z', CallsA Pg 21 [.agg ⟨garL p g.ns c q g.nb d⟩, iV 0, .agg ⟨iL (ndL g)⟩, .map (some σ.next)] (σ.add (.map [])) (iV r) z' ∧ New σ z' ∧ IsLeast (ChR g g.ns (ndL g)) r := by
 have N1 : New σ (σ.add (.map [])) := New.add _ _
 have hp : ∀ a, p = some a → a.block ≠ σ.next := fun a e => by have := hR.lt1 a e; omega
 have hq : ∀ a, q = some a → a.block ≠ σ.next := fun a e => by have := hR.lt2 a e; omega
 have hN : NdOK (ndL g) := ⟨by simp [ndL], fun i => by
  by_cases h5 : i < 5
  ·rw [ndL_get h5]; exact needI_le hv i
  ·have : (ndL g).length ≤ i := by simp [ndL]; omega
   rw [List.getD_eq_getElem?_getD, List.getElem?_eq_none this]; simp⟩
 obtain ⟨r, z', F', c1, c2, c3, c4, c5⟩ := cheap (c := c) (d := d) hv hp hq g.ns (Nat.le_refl _) (σ.add (.map [])) (fun _ => none) (ndL g) hN (hR.le N1.le) (MapF.new σ) (fun key r h => by cases h)
 rw [Nat.sub_self] at c1
 exact ⟨r, z', c1, N1.of_only c2 (by rintro b rfl; exact Nat.le_refl _), c5⟩
end
end Go.Proofs.Ythcdddbghldmiaa
