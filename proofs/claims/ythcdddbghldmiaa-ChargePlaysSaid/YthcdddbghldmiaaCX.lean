
import Derived.Test.YthcdddbghldmiaaCW
namespace Go.Proofs.Ythcdddbghldmiaa
open Go Go.Lay
set_option linter.unusedVariables false
set_option linter.unusedSimpArgs false
set_option maxRecDepth 20000
section
variable {σ τ : St} {g : Gar} {p q pp hp up : Option Addr} {c d lp cp lh ch lu cu : Nat} {rs : List (List Int)} {hs us : List Int}
theorem play_bds (hv : Valid g) (hP : PlanOK g rs) (hT : TruthOK g hs us) :
  (∀ i b s, g.buses[i]? = some b → i < g.nb → s ≤ g.ns → 0 ≤ lev b.full (cell rs i) (hs.getD i 0) s ∧ lev b.full (cell rs i) (hs.getD i 0) s ≤ b.full ∧ b.full ≤ 1000 ∧ 0 ≤ us.getD i 0 ∧ us.getD i 0 ≤ 1000) ∧
  (∀ i b s, g.buses[i]? = some b → i < g.nb → s < g.ns → 0 ≤ amt b.full (cell rs i) (hs.getD i 0) s ∧ amt b.full (cell rs i) (hs.getD i 0) s ≤ 1000) ∧
  (∀ i b s, g.buses[i]? = some b → i < g.nb → s < g.ns → 0 ≤ amt b.full (cell rs i) (hs.getD i 0) s * prS g s ∧ amt b.full (cell rs i) (hs.getD i 0) s * prS g s ≤ 1000000) ∧
  (∀ i n, i < g.nb → n ≤ g.ns → 0 ≤ paidI g rs hs i n ∧ paidI g rs hs i n ≤ 12000000) ∧ ∀ j, j ≤ g.nb → 0 ≤ sumN j (fun i => paidI g rs hs i g.ns) ∧ sumN j (fun i => paidI g rs hs i g.ns) ≤ 60000000 := by
 have hns := hv.ns; have hnb := hv.nb
 have hcap : ∀ i b, g.buses[i]? = some b → 0 ≤ hs.getD i 0 ∧ hs.getD i 0 ≤ b.full ∧ b.full ≤ 1000 ∧ 0 ≤ us.getD i 0 ∧ us.getD i 0 ≤ 1000 := fun i b hb => by
  have h3 := hT.2.2 i b hb
  have h4 := inB_iff.1 h3.1; have h5 := inB_iff.1 h3.2
  have := busB_iff (hv.b hb)
  omega
 have hamt : ∀ i b s, g.buses[i]? = some b → i < g.nb → s < g.ns → 0 ≤ amt b.full (cell rs i) (hs.getD i 0) s ∧ amt b.full (cell rs i) (hs.getD i 0) s ≤ 1000 := fun i b s hb hi hs' => by
  have h3 := amt_bd (f := cell rs i) (s := s) (hcap i b hb).2.1 (fun s' h => (hP.cell_bd hv hi (Nat.lt_of_le_of_lt h hs')).1)
  have := (hP.cell_bd hv hi hs').2
  omega
 have hterm : ∀ i b s, g.buses[i]? = some b → i < g.nb → s < g.ns → 0 ≤ amt b.full (cell rs i) (hs.getD i 0) s * prS g s ∧ amt b.full (cell rs i) (hs.getD i 0) s * prS g s ≤ 1000000 := fun i b s hb hi hs' => by
  have h3 := hamt i b s hb hi hs'; have h4 := hv.pr s
  exact mul_bd h3.1 h3.2 h4.1 h4.2
 have hpI : ∀ i n, i < g.nb → n ≤ g.ns → 0 ≤ paidI g rs hs i n ∧ paidI g rs hs i n ≤ 12000000 := fun i n hi hn => by
  obtain ⟨b, hb⟩ := bus_at hi
  rw [paidI_eq hb]
  have := sumN_bd (n := n) (B := 1000000) (f := fun s => amt b.full (cell rs i) (hs.getD i 0) s * prS g s) (fun s hs' => hterm i b s hb hi (by omega))
  omega
 refine ⟨fun i b s hb hi hs' => ?_, hamt, hterm, hpI, fun j hj => ?_⟩
 ·have h1 := hcap i b hb
  have h2 := lev_bd (n := s) h1.2.1 (fun s' h => (hP.cell_bd hv hi (Nat.lt_of_lt_of_le h hs')).1)
  omega
 ·have := sumN_bd (n := j) (B := 12000000) (f := fun i => paidI g rs hs i g.ns) (fun i hi => hpI i _ (by omega) (Nat.le_refl _))
  omega
theorem rFits_c (hR : RefP σ p g.ns q g.nb g) (hnb : g.nb ≤ 100000) (hh : IntsP σ hp lh hs) (hu : IntsP σ up lu us) :
  ∃ b, CallsA Try.prog 36 [.agg ⟨garL p g.ns c q g.nb d⟩, .agg ⟨[.slice hp lh ch, .slice up lu cu]⟩] σ (.bool b) σ ∧ (b = true ↔ TruthOK g hs us) := by
 have hlh := hh.len; have hlu := hu.len
 by_cases e1 : lh = g.nb
 rotate_left
 ·exact ⟨false, RunsQ.pure (rFits_ra ⟨rfl, Nat.le_refl _⟩), by simp [TruthOK]; omega⟩
 by_cases e2 : lu = g.nb
 rotate_left
 ·exact ⟨false, RunsQ.pure (rFits_rb ⟨rfl, Nat.le_refl _⟩), by simp [TruthOK]; omega⟩
 subst e1 e2
 obtain ⟨n0, hn0⟩ : ∃ n0, n0 = σ.re.next := ⟨_, rfl⟩
 obtain ⟨τ1, hτ1⟩ : ∃ τ1, τ1 = (σ.re.row (garL p g.ns c q g.nb d) 2).row [.slice hp g.nb ch, .slice up g.nb cu] 2 := ⟨_, rfl⟩
 have N1 : New σ.re τ1 := by rw [hτ1]; exact (New.row _ _ _).row'
 have oG : Own τ1 n0 (garL p g.ns c q g.nb d) 2 := by rw [hτ1, hn0]; exact (own_new σ.re _ _).row
 have oT : Own τ1 (n0 + 1) [.slice hp g.nb ch, .slice up g.nb cu] 2 := by rw [hτ1, hn0]; exact own_new (σ.re.row _ _) _ _
 suffices key : RunsQ Try.prog 36 [.agg ⟨garL p g.ns c q g.nb d⟩, .agg ⟨[.slice hp g.nb ch, .slice up g.nb cu]⟩] σ.re fun v s => ∃ b, (v = .bool b ∧ σ.next ≤ s.low) ∧ (b = true ↔ TruthOK g hs us) by
  obtain ⟨v, s, h1, b, h2, h3⟩ := key
  exact ⟨b, RunsQ.pure ⟨v, s, h1, h2⟩, h3⟩
 refine rFits_rc (Pr := fun b τ => b = false ∧ ¬ TruthOK g hs us ∧ New τ1 τ) (P0 := fun τ => TruthOK g hs us ∧ New τ1 τ) ?_
  (fun b τ h => rFits_t1xra ⟨b, ⟨rfl, (N1.trans h.2.2).lw⟩, by simp [h.1, h.2.1]⟩) (fun τ h => rFits_t1x0a ⟨true, ⟨rfl, (N1.trans h.2).lw⟩, by simp [h.1]⟩)
 rw [← hτ1, ← hn0]
 refine rFits_loop1 (Inv := fun k i τ => ∃ j : Nat, i = j ∧ j + k = g.nb ∧ New τ1 τ ∧ ∀ i' b, i' < j → g.buses[i']? = some b → inB (hs.getD i' 0) b.hlo b.hhi = true ∧ inB (us.getD i' 0) b.ulo b.uhi = true) ?_ g.nb 0 τ1 ⟨0, rfl, by omega, New.refl _, fun i' b h => by omega⟩
 rintro k i τ ⟨j, rfl, hk, h1, h2⟩
 have oGτ := oG.le h1.le
 by_cases hj : j < g.nb
 rotate_left
 ·exact rFits_s1d LD ⟨⟨hlh, hlu, fun i b hb => h2 i b (by have := (List.getElem?_eq_some_iff.1 hb).1; have : i < g.nb := this; omega) hb⟩, h1⟩
 have hle : Le σ τ := (le0 σ).trans (N1.trans h1).le
 obtain ⟨a, rfl, bus, hbus, ldb⟩ := slv_at (hR.le hle).bu hj
 have n2 : New τ ((τ.row (ints9 0 0 0 0 0 0 0 0 0) 9).own τ.next (busL bus) 9) := (New.row _ _ _).own (Nat.le_refl _)
 have oTτ := (oT.le h1.le).le n2.le
 obtain ⟨ah, rfl, x, hx, ldx⟩ := slv_at (SlV.le hh (hle.trans n2.le)) hj
 obtain ⟨au, rfl, y, hy, ldy⟩ := slv_at (SlV.le hu (hle.trans n2.le)) hj
 have ex : hs.getD j 0 = x := by simp [hx]
 have ey : us.getD j 0 = y := by simp [hy]
 have c1 := rIn_c (σ := (τ.row (ints9 0 0 0 0 0 0 0 0 0) 9).own τ.next (busL bus) 9) (n := x) (lo := bus.hlo) (hi := bus.hhi)
 have c2 := rIn_c (σ := (τ.row (ints9 0 0 0 0 0 0 0 0 0) 9).own τ.next (busL bus) 9) (n := y) (lo := bus.ulo) (hi := bus.uhi)
 cases h4 : inB x bus.hlo bus.hhi with
 | false => rw [h4] at c1; exact rFits_s1c LD ldb LD ldx c1 ⟨rfl, (fun h => by have := (h.2.2 j bus hbus).1; rw [ex, h4] at this; cases this), h1.trans n2⟩
 | true =>
  rw [h4] at c1
  cases h5 : inB y bus.ulo bus.uhi with
  | false => rw [h5] at c2; exact rFits_s1b LD ldb LD ldx c1 LD ldy c2 ⟨rfl, (fun h => by have := (h.2.2 j bus hbus).2; rw [ey, h5] at this; cases this), h1.trans n2⟩
  | true =>
   rw [h5] at c2
   refine rFits_s1a LD ldb LD ldx c1 LD ldy c2 ⟨k - 1, by omega, j + 1, by omega, by omega, h1.trans n2, fun i' b hi hb => ?_⟩
   by_cases e : i' = j
   ·subst e; rw [hbus] at hb; cases hb; rw [ex, ey]; exact ⟨h4, h5⟩
   ·exact h2 i' b (by omega) hb
theorem rPlay_c (hR : RefP σ p g.ns q g.nb g) (hv : Valid g) (hr : RowsP σ pp lp rs) (hP : PlanOK g rs) (hh : IntsP σ hp g.nb hs) (hu : IntsP σ up g.nb us) (hT : TruthOK g hs us) :
  ∃ p1 c1 p2 c2 σ', CallsA Try.prog 37 [.agg ⟨garL p g.ns c q g.nb d⟩, .slice pp lp cp, .agg ⟨[.slice hp g.nb ch, .slice up g.nb cu]⟩] σ (.tuple ⟨[.slice p1 g.nb c1, .slice p2 g.nb c2, iV (paidZ g rs hs)]⟩) σ' ∧ New σ σ' ∧ IntsP σ' p1 g.nb (outL g rs hs g.nb) ∧ IntsP σ' p2 g.nb (leftL g rs hs us g.nb) := by
 suffices key : RunsQ Try.prog 37 [.agg ⟨garL p g.ns c q g.nb d⟩, .slice pp lp cp, .agg ⟨[.slice hp g.nb ch, .slice up g.nb cu]⟩] σ.re fun v s => New σ.re s ∧ ∃ p1 c1 p2 c2, v = .tuple ⟨[.slice p1 g.nb c1, .slice p2 g.nb c2, iV (paidZ g rs hs)]⟩ ∧ IntsP s p1 g.nb (outL g rs hs g.nb) ∧ IntsP s p2 g.nb (leftL g rs hs us g.nb) by
  obtain ⟨v, s, h1, h2, p6, c6, p7, c7, rfl, h3⟩ := RunsQ.new (Q := fun v s => ∃ p1 c1 p2 c2, v = .tuple ⟨[.slice p1 g.nb c1, .slice p2 g.nb c2, iV (paidZ g rs hs)]⟩ ∧ IntsP s p1 g.nb (outL g rs hs g.nb) ∧ IntsP s p2 g.nb (leftL g rs hs us g.nb)) key
   (by rintro v s s' ⟨p6, c6, p7, c7, rfl, h1, h2⟩ hle; exact ⟨p6, c6, p7, c7, rfl, h1.le hle, h2.le hle⟩)
   (by
    rintro v s hr ⟨p6, c6, p7, c7, rfl, h1, h2⟩
    cases p6 with
    | some a => exact Bool.noConfusion (show false = true from hr)
    | none =>
     cases p7 with
     | some a => exact Bool.noConfusion (show false = true from hr)
     | none => exact ⟨none, c6, none, c7, rfl, slv_none h1, slv_none h2⟩)
  exact ⟨p6, c6, p7, c7, s, h1, h2, h3⟩
 have hns := hv.ns; have hnb := hv.nb
 have hlp : lp = g.nb := by rw [← hr.len]; exact hP.len
 obtain ⟨blev, bamt, bterm, bpI, bpS⟩ := play_bds hv hP hT
 obtain ⟨n0, hn0⟩ : ∃ n0, n0 = σ.re.next := ⟨_, rfl⟩
 obtain ⟨τ1, hτ1⟩ : ∃ τ1, τ1 = (σ.re.row (garL p g.ns c q g.nb d) 2).row [.slice hp g.nb ch, .slice up g.nb cu] 2 := ⟨_, rfl⟩
 have N1 : New σ.re τ1 := by rw [hτ1]; exact (New.row _ _ _).row'
 have oG : Own τ1 n0 (garL p g.ns c q g.nb d) 2 := by rw [hτ1, hn0]; exact (own_new σ.re _ _).row
 have oT : Own τ1 (n0 + 1) [.slice hp g.nb ch, .slice up g.nb cu] 2 := by rw [hτ1, hn0]; exact own_new (σ.re.row _ _) _ _
 refine rPlay_ra (P0 := fun p6 l6 c6 p7 l7 c7 z τ => l6 = g.nb ∧ l7 = g.nb ∧ z = paidZ g rs hs ∧ New σ.re τ ∧ IntsP τ p6 g.nb (outL g rs hs g.nb) ∧ IntsP τ p7 g.nb (leftL g rs hs us g.nb)) ?_ ?_
 rotate_left
 ·rintro p6 l6 c6 p7 l7 c7 z τ ⟨rfl, rfl, rfl, h1, h2, h3⟩
  exact rPlay_t1x0a ⟨h1, p6, c6, p7, c7, rfl, h2, h3⟩
 rw [← hτ1, ← hn0]
 refine rPlay_loop1 (Inv := fun k p6 l6 c6 p7 l7 c7 z i τ => ∃ j : Nat, i = j ∧ j + k = g.nb ∧ l6 = j ∧ l7 = j ∧ z = sumN j (fun i => paidI g rs hs i g.ns) ∧ New σ.re τ ∧ Own τ n0 (garL p g.ns c q g.nb d) 2 ∧ Own τ (n0 + 1) [.slice hp g.nb ch, .slice up g.nb cu] 2 ∧ Gr Try.prog τ (n0 + 2) 3 1 p6 j c6 ((outL g rs hs j).map intV) ∧ Gr Try.prog τ (n0 + 2) 3 1 p7 j c7 ((leftL g rs hs us j).map intV) ∧ ∀ b, AtP p6 b → ¬ AtP p7 b) ?_ g.nb none 0 0 none 0 0 0 0 τ1
  ⟨0, rfl, by omega, rfl, rfl, rfl, N1, oG, oT, Gr.nil, Gr.nil, fun b hb => (AtP.none hb).elim⟩
 rintro k p6 l6 c6 p7 l7 c7 z i τ ⟨j, rfl, hk, rfl, rfl, rfl, h1, o1, o2, g6, g7, hd⟩
 by_cases hj : l7 < g.nb
 rotate_left
 ·have : l7 = g.nb := by omega
  subst this
  exact rPlay_s1b LD ⟨rfl, rfl, rfl, h1, g6.slv, g7.slv⟩
 have hle : Le σ τ := (le0 σ).trans h1.le
 obtain ⟨ab, rfl, bus, hbus, _⟩ := slv_at (hR.le hle).bu hj
 obtain ⟨ah, rfl, x, hx, ldx⟩ := slv_at (SlV.le hh hle) hj
 have ex : hs.getD l7 0 = x := by simp [hx]
 have lt2 := o2.lt
 have hσ : σ.re.next = σ.next := rfl
 have lτ := hle.next
 have b6 : ∀ b, AtP p6 b → n0 + 2 ≤ b ∧ b < τ.next := fun b hb => g6.bd hb
 have b7 : ∀ b, AtP p7 b → n0 + 2 ≤ b ∧ b < τ.next := fun b hb => g7.bd hb
 have hpS := bpS l7 (by omega)
 refine rPlay_s1a LD LD ldx (P2 := fun z' l' τ' => z' = sumN (l7 + 1) (fun i => paidI g rs hs i g.ns) ∧ l' = lev bus.full (cell rs l7) x g.ns ∧ τ' = τ) ?_ ?_
 ·refine rPlay_loop2 (Inv := fun k z' l' s' τ' => ∃ s : Nat, s' = s ∧ s + k = g.ns ∧ z' = sumN l7 (fun i => paidI g rs hs i g.ns) + paidI g rs hs l7 s ∧ l' = lev bus.full (cell rs l7) x s ∧ τ' = τ) ?_ g.ns _ _ 0 τ ⟨0, rfl, by omega, by rw [paidI_eq hbus]; simp [sumN], rfl, rfl⟩
  rintro k' z' l' s' τ' ⟨s, rfl, hk', rfl, rfl, rfl⟩
  by_cases hs' : s < g.ns
  rotate_left
  ·have : s = g.ns := by omega
   subst this
   exact rPlay_s2b LD ⟨by rw [sumN], rfl, rfl⟩
  obtain ⟨ar, rfl, r, qr, cr, hr1, ldr, ir⟩ := (hr.le hle).get (i := l7) (by omega)
  have hrl := hP.row r (List.mem_of_getElem? hr1)
  obtain ⟨ai, rfl, v, hvs, ldv⟩ := slv_at ir (i := s) (by omega)
  have ev : cell rs l7 s = v := by simp [cell, hr1, hvs]
  obtain ⟨a9, rfl, xs, hxs, _, ldp⟩ := pw_at (hR.le hle).sl hs'
  have epr : prS g s = xs.pr := by simp [prS, hxs]
  have ldf : loadA Try.prog τ' 3 (aadd ab (Int.toNat (l7 : Int) * 9 + 3)) = some (iV bus.full) := slv_fld (hR.le hle).bu (by rw [List.getElem?_map, hbus]; rfl) (k := 3) rfl agg3
  have h3 := blev l7 bus s hbus hj (by omega)
  have h4 := blev l7 bus (s + 1) hbus hj (by omega)
  have h5 := bterm l7 bus s hbus hj hs'
  have h6 := bpI l7 s hj (by omega)
  have h7 := bpI l7 (s + 1) hj (by omega)
  rw [ex] at h3 h4
  have eA : amt bus.full (cell rs l7) x s = min v (bus.full - lev bus.full (cell rs l7) x s) := by rw [amt, ev]
  have eP : paidI g rs hs l7 (s + 1) = paidI g rs hs l7 s + min v (bus.full - lev bus.full (cell rs l7) x s) * xs.pr := by
   rw [paidI_eq hbus, paidI_eq hbus, sumN, ex, eA, epr]
  rw [ex, eA, epr] at h5
  rw [lev_succ, eA] at h4
  rw [eP] at h7
  exact rPlay_s2a LD ldr ldv LD ldf min_see ldp ⟨k' - 1, by omega, s + 1, by omega, by omega, by rw [eP]; omega, by rw [lev_succ, eA], rfl⟩
 ·rintro z' l' τ' ⟨rfl, rfl, rfl⟩
  have h3 := blev l7 bus g.ns hbus hj (Nat.le_refl _)
  rw [ex] at h3
  obtain ⟨au, rfl, y, hy, ldy⟩ := slv_at (SlV.le hu hle) hj
  have ey : us.getD l7 0 = y := by simp [hy]
  rw [ey] at h3
  obtain ⟨p', c', y1, i1, i2, i3, i4⟩ := grow1 (n0 := n0 + 2) (σ := τ') (τ := τ') (intV (lev bus.full (cell rs l7) x g.ns)) appT_ints g6 (Le.refl _) (.inl ⟨agg3, rfl, rfl⟩) (by omega) (by omega)
  have k1 : Only (AtP p6) τ' y1 := (New.row _ _ _).only.trans' i3 (fun b _ h => .inl h)
  have n1 : New σ.re y1 := (h1.row').of_only i3 (fun b hb => by have := b6 b hb; omega)
  have hl1 : Le σ y1 := (le0 σ).trans n1.le
  have o1' := k1.own' o1 (fun hb => by have := b6 _ hb; omega)
  have o2' := k1.own' o2 (fun hb => by have := b6 _ hb; omega)
  have g7' := g7.only k1 (fun b hb h => hd b h hb)
  have ly1 := k1.next
  obtain ⟨p'', c'', y2, e1, e2, e3, e4⟩ := grow1 (n0 := n0 + 2) (σ := y1) (τ := y1) (intV (lev bus.full (cell rs l7) x g.ns - y)) appT_ints g7' (Le.refl _) (.inl ⟨agg3, rfl, rfl⟩) (by omega) (by omega)
  have k2 : Only (AtP p7) y1 y2 := (New.row _ _ _).only.trans' e3 (fun b _ h => .inl h)
  have ly2 := k2.next
  have n2 : New σ.re y2 := (n1.row').of_only e3 (fun b hb => by have := b7 b hb; omega)
  have la : au.block < σ.next := slv_lt hu _ rfl
  have q7' : ∀ a, p7 = some a → a.block < (y1.row [intV (lev bus.full (cell rs l7) x g.ns - y)] 1).next := fun a e => by have := b7 _ ⟨a, e, rfl⟩; simp; omega
  obtain ⟨au', ea, y', hy', ldy1⟩ := slv_at (SlV.le hu hl1) hj
  cases ea; rw [hy] at hy'; cases hy'
  obtain ⟨au', ea, y', hy', ldy0⟩ := slv_at (SlV.le hu (hle.trans (Le.row _ [intV (lev bus.full (cell rs l7) x g.ns)] 1))) hj
  cases ea; rw [hy] at hy'; cases hy'
  refine rPlay_t2x2a i1 LD ldy1 e1 BL BL (belowL_cons (belowB_sl q7') (belowL_cons (belowB_sl1 (by simp)) belowL_nil)) LD LD GB ldy ldy0 GB (fun a e => (b6 _ ⟨a, e, rfl⟩).2)
   ⟨k - 1, by omega, l7 + 1, by omega, by omega, rfl, rfl, rfl, n2, k2.own' o1' (fun hb => by have := b7 _ hb; omega), k2.own' o2' (fun hb => by have := b7 _ hb; omega), ?_, ?_, ?_⟩ (b_BB := o2.lt) (b_qF_a_block := by omega)
  ·have : outL g rs hs (l7 + 1) = outL g rs hs l7 ++ [lev bus.full (cell rs l7) x g.ns] := by
    simp only [outL, List.range_succ, List.map_append, List.map_cons, List.map_nil, outI_eq hbus, ex]
   rw [this, List.map_append]
   refine i2.only k2 (fun b hb h => ?_)
   rcases i4 b hb with h' | h'
   ·exact hd b h' h
   ·have := b7 b h; omega
  ·have : leftL g rs hs us (l7 + 1) = leftL g rs hs us l7 ++ [lev bus.full (cell rs l7) x g.ns - y] := by
    simp only [leftL, List.range_succ, List.map_append, List.map_cons, List.map_nil, outI_eq hbus, ex, ey]
   rw [this, List.map_append]; exact e2
  ·intro b hb h
   have hlt := (i2.bd hb).2
   rcases e4 b h with h' | h'
   ·rcases i4 b hb with h'' | h''
    ·exact hd b h'' h'
    ·have := b7 b h'; omega
   ·omega
end
end Go.Proofs.Ythcdddbghldmiaa
