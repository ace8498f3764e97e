
import Derived.Test.YthcdddbghldmiaaCD
namespace Go.Proofs.Ythcdddbghldmiaa
open Go Go.Lay
open Try renaming prog → Pg
set_option linter.unusedVariables false
set_option linter.unusedSimpArgs false
set_option maxRecDepth 20000
section
variable {σ : St}
theorem rIsPlan_c {p q : Option Addr} {l c m d : Nat} {g : Gar} {pp : Option Addr} {lp cp : Nat} {rs : List (List Int)} (h : RefP σ p l q m g) (hr : RowsP σ pp lp rs) (hv : Valid g) :
  ∃ b : Bool, CallsA Pg 23 [.agg ⟨garL p l c q m d⟩, .slice pp lp cp] σ (.bool b) σ ∧ (b = true ↔ PlanOK g rs) := by
 have hl1 : g.ns = l := h.len1; have hl2 : g.nb = m := h.len2; have hlr := hr.len
 obtain ⟨vs, s1, s2, s3⟩ := hr
 have hr : RowsP σ pp lp rs := ⟨vs, s1, s2, s3⟩
 have hns := hv.ns; have hnb := hv.nb
 suffices key : RunsQ Pg 23 [.agg ⟨garL p l c q m d⟩, .slice pp lp cp] σ.re fun v s => σ.next ≤ s.low ∧ ∃ b : Bool, v = .bool b ∧ (b = true ↔ PlanOK g rs) by
  obtain ⟨v, s, h1, h2, b, rfl, h3⟩ := key
  exact ⟨b, pure_c h1 h2 rfl, h3⟩
 by_cases hm : lp = m
 rotate_left
 ·exact rIsPlan_ra ⟨Nat.le_refl _, false, rfl, by simp; intro hp; have := hp.len; omega⟩
 subst hm
 obtain ⟨B, hB⟩ : ∃ B, B = σ.re.next := ⟨_, rfl⟩
 have o1 : Own ((σ.re.row (garL p l c q lp d) 2).row (zerosA [iV 0] l) 1) B (garL p l c q lp d) 2 := by subst hB; exact (own_new σ.re _ _).row
 have o2 : Own ((σ.re.row (garL p l c q lp d) 2).row (zerosA [iV 0] l) 1) (B + 1) (vecL l (pz rs 0 0)) 1 := by
  subst hB; rw [pz_zero, ← zeros_vec]; exact own_new (σ.re.row (garL p l c q lp d) 2) _ _
 have hN0 : New σ.re ((σ.re.row (garL p l c q lp d) 2).row (zerosA [iV 0] l) 1) := (New.row _ _ _).row'
 refine rIsPlan_rb (by exact make_sl (z := iV 0) (n := 1) (e := 3) (by kernel_rfl) (by kernel_rfl) (by omega)) (Pr := fun b τ => New σ.re τ ∧ b = false ∧ ¬ PlanOK g rs) (P0 := fun τ => New σ.re τ ∧ PlanOK g rs) ?_ ?_ ?_
 rotate_left
 ·rintro b τ ⟨hN, rfl, hp⟩
  exact rIsPlan_t1xra ⟨hN.lw, false, rfl, by simp [hp]⟩
 ·rintro τ ⟨hN, hp⟩
  exact rIsPlan_t1x0a ⟨hN.lw, true, rfl, by simp [hp]⟩
 show rIsPlan_L1 pp lp cp σ.re.next (some ⟨σ.re.next + 1, 0, none⟩) l l 0 ((σ.re.row (garL p l c q lp d) 2).row (zerosA [iV 0] l) 1) _ _
 rw [← hB]
 generalize ((σ.re.row (garL p l c q lp d) 2).row (zerosA [iV 0] l) 1) = τ0 at o1 o2 hN0
 refine rIsPlan_loop1 (Inv := fun k i20 τ => New σ.re τ ∧ ∃ i : Nat, i20 = i ∧ i + k = lp ∧ Own τ B (garL p l c q lp d) 2 ∧ Own τ (B + 1) (vecL l (pz rs i 0)) 1 ∧ Upto g rs i) (Qr := fun b τ => New σ.re τ ∧ b = false ∧ ¬ PlanOK g rs) (Q0 := fun τ => New σ.re τ ∧ PlanOK g rs) ?_ lp 0 τ0
  ⟨hN0, 0, rfl, by omega, o1, o2, Upto.zero hv⟩
 rintro k i20 τ ⟨hN, i, rfl, hk, w1, w2, hU⟩
 by_cases hi : i < lp
 rotate_left
 ·have : i = g.nb := by omega
  exact rIsPlan_s1c ⟨hN, Upto.all (by rw [← this]; exact hU) (by omega)⟩
 have hle : Le σ τ := (le0 σ).trans hN.le
 obtain ⟨a, rfl, r, _, _, hri, _, _⟩ := (hr.le hle).get hi
 obtain ⟨qr, cr, f1, f2⟩ := s3 i r hri
 have hldA : ∀ τ, Le σ τ → loadA Pg τ 59 (aadd a (Int.toNat (i : Int) * 1)) = some (.slice qr r.length cr) := fun τ hτ => (s1.le hτ).at rfl f1
 obtain ⟨ab, rfl, b, hb, ldb⟩ := slv_at (h.le hle).bu hi
 have hcp : New τ ((τ.row (ints9 0 0 0 0 0 0 0 0 0) 9).own τ.next (busL b) 9) := (New.row _ _ _).own (Nat.le_refl _)
 have hw1 := w1.lt; have hw2 := w2.lt
 have k1 := w1.le hcp.le; have k2 := w2.le hcp.le
 have k3 : Own ((τ.row (ints9 0 0 0 0 0 0 0 0 0) 9).own τ.next (busL b) 9) τ.next (busL b) 9 := Own.cp _ _ _ _
 have hN2 := hN.trans hcp
 have hvb := hv.b hb
 have hbb := busB_iff hvb
 by_cases hrl : r.length = l
 rotate_left
 ·exact rIsPlan_s1a (w1.ld rfl agg23 (k := 1) rfl) ldb (hldA _ (hle.trans hcp.le)) (k1.ld rfl agg22 (k := 0) rfl) ⟨hN2, rfl, fun hp => hrl (by rw [hp.row r (List.mem_of_getElem? hri)]; exact hl1)⟩
 refine rIsPlan_s1b (Pr := fun b τ => New σ.re τ ∧ b = false ∧ ¬ PlanOK g rs) (P2 := fun n τ' => New σ.re τ' ∧ Own τ' B (garL p l c (some ab) lp d) 2 ∧ Own τ' (B + 1) (vecL l (pz rs i g.ns)) 1 ∧ Own τ' τ.next (busL b) 9 ∧ UptoS g rs i b g.ns ∧ n = sumN g.ns (cell rs i)) (w1.ld rfl agg23 (k := 1) rfl) ldb (hldA _ (hle.trans hcp.le)) (k1.ld rfl agg22 (k := 0) rfl) ?_ ?_ ?_
 rotate_left
 ·rintro b τ' hq
  exact rIsPlan_t2xra hq
 ·rintro n τ' ⟨hN3, v1, v2, v3, hS, rfl⟩
  have hnd := rNeed_c (σ := τ') hvb
  have hU' : needZ b ≤ sumN g.ns (cell rs i) → Upto g rs (i + 1) := fun hn => hU.next hb hri (by omega) hS hn
  have e := pz_row hri (g := g) (by omega)
  by_cases hn : sumN g.ns (cell rs i) < needZ b
  ·exact rIsPlan_t2x2a (v3.ldN agg52 size52 (k := 0) rfl rfl (by simp)) hnd ⟨hN3, rfl, fun hp => by have := hp.need i b hb; omega⟩
  ·exact rIsPlan_t2x2b (v3.ldN agg52 size52 (k := 0) rfl rfl (by simp)) hnd ⟨k - 1, by omega, hN3, i + 1, by omega, by omega, v1, by rw [← e]; exact v2, hU' (by omega)⟩
 ·refine rIsPlan_loop2 (Inv := fun k' n i38 τ' => New σ.re τ' ∧ ∃ s : Nat, i38 = s ∧ s + k' = l ∧ Own τ' B (garL p l c (some ab) lp d) 2 ∧ Own τ' (B + 1) (vecL l (pz rs i s)) 1 ∧ Own τ' τ.next (busL b) 9 ∧ UptoS g rs i b s ∧ n = sumN s (cell rs i)) (Qr := fun b τ => New σ.re τ ∧ b = false ∧ ¬ PlanOK g rs)
   (Q2 := fun n τ' => New σ.re τ' ∧ Own τ' B (garL p l c (some ab) lp d) 2 ∧ Own τ' (B + 1) (vecL l (pz rs i g.ns)) 1 ∧ Own τ' τ.next (busL b) 9 ∧ UptoS g rs i b g.ns ∧ n = sumN g.ns (cell rs i)) ?_ l 0 0 _ ⟨hN2, 0, rfl, by omega, k1, k2, k3, fun s' h' => by omega, rfl⟩
  rintro k' n i38 τ' ⟨hN3, s, rfl, hk', v1, v2, v3, hS, rfl⟩
  by_cases hs : s < l
  rotate_left
  ·have : s = g.ns := by omega
   subst this
   exact rIsPlan_s2g (hldA τ' ((le0 σ).trans hN3.le)) ⟨hN3, v1, v2, v3, hS, rfl⟩
  have hle3 : Le σ τ' := (le0 σ).trans hN3.le
  have hqr : IntsP τ' qr r.length r := f2.le hle3
  have hrow := hldA τ' hle3
  obtain ⟨ar, rfl, x, hx, ldx⟩ := slv_at hqr (i := s) (by omega)
  have hxc : cell rs i s = x := cell_eq hri hx
  obtain ⟨az, rfl, y, hy, ldy, _⟩ := pw_at (h.le hle3).sl hs
  have hyp : pwS g s = y.pw := pwS_eq hy
  have cw := rIn_c (n := x) (lo := 0) (hi := b.rate) (σ := τ')
  have ldr : loadA Pg τ' 3 ⟨τ.next, 2, none⟩ = some (iV b.rate) := v3.ld rfl agg3 (k := 2) rfl
  have ct := rThere_c (σ := τ') (b := b) (s := (s : Int))
  have hpb := pz_bd hv hU hb hS (by omega) (s' := s) (by omega)
  have hpz : pz rs i s s + x = sumN (i + 1) (fun i' => cell rs i' s) := by simp only [pz, sumN, hxc]; simp
  have hsum := sumN_bd (n := s) (f := cell rs i) (B := 1000) (fun s' hs' => by have := (hS s' hs').1; omega)
  cases hw : inB x 0 b.rate with
  | false =>
   rw [hw] at cw
   exact rIsPlan_s2f hrow ldx ldr cw ⟨hN3, rfl, fun hp => by have := hp.cap i b hb s (by omega); rw [hxc] at this; simp [inB] at hw; omega⟩
  | true =>
  rw [hw] at cw
  have hw := inB_iff.1 hw
  have ld6 : loadA Pg τ' 3 (aadd ⟨B + 1, 0, none⟩ (Int.toNat (s : Int) * 1)) = some (iV (pz rs i s s)) := v2.ldI agg3 (vecL_get (by omega))
  have st7 : effOp Pg (evL [.pointer (some (aadd ⟨B + 1, 0, none⟩ (Int.toNat (s : Int) * 1))), iV (pz rs i s s + x)]) τ' (.store 3 (.tmp 0) (.tmp 1)) = some (undef, τ'.own (B + 1) (vecL l (pz rs i (s + 1))) 1) := by
   have := v2.stI (t := 3) (v := iV (pz rs i s s + x)) (i := s) rfl size3 rfl (by rw [vecL_len]; omega)
   rw [vecL_set (by omega), ← hxc, pz_step, hxc] at this
   exact this
  have hv3lt := v3.lt; have hv1lt := v1.lt
  have z2 : Own (τ'.own (B + 1) (vecL l (pz rs i (s + 1))) 1) (B + 1) (vecL l (pz rs i (s + 1))) 1 := by
   have e : vecL l (pz rs i s) = vecL l (pz rs i s) := rfl
   refine ⟨?_, v2.lt⟩
   show getB (τ'.put _ _).heap (B + 1) = _
   rw [St.put_get, if_pos rfl]
  have z1 := v1.own (ds := vecL l (pz rs i (s + 1))) (m := 1) (show B ≠ B + 1 by omega)
  have z3 := v3.own (ds := vecL l (pz rs i (s + 1))) (m := 1) (show τ.next ≠ B + 1 by omega)
  have hN4 : New σ.re (τ'.own (B + 1) (vecL l (pz rs i (s + 1))) 1) := hN3.own (by rw [← hB]; omega)
  have ld8 : loadA Pg (τ'.own (B + 1) (vecL l (pz rs i (s + 1))) 1) 3 (aadd ⟨B + 1, 0, none⟩ (Int.toNat (s : Int) * 1)) = some (iV (pz rs i s s + x)) := by
   have := z2.ldI agg3 (vecL_get (n := l) (s := s) (P := pz rs i (s + 1)) (by omega))
   have e : pz rs i (s + 1) s = pz rs i s s + x := by rw [← pz_step]; simp [hxc]
   rw [e] at this
   exact this
  have ldg : loadA Pg (τ'.own (B + 1) (vecL l (pz rs i (s + 1))) 1) 32 ⟨B, 0, none⟩ = some (.slice (some az) l c) := z1.ld rfl agg22 (k := 0) rfl
  have ldp : loadA Pg (τ'.own (B + 1) (vecL l (pz rs i (s + 1))) 1) 3 (aadd az (Int.toNat (s : Int) * 2 + 0)) = some (iV y.pw) := by
   obtain ⟨_, e, y', hy', e3, _⟩ := pw_at ((h.le ((le0 σ).trans hN4.le)).sl) hs
   cases e
   rw [hy] at hy'; cases hy'; exact e3
  have hS' : sumN (i + 1) (fun i' => cell rs i' s) ≤ pwS g s → (0 < x → thereB b s = true) → UptoS g rs i b (s + 1) := by
   intro h1 h2 s' h'
   by_cases e : s' = s
   ·subst e; exact ⟨by rw [hxc]; exact ⟨hw.1, hw.2, h2⟩, h1⟩
   ·exact hS s' (by omega)
  have bad : y.pw < pz rs i s s + x → ¬ PlanOK g rs := fun hlt hp => by
   have := hp.pre (i := i + 1) (s := s) (by omega) (by omega)
   omega
  have hsn : sumN s (cell rs i) + x = sumN (s + 1) (cell rs i) := by simp only [sumN, hxc]
  by_cases hpos : 0 < x
  ·cases ht : thereB b s with
   | false =>
    rw [ht] at ct
    exact rIsPlan_s2c hrow ldx ldr cw (v3.ldN agg52 size52 (k := 0) rfl rfl (by simp)) ct ⟨hN3, rfl, fun hp => by have := (hp.cap i b hb s (by omega)).2.2 (by omega); rw [ht] at this; cases this⟩
   | true =>
    rw [ht] at ct
    by_cases hlt : y.pw < pz rs i s s + x
    ·exact rIsPlan_s2a hrow ldx ldr cw (v3.ldN agg52 size52 (k := 0) rfl rfl (by simp)) ct ld6 st7 ld8 ldg ldp ⟨hN4, rfl, bad hlt⟩
    ·exact rIsPlan_s2b hrow ldx ldr cw (v3.ldN agg52 size52 (k := 0) rfl rfl (by simp)) ct ld6 st7 ld8 ldg ldp ⟨k' - 1, by omega, hN4, s + 1, by omega, by omega, z1, z2, z3, hS' (by omega) (fun _ => ht), hsn⟩
  ·by_cases hlt : y.pw < pz rs i s s + x
   ·exact rIsPlan_s2d hrow ldx ldr cw ld6 st7 ld8 ldg ldp ⟨hN4, rfl, bad hlt⟩
   ·exact rIsPlan_s2e hrow ldx ldr cw ld6 st7 ld8 ldg ldp ⟨k' - 1, by omega, hN4, s + 1, by omega, by omega, z1, z2, z3, hS' (by omega) (fun hh => absurd hh hpos), hsn⟩
end
end Go.Proofs.Ythcdddbghldmiaa
