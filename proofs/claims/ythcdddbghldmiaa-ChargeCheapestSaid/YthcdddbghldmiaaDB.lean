
import Derived.Test.YthcdddbghldmiaaCS
import Derived.Test.YthcdddbghldmiaaXK
namespace Go.Proofs.Ythcdddbghldmiaa
open Go Go.Lay
set_option linter.unusedVariables false
set_option linter.unusedSimpArgs false
set_option maxRecDepth 20000
section
variable {σ τ : St} {g : Gar} {p q pp wp up : Option Addr} {l c m d lp cp lw cw lu cu : Nat} {rs : List (List Int)} {ws us : List Int}
theorem ready_c (h : RefP σ p l q m g) : CallsA Try.prog 25 [.agg ⟨garL p l c q m d⟩] σ (.bool (decide (l ≤ 15) && decide (m ≤ 8) && decide (checkZ g = 0))) σ := by
  have h1 := h.le ((le0 σ).trans (Le.row _ (garL p l c q m d) 2))
  have c1 := thin_c (σ := σ.re.row (garL p l c q m d) 2) (p := p) (l := l) (c := c) (q := q) (m := m) (d := d)
  have c2 := rFault_c (c := c) (d := d) h1
  cases ht : (decide (l ≤ 15) && decide (m ≤ 8)) with
  | false => rw [ht] at c1; exact (ready_rc c1 ⟨by simp, Nat.le_refl _⟩).pure
  | true =>
    rw [ht] at c1
    by_cases hz : checkZ g = 0
    · rw [hz] at c2 ⊢; exact (ready_ra c1 c2 ⟨by simp, Nat.le_refl _⟩).pure
    · exact (ready_rb c1 c2 ⟨by simp [hz], Nat.le_refl _⟩ hz).pure
theorem short_cases (h : RowsP σ p l rs) : CallsA Try.prog 31 [.slice p l c] σ (.bool false) σ ∨ (l ≤ 8 ∧ (∀ r ∈ rs, r.length ≤ 15) ∧ CallsA Try.prog 31 [.slice p l c] σ (.bool true) σ) := by
  rcases short_c (c := c) h with h1 | h1
  · cases hb : (decide (l ≤ 8) && rs.all fun r => decide (r.length ≤ 15)) with
    | false => rw [hb] at h1; exact .inl h1
    | true =>
      rw [hb] at h1
      simp only [Bool.and_eq_true, decide_eq_true_eq, List.all_eq_true] at hb
      exact .inr ⟨hb.1, hb.2, h1⟩
  · exact .inl h1.2
theorem boundZ_congr {w w' t t' : Nat → Int} (h1 : ∀ i, i < g.nb → w i = w' i) (h2 : ∀ s, s < g.ns → t s = t' s) : boundZ g w t = boundZ g w' t' := by
  unfold boundZ
  rw [sumN_congr (n := g.ns) (f := fun s => pwS g s * t s) (g := fun s => pwS g s * t' s) (fun s hs => by rw [h2 s hs])]
  congr 1
  refine sumN_congr (fun i hi => ?_)
  rw [h1 i hi]
  congr 1
  exact sumN_congr (fun s hs => by rw [h2 s hs])
theorem worthL_get {π : Nd → Int} {i : Nat} (hi : i < g.nb) : (worthL g π).getD i 0 = worth π i := by simp [worthL, hi]
theorem surL_get {π : Nd → Int} {s : Nat} (hs : s < g.ns) : (surL g π).getD s 0 = sur π s := by simp [surL, hs]
theorem areW {π : Nd → Int} (h : ∀ v ∈ nodes g, -18000 ≤ π v ∧ π v ≤ 0) : AreW g (worthL g π) (surL g π) := by
  have hgr := h .grid mem_grid
  refine ⟨by simp [worthL], by simp [surL], List.all_eq_true.2 fun x hx => ?_, List.all_eq_true.2 fun x hx => ?_⟩
  · obtain ⟨i, hi, rfl⟩ := List.mem_map.1 hx
    have := h (.bus i) (mem_bus.2 (List.mem_range.1 hi))
    refine inB_iff.2 ?_; unfold worth; omega
  · obtain ⟨i, hi, rfl⟩ := List.mem_map.1 hx
    have := h (.slot i) (mem_slot.2 (List.mem_range.1 hi))
    simp only [Bool.and_eq_true, decide_eq_true_eq, inB_iff]; unfold sur; omega
theorem AreW.nn {ws us : List Int} (h : AreW g ws us) (s : Nat) : 0 ≤ us.getD s 0 := by
  have := getD_all h.2.2.2 (by decide) s
  simp only [Bool.and_eq_true, decide_eq_true_eq] at this
  exact this.1
theorem lCheapest_top (hR : RefP σ p l q m g) (hr : RowsP σ pp lp rs) (hw : IntsP σ wp lw ws) (hu : IntsP σ up lu us) :
    TopQ Try.prog 17 12 [.agg ⟨garL p l c q m d⟩, .slice pp lp cp, .slice wp lw cw, .slice up lu cu] σ fun v _ => v = .bool true := by
  have hl1 : g.ns = l := hR.len1; have hl2 : g.nb = m := hR.len2
  subst hl1 hl2
  have N1 : New σ (σ.row (garL p g.ns c q g.nb d) 2) := New.row _ _ _
  have o1 : Own (σ.row (garL p g.ns c q g.nb d) 2) σ.next (garL p g.ns c q g.nb d) 2 := own_new _ _ _
  have R1 := hR.le N1.le
  have cr := ready_c (c := c) (d := d) R1
  cases hrd : (decide (g.ns ≤ 15) && decide (g.nb ≤ 8) && decide (checkZ g = 0)) with
  | false => rw [hrd] at cr; first | exact lCheapest_rt cr rfl | exact lCheapest_ru cr rfl
  | true =>
  rw [hrd] at cr
  simp only [Bool.and_eq_true, decide_eq_true_eq] at hrd
  have hz := hrd.2
  have hv := valid_of hz
  have hns := hv.ns; have hnb := hv.nb
  rcases short_cases (c := cp) (hr.le N1.le) with cs | ⟨hlp, hrr, cs⟩
  · first | exact lCheapest_rt cr cs rfl | exact lCheapest_ru cr cs rfl
  by_cases h20 : 20 < lw
  · exact lCheapest_ra cr cs rfl
  by_cases h20' : 20 < lu
  · exact lCheapest_rb cr cs rfl
  have ld : ∀ {z : St}, New (σ.row (garL p g.ns c q g.nb d) 2) z → loadA Try.prog z 25 ⟨σ.next, 0, none⟩ = some (.agg ⟨garL p g.ns c q g.nb d⟩) := fun k => (o1.le k.le).ldN agg25 size25 (k := 0) rfl rfl (by simp)
  obtain ⟨p3, c3, q3, d3, σ5, k3, n3, g3⟩ := garage_c (c := c) (d := d) R1 (by omega) (by omega)
  obtain ⟨pl, ll, cl, σ9, z1, e1, k4, n4, b4⟩ := Best_c (c := c3) (d := d3) g3
  have M9 := n3.trans n4
  obtain ⟨p6, c6, q6, d6, σ14, k6, n6, g6⟩ := garage_c (c := c) (d := d) (R1.le M9.le) (by omega) (by omega)
  obtain ⟨p7, l7, c7, p8, l8, c8, e2, σ18, k7, n7, b7⟩ := Proof_c (c := c6) (d := d6) g6
  have M18 := (M9.trans n6).trans n7
  obtain ⟨p9, c9, q9, d9, σ23, k9, n9, g9⟩ := garage_c (c := c) (d := d) (R1.le M18.le) (by omega) (by omega)
  have M23 := M18.trans n9
  obtain ⟨p10, c10, σ25, k10, n10, r10⟩ := rows_c (c := cp) (hr.le (N1.trans M23).le) (by omega) (fun r hr => by have := hrr r hr; omega)
  have M25 := M23.trans n10
  obtain ⟨z3, e3, k11, b11⟩ := cost_c (c := c9) (d := d9) (cp := c10) (g9.le n10.le) r10
  have noplan : (∃ P, 0 < lackF g P) → ∀ rs, ¬ PlanOK g rs := fun ⟨P, hP⟩ rs h => by have := plan_lack h P; omega
  have b4' : (e1 = 9 ∧ ∃ P, 0 < lackF g P) ∨ (e1 = 0 ∧ ∃ W, Good g W ∧ (∀ i, i < g.nb → sumN g.ns (cell W.plan i) = needI g i) ∧ RowsP σ9 pl ll W.plan ∧ z1 = costZ g W.plan) := by
    rcases b4 with ⟨h, _⟩ | ⟨_, _, _, _, _, h1, h2⟩ | ⟨_, h1, h2⟩
    · exact absurd hz h
    · exact .inl ⟨h1, h2⟩
    · exact .inr ⟨h1, h2⟩
  have b7' : (e2 = 9 ∧ ∃ P, 0 < lackF g P) ∨ (e2 = 0 ∧ ∃ W π, Good g W ∧ (∀ i, i < g.nb → sumN g.ns (cell W.plan i) = needI g i) ∧ Pot (waysM g W) π ∧ (∀ v ∈ nodes g, -18000 ≤ π v ∧ π v ≤ 0) ∧ IntsP σ18 p7 l7 (worthL g π) ∧ IntsP σ18 p8 l8 (surL g π)) := by
    rcases b7 with ⟨h, _⟩ | ⟨_, _, _, _, _, _, _, h1, h2⟩ | ⟨_, h1, h2⟩
    · exact absurd hz h
    · exact .inl ⟨h1, h2⟩
    · exact .inr ⟨h1, h2⟩
  have b11' : (¬ PlanOK g rs ∧ e3 = 2) ∨ (PlanOK g rs ∧ z3 = costZ g rs ∧ e3 = 0) := by
    rcases b11 with ⟨h, _⟩ | ⟨_, h1, _, h2⟩ | ⟨_, h1, h2, h3⟩
    · exact absurd hz h
    · exact .inl ⟨h1, h2⟩
    · exact .inr ⟨h1, h2, h3⟩
  clear b4 b7 b11
  rcases b4' with ⟨rfl, hlack⟩ | ⟨rfl, W, hG, hn, hrw, hz1⟩
  · have : e2 = 9 := by
      rcases b7' with ⟨h, _⟩ | ⟨_, W, π, h1, h2, _⟩
      · exact h
      · exact absurd (h1.feas.plan h2) (noplan hlack _)
    subst this
    have : e3 = 2 := by
      rcases b11' with ⟨_, h⟩ | ⟨h, _⟩
      · exact h
      · exact absurd h (noplan hlack _)
    subst this
    exact lCheapest_rd cr cs k3 k4 (ld M9) k6 k7 (ld M18) k9 k10 k11 rfl
  have hPW := hG.feas.plan hn
  have hb7 : e2 = 0 ∧ ∃ W π, Good g W ∧ (∀ i, i < g.nb → sumN g.ns (cell W.plan i) = needI g i) ∧ Pot (waysM g W) π ∧ (∀ v ∈ nodes g, -18000 ≤ π v ∧ π v ≤ 0) ∧ IntsP σ18 p7 l7 (worthL g π) ∧ IntsP σ18 p8 l8 (surL g π) := by
    rcases b7' with ⟨_, h⟩ | h
    · exact absurd hPW (noplan h _)
    · exact h
  obtain ⟨rfl, W', π, hG', hn', hP', hπ, hiw, hiu⟩ := hb7
  clear b7'
  have hPW' := hG'.feas.plan hn'
  have hle : ∀ {rs}, PlanOK g rs → costZ g W.plan ≤ costZ g rs := fun h => by
    obtain ⟨π0, h0, _⟩ := hG.pot
    exact best_least hv hG.feas h0 hn h
  have heq : costZ g W'.plan = costZ g W.plan := Int.le_antisymm (best_least hv hG'.feas hP' hn' hPW) (hle hPW')
  have hlw' := hiw.len; have hlu' := hiu.len
  have e7 : l7 = g.nb := by rw [← hlw']; simp [worthL]
  have e8 : l8 = g.ns := by rw [← hlu']; simp [surL]
  have hpl := hrw.len
  have ell : ll = g.nb := by rw [← hpl, hG.feas.len]
  obtain ⟨p12, c12, q12, d12, σ32, k12, n12, g12⟩ := garage_c (c := c) (d := d) (R1.le M25.le) (by omega) (by omega)
  have M32 := M25.trans n12
  obtain ⟨p13, c13, σ34, k13, n13, r13⟩ := rows_c (c := cl) (hrw.le ((((n6.trans n7).trans n9).trans n10).trans n12).le) (by omega) (fun r hr => by rw [hG.feas.row r hr]; omega)
  have M34 := M32.trans n13
  obtain ⟨z4, e4, k14, b14⟩ := cost_c (c := c12) (d := d12) (cp := c13) (g12.le n13.le) r13
  obtain ⟨rfl, rfl⟩ : z4 = costZ g W.plan ∧ e4 = 0 := by
    rcases b14 with ⟨h, _⟩ | ⟨_, h1, _⟩ | ⟨_, _, h2, h3⟩
    · exact absurd hz h
    · exact absurd hPW h1
    · exact ⟨h2, h3⟩
  obtain ⟨p15, c15, q15, d15, σ41, k15, n15, g15⟩ := garage_c (c := c) (d := d) (R1.le M34.le) (by omega) (by omega)
  have M41 := M34.trans n15
  have n18 := (((((n9.trans n10).trans n12).trans n13).trans n15))
  obtain ⟨p16, c16, σ43, k16, n16, r16, _⟩ := list_c (c := c7) (SlV.le hiw n18.le) (by omega)
  obtain ⟨p17, c17, σ45, k17, n17, r17, _⟩ := list_c (c := c8) (SlV.le hiu (n18.trans n16).le) (by omega)
  have M45 := (M41.trans n16).trans n17
  obtain ⟨z5, e5, k18, b18⟩ := Bound_c (c := c15) (d := d15) (cw := c16) (cu := c17) (g15.le (n16.trans n17).le) (SlV.le r16 n17.le) r17 (by omega) (by omega)
  obtain ⟨rfl, rfl⟩ : z5 = costZ g W.plan ∧ e5 = 0 := by
    rcases b18 with ⟨h, _⟩ | ⟨_, h1, _⟩ | ⟨_, _, h2, h3⟩
    · exact absurd hz h
    · exact absurd (areW hπ) h1
    · refine ⟨?_, h3⟩
      rw [h2, boundZ_congr (w' := worth π) (t' := sur π) (fun i hi => worthL_get hi) (fun s hs => surL_get hs), bound_eq hv hG'.feas hP' hn', heq]
  obtain ⟨p19, c19, q19, d19, σ52, k19, n19, g19⟩ := garage_c (c := c) (d := d) (R1.le M45.le) (by omega) (by omega)
  have M52 := M45.trans n19
  obtain ⟨p20, c20, σ54, k20, n20, r20, _⟩ := list_c (c := cw) (SlV.le hw (N1.trans M52).le) (by omega)
  obtain ⟨p21, c21, σ56, k21, n21, r21, _⟩ := list_c (c := cu) (SlV.le hu ((N1.trans M52).trans n20).le) (by omega)
  obtain ⟨z6, e6, k22, b22⟩ := Bound_c (c := c19) (d := d19) (cw := c20) (cu := c21) (g19.le (n20.trans n21).le) (SlV.le r20 n21.le) r21 (by omega) (by omega)
  have b22' : e6 = 2 ∨ (e6 = 0 ∧ z6 ≤ costZ g W.plan) := by
    rcases b22 with ⟨h, _⟩ | ⟨_, _, _, h⟩ | ⟨_, h1, h2, h3⟩
    · exact absurd hz h
    · exact .inl h
    · exact .inr ⟨h3, by rw [h2]; exact bound_le hv hPW (fun s _ => h1.nn s)⟩
  clear b22 b18 b14
  subst hz1
  rcases b11' with ⟨_, rfl⟩ | ⟨hPr, rfl, rfl⟩
  · rcases b22' with rfl | ⟨rfl, h⟩
    · exact lCheapest_rp cr cs k3 k4 (ld M9) k6 k7 (ld M18) k9 k10 k11 (ld M25) k12 k13 k14 (ld M34) k15 k16 k17 k18 (ld M45) k19 k20 k21 k22 rfl
    · exact lCheapest_rq cr cs k3 k4 (ld M9) k6 k7 (ld M18) k9 k10 k11 (ld M25) k12 k13 k14 (ld M34) k15 k16 k17 k18 (ld M45) k19 k20 k21 k22 rfl
  · have hother := hle hPr
    rcases b22' with rfl | ⟨rfl, h⟩
    · exact lCheapest_rl cr cs k3 k4 (ld M9) k6 k7 (ld M18) k9 k10 k11 (ld M25) k12 k13 k14 (ld M34) k15 k16 k17 k18 (ld M45) k19 k20 k21 k22 rfl
    · exact lCheapest_rm cr cs k3 k4 (ld M9) k6 k7 (ld M18) k9 k10 k11 (ld M25) k12 k13 k14 (ld M34) k15 k16 k17 k18 (ld M45) k19 k20 k21 k22 rfl
end
end Go.Proofs.Ythcdddbghldmiaa
