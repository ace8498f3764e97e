
import Derived.Test.YthcdddbghldmiaaCW
import Derived.Test.YthcdddbghldmiaaDC
import Derived.Test.YthcdddbghldmiaaXT
namespace Go.Proofs.Ythcdddbghldmiaa
open Go Go.Lay
set_option linter.unusedVariables false
set_option linter.unusedSimpArgs false
set_option maxRecDepth 20000
section
variable {σ τ : St} {g : Gar} {p q pp pw : Option Addr} {l c m d lp cp lw cw : Nat} {rs : List (List Int)} {ws hs us : List Int}
theorem out_bd (hv : Valid g) (hP : PlanOK g rs) (hT : TruthOK g hs us) {i : Nat} {b : Bus} (hb : g.buses[i]? = some b) :
  b.floor + us.getD i 0 ≤ outI g rs hs i ∧ outI g rs hs i ≤ b.full ∧ hs.getD i 0 ≤ outI g rs hs i ∧ b.floor ≤ outI g rs hs i - us.getD i 0 ∧ 0 ≤ us.getD i 0 ∧ us.getD i 0 ≤ 1000 ∧ 0 ≤ hs.getD i 0 ∧ b.full ≤ 1000 ∧ 0 ≤ b.floor ∧ b.floor ≤ 1000 := by
 have hi : i < g.nb := (List.getElem?_eq_some_iff.1 hb).1
 have h := hT.2.2 i b hb
 have h1 := inB_iff.1 h.1; have h2 := inB_iff.1 h.2
 have h3 := busB_iff (hv.b hb)
 have h4 := hP.need i b hb
 have h5 : ∀ s, s < g.ns → 0 ≤ cell rs i s := fun s hs' => (hP.cell_bd hv hi hs').1
 have h6 := lev_eq (full := b.full) (h := hs.getD i 0) (by omega) h5
 rw [outI_eq hb, h6]
 have h7 := sumN_nn h5
 unfold needZ at h4
 omega
theorem lTruth_top (hR : RefP σ p l q m g) (hr : RowsP σ pp lp rs) (hwb : WordsP σ pw lw ws ∧ ∀ x ∈ ws, 0 ≤ x ∧ x ≤ 65535) :
    TopQ Try.prog 17 11 [.agg ⟨garL p l c q m d⟩, .slice pp lp cp, .slice pw lw cw] σ fun v _ => v = .bool true := by
  obtain ⟨hw, hb⟩ := hwb
  have hl1 : g.ns = l := hR.len1; have hl2 : g.nb = m := hR.len2
  subst hl1 hl2
  have N1 : New σ (σ.row (garL p g.ns c q g.nb d) 2) := New.row _ _ _
  have o1 : Own (σ.row (garL p g.ns c q g.nb d) 2) σ.next (garL p g.ns c q g.nb d) 2 := own_new _ _ _
  have R1 := hR.le N1.le
  have cr := ready_c (c := c) (d := d) R1
  cases hrd : (decide (g.ns ≤ 15) && decide (g.nb ≤ 8) && decide (checkZ g = 0)) with
  | false => rw [hrd] at cr; exact lTruth_rc cr rfl
  | true =>
  rw [hrd] at cr
  simp only [Bool.and_eq_true, decide_eq_true_eq] at hrd
  have hz := hrd.2
  have hv := valid_of hz
  have hns := hv.ns; have hnb := hv.nb
  rcases short_cases (c := cp) (hr.le N1.le) with cs | ⟨hlp, hrr, cs⟩
  · exact lTruth_rb cr cs rfl
  obtain ⟨p3, c3, q3, d3, σ5, k3, n3, g3⟩ := garage_c (c := c) (d := d) R1 (by omega) (by omega)
  obtain ⟨pl, ll, cl, σ9, z1, e1, rb, k4, n4, rw4, hll, hrb, b4⟩ := best_v (c := c3) (d := d3) g3 hz
  have M9 := n3.trans n4
  obtain ⟨p6, c6, p7, c7, σ14, k6, n6, i6, i7⟩ := picked_c (c := c) (d := d) (cw := cw) (R1.le M9.le) hv (SlV.le hw (N1.trans M9).le) hb
  have hT := hsP_ok (g := g) (ws := ws) hv (fun x hx => (hb x hx).1)
  have M14 := M9.trans n6
  obtain ⟨hs, hhs⟩ : ∃ hs, hs = hsP g ws g.nb := ⟨_, rfl⟩
  obtain ⟨us, hus⟩ : ∃ us, us = usP g ws g.nb := ⟨_, rfl⟩
  rw [← hhs] at i6 hT; rw [← hus] at i7 hT
  obtain ⟨σB, hσB⟩ : ∃ σB, σB = (((σ14.row [.slice none 0 0, .slice none 0 0] 2).own σ14.next [.slice p6 g.nb c6, .slice p7 g.nb c7] 2).row [.slice none 0 0, .slice none 0 0] 1).own (σ14.next + 1) [.slice pl ll cl, .slice pp lp cp] 1 := ⟨_, rfl⟩
  have nB : New σ14 σB := by rw [hσB]; exact (((New.row _ _ _).own (Nat.le_refl _)).row').own (by omega)
  have oT : Own σB σ14.next [.slice p6 g.nb c6, .slice p7 g.nb c7] 2 := by rw [hσB]; exact ((Own.cp _ _ _ _).row).own (by omega)
  have oP : Own σB (σ14.next + 1) [.slice pl ll cl, .slice pp lp cp] 1 := by rw [hσB]; exact Own.cp _ _ _ _
  have MB := M14.trans nB
  refine lTruth_ra cr cs k3 k4 ((o1.le M9.le).ldN agg25 size25 (k := 0) rfl rfl (by simp)) k6 (Pr := fun _ _ => False) (P0 := fun _ => True) ?_ (fun _ _ h => h.elim) (fun σ' _ => lTruth_t1x0a rfl)
  rw [← hσB]
  refine lTruth_loop1 (Inv := fun k i τ => ∃ j : Nat, i = j ∧ j + k = 2 ∧ New σB τ) ?_ 2 0 σB ⟨0, rfl, rfl, New.refl _⟩
  rintro k i τ ⟨j, rfl, hk, hN⟩
  by_cases hj : j < 2
  rotate_left
  · exact lTruth_s1t trivial
  have MT := MB.trans hN
  obtain ⟨pk, lk, ck, rk, hrk, hlk, hrr', ldk, hbest⟩ : ∃ pk lk ck rk, RowsP τ pk lk rk ∧ lk ≤ 8 ∧ (∀ r ∈ rk, r.length ≤ 15) ∧ (∀ {w}, New τ w → loadA Try.prog w 28 ⟨σ14.next + 1, 0 + Int.toNat (j : Int) * 1, none⟩ = some (.slice pk lk ck)) ∧ (j = 0 → rk = rb) := by
    rcases (show j = 0 ∨ j = 1 by omega) with rfl | rfl
    · exact ⟨pl, ll, cl, rb, rw4.le ((n6.trans nB).trans hN).le, by omega, fun r hr => by have := hrb r hr; omega, fun h => (oP.le (hN.trans h).le).ld rfl agg28 (k := 0) rfl, fun _ => rfl⟩
    · exact ⟨pp, lp, cp, rs, hr.le (N1.trans MT).le, hlp, hrr, fun h => (oP.le (hN.trans h).le).ld rfl agg28 (k := 1) rfl, fun h => by omega⟩
  obtain ⟨a1, b1, a2, b2, τ5, x1, m1, G1⟩ := garage_c (c := c) (d := d) (R1.le MT.le) (by omega) (by omega)
  obtain ⟨a3, b3, τ8, x2, m2, W2⟩ := rows_c (c := ck) (hrk.le m1.le) (by omega) (fun r hr => by have := hrr' r hr; omega)
  obtain ⟨z, e, x3, B3⟩ := cost_c (c := b1) (d := b2) (cp := b3) (G1.le m2.le) W2
  obtain ⟨a4, b4', a5, b5, τ15, x4, m4, G4⟩ := garage_c (c := c) (d := d) (R1.le ((MT.trans m1).trans m2).le) (by omega) (by omega)
  obtain ⟨a6, b6, τ18, x5, m5, W5⟩ := rows_c (c := ck) (hrk.le ((m1.trans m2).trans m4).le) (by omega) (fun r hr => by have := hrr' r hr; omega)
  obtain ⟨a7, b7, a8, b8, τ23, x6, m6, I7, I8⟩ := truth_c (ch := c6) (cu := c7) (SlV.le i6 (((((nB.trans hN).trans m1).trans m2).trans m4).trans m5).le) (SlV.le i7 (((((nB.trans hN).trans m1).trans m2).trans m4).trans m5).le) (by omega) (by omega)
  obtain ⟨p9, l9, c9, p10, l10, c10, zz, ee, τ28, x7, m7, B7⟩ := play_c (c := b4') (d := b5) (cp := b6) (ch := b7) (cu := b8) (G4.le (m5.trans m6).le) (W5.le m6.le) I7 I8
  have o1τ := o1.le MT.le
  have oTτ := oT.le hN.le
  have oPτ := oP.le hN.le
  have o18 := (o1τ.le m1.le).le m2.le
  have oT8 := (oTτ.le m1.le).le m2.le
  have oT15 := oT8.le m4.le
  have oT18 := oT15.le m5.le
  have t1 := m1.nx; have t2 := m2.nx; have t4 := m4.nx; have t5 := m5.nx; have t6 := m6.nx; have t7 := m7.nx; have tN := hN.nx
  have u1 := o1τ.lt; have u2 := oTτ.lt; have u3 := oPτ.lt
  have ref := R1.le MT.le
  have s3 : ∀ a, p = some a → a.block < τ.next := RefP.lta ref
  have s4 : ∀ a, q = some a → a.block < τ.next := RefP.ltb ref
  have s3' : ∀ a, p = some a → a.block < τ8.next := fun a e => by have := s3 a e; omega
  have s4' : ∀ a, q = some a → a.block < τ8.next := fun a e => by have := s4 a e; omega
  have sk : ∀ a, pk = some a → a.block < τ5.next := fun a e => by have := hrk.lt a e; omega
  have sk' : ∀ a, pk = some a → a.block < τ15.next := fun a e => by have := hrk.lt a e; omega
  have si : ∀ a, p6 = some a → a.block < τ18.next := fun a e => by have := slv_lt i6 a e; have := nB.nx; omega
  have si' : ∀ a, p7 = some a → a.block < τ18.next := fun a e => by have := slv_lt i7 a e; have := nB.nx; omega
  have sg : ∀ a, a4 = some a → a.block < τ23.next := fun a e => by have := G4.lta a e; omega
  have sg' : ∀ a, a5 = some a → a.block < τ23.next := fun a e => by have := G4.ltb a e; omega
  have sh : ∀ a, a1 = some a → a.block < τ8.next := fun a e => by have := G1.lta a e; omega
  have sh' : ∀ a, a2 = some a → a.block < τ8.next := fun a e => by have := G1.ltb a e; omega
  have sw : ∀ a, a6 = some a → a.block < τ23.next := fun a e => by have := W5.lt a e; omega
  have B3' : (¬ PlanOK g rk ∧ e = 2) ∨ (PlanOK g rk ∧ z = costZ g rk ∧ e = 0) := by
    rcases B3 with ⟨h, _⟩ | ⟨_, h1, _, h2⟩ | ⟨_, h1, h2, h3⟩
    · exact absurd hz h
    · exact .inl ⟨h1, h2⟩
    · exact .inr ⟨h1, h2, h3⟩
  have B7' : (¬ PlanOK g rk ∧ ee = 2) ∨ (PlanOK g rk ∧ ee = 0 ∧ zz = paidZ g rk hs ∧ IntsP τ28 p9 l9 (outL g rk hs g.nb) ∧ IntsP τ28 p10 l10 (leftL g rk hs us g.nb)) := by
    rcases B7 with ⟨h, _⟩ | ⟨_, h1, _, _, _, _, _, _, _, h2⟩ | ⟨_, h1, _, h2, h3, h4, h5⟩
    · exact absurd hz h
    · exact .inl ⟨fun h => h1 ⟨h, hT⟩, h2⟩
    · exact .inr ⟨h1, h2, h3, h4, h5⟩
  have nextQ : ∃ k', k' < k ∧ ∃ j' : Nat, (j : Int) + 1 = j' ∧ j' + k' = 2 ∧ New σB τ28 := ⟨k - 1, by omega, j + 1, by omega, by omega, (((((hN.trans m1).trans m2).trans m4).trans m5).trans m6).trans m7⟩
  clear B3 B7
  by_cases hP : PlanOK g rk
  rotate_left
  · have h2 : e = 2 ∧ ee = 2 := by
      refine ⟨?_, ?_⟩
      · rcases B3' with ⟨_, h⟩ | ⟨h, _⟩
        · exact h
        · exact absurd h hP
      · rcases B7' with ⟨_, h⟩ | ⟨h, _⟩
        · exact h
        · exact absurd h hP
    obtain ⟨rfl, rfl⟩ := h2
    by_cases h0 : j = 0
    · have h9 : e1 = 9 := by
        rcases b4 with ⟨h, _⟩ | ⟨_, h, _⟩
        · exact h
        · rw [hbest h0] at hP; exact absurd h hP
      subst h9
      exact lTruth_s1b LD x1 (ldk m1) x2 x3 BS BS BS BS (ldk (New.refl _)) ⟨⟨LT, rfl⟩, ldk m1⟩ LD x4 (ldk ((m1.trans m2).trans m4)) x5 LD x6 x7 BS BS BS BS BS BS
        (belowL_cons (belowB_gar sg sg') (belowL_cons (belowB_sl sw) (belowL_cons (belowB_gar (slv_lt I7) (slv_lt I8)) belowL_nil))) ⟨⟨LT, rfl⟩, ldk (m1.trans m2)⟩ ⟨⟨LT, rfl⟩, ldk ((m1.trans m2).trans m4)⟩ GB GB GB nextQ
    · exact lTruth_s1n LD x1 (ldk m1) x2 x3 BS BS BS BS (ldk (New.refl _)) ⟨⟨LT, rfl⟩, ldk m1⟩ LD x4 (ldk ((m1.trans m2).trans m4)) x5 LD x6 x7 BS BS BS BS BS BS
        (belowL_cons (belowB_gar sg sg') (belowL_cons (belowB_sl sw) (belowL_cons (belowB_gar (slv_lt I7) (slv_lt I8)) belowL_nil))) ⟨⟨LT, rfl⟩, ldk (m1.trans m2)⟩ ⟨⟨LT, rfl⟩, ldk ((m1.trans m2).trans m4)⟩ GB GB GB nextQ
  obtain ⟨rfl, rfl⟩ : z = costZ g rk ∧ e = 0 := by
    rcases B3' with ⟨h, _⟩ | ⟨_, h⟩
    · exact absurd hP h
    · exact h
  obtain ⟨rfl, rfl, iO, iL⟩ : ee = 0 ∧ zz = paidZ g rk hs ∧ IntsP τ28 p9 l9 (outL g rk hs g.nb) ∧ IntsP τ28 p10 l10 (leftL g rk hs us g.nb) := by
    rcases B7' with ⟨h, _⟩ | ⟨_, h⟩
    · exact absurd hP h
    · exact h
  have e9 : l9 = g.nb := by rw [← iO.len]; simp [outL]
  have e10 : l10 = g.nb := by rw [← iL.len]; simp [leftL]
  subst e9 e10
  have hpaid := paid_le hv hP (hs := hs) (fun i b hb => by have := out_bd hv hP hT hb; omega)
  have M28 := ((((MT.trans m1).trans m2).trans m4).trans m5).trans (m6.trans m7)
  have o28 := o1.le M28.le
  have oT28 := (oT18.le m6.le).le m7.le
  have loop2 : ∀ {n7 n8 : Int}, lTruth_L2 σ.next n7 n8 σ14.next (σ14.next + 1) (j : Int) p9 g.nb c9 p10 g.nb c10 0 τ28 (fun _ _ => False) (fun z => New τ28 z) := by
    intro n7 n8
    refine lTruth_loop2 (Inv := fun k i z => ∃ j : Nat, i = j ∧ j + k = g.nb ∧ New τ28 z) ?_ g.nb 0 τ28 ⟨0, rfl, by omega, New.refl _⟩
    rintro k i z ⟨j, rfl, hk, h1⟩
    by_cases hj : j < g.nb
    rotate_left
    · exact lTruth_s2g h1
    obtain ⟨bus, hbus⟩ := bus_at hj
    have h2 : New z ((z.row (ints9 0 0 0 0 0 0 0 0 0) 9).own z.next (busL bus) 9) := (New.row _ _ _).own (Nat.le_refl _)
    have h3 := h1.trans h2
    have oz := o28.le h1.le
    have oTz := oT28.le h3.le
    obtain ⟨ab, rfl, bus', hb', ldb⟩ := slv_at (R1.le (M28.trans h1).le).bu hj
    rw [hbus] at hb'; cases hb'
    obtain ⟨ao, rfl, xo, ho, ldo⟩ := slv_at (SlV.le iO h3.le) hj
    obtain ⟨al, rfl, xl, hl, ldl⟩ := slv_at (SlV.le iL h3.le) hj
    have n14 := ((((((nB.trans hN).trans m1).trans m2).trans m4).trans m5).trans (m6.trans m7)).trans h3
    obtain ⟨au, rfl, xu, hu, ldu⟩ := slv_at (SlV.le i7 n14.le) hj
    obtain ⟨ah, rfl, xh, hh, ldh⟩ := slv_at (SlV.le i6 n14.le) hj
    have q1 : xo = outI g rk hs j := by simp [outL, hj] at ho; exact ho.symm
    have q2 : xl = outI g rk hs j - us.getD j 0 := by simp [leftL, hj] at hl; simp; exact hl.symm
    have q3 : us.getD j 0 = xu := by simp [hu]
    have q4 : hs.getD j 0 = xh := by simp [hh]
    have bd := out_bd hv hP hT hbus
    rw [q3, q4, ← q1] at bd
    rw [q3, ← q1] at q2
    exact lTruth_s2f LD ldb ldo LD ldu LD ldh ldl ⟨k - 1, by omega, j + 1, by omega, by omega, h3⟩
  by_cases h0 : j = 0
  · obtain ⟨rfl, hc⟩ : e1 = 0 ∧ z1 = costZ g rk := by
      rw [hbest h0] at hP ⊢
      rcases b4 with ⟨_, _, _, _, h⟩ | ⟨h1, h2, h3, _⟩
      · exact absurd hP (h _)
      · exact ⟨h1, h3⟩
    exact lTruth_s1k LD x1 (ldk m1) x2 x3 BS BS BS BS (ldk (New.refl _)) ⟨⟨LT, rfl⟩, ldk m1⟩ LD x4 (ldk ((m1.trans m2).trans m4)) x5 LD x6 x7 BS BS BS BS BS BS
        (belowL_cons (belowB_gar sg sg') (belowL_cons (belowB_sl sw) (belowL_cons (belowB_gar (slv_lt I7) (slv_lt I8)) belowL_nil))) ⟨⟨LT, rfl⟩, ldk (m1.trans m2)⟩ ⟨⟨LT, rfl⟩, ldk ((m1.trans m2).trans m4)⟩ GB GB GB LD
        loop2 (fun _ _ h => h.elim) (fun z hz => lTruth_t2x2a ⟨k - 1, by omega, j + 1, by omega, by omega, ((((((hN.trans m1).trans m2).trans m4).trans m5).trans m6).trans m7).trans hz⟩)
  · exact lTruth_s1s LD x1 (ldk m1) x2 x3 BS BS BS BS (ldk (New.refl _)) ⟨⟨LT, rfl⟩, ldk m1⟩ LD x4 (ldk ((m1.trans m2).trans m4)) x5 LD x6 x7 BS BS BS BS BS BS
        (belowL_cons (belowB_gar sg sg') (belowL_cons (belowB_sl sw) (belowL_cons (belowB_gar (slv_lt I7) (slv_lt I8)) belowL_nil))) ⟨⟨LT, rfl⟩, ldk (m1.trans m2)⟩ ⟨⟨LT, rfl⟩, ldk ((m1.trans m2).trans m4)⟩ GB GB GB LD
        loop2 (fun _ _ h => h.elim) (fun z hz => lTruth_t2x2a ⟨k - 1, by omega, j + 1, by omega, by omega, ((((((hN.trans m1).trans m2).trans m4).trans m5).trans m6).trans m7).trans hz⟩)
end
end Go.Proofs.Ythcdddbghldmiaa
