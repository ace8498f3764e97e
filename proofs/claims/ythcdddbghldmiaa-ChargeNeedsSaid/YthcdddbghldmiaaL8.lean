/- The walk of ChargeNeeds. -/
import Derived.Test.YthcdddbghldmiaaC8
import Derived.Test.YthcdddbghldmiaaPL8
namespace Go.Proofs.Ythcdddbghldmiaa
open Go Go.Lay
set_option linter.unusedVariables false
set_option linter.unusedSimpArgs false
set_option maxRecDepth 20000
section
variable {σ : St}
theorem lNeeds_loop {p q qn x2 x3 x8 x9 : Option Addr} {l c m d B y2 z2 y3 z3 y8 z8 y9 z9 dn : Nat} {n5 n12 n16 : Int} {g : Gar} {τ0 : St} (hs : SlV Try.prog τ0 52 9 q m (g.buses.map busV)) (hn : SlV Try.prog τ0 3 1 qn m ((g.buses.map needZ).map intV)) (hv : ∀ b ∈ g.buses, busB b = true) (hm : m ≤ 8) (o1 : Own τ0 B (garL p l c q m d) 2) :
    ∃ fr', LoopR Try.prog (topR Try.prog 17) none lNeeds_c1 (lNeeds_fr1 (p) (l) (c) (q) (m) (d) (B) (x2) (y2) (z2) (x3) (y3) (z3) (n5) (p) (l) (c) (q) (m) (d) (x8) (y8) (z8) (x9) (y9) (z9) (qn) (m) (dn) (n12) (p) (l) (c) (q) (m) (d) (n16) (q) (m) (d) (false) (0) (.tuple ⟨[]⟩) (.tuple ⟨[]⟩) (.tuple ⟨[]⟩) (.tuple ⟨[]⟩) (.tuple ⟨[]⟩) (.tuple ⟨[]⟩) (.tuple ⟨[]⟩) (.tuple ⟨[]⟩) (.tuple ⟨[]⟩) (.tuple ⟨[]⟩) (.tuple ⟨[]⟩) (.tuple ⟨[]⟩) (.tuple ⟨[]⟩) (.tuple ⟨[]⟩) (.tuple ⟨[]⟩) (.tuple ⟨[]⟩) (.tuple ⟨[]⟩)) τ0 (.exit 0) fr' τ0 ∧ (∃ (t2_1 : Bool) (i7_1 : Int) (g49_1 g50_1 g51_1 g52_1 g53_1 g54_1 g55_1 g56_1 g57_1 g58_1 g59_1 g60_1 g61_1 g62_1 g63_1 g64_1 g65_1 : Value), fr' = lNeeds_fr1 p l c q m d B x2 y2 z2 x3 y3 z3 n5 p l c q m d x8 y8 z8 x9 y9 z9 qn m dn n12 p l c q m d n16 q m d t2_1 i7_1 g49_1 g50_1 g51_1 g52_1 g53_1 g54_1 g55_1 g56_1 g57_1 g58_1 g59_1 g60_1 g61_1 g62_1 g63_1 g64_1 g65_1) := by
  obtain ⟨e, fr', σ', hloop, rfl, rfl, hq⟩ := loop_inv (P := Try.prog) (R := topR Try.prog 17) (rd := none) (c := lNeeds_c1)
    (Inv := fun k fr τ => τ = τ0 ∧ ∃ (t2_1 : Bool) (i7_1 : Int) (g49_1 g50_1 g51_1 g52_1 g53_1 g54_1 g55_1 g56_1 g57_1 g58_1 g59_1 g60_1 g61_1 g62_1 g63_1 g64_1 g65_1 : Value), fr = lNeeds_fr1 p l c q m d B x2 y2 z2 x3 y3 z3 n5 p l c q m d x8 y8 z8 x9 y9 z9 qn m dn n12 p l c q m d n16 q m d t2_1 i7_1 g49_1 g50_1 g51_1 g52_1 g53_1 g54_1 g55_1 g56_1 g57_1 g58_1 g59_1 g60_1 g61_1 g62_1 g63_1 g64_1 g65_1 ∧ ∃ i : Nat, i7_1 = i ∧ i + k = m)
    (Q := fun e fr τ => τ = τ0 ∧ e = .exit 0 ∧ (∃ (t2_1 : Bool) (i7_1 : Int) (g49_1 g50_1 g51_1 g52_1 g53_1 g54_1 g55_1 g56_1 g57_1 g58_1 g59_1 g60_1 g61_1 g62_1 g63_1 g64_1 g65_1 : Value), fr = lNeeds_fr1 p l c q m d B x2 y2 z2 x3 y3 z3 n5 p l c q m d x8 y8 z8 x9 y9 z9 qn m dn n12 p l c q m d n16 q m d t2_1 i7_1 g49_1 g50_1 g51_1 g52_1 g53_1 g54_1 g55_1 g56_1 g57_1 g58_1 g59_1 g60_1 g61_1 g62_1 g63_1 g64_1 g65_1))
    (fun k fr τ hi => by
      obtain ⟨rfl, t2_1, i7_1, g49_1, g50_1, g51_1, g52_1, g53_1, g54_1, g55_1, g56_1, g57_1, g58_1, g59_1, g60_1, g61_1, g62_1, g63_1, g64_1, g65_1, rfl, i, rfl, hk⟩ := hi
      cases k with
      | zero => exact .out (.exit 0) _ _ (by simp) ⟨0, fun N _ => ⟨_, lNeeds_b1c.mpr ⟨ltI_ff (by omega), rfl, rfl, rfl⟩⟩⟩ ⟨rfl, rfl, _, _, _, _, _, _, _, _, _, _, _, _, _, _, _, _, _, _, _, rfl⟩
      | succ k =>
        obtain ⟨a, rfl, b, hb, hld⟩ := slv_agg hs (i := i) (by omega)
        obtain ⟨a2, rfl, x, hx, hld2⟩ := slv_ints hn (i := i) (by omega)
        have hx : x = needZ b := by rw [List.getElem?_map, hb] at hx; simpa using hx.symm
        subst hx
        obtain ⟨N1, c1⟩ := rNeed_c (σ := τ) (hv b (List.mem_of_getElem? hb))
        exact .next _ _ k (by omega) ⟨N1, fun N hN => ⟨_, lNeeds_b1bp (slv_lt hn a2 rfl) o1.lt (slv_lt hs a rfl) (ltI_tt (by omega)) ⟨by omega, by omega⟩ hld2 (o1.rw.ld agg23 (k := 1) rfl) ⟨by omega, by omega⟩ hld (c1 N hN) (neqI_ff rfl) (wrap64 (n := (i : Int) + 1) (by omega) (by omega)) ⟨rfl, rfl, rfl⟩⟩⟩ ⟨rfl, _, _, _, _, _, _, _, _, _, _, _, _, _, _, _, _, _, _, _, rfl, i + 1, by omega, by omega⟩)
    m _ τ0 ⟨rfl, _, _, _, _, _, _, _, _, _, _, _, _, _, _, _, _, _, _, _, rfl, 0, rfl, by omega⟩
  exact ⟨fr', hloop, hq⟩
theorem lNeeds_top {p q : Option Addr} {l c m d : Nat} {g : Gar} (h : RefP σ p l q m g) : ∃ N an, wpFnR Try.prog (topR Try.prog 17 N) N 8 [.agg ⟨garL p l c q m d⟩] an σ fun v _ => v = .bool true := by
  have own1 : Own (σ.row (garL p l c q m d) 2) σ.next (garL p l c q m d) 2 := own_new σ (garL p l c q m d) 2
  obtain ⟨N1, c1⟩ := thin_c (σ := σ.row (garL p l c q m d) 2) (p := p) (l := l) (c := c) (q := q) (m := m) (d := d)
  cases ht : decide (l ≤ 15) && decide (m ≤ 8) with
  | false =>
    rw [ht] at c1
    exact ⟨N1, _, lNeeds_w8p (c1 N1 (Nat.le_refl _)) rfl⟩
  | true =>
  rw [ht] at c1
  simp only [Bool.and_eq_true, decide_eq_true_eq] at ht
  obtain ⟨x2, z2, x3, z3, s4, ⟨N2, c2⟩, n4, g4⟩ := garage_c (σ := σ.row (garL p l c q m d) 2) (c := c) (d := d) (h.le (Le.row _ _ _)) (by omega) (by omega)
  obtain ⟨N3, c3⟩ := checkGarage_c (σ := s4) (c := z2) (d := z3) g4
  have own4 := own1.le n4.le
  obtain ⟨x8, z8, x9, z9, s10, ⟨N4, c4⟩, n10, g10⟩ := garage_c (σ := s4) (c := c) (d := d) ((h.le (Le.row _ _ _)).le n4.le) (by omega) (by omega)
  have own10 := own4.le n10.le
  by_cases hz : checkZ g = 0
  · obtain ⟨qn, dn, s13, ⟨N5, c5⟩, n13, g13⟩ := needs_good (c := z8) (d := z9) g10 hz
    have own13 := own10.le n13.le
    have h13 : RefP s13 p l q m g := (((h.le (Le.row _ _ _)).le n4.le).le n10.le).le n13.le
    obtain ⟨N6, c6⟩ := fault_c (σ := s13) (c := c) (d := d) h13
    rw [hz] at c3 c6
    obtain ⟨fr', ⟨N7, lp⟩, t2_1, i7_1, g49_1, g50_1, g51_1, g52_1, g53_1, g54_1, g55_1, g56_1, g57_1, g58_1, g59_1, g60_1, g61_1, g62_1, g63_1, g64_1, g65_1, rfl⟩ := lNeeds_loop (p := p) (l := l) (c := c) (d := d) (x2 := x2) (x3 := x3) (x8 := x8) (x9 := x9) (y2 := l) (z2 := z2) (y3 := m) (z3 := z3) (y8 := l) (z8 := z8) (y9 := m) (z9 := z9) (dn := dn) (n5 := 0) (n12 := 0) (n16 := 0) h13.bu g13 (check_zero hz).2.2.2 (by omega) own13
    refine ⟨N1 + N2 + N3 + N4 + N5 + N6 + N7, _, lNeeds_w7p (c1 _ (by omega)) (c2 _ (by omega)) (c3 _ (by omega)) (own4.rw.ldN agg25 size25 (k := 0) rfl rfl (by simp)) (c4 _ (by omega)) (c5 _ (by omega)) (own13.rw.ldN agg25 size25 (k := 0) rfl rfl (by simp)) (c6 _ (by omega))
      (neqI_ff rfl) (neqI_ff rfl) (neqI_ff rfl) (own13.rw.ld agg23 (k := 1) rfl) (neqI_ff rfl) (lp _ _ (by omega) (by omega)) rfl⟩
  · obtain ⟨N5, c5⟩ := needs_bad (c := z8) (d := z9) g10 hz
    have h10 : RefP s10 p l q m g := ((h.le (Le.row _ _ _)).le n4.le).le n10.le
    obtain ⟨N6, c6⟩ := fault_c (σ := s10) (c := c) (d := d) h10
    exact ⟨N1 + N2 + N3 + N4 + N5 + N6, _, lNeeds_w1p (c1 _ (by omega)) (c2 _ (by omega)) (c3 _ (by omega)) (own4.rw.ldN agg25 size25 (k := 0) rfl rfl (by simp)) (c4 _ (by omega)) (c5 _ (by omega)) (own10.rw.ldN agg25 size25 (k := 0) rfl rfl (by simp)) (c6 _ (by omega))
      (neqI_ff rfl) (neqI_tt hz) (eqI_tt rfl) (eqI_tt rfl) rfl⟩
end
end Go.Proofs.Ythcdddbghldmiaa
