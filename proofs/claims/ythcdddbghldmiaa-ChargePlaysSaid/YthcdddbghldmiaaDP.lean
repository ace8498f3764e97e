
import Derived.Test.YthcdddbghldmiaaCX
import Derived.Test.YthcdddbghldmiaaCD2
import Derived.Test.YthcdddbghldmiaaDC
import Derived.Test.YthcdddbghldmiaaXP
namespace Go.Proofs.Ythcdddbghldmiaa
open Go Go.Lay
set_option linter.unusedVariables false
set_option linter.unusedSimpArgs false
set_option maxRecDepth 20000
section
variable {σ τ : St} {g : Gar} {p q pp ph pu : Option Addr} {l c m d lp cp lh ch lu cu : Nat} {rs : List (List Int)} {ws hs us : List Int}
theorem lPlays_top (hR : RefP σ p l q m g) (hr : RowsP σ pp lp rs) (hh : IntsP σ ph lh hs) (hu : IntsP σ pu lu us) :
  TopQ Try.prog 17 9 [.agg ⟨garL p l c q m d⟩, .slice pp lp cp, .agg ⟨[.slice ph lh ch, .slice pu lu cu]⟩] σ fun v _ => v = .bool true := by
 have hl1 : g.ns = l := hR.len1; have hl2 : g.nb = m := hR.len2
 subst hl1 hl2
 obtain ⟨τ, hτ⟩ : ∃ τ, τ = (σ.row (garL p g.ns c q g.nb d) 2).row [.slice ph lh ch, .slice pu lu cu] 2 := ⟨_, rfl⟩
 have N1 : New σ τ := by rw [hτ]; exact (New.row _ _ _).row'
 have o1 : Own τ σ.next (garL p g.ns c q g.nb d) 2 := by rw [hτ]; exact (own_new _ _ _).row
 have o2 : Own τ (σ.next + 1) [.slice ph lh ch, .slice pu lu cu] 2 := by rw [hτ]; exact own_new (σ.row _ _) _ _
 have R1 := hR.le N1.le
 have c1 := thin_c (σ := τ) (p := p) (l := g.ns) (c := c) (q := q) (m := g.nb) (d := d)
 cases ht : (decide (g.ns ≤ 15) && decide (g.nb ≤ 8)) with
 | false => rw [ht, hτ] at c1; exact lPlays_rz26 c1 rfl
 | true =>
 rw [ht] at c1
 simp only [Bool.and_eq_true, decide_eq_true_eq] at ht
 rcases short_cases (c := cp) (hr.le N1.le) with cs | ⟨hlp, hrr, cs⟩
 ·rw [hτ] at c1 cs; exact lPlays_rz c1 cs rfl
 by_cases h10 : 10 < lh
 ·rw [hτ] at c1 cs; exact lPlays_ra c1 cs rfl
 by_cases h10' : 10 < lu
 ·rw [hτ] at c1 cs; exact lPlays_rb c1 cs rfl
 have hrb : ∀ r ∈ rs, r.length ≤ 1073741824 := fun r h => by have := hrr r h; omega
 obtain ⟨p3, c3, q3, d3, σ5, k3, n3, g3⟩ := garage_c (c := c) (d := d) R1 (by omega) (by omega)
 obtain ⟨p4, c4, σ7, k4, n4, r4⟩ := rows_c (c := cp) (hr.le (N1.trans n3).le) (by omega) hrb
 obtain ⟨z, e, k5, b5⟩ := cost_c (c := c3) (d := d3) (cp := c4) (g3.le n4.le) r4
 have M7 := n3.trans n4
 obtain ⟨p7, c7, q7, d7, σ14, k7, n7, g7⟩ := garage_c (c := c) (d := d) (R1.le M7.le) (by omega) (by omega)
 have M14 := M7.trans n7
 obtain ⟨p8, c8, σ16, k8, n8, r8⟩ := rows_c (c := cp) (hr.le (N1.trans M14).le) (by omega) hrb
 have M16 := M14.trans n8
 obtain ⟨p9, c9, p10, c10, σ21, k9, n9, i9, i10⟩ := truth_c (ch := ch) (cu := cu) (SlV.le hh (N1.trans M16).le) (SlV.le hu (N1.trans M16).le) (by omega) (by omega)
 obtain ⟨p11, l11, c11, p12, l12, c12, zz, ee, σ26, k10, n10, b10⟩ := play_c (c := c7) (d := d7) (cp := c8) (ch := c9) (cu := c10) (g7.le (n8.trans n9).le) (r8.le n9.le) i9 i10
 have M26 := (M16.trans n9).trans n10
 have R26 := R1.le M26.le
 have kF := fault_c (c := c) (d := d) R26
 have o7 := o1.le M7.le
 have o27 := o2.le M7.le
 have o214 := o2.le M14.le
 have o216 := o2.le M16.le
 have o26 := o1.le M26.le
 have o226 := o2.le M26.le
 have t3 := n3.nx; have t4 := n4.nx; have t7 := n7.nx; have t8 := n8.nx; have t9 := n9.nx; have t10 := n10.nx
 have u2 := o2.lt
 have tN := N1.nx
 have s1 : ∀ a, p = some a → a.block < σ7.next := fun a e => by have := R1.lta a e; omega
 have s2 : ∀ a, q = some a → a.block < σ7.next := fun a e => by have := R1.ltb a e; omega
 have s3 : ∀ a, pp = some a → a.block < σ14.next := fun a e => by have := hr.lt a e; omega
 have s4 : ∀ a, ph = some a → a.block < σ16.next := fun a e => by have := slv_lt hh a e; omega
 have s5 : ∀ a, pu = some a → a.block < σ16.next := fun a e => by have := slv_lt hu a e; omega
 have s6 : ∀ a, p7 = some a → a.block < σ21.next := fun a e => by have := g7.lta a e; omega
 have s7 : ∀ a, q7 = some a → a.block < σ21.next := fun a e => by have := g7.ltb a e; omega
 have s8 : ∀ a, p8 = some a → a.block < σ21.next := fun a e => by have := r8.lt a e; omega
 have bl : belowL σ21.next [.agg ⟨[.slice p7 g.ns c7, .slice q7 g.nb d7]⟩, .slice p8 lp c8, .agg ⟨[.slice p9 lh c9, .slice p10 lu c10]⟩] := belowL_cons (belowB_gar s6 s7) (belowL_cons (belowB_sl s8) (belowL_cons (belowB_gar (slv_lt i9) (slv_lt i10)) belowL_nil))
 by_cases hz : checkZ g = 0
 rotate_left
 ·obtain ⟨rfl, rfl⟩ : z = 0 ∧ e = checkZ g := by
   rcases b5 with ⟨_, h1, h2⟩ | ⟨h, _⟩ | ⟨h, _⟩
   ·exact ⟨h1, h2⟩
   ·exact absurd h.check hz
   ·exact absurd h.check hz
  obtain ⟨rfl, rfl, rfl, rfl⟩ : l11 = 0 ∧ l12 = 0 ∧ zz = 0 ∧ ee = checkZ g := by
   rcases b10 with ⟨_, _, h1, _, _, h2, _, h3, h4⟩ | ⟨h, _⟩ | ⟨h, _⟩
   ·exact ⟨h1, h2, h3, h4⟩
   ·exact absurd h.check hz
   ·exact absurd h.check hz
  rw [hτ] at c1 cs k3
  exact lPlays_rv c1 cs k3 k4 k5 LD k7 k8 LD k9 k10 BS BS BS BS BS bl GB GB GB LD kF rfl
 have hv := valid_of hz
 rw [hz] at kF
 obtain ⟨b, kP, hb⟩ := rIsPlan_c (c := c) (d := d) (cp := cp) R26 (hr.le (N1.trans M26).le) hv
 cases b with
 | false =>
  have hP : ¬ PlanOK g rs := fun h => by have := hb.2 h; cases this
  obtain ⟨rfl, rfl⟩ : z = 0 ∧ e = 2 := by
   rcases b5 with ⟨h, _⟩ | ⟨_, _, h1, h2⟩ | ⟨_, h, _⟩
   ·exact absurd hz h
   ·exact ⟨h1, h2⟩
   ·exact absurd h hP
  obtain ⟨rfl, rfl, rfl, rfl⟩ : l11 = 0 ∧ l12 = 0 ∧ zz = 0 ∧ ee = 2 := by
   rcases b10 with ⟨h, _⟩ | ⟨_, _, _, h1, _, _, h2, _, h3, h4⟩ | ⟨_, h, _⟩
   ·exact absurd hz h
   ·exact ⟨h1, h2, h3, h4⟩
   ·exact absurd h hP
  rw [hτ] at c1 cs k3
  exact lPlays_rp c1 cs k3 k4 k5 LD k7 k8 LD k9 k10 BS BS BS BS BS bl GB GB GB LD kF kP rfl
 | true =>
 have hP := hb.1 rfl
 obtain ⟨rfl, rfl⟩ : z = costZ g rs ∧ e = 0 := by
  rcases b5 with ⟨h, _⟩ | ⟨_, h, _⟩ | ⟨_, _, h1, h2⟩
  ·exact absurd hz h
  ·exact absurd hP h
  ·exact ⟨h1, h2⟩
 have kC := rCost_c (c := c) (d := d) (cp := cp) R26 (hr.le (N1.trans M26).le) hv hP
 obtain ⟨b, kT, hbt⟩ := rFits_c (c := c) (d := d) (ch := ch) (cu := cu) R26 (by omega) (SlV.le hh (N1.trans M26).le) (SlV.le hu (N1.trans M26).le)
 cases b with
 | false =>
  have hT : ¬ TruthOK g hs us := fun h => by have := hbt.2 h; cases this
  obtain ⟨rfl, rfl, rfl, rfl⟩ : l11 = 0 ∧ l12 = 0 ∧ zz = 0 ∧ ee = 2 := by
   rcases b10 with ⟨h, _⟩ | ⟨_, _, _, h1, _, _, h2, _, h3, h4⟩ | ⟨_, _, h, _⟩
   ·exact absurd hz h
   ·exact ⟨h1, h2, h3, h4⟩
   ·exact absurd h hT
  rw [hτ] at c1 cs k3
  exact lPlays_rj c1 cs k3 k4 k5 LD k7 k8 LD k9 k10 BS BS BS BS BS bl GB GB GB LD kF kP kC LD kT rfl
 | true =>
 have hT := hbt.1 rfl
 obtain ⟨rfl, rfl, iO, iL⟩ : zz = paidZ g rs hs ∧ ee = 0 ∧ IntsP σ26 p11 l11 (outL g rs hs g.nb) ∧ IntsP σ26 p12 l12 (leftL g rs hs us g.nb) := by
  rcases b10 with ⟨h, _⟩ | ⟨_, h, _⟩ | ⟨_, _, _, h1, h2, h3, h4⟩
  ·exact absurd hz h
  ·exact absurd ⟨hP, hT⟩ h
  ·exact ⟨h2, h1, h3, h4⟩
 have e11 : l11 = g.nb := by rw [← iO.len]; simp [outL]
 have e12 : l12 = g.nb := by rw [← iL.len]; simp [leftL]
 have elh : lh = g.nb := by rw [← hh.len]; exact hT.1
 have elu : lu = g.nb := by rw [← hu.len]; exact hT.2.1
 subst e11 e12 elh elu
 obtain ⟨p13, c13, p14, c14, σ38, kR, nR, iR1, iR2⟩ := rPlay_c (c := c) (d := d) (cp := cp) (ch := ch) (cu := cu) R26 hv (hr.le (N1.trans M26).le) hP (SlV.le hh (N1.trans M26).le) (SlV.le hu (N1.trans M26).le) hT
 have x1 := ints_c (c := c11) (d := c13) (SlV.le iO nR.le) iR1 (by omega)
 have x2 := ints_c (c := c12) (d := c14) (SlV.le iL nR.le) iR2 (by omega)
 rw [decide_eq_true rfl] at x1 x2
 rw [hτ] at c1 cs k3
 exact lPlays_re c1 cs k3 k4 k5 LD k7 k8 LD k9 k10 BS BS BS BS BS bl GB GB GB LD kF kP kC LD kT kR x1 x2 rfl
end
end Go.Proofs.Ythcdddbghldmiaa
