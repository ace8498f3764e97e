
import Derived.Test.YthcdddbghldmiaaEH
import Derived.Test.YthcdddbghldmiaaCO
import Derived.Test.YthcdddbghldmiaaCD
import Derived.Test.YthcdddbghldmiaaXU
namespace Go.Proofs.Ythcdddbghldmiaa
open Go Go.Lay
set_option linter.unusedVariables false
set_option linter.unusedSimpArgs false
set_option maxRecDepth 20000
section
variable {σ : St} {g : Gar} {p q : Option Addr} {l c m d : Nat}
theorem least_good {W : Wk} {r : Int} (hv : Valid g) (hG : Good g W) (hn : ∀ i, i < g.nb → sumN g.ns (cell W.plan i) = needI g i) (h : IsLeast (ChR g g.ns (ndL g)) r) : r = costZ g W.plan ∧ 0 ≤ r := by
 have hP := hG.feas.plan hn
 have h1 := exact_ch hv hP hn
 rcases h with ⟨_, h⟩ | ⟨h2, h3, h4⟩
 ·exact absurd h1 (h _)
 ·obtain ⟨rs, h5, h6⟩ := ch_exact hv h3
  obtain ⟨π, hp, _⟩ := hG.pot
  have h7 := best_least hv hG.feas hp hn h5
  have := h4 _ h1
  exact ⟨by omega, h2⟩
theorem least_lack {r : Int} (hv : Valid g) (hP : ∃ P, 0 < lackF g P) (h : IsLeast (ChR g g.ns (ndL g)) r) : r = -1 := by
 rcases h with ⟨h, _⟩ | ⟨_, h, _⟩
 ·exact h
 ·obtain ⟨rs, h5, _⟩ := ch_exact hv h
  obtain ⟨P, hP⟩ := hP
  have := plan_lack h5 P; omega
theorem rig_nd : rigidB RD (.agg ⟨iL (ndL g)⟩) = true := by
 show rigidB RD (.agg ⟨iL [needI g 0, needI g 1, needI g 2, needI g 3, needI g 4]⟩) = true
 rfl
theorem Valid.chk (hv : Valid g) : checkZ g = 0 := by
 unfold checkZ
 rw [if_neg (by have h1 : g.slots.length ≤ 12 := hv.ns; have h2 : g.buses.length ≤ 5 := hv.nb; omega), if_pos]
 simp only [Bool.and_eq_true, List.all_eq_true]
 exact ⟨hv.slot, hv.bus⟩
theorem lBests_top (hR : RefP σ p l q m g) : TopQ Try.prog 17 3 [.agg ⟨garL p l c q m d⟩] σ fun v _ => v = .bool true := by
 have hl1 : g.ns = l := hR.len1; have hl2 : g.nb = m := hR.len2
 subst hl1 hl2
 obtain ⟨τ, hτ⟩ : ∃ τ, τ = σ.row (garL p g.ns c q g.nb d) 2 := ⟨_, rfl⟩
 have N1 : New σ τ := by rw [hτ]; exact New.row _ _ _
 have o1 : Own τ σ.next (garL p g.ns c q g.nb d) 2 := by rw [hτ]; exact own_new σ _ _
 have R1 := hR.le N1.le
 obtain ⟨b, c1, hb⟩ := few_c (c := c) (d := d) R1
 cases b with
 | false => rw [hτ] at c1; exact lBests_rn c1 rfl
 | true =>
 have ht := hb rfl
 obtain ⟨p3, c3, q3, d3, σ4, k3, n3, g3⟩ := garage_c (c := c) (d := d) R1 (by omega) (by omega)
 obtain ⟨pb, lb, cb, σ8, z, e, k8, n8, b8⟩ := Best_c (c := c3) (d := d3) g3
 have M8 := n3.trans n8
 have R8 := R1.le M8.le
 have o8 := o1.le M8.le
 have ld8 := o8.ldN (P := Try.prog) agg25 size25 (k := 0) (ds := garL p g.ns c q g.nb d) rfl rfl (by simp)
 have kF := fault_c (c := c) (d := d) R8
 rw [hτ] at c1 k3
 by_cases hz : checkZ g = 0
 rotate_left
 ·obtain ⟨rfl, rfl, rfl⟩ : lb = 0 ∧ z = 0 ∧ e = checkZ g := by
   rcases b8 with ⟨_, _, h2, _, h3, h4⟩ | ⟨hv, _⟩ | ⟨hv, _⟩
   ·exact ⟨h2, h3, h4⟩
   ·exact absurd hv.chk hz
   ·exact absurd hv.chk hz
  exact lBests_rj c1 k3 k8 ld8 kF rfl
 have hv := valid_of hz
 rw [hz] at kF
 have kN := rNeeds_c (c := c) (d := d) R8 hv
 obtain ⟨r, y, k9, n9, hr⟩ := cheapest_c (c := c) (d := d) R8 hv
 have lt8 := o8.lt
 have ma : ∀ a, p = some a → a.block < σ8.next := R8.lt1
 have mb : ∀ a, q = some a → a.block < σ8.next := R8.lt2
 have nx : (σ8.add (.map [])).next = σ8.next + 1 := by simp
 have bl1 : belowL σ8.next [.pointer (some ⟨σ.next, 0, none⟩)] := belowL_cons (belowB_ptr lt8) belowL_nil
 have bl2 : belowL σ8.next [.agg ⟨garL p g.ns c q g.nb d⟩] := belowL_cons (belowB_gar ma mb) belowL_nil
 have bl3 : belowL (σ8.add (.map [])).next [.agg ⟨garL p g.ns c q g.nb d⟩, iV 0, .agg ⟨iL (ndL g)⟩, .map (some σ8.next)] := by
  rw [nx]
  exact belowL_cons (belowB_gar (fun a e => by have := ma a e; omega) (fun a e => by have := mb a e; omega)) (belowL_cons (belowB_rig rfl) (belowL_cons (belowB_rig rig_nd) (belowL_cons (belowB_map (by omega)) belowL_nil)))
 have o8' := o8.add (y := .map [])
 have lt8' := o8'.lt
 have ld8' := o8'.ldN (P := Try.prog) agg25 size25 (k := 0) (ds := garL p g.ns c q g.nb d) rfl rfl (by simp)
 rcases b8 with ⟨h, _⟩ | ⟨_, _, rfl, _, rfl, rfl, hP⟩ | ⟨_, rfl, W, hG, hn, hrows, hcost⟩
 ·exact absurd hz h
 ·have := least_lack hv hP hr
  exact lBests_ra c1 k3 k8 ld8 kF kN k9 bl1 bl2 bl3 ⟨⟨lt8, rfl⟩, ld8⟩ ⟨⟨lt8', rfl⟩, ld8'⟩ rfl
 ·obtain ⟨h1, h2⟩ := least_good hv hG hn hr
  have hP := hG.feas.plan hn
  have o9 := o8.le n9.le
  have ld9 := o9.ldN (P := Try.prog) agg25 size25 (k := 0) (ds := garL p g.ns c q g.nb d) rfl rfl (by simp)
  have R9 := R8.le n9.le
  have rows9 := hrows.le n9.le
  obtain ⟨b, kP, hb⟩ := rIsPlan_c (c := c) (d := d) (cp := cb) R9 rows9 hv
  rw [hb.2 hP] at kP
  have kC := rCost_c (c := c) (d := d) (cp := cb) R9 rows9 hv hP
  exact lBests_re c1 k3 k8 ld8 kF kN k9 bl1 bl2 bl3 ⟨⟨lt8, rfl⟩, ld8⟩ ⟨⟨lt8', rfl⟩, ld8'⟩ ld9 kP kC rfl
end
end Go.Proofs.Ythcdddbghldmiaa
