
import Derived.Test.YthcdddbghldmiaaEB
import Derived.Test.YthcdddbghldmiaaXR
namespace Go.Proofs.Ythcdddbghldmiaa
open Go Go.Lay
set_option linter.unusedVariables false
set_option linter.unusedSimpArgs false
set_option maxRecDepth 20000
section
variable {σ : St} {g : Gar} {p q : Option Addr} {l c m d : Nat}
theorem lLacks_top (hR : RefP σ p l q m g) : TopQ Try.prog 17 13 [.agg ⟨garL p l c q m d⟩] σ fun v _ => v = .bool true := by
 have hl1 : g.ns = l := hR.len1; have hl2 : g.nb = m := hR.len2
 subst hl1 hl2
 obtain ⟨τ, hτ⟩ : ∃ τ, τ = σ.row (garL p g.ns c q g.nb d) 2 := ⟨_, rfl⟩
 have N1 : New σ τ := by rw [hτ]; exact New.row _ _ _
 have o1 : Own τ σ.next (garL p g.ns c q g.nb d) 2 := by rw [hτ]; exact own_new σ _ _
 have R1 := hR.le N1.le
 have c1 := thin_c (σ := τ) (p := p) (l := g.ns) (c := c) (q := q) (m := g.nb) (d := d)
 cases ht : (decide (g.ns ≤ 15) && decide (g.nb ≤ 8)) with
 | false => rw [ht, hτ] at c1; exact lLacks_rn c1 rfl
 | true =>
 rw [ht] at c1
 simp only [Bool.and_eq_true, decide_eq_true_eq] at ht
 obtain ⟨p3, c3, q3, d3, σ4, k3, n3, g3⟩ := garage_c (c := c) (d := d) R1 (by omega) (by omega)
 obtain ⟨pl, ll, cl, n, e, σ8, k8, n8, b8⟩ := Lack_c (c := c3) (d := d3) g3
 have M8 := n3.trans n8
 have R8 := R1.le M8.le
 have o8 := o1.le M8.le
 have ld := o8.ldN (P := Try.prog) agg25 size25 (k := 0) (ds := garL p g.ns c q g.nb d) rfl rfl (by simp)
 have kF := fault_c (c := c) (d := d) R8
 rw [hτ] at c1 k3
 rcases b8 with ⟨hz, rfl, rfl, rfl, rfl⟩ | ⟨hv, hM, rfl, rfl, rfl, rfl⟩ | ⟨hv, hM, hn, rfl, l, h1, h2, h3⟩
 ·exact lLacks_rj c1 k3 k8 ld kF rfl
 ·have hz : checkZ g = 0 := by
   unfold checkZ
   rw [if_neg (by have h1 : g.slots.length ≤ 12 := hv.ns; have h2 : g.buses.length ≤ 5 := hv.nb; omega), if_pos]
   simp only [Bool.and_eq_true, List.all_eq_true]
   exact ⟨hv.slot, hv.bus⟩
  rw [hz] at kF
  have kM := rMost_c (c := c) (d := d) R8 hv
  rw [(mostTo_is hv).uniq hM] at kM
  exact lLacks_ra c1 k3 k8 ld kF kM rfl
 ·have hz : checkZ g = 0 := by
   unfold checkZ
   rw [if_neg (by have h1 : g.slots.length ≤ 12 := hv.ns; have h2 : g.buses.length ≤ 5 := hv.nb; omega), if_pos]
   simp only [Bool.and_eq_true, List.all_eq_true]
   exact ⟨hv.slot, hv.bus⟩
  rw [hz] at kF
  have kM := rMost_c (c := c) (d := d) R8 hv
  rw [(mostTo_is hv).uniq hM] at kM
  have kR := rRising_c (p := p) (q := q) (c := c) (d := d) (cb := cl) (by have := hv.nb; omega) h3 h1
  have kL := rLack_c (c := c) (d := d) (cb := cl) R8 hv h3 h1
  rw [h2] at kL
  exact lLacks_re c1 k3 k8 ld kF kM kR kL rfl
end
end Go.Proofs.Ythcdddbghldmiaa
