
import Derived.Test.YthcdddbghldmiaaCW
import Derived.Test.YthcdddbghldmiaaDC
import Derived.Test.YthcdddbghldmiaaDA
import Derived.Test.YthcdddbghldmiaaXL
namespace Go.Proofs.Ythcdddbghldmiaa
open Go Go.Lay
set_option linter.unusedVariables false
set_option linter.unusedSimpArgs false
set_option maxRecDepth 20000
set_option maxHeartbeats 1000000
theorem appT_bus : AppT Try.prog 23 23 52 9 := appT_of (by kernel_rfl)
theorem cells_bus (bs : List Bus) : (flat (bs.map busV)).all cellB = true := by
 rw [List.all_eq_true]
 intro v hv
 simp only [flat, List.mem_flatMap, List.mem_map] at hv
 obtain ⟨_, ⟨b, _, rfl⟩, hv⟩ := hv
 simp [Value.cells] at hv
 rcases hv with rfl | rfl | rfl | rfl | rfl | rfl | rfl | rfl | rfl <;> rfl
section
variable {σ τ : St} {g : Gar} {p q : Option Addr} {l c m d : Nat} {i : Int}
theorem Valid.buses {g : Gar} {bs : List Bus} (hv : Valid g) (hl : bs.length ≤ 5) (hb : ∀ b ∈ bs, busB b = true) : Valid ⟨g.slots, bs⟩ := ⟨hv.ns, hl, hv.slot, hb⟩
theorem lLess_top (hR : RefP σ p l q m g) (hX : ArgS σ 2 p l c ∧ ArgS σ 9 q m d) (hi : 0 ≤ i ∧ i ≤ 255) : TopQ Try.prog 17 5 [.agg ⟨garL p l c q m d⟩, .int .u8 i] σ fun v _ => v = .bool true := by
 have hl1 : g.ns = l := hR.len1; have hl2 : g.nb = m := hR.len2
 subst hl1 hl2
 have N1 : New σ (σ.row (garL p g.ns c q g.nb d) 2) := New.row _ _ _
 have R1 := hR.le N1.le
 have cr := ready_c (c := c) (d := d) R1
 cases hrd : (decide (g.ns ≤ 15) && decide (g.nb ≤ 8) && decide (checkZ g = 0)) with
 | false => rw [hrd] at cr; exact lLess_ri cr rfl
 | true =>
 rw [hrd] at cr
 simp only [Bool.and_eq_true, decide_eq_true_eq] at hrd
 have hz := hrd.2
 have hv := valid_of hz
 have hns := hv.ns; have hnb := hv.nb
 by_cases h0 : g.nb = 0
 ·exact lLess_ra cr rfl
 obtain ⟨a, rfl⟩ : ∃ a : Nat, i = a := ⟨i.toNat, by omega⟩
 obtain ⟨k, hk⟩ : ∃ k, k = a % g.nb := ⟨_, rfl⟩
 have hkn : k < g.nb := by rw [hk]; exact Nat.mod_lt _ (by omega)
 have hr : binA Try.prog .rem 3 (.tmp 24) (.tmp 27) (iV (a : Int)) (iV (g.nb : Int)) = some (iV (k : Int)) := by
  rw [rem_eq (by omega), Int.tmod_eq_emod_of_nonneg (by omega), hk]; rfl
 obtain ⟨τ2, hτ2⟩ : ∃ τ2, τ2 = ((σ.row (garL p g.ns c q g.nb d) 2).row [.slice none 0 0, .slice none 0 0] 2).own (σ.next + 1) (garL p g.ns c q g.nb d) 2 := ⟨_, rfl⟩
 obtain ⟨τ3, hτ3⟩ : ∃ τ3, τ3 = τ2.row [] 9 := ⟨_, rfl⟩
 have N2 : New σ τ2 := by rw [hτ2]; exact (N1.row').own (by omega)
 have N3 : New σ τ3 := by rw [hτ3]; exact N2.row'
 have nx2 : τ2.next = σ.next + 2 := by rw [hτ2]; rfl
 have nx3 : τ3.next = σ.next + 3 := by rw [hτ3, St.row_next, nx2]
 have o1 : Own τ2 σ.next (garL p g.ns c q g.nb d) 2 := by rw [hτ2]; exact (own_new _ _ _).row.own (by omega)
 have o2 : Own τ2 (σ.next + 1) (garL p g.ns c q g.nb d) 2 := by rw [hτ2]; exact Own.cp (σ.row (garL p g.ns c q g.nb d) 2) _ _ _
 have o3 : Own τ3 (σ.next + 2) [] 9 := by rw [hτ3, ← nx2]; exact own_new _ _ _
 have o13 : Own τ3 σ.next (garL p g.ns c q g.nb d) 2 := by rw [hτ3]; exact o1.row
 have o23 : Own τ3 (σ.next + 1) (garL p g.ns c q g.nb d) 2 := by rw [hτ3]; exact o2.row
 have part1 : ∀ {z}, Le σ z → sliceA Try.prog z 23 (.slice q g.nb d) none (some (iV (k : Int))) none = some (.slice (partP q 9 0 d) (k - 0) (d - 0)) ∧ SlV Try.prog z 52 9 (partP q 9 0 d) (k - 0) (((g.buses.map busV).drop 0).take (k - 0)) ∧ ∀ a, partP q 9 0 d = some a → a.block < z.next := fun h =>
  (hX.2.le h).part (hR.le h).bu Try.underlying23 size52 rfl (bound_some rfl (by rcases hX.2 with ⟨_, h, _⟩ | ⟨_, _, _, _, _, h, _⟩ <;> omega)) (by omega) (by omega)
 have part2 : ∀ {z}, Le σ z → sliceA Try.prog z 23 (.slice q g.nb d) (some (iV ((k : Int) + 1))) none none = some (.slice (partP q 9 (k + 1) d) (g.nb - (k + 1)) (d - (k + 1))) ∧ SlV Try.prog z 52 9 (partP q 9 (k + 1) d) (g.nb - (k + 1)) (((g.buses.map busV).drop (k + 1)).take (g.nb - (k + 1))) ∧ ∀ a, partP q 9 (k + 1) d = some a → a.block < z.next := fun h =>
  (hX.2.le h).part (hR.le h).bu Try.underlying23 size52 (bound_some rfl (by omega)) rfl (by omega) (by omega)
 have e1 : ((g.buses.map busV).drop 0).take (k - 0) = (g.buses.take k).map busV := by simp [List.map_take]
 have e2 : ((g.buses.map busV).drop (k + 1)).take (g.nb - (k + 1)) = (g.buses.drop (k + 1)).map busV := by
  rw [← List.map_drop, List.take_of_length_le]
  simp only [List.length_map, List.length_drop]; exact Nat.le_refl _
 obtain ⟨p5, c5, σ4, a1, a2, a3, a4⟩ := Ap.append (k := d - 0) (n0 := σ.next + 2) (c := 0) appT_bus (.inr ⟨_, rfl, rfl, rfl, rfl, o3, Nat.le_refl _⟩) (part1 N3.le).2.1.1 (by omega) (by rw [e1]; exact cells_bus _) (by omega)
 have w5 : ∀ b, AtP p5 b → σ.next + 2 ≤ b := fun b hb => by
  rcases a4 b hb with ⟨a, e, rfl⟩ | h
  ·cases e; exact Nat.le_refl _
  ·omega
 have N4 : New σ σ4 := N3.of_only a3 (by rintro b ⟨a, e, rfl⟩; cases e; show σ.next ≤ σ.next + 2; omega)
 have o14 := a3.own' o13 (by rintro ⟨a, e, h⟩; cases e; have h : σ.next + 2 = σ.next := h; omega)
 have o24 := a3.own' o23 (by rintro ⟨a, e, h⟩; cases e; have h : σ.next + 2 = σ.next + 1 := h; omega)
 have nx4 := a3.next
 obtain ⟨p8, c8, σ7, b1, b2, b3, b4⟩ := Ap.append (k := d - (k + 1)) appT_bus a2 (part2 N4.le).2.1.1 (by omega) (by rw [e2]; exact cells_bus _) (by omega)
 have nx7 := b3.next
 have N7 : New σ σ7 := N4.of_only b3 (fun b hb => by have := w5 b hb; omega)
 have o17 := b3.own' o14 (fun hb => by have := w5 _ hb; omega)
 have o27 := b3.own' o24 (fun hb => by have := w5 _ hb; omega)
 have w8 : ∀ a, p8 = some a → σ.next + 2 ≤ a.block ∧ a.block < σ7.next := b2.bd
 rw [e1, e2, List.nil_append, ← flat_append, ← List.map_append] at b2
 have eL : 0 + (k - 0) + (g.nb - (k + 1)) = (without g k).nb := by
  show _ = (g.buses.take k ++ g.buses.drop (k + 1)).length
  rw [List.length_append, List.length_take, List.length_drop, Nat.min_eq_left (by show k ≤ g.buses.length; have : g.nb = g.buses.length := rfl; omega)]; show _ = k + (g.nb - (k + 1)); omega
 rw [eL] at b1 b2
 obtain ⟨σ8, hσ8⟩ : ∃ σ8, σ8 = σ7.own (σ.next + 1) (garL p g.ns c p8 (without g k).nb c8) 2 := ⟨_, rfl⟩
 have k8 : Only (· = σ.next + 1) σ7 σ8 := by rw [hσ8]; exact Only.own (.inr rfl)
 have N8 : New σ σ8 := N7.of_only k8 (by rintro b rfl; omega)
 have o18 := k8.own' o17 (by omega)
 have o28 : Own σ8 (σ.next + 1) (garL p g.ns c p8 (without g k).nb c8) 2 := by rw [hσ8]; exact o27.put
 have bx : SlV Try.prog σ7 52 9 p8 (without g k).nb ((without g k).buses.map busV) := b2.slv (by rw [List.length_map]; rfl) (fun v hv => by obtain ⟨b, _, rfl⟩ := List.mem_map.1 hv; exact elOk_bus b)
 have Rx : RefP σ8 p (without g k).ns p8 (without g k).nb (without g k) := ⟨(hR.le N8.le).sl, k8.slv' bx (fun a e => by have := w8 a e; omega)⟩
 have hx5 : (without g k).nb ≤ 5 := by omega
 have hvx : Valid (without g k) := hv.buses hx5 (fun b hb => by
  rcases List.mem_append.1 hb with h | h
  ·exact hv.bus b (List.mem_of_mem_take h)
  ·exact hv.bus b (List.mem_of_mem_drop h))
 have hxn : (without g k).ns ≤ 12 := hvx.ns
 obtain ⟨p9, c9, q9, d9, σ11, x1, m1, G1⟩ := garage_c (c := c) (d := d) (hR.le N8.le) (by omega) (by omega)
 obtain ⟨pl, ll, cl, σ15, z1, r1, rb, x2, m2, _, _, _, B1⟩ := best_v (c := c9) (d := d9) G1 hz
 obtain ⟨p10, c10, q10, d10, σ20, x3, m3, G2⟩ := garage_c (c := c) (d := c8) (Rx.le (m1.trans m2).le) (by omega) (by omega)
 obtain ⟨pl', ll', cl', σ24, z2, r2, rb', x4, m4, _, _, _, B2⟩ := best_v (c := c10) (d := d10) G2 hvx.check
 have o215 := o28.le (m1.trans m2).le
 have st := ST (t := 23) (v := .slice p8 (without g k).nb c8) (k := 1) o27 (hτ := hσ8)
 have lq : ∀ a, q = some a → a.block < σ.next := RefP.ltb hR
 have lq2 : ∀ a, q = some a → a.block < τ2.next := fun a e => by have := lq a e; omega
 have lq3 : ∀ a, q = some a → a.block < τ3.next := fun a e => by have := lq a e; omega
 have lq4 : ∀ a, q = some a → a.block < σ4.next := fun a e => by have := lq a e; omega
 have l5 : ∀ a, p5 = some a → a.block < σ4.next := fun a e => (a2.bd a e).2
 have l6 := (part2 N4.le).2.2
 have l3 := (part1 (Le.refl σ)).2.2
 have l8 : ∀ a, p8 = some a → a.block < σ7.next := fun a e => (w8 a e).2
 have i1 : σ.next < σ4.next := by omega
 have i2 : σ.next + 1 < σ7.next := by omega
 rcases B1 with ⟨rfl, rfl, _, _, hno⟩ | ⟨rfl, hP, rfl, hle⟩
 ·rcases B2 with ⟨rfl, _⟩ | ⟨rfl, _⟩
  ·exact lLess_rc cr hr (by rw [← hτ2, ← hτ3]; exact (part1 N3.le).1) (by rw [← hτ2, ← hτ3]; exact a1) LD (part2 N4.le).1 b1 (by rw [← hσ8]; exact st) BL BS BS BS (by rw [← hτ2]; exact LD) (by rw [← hτ2]; exact ⟨⟨BS, rfl⟩, (part1 N2.le).1⟩) (by rw [← hτ2, ← hτ3]; exact ⟨⟨BS, rfl⟩, (part1 N3.le).1⟩) GB (by rw [← hτ2]; exact ⟨⟨BS, rfl⟩, (part2 N2.le).1⟩) (by rw [← hτ2, ← hτ3]; exact ⟨⟨BS, rfl⟩, (part2 N3.le).1⟩) ⟨⟨BS, rfl⟩, (part2 N4.le).1⟩ (by rw [← hσ8]; exact LD) (by rw [← hσ8]; exact x1) x2 LD x3 x4 lq l3 rfl
  ·exact lLess_rb cr hr (by rw [← hτ2, ← hτ3]; exact (part1 N3.le).1) (by rw [← hτ2, ← hτ3]; exact a1) LD (part2 N4.le).1 b1 (by rw [← hσ8]; exact st) BL BS BS BS (by rw [← hτ2]; exact LD) (by rw [← hτ2]; exact ⟨⟨BS, rfl⟩, (part1 N2.le).1⟩) (by rw [← hτ2, ← hτ3]; exact ⟨⟨BS, rfl⟩, (part1 N3.le).1⟩) GB (by rw [← hτ2]; exact ⟨⟨BS, rfl⟩, (part2 N2.le).1⟩) (by rw [← hτ2, ← hτ3]; exact ⟨⟨BS, rfl⟩, (part2 N3.le).1⟩) ⟨⟨BS, rfl⟩, (part2 N4.le).1⟩ (by rw [← hσ8]; exact LD) (by rw [← hσ8]; exact x1) x2 LD x3 x4 lq l3 rfl
 ·obtain ⟨hPx, hc⟩ := plan_less hv hP hkn
  rcases B2 with ⟨_, _, _, _, h⟩ | ⟨rfl, _, _, hle2⟩
  ·exact absurd hPx (h _)
  ·have := hle2 _ hPx
   exact lLess_rf cr hr (by rw [← hτ2, ← hτ3]; exact (part1 N3.le).1) (by rw [← hτ2, ← hτ3]; exact a1) LD (part2 N4.le).1 b1 (by rw [← hσ8]; exact st) BL BS BS BS (by rw [← hτ2]; exact LD) (by rw [← hτ2]; exact ⟨⟨BS, rfl⟩, (part1 N2.le).1⟩) (by rw [← hτ2, ← hτ3]; exact ⟨⟨BS, rfl⟩, (part1 N3.le).1⟩) GB (by rw [← hτ2]; exact ⟨⟨BS, rfl⟩, (part2 N2.le).1⟩) (by rw [← hτ2, ← hτ3]; exact ⟨⟨BS, rfl⟩, (part2 N3.le).1⟩) ⟨⟨BS, rfl⟩, (part2 N4.le).1⟩ (by rw [← hσ8]; exact LD) (by rw [← hσ8]; exact x1) x2 LD x3 x4 lq l3 rfl
end
end Go.Proofs.Ythcdddbghldmiaa
