
import Derived.Test.YthcdddbghldmiaaCW
import Derived.Test.YthcdddbghldmiaaDC
import Derived.Test.YthcdddbghldmiaaDA
import Derived.Test.YthcdddbghldmiaaXQ
namespace Go.Proofs.Ythcdddbghldmiaa
open Go Go.Lay
open Try renaming prog → Pg
set_option linter.unusedVariables false
set_option linter.unusedSimpArgs false
set_option maxRecDepth 20000
set_option maxHeartbeats 1000000
theorem appT_bus2 : AppT Pg 23 23 52 9 := appT_of (by kernel_rfl)
theorem appT_slot2 : AppT Pg 22 22 47 2 := appT_of (by kernel_rfl)
theorem elOk_slot2 (s : Slot) : elOk Pg 47 2 (slotV s) := .inr ⟨agg47, size47, _, rfl, rfl⟩
theorem elOk_bus2 (b : Bus) : elOk Pg 52 9 (busV b) := .inr ⟨agg52, size52, _, rfl, rfl⟩
theorem cells_bus2 (bs : List Bus) : (flat (bs.map busV)).all cellB = true := by
 rw [List.all_eq_true]
 intro v hv
 simp only [flat, List.mem_flatMap, List.mem_map] at hv
 obtain ⟨_, ⟨b, _, rfl⟩, hv⟩ := hv
 simp [Value.cells] at hv
 rcases hv with rfl | rfl | rfl | rfl | rfl | rfl | rfl | rfl | rfl <;> rfl
section
variable {σ τ : St} {g : Gar} {p q : Option Addr} {l c m d : Nat} {i : Int}
theorem cost_bd {rs : List (List Int)} (hv : Valid g) (h : PlanOK g rs) : 0 ≤ costZ g rs ∧ costZ g rs ≤ 60000000 := by
 have h1 : ∀ i, i < g.nb → 0 ≤ (sumN g.ns fun s => cell rs i s * prS g s) ∧ (sumN g.ns fun s => cell rs i s * prS g s) ≤ 12000000 := fun i hi => by
  have := sumN_bd (n := g.ns) (f := fun s => cell rs i s * prS g s) (B := 1000000) (fun s' hs' => h.term hv hi hs')
  have := hv.ns
  omega
 have h2 := sumN_bd (n := g.nb) (f := fun i => sumN g.ns fun s => cell rs i s * prS g s) (B := 12000000) h1
 have := hv.nb
 unfold costZ
 omega
theorem times_sl {α : Type} (f : Slot → α) {x : Slot} {j : Nat} {xs : List Slot} (h : xs[j]? = some x) : ((xs.take (j + 1)).map f) = (xs.take j).map f ++ [f x] := by
 rw [take_snoc h, List.map_append]; rfl
theorem times_l1 {n : Int} {B1 B3 : Nat} {p8 : Option Addr} {m8 c8 : Nat} {bs : List Bus} {z : St} (hv : Valid g) (hn : 1 ≤ n ∧ n ≤ 5) (hR : SlV Pg σ 47 2 p g.ns (g.slots.map slotV)) (hN : New σ z) (hB : σ.next ≤ B1) (h13 : B1 < B3)
  (o1 : Own z B1 (garL p g.ns c q g.nb d) 2) (o3 : Own z B3 [.slice none 0 0, .slice p8 m8 c8] 2) (hb : SlV Pg z 52 9 p8 m8 (bs.map busV)) (hb8 : ∀ a, p8 = some a → a.block < B3) :
  lTimes_L1 B1 n B3 0 z (fun τ => New σ τ ∧ ∃ ps cs, Own τ B1 (garL p g.ns c q g.nb d) 2 ∧ Own τ B3 [.slice ps g.ns cs, .slice p8 m8 c8] 2 ∧ RefP τ ps g.ns p8 m8 ⟨g.slots.map fun s => ⟨s.pw, n * s.pr⟩, bs⟩) := by
 refine lTimes_loop1 (Inv := fun k i τ => New σ τ ∧ ∃ j : Nat, i = j ∧ j + k = g.ns ∧ ∃ ps cs, Own τ B1 (garL p g.ns c q g.nb d) 2 ∧ Own τ B3 [.slice ps j cs, .slice p8 m8 c8] 2 ∧ SlV Pg τ 52 9 p8 m8 (bs.map busV) ∧ Gr Pg τ (B3 + 1) 47 2 ps j cs ((g.slots.take j).map fun s => slotV ⟨s.pw, n * s.pr⟩)) ?_ g.ns 0 z ⟨hN, 0, rfl, by omega, none, 0, o1, o3, hb, by simpa using Gr.nil⟩
 rintro k i τ ⟨hN, j, rfl, hk, ps, cs, w1, w3, hb, hg⟩
 have hw1 := w1.lt; have hw3 := w3.lt; have hns := hv.ns
 by_cases hi : j < g.ns
 ·obtain ⟨a, ea, x, hx, ld1, ld2⟩ := pw_at (hR.le hN.le) hi
  have la := slv_lt (hR.le hN.le) a ea
  obtain ⟨p4, c4, τ2, g1, g2, g3, g4⟩ := grow1 (slotV ⟨x.pw, n * x.pr⟩) appT_slot2 hg (Le.refl τ) (elOk_slot2 _) (by have := hv.ns; omega) (by omega)
  have hS : ∀ b, AtP ps b → B3 + 1 ≤ b := fun b hb => (hg.bd hb).1
  have e5 : ∀ b, AtP p4 b → B3 + 1 ≤ b := fun b hb => (g2.bd hb).1
  have hO : Only (AtP ps) τ τ2 := (Only.row τ _ _).trans g3 (fun _ _ x => x) (by intro m' h1 h2 b h3 h4; have := hg.bd h4; exact h2 b this.2 h4)
  have v1 := hO.own' w1 (fun x => by have := hS _ x; omega)
  have v3 := hO.own' w3 (fun x => by have := hS _ x; omega)
  have hn2 : τ.next ≤ τ2.next := hO.next
  have hs := hv.slot x (List.mem_of_getElem? hx)
  simp only [slotB, inB, Bool.and_eq_true, decide_eq_true_eq] at hs
  have hm : 0 ≤ n * x.pr ∧ n * x.pr ≤ 5000 := by
   refine ⟨Int.mul_nonneg (by omega) (by omega), Int.le_trans (Int.mul_le_mul hn.2 hs.2.2 (by omega) (by omega)) (by omega)⟩
  have l4 : ∀ a, p4 = some a → a.block < τ2.next := fun a e => (g2.bd ⟨a, e, rfl⟩).2
  have ls : ∀ a, ps = some a → a.block < τ.next := fun a e => (hg.bd ⟨a, e, rfl⟩).2
  have hN2 : New σ (τ2.own B3 [.slice p4 (j + 1) c4, .slice p8 m8 c8] 2) := (hN.of_only hO (fun b hb => by have := hS b hb; omega)).own (by omega)
  have k5 : Only (· = B3) τ2 (τ2.own B3 [.slice p4 (j + 1) c4, .slice p8 m8 c8] 2) := Only.own (.inr rfl)
  subst ea
  refine lTimes_s1a (by exact w1.ld rfl agg22 (k := 0) rfl) (by exact w3.ld rfl agg22 (k := 0) rfl) ld1 ld2 g1 (v3.store (vs := [.slice p4 (j + 1) c4]) (ds := [.slice p4 (j + 1) c4, .slice p8 m8 c8]) rfl size22 rfl (by simp) rfl)
   (belowL_cons (belowB_ptr v3.lt) (belowL_cons (belowB_sl l4) belowL_nil)) (by exact w3.row.ld rfl agg22 (k := 0) rfl) ls
   ⟨k - 1, by omega, hN2, j + 1, by omega, by omega, p4, c4, k5.own' v1 (by omega), v3.put, ?_, ?_⟩ (b_qA_a_block := la)
  ·exact k5.slv' (hO.slv' hb (fun a e hx => by have := hb8 a e; have := hS _ hx; omega)) (fun a e => by have := hb8 a e; omega)
  ·rw [times_sl _ hx]
   exact g2.only (S := (· = B3)) k5 (by rintro b hb rfl; have := e5 _ hb; omega)
 ·have : j = g.ns := by omega
  subst this
  rw [List.take_of_length_le (Nat.le_refl _)] at hg
  refine lTimes_s1b (by exact w1.ld rfl agg22 (k := 0) rfl) ⟨hN, ps, cs, w1, w3, ?_, hb⟩
  have := hg.slv
  rw [List.map_map]
  exact this
theorem lTimes_top (hR : RefP σ p l q m g) (hX : ArgS σ 2 p l c ∧ ArgS σ 9 q m d) (hi : 0 ≤ i ∧ i ≤ 255) {ti : Int} (ht : 0 ≤ ti ∧ ti ≤ 255) : TopQ Pg 17 7 [.agg ⟨garL p l c q m d⟩, .int .u8 i, .int .u8 ti] σ fun v _ => v = .bool true := by
 have hl1 : g.ns = l := hR.len1; have hl2 : g.nb = m := hR.len2
 subst hl1 hl2
 obtain ⟨n, hn⟩ : ∃ n, n = 1 + Int.tmod ti 5 := ⟨_, rfl⟩
 have hnb' : 1 ≤ n ∧ n ≤ 5 := by rw [hn, Int.tmod_eq_emod_of_nonneg ht.1]; omega
 obtain ⟨τ1, hτ1⟩ : ∃ τ1, τ1 = σ.row (garL p g.ns c q g.nb d) 2 := ⟨_, rfl⟩
 have N1 : New σ τ1 := by rw [hτ1]; exact New.row _ _ _
 have R1 := hR.le N1.le
 have cr := ready_c (c := c) (d := d) R1
 cases hrd : (decide (g.ns ≤ 15) && decide (g.nb ≤ 8) && decide (checkZ g = 0)) with
 | false => rw [hrd, hτ1] at cr; exact lTimes_rc cr rfl
 | true =>
 rw [hrd] at cr
 simp only [Bool.and_eq_true, decide_eq_true_eq] at hrd
 have hz := hrd.2
 have hv := valid_of hz
 have hns := hv.ns; have hnb := hv.nb
 by_cases h0 : g.nb = 0
 ·rw [hτ1] at cr; exact lTimes_ra cr rfl
 obtain ⟨a, rfl⟩ : ∃ a : Nat, i = a := ⟨i.toNat, by omega⟩
 obtain ⟨k, hk⟩ : ∃ k, k = a % g.nb := ⟨_, rfl⟩
 have hkn : k < g.nb := by rw [hk]; exact Nat.mod_lt _ (by omega)
 have hr : binA Pg .rem 3 (.tmp 28) (.tmp 31) (iV (a : Int)) (iV (g.nb : Int)) = some (iV (k : Int)) := by
  rw [rem_eq (by omega), Int.tmod_eq_emod_of_nonneg (by omega), hk]; rfl
 obtain ⟨τ3, hτ3⟩ : ∃ τ3, τ3 = τ1.row [] 9 := ⟨_, rfl⟩
 have N3 : New σ τ3 := by rw [hτ3]; exact N1.row'
 have nx1 : τ1.next = σ.next + 1 := by rw [hτ1]; rfl
 have nx3 : τ3.next = σ.next + 2 := by rw [hτ3, St.row_next, nx1]
 have o1 : Own τ1 σ.next (garL p g.ns c q g.nb d) 2 := by rw [hτ1]; exact own_new _ _ _
 have o3 : Own τ3 (σ.next + 1) [] 9 := by rw [hτ3, ← nx1]; exact own_new _ _ _
 have o13 : Own τ3 σ.next (garL p g.ns c q g.nb d) 2 := by rw [hτ3]; exact o1.row
 have hdc : g.nb ≤ d := by rcases hX.2 with ⟨_, h, _⟩ | ⟨_, _, _, _, _, h, _⟩ <;> omega
 have part1 : ∀ {z}, Le σ z → sliceA Pg z 23 (.slice q g.nb d) none (some (iV (k : Int))) none = some (.slice (partP q 9 0 d) (k - 0) (d - 0)) ∧ SlV Pg z 52 9 (partP q 9 0 d) (k - 0) (((g.buses.map busV).drop 0).take (k - 0)) ∧ ∀ a, partP q 9 0 d = some a → a.block < z.next := fun h =>
  (hX.2.le h).part (hR.le h).bu Try.underlying23 size52 rfl (bound_some rfl (by omega)) (by omega) (by omega)
 have part2 : ∀ {z}, Le σ z → sliceA Pg z 23 (.slice q g.nb d) (some (iV (k : Int))) none none = some (.slice (partP q 9 k d) (g.nb - k) (d - k)) ∧ SlV Pg z 52 9 (partP q 9 k d) (g.nb - k) (((g.buses.map busV).drop k).take (g.nb - k)) ∧ ∀ a, partP q 9 k d = some a → a.block < z.next := fun h =>
  (hX.2.le h).part (hR.le h).bu Try.underlying23 size52 (bound_some rfl (by omega)) rfl (by omega) (by omega)
 have e1 : ((g.buses.map busV).drop 0).take (k - 0) = (g.buses.take k).map busV := by simp [List.map_take]
 have e2 : ((g.buses.map busV).drop k).take (g.nb - k) = (g.buses.drop k).map busV := by
  rw [← List.map_drop, List.take_of_length_le]
  simp only [List.length_map, List.length_drop]; exact Nat.le_refl _
 obtain ⟨p5, c5, σ4, a1, a2, a3, a4⟩ := Ap.append (k := d - k) (n0 := σ.next + 1) (c := 0) appT_bus2 (.inr ⟨_, rfl, rfl, rfl, rfl, o3, Nat.le_refl _⟩) (part2 N3.le).2.1.1 (by omega) (by rw [e2]; exact cells_bus2 _) (by omega)
 have w5 : ∀ b, AtP p5 b → σ.next + 1 ≤ b := fun b hb => by
  rcases a4 b hb with ⟨a, e, rfl⟩ | h
  ·cases e; exact Nat.le_refl _
  ·omega
 have N4 : New σ σ4 := N3.of_only a3 (by rintro b ⟨a, e, rfl⟩; cases e; show σ.next ≤ σ.next + 1; omega)
 have o14 := a3.own' o13 (by rintro ⟨a, e, h⟩; cases e; have h : σ.next + 1 = σ.next := h; omega)
 have nx4 := a3.next
 obtain ⟨p8, c8, σ7, b1, b2, b3, b4⟩ := Ap.append (k := d - 0) appT_bus2 a2 (part1 N4.le).2.1.1 (by omega) (by rw [e1]; exact cells_bus2 _) (by omega)
 have nx7 := b3.next
 have N7 : New σ σ7 := N4.of_only b3 (fun b hb => by have := w5 b hb; omega)
 have o17 := b3.own' o14 (fun hb => by have := w5 _ hb; omega)
 have w8 : ∀ a, p8 = some a → σ.next + 1 ≤ a.block ∧ a.block < σ7.next := b2.bd
 rw [e1, e2, List.nil_append, ← flat_append, ← List.map_append] at b2
 have eL : 0 + (g.nb - k) + (k - 0) = g.nb := by omega
 rw [eL] at b1 b2
 have hlR : (rotL k g.buses).length = g.nb := rot_len (by show k ≤ g.nb; omega)
 obtain ⟨τ8, hτ8⟩ : ∃ τ8, τ8 = σ7.row [.slice none 0 0, .slice none 0 0] 2 := ⟨_, rfl⟩
 obtain ⟨τ9, hτ9⟩ : ∃ τ9, τ9 = τ8.own σ7.next [.slice none 0 0, .slice p8 g.nb c8] 2 := ⟨_, rfl⟩
 have nx8 : τ8.next = σ7.next + 1 := by rw [hτ8]; rfl
 have o38 : Own τ8 σ7.next [.slice none 0 0, .slice none 0 0] 2 := by rw [hτ8]; exact own_new _ _ _
 have o39 : Own τ9 σ7.next [.slice none 0 0, .slice p8 g.nb c8] 2 := by rw [hτ9]; exact o38.put
 have o18 : Own τ8 σ.next (garL p g.ns c q g.nb d) 2 := by rw [hτ8]; exact o17.row
 have k9 : Only (· = σ7.next) τ8 τ9 := by rw [hτ9]; exact Only.own (.inr rfl)
 have o19 := k9.own' o18 (by omega)
 have N8 : New σ τ8 := by rw [hτ8]; exact N7.row'
 have N9 : New σ τ9 := N8.of_only k9 (by rintro b rfl; omega)
 have bx : SlV Pg σ7 52 9 p8 g.nb ((rotL k g.buses).map busV) := b2.slv (by rw [List.length_map]; exact hlR) (fun v hv => by obtain ⟨b, _, rfl⟩ := List.mem_map.1 hv; exact elOk_bus2 b)
 have bx9 : SlV Pg τ9 52 9 p8 g.nb ((rotL k g.buses).map busV) := k9.slv' (by rw [hτ8]; exact bx.row) (fun a e => by have := w8 a e; omega)
 have lq : ∀ a, q = some a → a.block < σ.next := RefP.ltb hR
 have lq1 : ∀ a, q = some a → a.block < τ1.next := fun a e => by have := lq a e; omega
 have lq3 : ∀ a, q = some a → a.block < τ3.next := fun a e => by have := lq a e; omega
 have lq4 : ∀ a, q = some a → a.block < σ4.next := fun a e => by have := lq a e; omega
 have lq7 : ∀ a, q = some a → a.block < σ7.next := fun a e => by have := lq a e; omega
 have lq8 : ∀ a, q = some a → a.block < τ8.next := fun a e => by have := lq a e; omega
 have l5 : ∀ a, p5 = some a → a.block < σ4.next := fun a e => (a2.bd a e).2
 have l6 := (part1 N4.le).2.2
 have l3 := (part2 (Le.refl σ)).2.2
 have l8 : ∀ a, p8 = some a → a.block < τ8.next := fun a e => by have := (w8 a e).2; omega
 have i0 : σ.next < τ1.next := by omega
 have i1 : σ.next < σ4.next := by omega
 have i2 : σ.next < σ7.next := by omega
 have i3 : σ.next < τ8.next := by omega
 have i4 : σ7.next < τ8.next := by omega
 have LP := times_l1 (c := c) (d := d) (q := q) (c8 := c8) (n := n) hv hnb' hR.sl N9 (Nat.le_refl _) i2 o19 o39 bx9 (fun a e => (w8 a e).2)
 have f1 : loadA Pg σ4 23 ⟨σ.next, 1, none⟩ = some (.slice q g.nb d) := o14.ld rfl agg23 (k := 1) rfl
 have f2 : loadA Pg σ7 23 ⟨σ.next, 1, none⟩ = some (.slice q g.nb d) := o17.ld rfl agg23 (k := 1) rfl
 have f3 : loadA Pg τ8 23 ⟨σ.next, 1, none⟩ = some (.slice q g.nb d) := o18.ld rfl agg23 (k := 1) rfl
 have q1 := part1 N1.le; have q3 := part1 N3.le; have q4 := part1 N4.le; have q7 := part1 N7.le; have q8 := part1 N8.le
 have r1 := part2 N1.le; have r3 := part2 N3.le; have r7 := part2 N7.le; have r8 := part2 N8.le
 have s1 : belowL τ1.next [.slice q g.nb d, iV (k : Int)] := BS
 have s3 : belowL τ3.next [.slice q g.nb d, iV (k : Int)] := BS
 have s4 : belowL σ4.next [.slice q g.nb d, iV (k : Int)] := BS
 have s7 : belowL σ7.next [.slice q g.nb d, iV (k : Int)] := BS
 have s8 : belowL τ8.next [.slice q g.nb d, iV (k : Int)] := BS
 have s5 : belowL σ4.next [.slice p5 (0 + (g.nb - k)) c5, .slice (partP q 9 0 d) (k - 0) (d - 0)] := BS
 have s6 : belowL τ8.next [.pointer (some ⟨σ7.next, 0, none⟩), .agg ⟨[.slice none 0 0, .slice p8 g.nb c8]⟩] := belowL_cons (belowB_ptr i4) (belowL_cons (belowB_gar (by simp) l8) belowL_nil)
 rw [hτ3, hτ1] at a1 r3 q3 s3
 rw [hτ9, hτ8, hn] at LP
 rw [hτ8] at f3 q8 r8 s8 s6 i3
 rw [hτ1] at cr q1 r1 s1
 refine lTimes_rb cr hr r3.1 a1 f1 q4.1 b1 (belowL_cons (belowB_ptr i1) belowL_nil) s4 s5 s6 ⟨⟨i2, rfl⟩, f2⟩ ⟨⟨i3, rfl⟩, f3⟩ ⟨⟨s1, rfl⟩, r1.1⟩ ⟨⟨s3, rfl⟩, r3.1⟩ ⟨⟨s7, rfl⟩, r7.1⟩ ⟨⟨s8, rfl⟩, r8.1⟩ ⟨⟨i1, rfl⟩, f1⟩
  ⟨⟨s1, rfl⟩, q1.1⟩ ⟨⟨s3, rfl⟩, q3.1⟩ ⟨⟨s4, rfl⟩, q4.1⟩ ⟨⟨s7, rfl⟩, q7.1⟩ ⟨⟨s8, rfl⟩, q8.1⟩ lq l3 LP ?_
 rintro τ ⟨hN, ps, cs, w1, w3, hx⟩
 have hx : RefP τ ps g.ns p8 g.nb (rotG g k n) := by rw [hn]; exact hx
 rw [← hn]
 have hRτ := hR.le hN.le
 have xns : (rotG g k n).ns = g.ns := rotG_ns
 have xnb : (rotG g k n).nb = g.nb := rotG_nb (by omega)
 have ck := rFault_c (c := cs) (d := c8) hx
 by_cases hzx : checkZ (rotG g k n) = 0
 ·rw [hzx] at ck
  obtain ⟨p9, c9, q9, d9, τa, x1, m1, G1⟩ := garage_c (c := c) (d := d) hRτ (by omega) (by omega)
  obtain ⟨pl, ll, cl, τb, z1, er1, rb, x2, m2, _, _, _, B1⟩ := best_v (c := c9) (d := d9) G1 hz
  have hxb := hx.le (m1.trans m2).le
  obtain ⟨p10, c10, q10, d10, τc, x3, m3, G2⟩ := garage_c (c := cs) (d := c8) hxb (by omega) (by omega)
  rw [← xns, ← xnb] at G2
  obtain ⟨pl', ll', cl', τd, z2, er2, rb', x4, m4, _, _, _, B2⟩ := best_v (c := c10) (d := d10) G2 hzx
  rw [xns, xnb] at x4
  have w3' := w3.le (m1.trans m2).le
  have g1 : loadA Pg τ 25 ⟨σ7.next, 0, none⟩ = some (.agg ⟨garL ps g.ns cs p8 g.nb c8⟩) := w3.ldN agg25 size25 (k := 0) rfl rfl (by simp)
  have g2 : loadA Pg τ 25 ⟨σ.next, 0, none⟩ = some (.agg ⟨garL p g.ns c q g.nb d⟩) := w1.ldN agg25 size25 (k := 0) rfl rfl (by simp)
  have g3 : loadA Pg τb 25 ⟨σ7.next, 0, none⟩ = some (.agg ⟨garL ps g.ns cs p8 g.nb c8⟩) := w3'.ldN agg25 size25 (k := 0) rfl rfl (by simp)
  rcases B1 with ⟨rfl, rfl, _, _, hno⟩ | ⟨rfl, hP, rfl, hle⟩
  ·rcases B2 with ⟨rfl, rfl, _⟩ | ⟨rfl, hP2, _⟩
   ·exact lTimes_t1x0d g1 ck g2 x1 x2 g3 x3 x4 rfl (by simp) (by simp) (by simp)
   ·obtain ⟨rs, h, _⟩ := plan_unrot (by omega) hP2
    exact absurd h (hno _)
  ·obtain ⟨hPx, hc⟩ := plan_rot (n := n) (k := k) (by omega) hP
   rcases B2 with ⟨_, _, _, _, h⟩ | ⟨rfl, hP2, rfl, hle2⟩
   ·exact absurd hPx (h _)
   ·obtain ⟨rs, h1, h2⟩ := plan_unrot (by omega) hP2
    have k1 := hle2 _ hPx
    have k2 := Int.mul_le_mul_of_nonneg_left (hle _ h1) (show 0 ≤ n by omega)
    have k3 : costZ (rotG g k n) rb' = n * costZ g rb := by omega
    have k4 := cost_bd hv hP
    have k5 : 0 ≤ n * costZ g rb ∧ n * costZ g rb ≤ 300000000 := ⟨Int.mul_nonneg (by omega) k4.1, Int.le_trans (Int.mul_le_mul hnb'.2 k4.2 k4.1 (by omega)) (by omega)⟩
    exact lTimes_t1x0b g1 ck g2 x1 x2 g3 x3 x4 rfl
 ·exact lTimes_t1x0a (by exact w3.ldN agg25 size25 (k := 0) rfl rfl (by simp)) ck rfl
end
end Go.Proofs.Ythcdddbghldmiaa
