
import Derived.Test.YthcdddbghldmiaaDN
namespace Go.Proofs.Ythcdddbghldmiaa
open Go Go.Lay
open Try renaming prog → Pg
set_option linter.unusedVariables false
set_option linter.unusedSimpArgs false
set_option maxRecDepth 20000
set_option maxHeartbeats 1000000
theorem busB_fr {b : Bus} {x y : Int} (h : busB b = true) (h1 : 0 ≤ x) (h2 : x ≤ y) (h3 : y ≤ 12) : busB { b with fr := x, to := y } = true := by
 simp only [busB, inB, Bool.and_eq_true, decide_eq_true_eq] at h ⊢
 obtain ⟨⟨⟨⟨⟨⟨_, _⟩, a⟩, b⟩, c⟩, d⟩, e⟩ := h
 exact ⟨⟨⟨⟨⟨⟨⟨h1, h2⟩, h3⟩, a⟩, b⟩, c⟩, d⟩, e⟩
theorem nl_mem {s : Int} {bs : List Bus} {x : Bus × Bool} (h : x ∈ nl s bs) : x.1 ∈ bs := by
 unfold nl at h
 obtain ⟨y, hy, rfl⟩ := List.mem_map.1 h
 exact List.fst_mem_of_mem_zipIdx hy
theorem nl_len {s : Int} {bs : List Bus} : (nl s bs).length = bs.length := by unfold nl; simp
section
variable {g : Gar} {k : Nat} {s : Int}
theorem wB_busB (hv : Valid g) {x : Bus × Bool} (hx : x ∈ nl s g.buses) (h2 : x.2 = true → busB (wB k x) = true) : busB (wB k x) = true := by
 cases e : x.2 with
 | true => exact h2 e
 | false =>
  have hb := hv.bus _ (nl_mem hx)
  have hi := busB_iff hb
  have : wB k x = { x.1 with fr := min x.1.fr (min x.1.to k), to := min x.1.to k } := by unfold wB; rw [e]; rfl
  rw [this]
  exact busB_fr hb (by omega) (by omega) (by omega)
theorem lB_busB {x : Bus × Bool} (e : x.2 = true) (h : busB (wB k x) = true) : busB (lB k x) = true := by
 have hi := busB_iff h
 have := wB_late (k := (k : Int)) e
 exact busB_fr h (by omega) (by omega) (by omega)
theorem nights_valid (hv : Valid g) (h : ∀ x ∈ nl s g.buses, x.2 = true → busB (wB k x) = true) : Valid (wG g.slots k (nl s g.buses)) ∧ Valid (eG g.slots k (nl s g.buses)) ∧ Valid (dG g.slots k (nl s g.buses)) := by
 have hns := hv.ns; have hnb := hv.nb
 have hb : ∀ x ∈ nl s g.buses, busB (wB k x) = true := fun x hx => wB_busB hv hx (h x hx)
 have hl : (nl s g.buses).length = g.nb := nl_len
 refine ⟨⟨hns, by show (List.map _ _).length ≤ 5; rw [List.length_map, hl]; exact hnb, hv.slot, fun b hb' => ?_⟩, ⟨?_, ?_, fun x hx => hv.slot x (List.mem_of_mem_take hx), fun b hb' => ?_⟩, ⟨?_, ?_, fun x hx => hv.slot x (List.mem_of_mem_drop hx), fun b hb' => ?_⟩⟩
 ·obtain ⟨x, hx, rfl⟩ := List.mem_map.1 hb'; exact hb x hx
 ·show (List.take k g.slots).length ≤ 12; rw [List.length_take]; have : g.ns = g.slots.length := rfl; omega
 ·show (List.map _ _).length ≤ 5
  rw [List.length_map]
  have := List.length_filter_le (fun x : Bus × Bool => !x.2) (nl s g.buses); omega
 ·obtain ⟨x, hx, rfl⟩ := List.mem_map.1 hb'
  exact hb x (List.mem_filter.1 hx).1
 ·show (List.drop k g.slots).length ≤ 12; rw [List.length_drop]; have : g.ns = g.slots.length := rfl; omega
 ·show (List.map _ _).length ≤ 5
  rw [List.length_map]
  have := List.length_filter_le (fun x : Bus × Bool => x.2) (nl s g.buses); omega
 ·obtain ⟨x, hx, rfl⟩ := List.mem_map.1 hb'
  have := List.mem_filter.1 hx
  exact lB_busB this.2 (hb x this.1)
end
theorem costs_bd {g : Gar} {rs : List (List Int)} (hv : Valid g) (h : PlanOK g rs) : 0 ≤ costZ g rs ∧ costZ g rs ≤ 60000000 := by
 have h1 : ∀ i, i < g.nb → 0 ≤ (sumN g.ns fun s => cell rs i s * prS g s) ∧ (sumN g.ns fun s => cell rs i s * prS g s) ≤ 12000000 := fun i hi => by
  have := sumN_bd (n := g.ns) (f := fun s => cell rs i s * prS g s) (B := 1000000) (fun s' hs' => h.term hv hi hs')
  have := hv.ns
  omega
 have h2 := sumN_bd (n := g.nb) (f := fun i => sumN g.ns fun s => cell rs i s * prS g s) (B := 12000000) h1
 have := hv.nb
 unfold costZ
 omega
section
variable {σ τ : St} {g : Gar} {p q : Option Addr} {l c m d : Nat} {i : Int}
theorem lNights_top (hR : RefP σ p l q m g) (hX : ArgS σ 2 p l c ∧ ArgS σ 9 q m d) (hi : 0 ≤ i ∧ i ≤ 255) {s : Int} (hs : 0 ≤ s ∧ s ≤ 255) : TopQ Pg 17 6 [.agg ⟨garL p l c q m d⟩, .int .u8 i, .int .u8 s] σ fun v _ => v = .bool true := by
 have hl1 : g.ns = l := hR.len1; have hl2 : g.nb = m := hR.len2
 subst hl1 hl2
 obtain ⟨τ1, hτ1⟩ : ∃ τ1, τ1 = σ.row (garL p g.ns c q g.nb d) 2 := ⟨_, rfl⟩
 have N1 : New σ τ1 := by rw [hτ1]; exact New.row _ _ _
 have R1 := hR.le N1.le
 have cr := ready_c (c := c) (d := d) R1
 cases hrd : (decide (g.ns ≤ 15) && decide (g.nb ≤ 8) && decide (checkZ g = 0)) with
 | false => rw [hrd, hτ1] at cr; exact lNights_rb cr rfl
 | true =>
 rw [hrd] at cr
 simp only [Bool.and_eq_true, decide_eq_true_eq] at hrd
 have hz := hrd.2
 have hv := valid_of hz
 have hns := hv.ns; have hnb := hv.nb
 obtain ⟨a, rfl⟩ : ∃ a : Nat, i = a := ⟨i.toNat, by omega⟩
 obtain ⟨k, hk⟩ : ∃ k, k = a % (g.ns + 1) := ⟨_, rfl⟩
 have hkn : k ≤ g.ns := by have : a % (g.ns + 1) < g.ns + 1 := Nat.mod_lt _ (by omega); omega
 have hr : binA Pg .rem 3 (.tmp 27) (.tmp 31) (iV (a : Int)) (iV ((g.ns : Int) + 1)) = some (iV (k : Int)) := by
  rw [rem_eq (by omega), Int.tmod_eq_emod_of_nonneg (by omega), hk]; rfl
 obtain ⟨B, hB⟩ : ∃ B, B = σ.next := ⟨_, rfl⟩
 have nx1 : τ1.next = B + 1 := by rw [hτ1, hB]; rfl
 have a1 : Own τ1 B (garL p g.ns c q g.nb d) 2 := by rw [hτ1, hB]; exact own_new _ _ _
 obtain ⟨τ2, hτ2⟩ : ∃ τ2, τ2 = τ1.row [.slice none 0 0, .slice none 0 0] 2 := ⟨_, rfl⟩
 have N2 : New σ τ2 := by rw [hτ2]; exact N1.row'
 have nx2 : τ2.next = B + 2 := by rw [hτ2, St.row_next, nx1]
 have a2 : Own τ2 B (garL p g.ns c q g.nb d) 2 := by rw [hτ2]; exact a1.row
 have b2 : Own τ2 (B + 1) [.slice none 0 0, .slice none 0 0] 2 := by rw [hτ2, ← nx1]; exact own_new _ _ _
 obtain ⟨τ3, hτ3⟩ : ∃ τ3, τ3 = τ2.own (B + 1) [.slice p g.ns c, .slice none 0 0] 2 := ⟨_, rfl⟩
 have N3 : New σ τ3 := by rw [hτ3]; exact N2.own (by omega)
 have nx3 : τ3.next = B + 2 := by rw [hτ3]; exact nx2
 have a3 : Own τ3 B (garL p g.ns c q g.nb d) 2 := by rw [hτ3]; exact a2.own (by omega)
 have b3 : Own τ3 (B + 1) [.slice p g.ns c, .slice none 0 0] 2 := by rw [hτ3]; exact b2.put
 obtain ⟨τ4, hτ4⟩ : ∃ τ4, τ4 = τ3.row [.slice none 0 0, .slice none 0 0] 2 := ⟨_, rfl⟩
 have N4 : New σ τ4 := by rw [hτ4]; exact N3.row'
 have nx4 : τ4.next = B + 3 := by rw [hτ4, St.row_next, nx3]
 have a4 : Own τ4 B (garL p g.ns c q g.nb d) 2 := by rw [hτ4]; exact a3.row
 have b4 : Own τ4 (B + 1) [.slice p g.ns c, .slice none 0 0] 2 := by rw [hτ4]; exact b3.row
 have c4 : Own τ4 (B + 2) [.slice none 0 0, .slice none 0 0] 2 := by rw [hτ4, ← nx3]; exact own_new _ _ _
 obtain ⟨τ5, hτ5⟩ : ∃ τ5, τ5 = τ4.row [.slice none 0 0, .slice none 0 0] 2 := ⟨_, rfl⟩
 have N5 : New σ τ5 := by rw [hτ5]; exact N4.row'
 have nx5 : τ5.next = B + 4 := by rw [hτ5, St.row_next, nx4]
 have a5 : Own τ5 B (garL p g.ns c q g.nb d) 2 := by rw [hτ5]; exact a4.row
 have b5 : Own τ5 (B + 1) [.slice p g.ns c, .slice none 0 0] 2 := by rw [hτ5]; exact b4.row
 have c5 : Own τ5 (B + 2) [.slice none 0 0, .slice none 0 0] 2 := by rw [hτ5]; exact c4.row
 have d5 : Own τ5 (B + 3) [.slice none 0 0, .slice none 0 0] 2 := by rw [hτ5, ← nx4]; exact own_new _ _ _
 obtain ⟨q3, hq3⟩ : ∃ q3, q3 = partP p 2 0 c := ⟨_, rfl⟩
 obtain ⟨q4, hq4⟩ : ∃ q4, q4 = partP p 2 k c := ⟨_, rfl⟩
 obtain ⟨τ6, hτ6⟩ : ∃ τ6, τ6 = τ5.own (B + 2) [.slice q3 (k - 0) (c - 0), .slice none 0 0] 2 := ⟨_, rfl⟩
 have N6 : New σ τ6 := by rw [hτ6]; exact N5.own (by omega)
 have nx6 : τ6.next = B + 4 := by rw [hτ6]; exact nx5
 have a6 : Own τ6 B (garL p g.ns c q g.nb d) 2 := by rw [hτ6]; exact a5.own (by omega)
 have b6 : Own τ6 (B + 1) [.slice p g.ns c, .slice none 0 0] 2 := by rw [hτ6]; exact b5.own (by omega)
 have c6 : Own τ6 (B + 2) [.slice q3 (k - 0) (c - 0), .slice none 0 0] 2 := by rw [hτ6]; exact c5.put
 have d6 : Own τ6 (B + 3) [.slice none 0 0, .slice none 0 0] 2 := by rw [hτ6]; exact d5.own (by omega)
 obtain ⟨τ7, hτ7⟩ : ∃ τ7, τ7 = τ6.own (B + 3) [.slice q4 (g.ns - k) (c - k), .slice none 0 0] 2 := ⟨_, rfl⟩
 have N7 : New σ τ7 := by rw [hτ7]; exact N6.own (by omega)
 have a7 : Own τ7 B (garL p g.ns c q g.nb d) 2 := by rw [hτ7]; exact a6.own (by omega)
 have b7 : Own τ7 (B + 1) [.slice p g.ns c, .slice none 0 0] 2 := by rw [hτ7]; exact b6.own (by omega)
 have c7 : Own τ7 (B + 2) [.slice q3 (k - 0) (c - 0), .slice none 0 0] 2 := by rw [hτ7]; exact c6.own (by omega)
 have d7 : Own τ7 (B + 3) [.slice q4 (g.ns - k) (c - k), .slice none 0 0] 2 := by rw [hτ7]; exact d6.put
 have hcc : g.ns ≤ c := by rcases hX.1 with ⟨_, h, _⟩ | ⟨_, _, _, _, _, h, _⟩ <;> omega
 have part1 : ∀ {z}, Le σ z → sliceA Pg z 22 (.slice p g.ns c) none (some (iV (k : Int))) none = some (.slice q3 (k - 0) (c - 0)) ∧ SlV Pg z 47 2 q3 (k - 0) (((g.slots.map slotV).drop 0).take (k - 0)) ∧ ∀ a, q3 = some a → a.block < z.next := fun h => by
  rw [hq3]; exact (hX.1.le h).part (hR.le h).sl Try.underlying22 size47 rfl (bound_some rfl (by omega)) (by omega) (by omega)
 have part2 : ∀ {z}, Le σ z → sliceA Pg z 22 (.slice p g.ns c) (some (iV (k : Int))) none none = some (.slice q4 (g.ns - k) (c - k)) ∧ SlV Pg z 47 2 q4 (g.ns - k) (((g.slots.map slotV).drop k).take (g.ns - k)) ∧ ∀ a, q4 = some a → a.block < z.next := fun h => by
  rw [hq4]; exact (hX.1.le h).part (hR.le h).sl Try.underlying22 size47 (bound_some rfl (by omega)) rfl (by omega) (by omega)
 have e1 : ((g.slots.map slotV).drop 0).take (k - 0) = (g.slots.take k).map slotV := by simp [List.map_take]
 have e2 : ((g.slots.map slotV).drop k).take (g.ns - k) = (g.slots.drop k).map slotV := by
  rw [← List.map_drop, List.take_of_length_le]
  simp only [List.length_map, List.length_drop]; exact Nat.le_refl _
 have lp : ∀ {n}, B ≤ n → ∀ a, p = some a → a.block < n := fun h a e => by have := RefP.lta hR a e; omega
 have bl : ∀ {n}, B ≤ n → belowL n [.slice p g.ns c, iV (k : Int)] := fun h => belowL_cons (belowB_sl (lp h)) (belowL_cons (belowB_rig rfl) belowL_nil)
 have l3 : ∀ a, q3 = some a → a.block < τ5.next := (part1 N5.le).2.2
 have l4 : ∀ a, q4 = some a → a.block < τ6.next := (part2 N6.le).2.2
 have g5 : belowL τ5.next [.pointer (some ⟨B + 2, 0, none⟩), .agg ⟨[.slice q3 (k - 0) (c - 0), .slice none 0 0]⟩] := belowL_cons (belowB_ptr (show B + 2 < τ5.next by omega)) (belowL_cons (belowB_gar l3 (by simp)) belowL_nil)
 have g6 : belowL τ6.next [.pointer (some ⟨B + 3, 0, none⟩), .agg ⟨[.slice q4 (g.ns - k) (c - k), .slice none 0 0]⟩] := belowL_cons (belowB_ptr (show B + 3 < τ6.next by omega)) (belowL_cons (belowB_gar l4 (by simp)) belowL_nil)
 have f4 : loadA Pg τ4 22 ⟨B, 0, none⟩ = some (.slice p g.ns c) := a4.ld rfl agg22 (k := 0) rfl
 have f5 : loadA Pg τ5 22 ⟨B, 0, none⟩ = some (.slice p g.ns c) := a5.ld rfl agg22 (k := 0) rfl
 have f6 : loadA Pg τ6 22 ⟨B, 0, none⟩ = some (.slice p g.ns c) := a6.ld rfl agg22 (k := 0) rfl
 have P3 := part1 N3.le; have P4 := part1 N4.le; have P5 := part1 N5.le
 have S3 := part2 N3.le; have S4 := part2 N4.le; have S5 := part2 N5.le; have S6 := part2 N6.le
 have B3 := bl (n := τ3.next) (by omega); have B4 := bl (n := τ4.next) (by omega); have B5 := bl (n := τ5.next) (by omega); have B6 := bl (n := τ6.next) (by omega)
 have LP : lNights_L1 s B (k : Int) (B + 1) (B + 2) (B + 3) 0 τ7 (fun b τ => b = true) (fun τ => New σ τ ∧ NightP τ B (garL p g.ns c q g.nb d) (B + 4) (.slice p g.ns c) (.slice q3 (k - 0) (c - 0)) (.slice q4 (g.ns - k) (c - k)) s k g.buses g.nb) := by
  refine lNights_loop1 (Inv := fun r i τ => New σ τ ∧ ∃ j : Nat, i = j ∧ j + r = g.nb ∧ NightP τ B (garL p g.ns c q g.nb d) (B + 4) (.slice p g.ns c) (.slice q3 (k - 0) (c - 0)) (.slice q4 (g.ns - k) (c - k)) s k g.buses j) ?_ g.nb 0 τ7
   ⟨N7, 0, rfl, by omega, a7, ⟨none, 0, none, 0, 0, none, 0, 0, b7, c7, d7, by simpa [wL, nl] using Gr.nil, by simpa [eL, nl] using Gr.nil, by simpa [dL, nl] using Gr.nil, Dis.none, Dis.none, Dis.none⟩, by simp [nl]⟩
  rintro r i τ ⟨hN, j, rfl, hj, hP⟩
  exact night_round hv hkn hR hB.symm rfl hN hP (by omega) (fun τ' h1 h2 h3 => ⟨r - 1, by omega, h2, j + 1, by omega, by omega, h3⟩) (fun _ => rfl) (fun e => ⟨hN, by have := hP; rw [e] at this; exact this⟩)
 rw [hτ7] at LP
 rw [hτ6] at LP S6 B6 g6 f6
 rw [hτ5] at LP S6 B6 g6 f6 S5 P5 B5 g5 f5
 rw [hτ4] at LP S6 B6 g6 f6 S5 P5 B5 g5 f5 S4 P4 B4 f4
 rw [hτ3, hτ2, hτ1, hB] at LP S6 B6 g6 f6 S5 P5 B5 g5 f5 S4 P4 B4 f4 S3 P3 B3
 rw [hτ1] at cr
 refine lNights_ra cr hr P3.1 S3.1 g5 g6 f4 f5 ⟨⟨B3, rfl⟩, P3.1⟩ ⟨⟨B4, rfl⟩, P4.1⟩ ⟨⟨B5, rfl⟩, P5.1⟩ f6 ⟨⟨B3, rfl⟩, S3.1⟩ ⟨⟨B4, rfl⟩, S4.1⟩ ⟨⟨B5, rfl⟩, S5.1⟩ ⟨⟨B6, rfl⟩, S6.1⟩ (lp (by omega)) LP ?_ ?_
 ·rintro b τ rfl
  exact lNights_t1xra rfl
 rintro τ ⟨hN, w1, ⟨pw, cw, pe, le, ce, pl, ll, cl, w2, w3, w4, gw, ge, gl, _, _, _⟩, hval⟩
 have hT : g.buses.take g.nb = g.buses := List.take_of_length_le (Nat.le_refl _)
 rw [hT] at gw ge gl hval
 obtain ⟨v1, v2, v3⟩ := nights_valid (k := k) hv hval
 have x1 : RefP τ p g.ns pw g.nb (wG g.slots k (nl s g.buses)) := ⟨(hR.le hN.le).sl, gw.slv⟩
 have x2 : RefP τ q3 (k - 0) pe le (eG g.slots k (nl s g.buses)) := ⟨by have := (part1 hN.le).2.1; rw [e1] at this; exact this, ge.slv⟩
 have x3 : RefP τ q4 (g.ns - k) pl ll (dG g.slots k (nl s g.buses)) := ⟨by have := (part2 hN.le).2.1; rw [e2] at this; exact this, gl.slv⟩
 have n1 := x1.len1; have n2 := x1.len2; have n3 := x2.len1; have n4 := x2.len2; have n5 := x3.len1; have n6 := x3.len2
 have le5 : le ≤ 5 := by rw [← n4]; exact v2.nb
 have ll5 : ll ≤ 5 := by rw [← n6]; exact v3.nb
 obtain ⟨p9, c9, q9, d9, τa, y1, m1, G1⟩ := garage_c (c := c) (d := cw) x1 (by omega) (by omega)
 rw [← n1, ← n2] at G1
 obtain ⟨_, _, _, τb, z1, er1, rb1, y2, m2, _, _, _, R1⟩ := best_v (c := c9) (d := d9) G1 v1.check
 have x2' := x2.le (m1.trans m2).le
 obtain ⟨p10, c10, q10, d10, τc, y3, m3, G2⟩ := garage_c (c := c - 0) (d := ce) x2' (by omega) (by omega)
 rw [← n3, ← n4] at G2
 obtain ⟨_, _, _, τd, z2, er2, rb2, y4, m4, _, _, _, R2⟩ := best_v (c := c10) (d := d10) G2 v2.check
 have x3' := x3.le (((m1.trans m2).trans m3).trans m4).le
 obtain ⟨p11, c11, q11, d11, τe, y5, m5, G3⟩ := garage_c (c := c - k) (d := cl) x3' (by omega) (by omega)
 rw [← n5, ← n6] at G3
 obtain ⟨_, _, _, τf, z3, er3, rb3, y6, m6, _, _, _, R3⟩ := best_v (c := c11) (d := d11) G3 v3.check
 rw [show (wG g.slots k (nl s g.buses)).ns = g.ns from n1, show (wG g.slots k (nl s g.buses)).nb = g.nb from n2] at y2
 rw [show (eG g.slots k (nl s g.buses)).ns = k - 0 from n3, show (eG g.slots k (nl s g.buses)).nb = le from n4] at y4
 rw [show (dG g.slots k (nl s g.buses)).ns = g.ns - k from n5, show (dG g.slots k (nl s g.buses)).nb = ll from n6] at y6
 have h1 : loadA Pg τ 25 ⟨σ.next + 1, 0, none⟩ = some (.agg ⟨garL p g.ns c pw g.nb cw⟩) := w2.ldN agg25 size25 (k := 0) rfl rfl (by simp)
 have h2 : loadA Pg τb 25 ⟨σ.next + 2, 0, none⟩ = some (.agg ⟨garL q3 (k - 0) (c - 0) pe le ce⟩) := (w3.le (m1.trans m2).le).ldN agg25 size25 (k := 0) rfl rfl (by simp)
 have h3 : loadA Pg τd 25 ⟨σ.next + 3, 0, none⟩ = some (.agg ⟨garL q4 (g.ns - k) (c - k) pl ll cl⟩) := (w4.le (((m1.trans m2).trans m3).trans m4).le).ldN agg25 size25 (k := 0) rfl rfl (by simp)
 have hrate : ∀ x ∈ nl s g.buses, 0 ≤ x.1.rate := fun x hx => by have := busB_iff (hv.bus _ (nl_mem hx)); omega
 have hkl : k ≤ g.slots.length := hkn
 rcases R1 with ⟨rfl, rfl, _, _, hno⟩ | ⟨rfl, hP, rfl, hle⟩
 ·rcases R2 with ⟨rfl, _⟩ | ⟨rfl, hP2, _⟩
  ·exact lNights_t1x0a h1 y1 y2 h2 y3 y4 h3 y5 y6 rfl
  ·rcases R3 with ⟨rfl, _⟩ | ⟨rfl, hP3, _⟩
   ·exact lNights_t1x0b h1 y1 y2 h2 y3 y4 h3 y5 y6 rfl
   ·obtain ⟨rs, h, _⟩ := night_join hkl hrate hP2 hP3
    exact absurd h (hno _)
 ·obtain ⟨re, rl, j1, j2, j3⟩ := night_split hkl hP
  rcases R2 with ⟨_, _, _, _, h⟩ | ⟨rfl, hP2, rfl, hle2⟩
  ·exact absurd j1 (h _)
  ·rcases R3 with ⟨_, _, _, _, h⟩ | ⟨rfl, hP3, rfl, hle3⟩
   ·exact absurd j2 (h _)
   ·obtain ⟨rs, h, hc⟩ := night_join hkl hrate hP2 hP3
    have k1 := hle _ h; have k2 := hle2 _ j1; have k3 := hle3 _ j2
    have k4 := costs_bd v2 hP2; have k5 := costs_bd v3 hP3
    exact lNights_t1x0e h1 y1 y2 h2 y3 y4 h3 y5 y6 rfl
end
end Go.Proofs.Ythcdddbghldmiaa
