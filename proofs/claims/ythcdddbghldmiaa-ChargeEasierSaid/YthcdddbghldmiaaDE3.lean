
import Derived.Test.YthcdddbghldmiaaDE2
namespace Go.Proofs.Ythcdddbghldmiaa
open Go Go.Lay
open Try renaming prog → Pg
set_option linter.unusedVariables false
set_option linter.unusedSimpArgs false
set_option maxRecDepth 20000
set_option maxHeartbeats 1000000
theorem appT_busE : AppT Pg 23 23 52 9 := appT_of (by kernel_rfl)
theorem appT_slotE : AppT Pg 22 22 47 2 := appT_of (by kernel_rfl)
theorem cells_busE (bs : List Bus) : (flat (bs.map busV)).all cellB = true := by
 rw [List.all_eq_true]
 intro v hv
 simp only [flat, List.mem_flatMap, List.mem_map] at hv
 obtain ⟨_, ⟨b, _, rfl⟩, hv⟩ := hv
 simp [Value.cells] at hv
 rcases hv with rfl | rfl | rfl | rfl | rfl | rfl | rfl | rfl | rfl <;> rfl
theorem cells_slotE (bs : List Slot) : (flat (bs.map slotV)).all cellB = true := by
 rw [List.all_eq_true]
 intro v hv
 simp only [flat, List.mem_flatMap, List.mem_map] at hv
 obtain ⟨_, ⟨b, _, rfl⟩, hv⟩ := hv
 simp [Value.cells] at hv
 rcases hv with rfl | rfl <;> rfl
section
variable {σ τ : St} {g : Gar} {p q : Option Addr} {l c m d : Nat} {i : Int}
theorem lEasier_top (hR : RefP σ p l q m g) {wi : Int} (hw : 0 ≤ wi ∧ wi ≤ 255) (hi : 0 ≤ i ∧ i ≤ 255) {by_ : Int} (hby : 0 ≤ by_ ∧ by_ ≤ 65535) : TopQ Pg 17 4 [.agg ⟨garL p l c q m d⟩, .int .u8 wi, .int .u8 i, .int .u16 by_] σ fun v _ => v = .bool true := by
 have hl1 : g.ns = l := hR.len1; have hl2 : g.nb = m := hR.len2
 subst hl1 hl2
 obtain ⟨τ1, hτ1⟩ : ∃ τ1, τ1 = σ.row (garL p g.ns c q g.nb d) 2 := ⟨_, rfl⟩
 have N1 : New σ τ1 := by rw [hτ1]; exact New.row _ _ _
 have R1 := hR.le N1.le
 have cr := ready_c (c := c) (d := d) R1
 cases hrd : (decide (g.ns ≤ 15) && decide (g.nb ≤ 8) && decide (checkZ g = 0)) with
 | false => rw [hrd, hτ1] at cr; exact lEasier_rc cr rfl
 | true =>
 rw [hrd] at cr
 simp only [Bool.and_eq_true, decide_eq_true_eq] at hrd
 have hz := hrd.2
 have hv := valid_of hz
 have hns := hv.ns; have hnb := hv.nb
 obtain ⟨a, rfl⟩ : ∃ a : Nat, i = a := ⟨i.toNat, by omega⟩
 obtain ⟨n, hn⟩ : ∃ n, n = Int.tmod by_ 20 := ⟨_, rfl⟩
 have hnb' : 0 ≤ n ∧ n ≤ 19 := by rw [hn, Int.tmod_eq_emod_of_nonneg hby.1]; omega
 obtain ⟨B, hB⟩ : ∃ B, B = σ.next := ⟨_, rfl⟩
 have nx1 : τ1.next = B + 1 := by rw [hτ1, hB]; rfl
 have a1 : Own τ1 B (garL p g.ns c q g.nb d) 2 := by rw [hτ1, hB]; exact own_new _ _ _
 obtain ⟨τ2, hτ2⟩ : ∃ τ2, τ2 = τ1.row [.slice none 0 0, .slice none 0 0] 2 := ⟨_, rfl⟩
 have N2 : New σ τ2 := by rw [hτ2]; exact N1.row'
 have nx2 : τ2.next = B + 2 := by rw [hτ2, St.row_next, nx1]
 have a2 : Own τ2 B (garL p g.ns c q g.nb d) 2 := by rw [hτ2]; exact a1.row
 have b2 : Own τ2 (B + 1) [.slice none 0 0, .slice none 0 0] 2 := by rw [hτ2, ← nx1]; exact own_new _ _ _
 obtain ⟨τ3, hτ3⟩ : ∃ τ3, τ3 = τ2.own (B + 1) (garL p g.ns c q g.nb d) 2 := ⟨_, rfl⟩
 have N3 : New σ τ3 := by rw [hτ3]; exact N2.own (by omega)
 have nx3 : τ3.next = B + 2 := by rw [hτ3]; exact nx2
 have a3 : Own τ3 B (garL p g.ns c q g.nb d) 2 := by rw [hτ3]; exact a2.own (by omega)
 have b3 : Own τ3 (B + 1) (garL p g.ns c q g.nb d) 2 := by rw [hτ3]; exact b2.put
 obtain ⟨τ4, hτ4⟩ : ∃ τ4, τ4 = τ3.row [] 2 := ⟨_, rfl⟩
 have N4 : New σ τ4 := by rw [hτ4]; exact N3.row'
 have nx4 : τ4.next = B + 3 := by rw [hτ4, St.row_next, nx3]
 have a4 : Own τ4 B (garL p g.ns c q g.nb d) 2 := by rw [hτ4]; exact a3.row
 have b4 : Own τ4 (B + 1) (garL p g.ns c q g.nb d) 2 := by rw [hτ4]; exact b3.row
 have c4 : Own τ4 (B + 2) [] 2 := by rw [hτ4, ← nx3]; exact own_new _ _ _
 obtain ⟨q3, c3, σ2, ap1, hc1⟩ := copy_new (k := c) appT_slotE c4 (hR.le N4.le).sl.1 (by omega) (cells_slotE _)
 have M2 : New τ4 σ2 := by
  rcases hc1 with ⟨_, rfl, _⟩ | ⟨_, _, rfl⟩
  ·exact New.refl _
  ·exact New.row _ _ _
 obtain ⟨bq, hq3, hq1, hq2, oq⟩ : ∃ bq, q3 = some ⟨bq, 0, none⟩ ∧ B + 2 ≤ bq ∧ bq < σ2.next ∧ Own σ2 bq (flat (g.slots.map slotV)) 2 := by
  rcases hc1 with ⟨h0, rfl, rfl⟩ | ⟨h0, rfl, rfl⟩
  ·refine ⟨_, rfl, Nat.le_refl _, by omega, ?_⟩
   have : g.slots = [] := List.eq_nil_of_length_eq_zero h0
   rw [this]; exact c4
  ·exact ⟨_, rfl, by omega, by rw [St.row_next]; omega, own_new _ _ _⟩
 have M2x := M2.nx
 obtain ⟨τ5, hτ5⟩ : ∃ τ5, τ5 = σ2.row [] 9 := ⟨_, rfl⟩
 have N5 : New σ τ5 := by rw [hτ5]; exact (N4.trans M2).row'
 have nx5 : τ5.next = σ2.next + 1 := by rw [hτ5]; rfl
 have c5 : Own τ5 σ2.next [] 9 := by rw [hτ5]; exact own_new _ _ _
 have a5 : Own τ5 B (garL p g.ns c q g.nb d) 2 := by rw [hτ5]; exact (a4.le M2.le).row
 have b5 : Own τ5 (B + 1) (garL p g.ns c q g.nb d) 2 := by rw [hτ5]; exact (b4.le M2.le).row
 have oq5 : Own τ5 bq (flat (g.slots.map slotV)) 2 := by rw [hτ5]; exact oq.row
 obtain ⟨q5, c5', σ4, ap2, hc2⟩ := copy_new (k := d) appT_busE c5 (hR.le N5.le).bu.1 (by omega) (cells_busE _)
 have M4 : New τ5 σ4 := by
  rcases hc2 with ⟨_, rfl, _⟩ | ⟨_, _, rfl⟩
  ·exact New.refl _
  ·exact New.row _ _ _
 obtain ⟨br, hq5, hr1, hr2, or_⟩ : ∃ br, q5 = some ⟨br, 0, none⟩ ∧ σ2.next ≤ br ∧ br < σ4.next ∧ Own σ4 br (flat (g.buses.map busV)) 9 := by
  rcases hc2 with ⟨h0, rfl, rfl⟩ | ⟨h0, rfl, rfl⟩
  ·refine ⟨_, rfl, Nat.le_refl _, by omega, ?_⟩
   have : g.buses = [] := List.eq_nil_of_length_eq_zero h0
   rw [this]; exact c5
  ·exact ⟨_, rfl, by omega, by rw [St.row_next]; omega, own_new _ _ _⟩
 have M4x := M4.nx
 have a6 := a5.le M4.le; have b6 := b5.le M4.le; have oq6 := oq5.le M4.le
 obtain ⟨y1, hy1⟩ : ∃ y, y = σ4.own (B + 1) [.slice q3 g.ns c3, .slice q g.nb d] 2 := ⟨_, rfl⟩
 obtain ⟨y2, hy2⟩ : ∃ y, y = y1.own (B + 1) [.slice q3 g.ns c3, .slice q5 g.nb c5'] 2 := ⟨_, rfl⟩
 have b7 : Own y1 (B + 1) [.slice q3 g.ns c3, .slice q g.nb d] 2 := by rw [hy1]; exact b6.put
 have b8 : Own y2 (B + 1) [.slice q3 g.ns c3, .slice q5 g.nb c5'] 2 := by rw [hy2]; exact b7.put
 have K2 : Only (· = B + 1) σ4 y2 := by rw [hy2, hy1]; exact (Only.own (S := (· = B + 1)) (.inr rfl)).trans' (Only.own (.inr rfl)) (by rintro b _ rfl; exact .inl rfl)
 have ny2 : y2.next = σ4.next := by rw [hy2, hy1]; rfl
 obtain ⟨y3, hy3⟩ : ∃ y, y = y2.row [iV 0, iV 0] 2 := ⟨_, rfl⟩
 obtain ⟨y4, hy4⟩ : ∃ y, y = y3.row (ints9 0 0 0 0 0 0 0 0 0) 9 := ⟨_, rfl⟩
 have ny3 : y3.next = σ4.next + 1 := by rw [hy3, St.row_next, ny2]
 have ny4 : y4.next = σ4.next + 2 := by rw [hy4, St.row_next, ny3]
 have L24 : Le y2 y4 := by rw [hy4, hy3]; exact (Le.row _ _ _).trans (Le.row _ _ _)
 have zs : Own y4 σ4.next [iV 0, iV 0] 2 := by rw [hy4, hy3, ← ny2]; exact (own_new _ _ _).row
 have zb : Own y4 (σ4.next + 1) (ints9 0 0 0 0 0 0 0 0 0) 9 := by rw [hy4, ← ny3]; exact own_new _ _ _
 have a9 := (K2.own' a6 (by omega)).le L24
 have b9 := b8.le L24
 have oq9 := (K2.own' oq6 (by omega)).le L24
 have or9 := (K2.own' or_ (by omega)).le L24
 have N9 : New σ y4 := by rw [hy4, hy3]; exact ((((N5.trans M4).of_only K2 (by rintro b rfl; omega)).row').row')
 have R9 : RefP y4 q3 g.ns q5 g.nb g := by
  refine ⟨⟨?_, by simp, fun v hv => ?_⟩, ⟨?_, by simp, fun v hv => ?_⟩⟩
  ·rw [hq3]; exact ⟨flat_cnt (F := slotV) (fun _ => rfl), oq9.rw⟩
  ·obtain ⟨y, _, rfl⟩ := List.mem_map.1 hv; exact elOk_slotE y
  ·rw [hq5]; exact ⟨flat_cnt (F := busV) (fun _ => rfl), or9.rw⟩
  ·obtain ⟨y, _, rfl⟩ := List.mem_map.1 hv; exact elOk_busE y
 have lp : ∀ {n}, B ≤ n → ∀ a, p = some a → a.block < n := fun h a e => by have := RefP.lta hR a e; omega
 have lq : ∀ {n}, B ≤ n → ∀ a, q = some a → a.block < n := fun h a e => by have := RefP.ltb hR a e; omega
 have TP : ∀ (aS ab : Addr) (bs bb : Nat) (xs : Slot) (xb : Bus) (h : Bool), PtA y4 slotV 2 g.slots q3 bs aS xs → slotB xs = true → (bs = bq ∨ bs = σ4.next) → PtA y4 busV 9 g.buses q5 bb ab xb → busB xb = true → (bb = br ∨ bb = σ4.next + 1) →
   lEasier_K2_n wi (a : Int) B (B + 1) n aS h ab y4 (fun v _ => v = .bool true) := by
  intro aS ab bs bb xs xb h h1 h2 h3 h4 h5 h6
  refine lEasier_t2xna (easier_g3 hv hnb' _ h1 h4 h2 h5 R9 (fun x e => ?_) (fun x e => ?_)) ?_
  ·rw [hq5] at e; cases e; show br ≠ bs; omega
  ·rw [hq3] at e; cases e; show bq ≠ bb; omega
  rintro τ ⟨x, Rx, E, O⟩
  have w1 : Own τ B (garL p g.ns c q g.nb d) 2 := O.own' a9 (by omega)
  have w2 : Own τ (B + 1) [.slice q3 g.ns c3, .slice q5 g.nb c5'] 2 := O.own' b9 (by omega)
  have NT : New σ τ := N9.of_only O (by rintro b (rfl | rfl) <;> omega)
  obtain ⟨p9, c9, q9, d9, τa, x1, m1, G1⟩ := garage_c (c := c) (d := d) (hR.le NT.le) (by omega) (by omega)
  obtain ⟨_, _, _, τb, z1, er1, rb1, x2, m2, _, _, _, B1⟩ := best_v (c := c9) (d := d9) G1 hz
  have Rx' := Rx.le (m1.trans m2).le
  obtain ⟨p10, c10, q10, d10, τc, x3, m3, G2⟩ := garage_c (c := c3) (d := c5') Rx' (by omega) (by omega)
  have xns := E.ns; have xnb := E.nb
  rw [← xns, ← xnb] at G2
  obtain ⟨_, _, _, τd, z2, er2, rb2, x4, m4, _, _, _, B2⟩ := best_v (c := c10) (d := d10) G2 E.v.check
  rw [xns, xnb] at x4
  have g1 : loadA Pg τ 25 ⟨B, 0, none⟩ = some (.agg ⟨garL p g.ns c q g.nb d⟩) := w1.ldN agg25 size25 (k := 0) rfl rfl (by simp)
  have g2 : loadA Pg τb 25 ⟨B + 1, 0, none⟩ = some (.agg ⟨garL q3 g.ns c3 q5 g.nb c5'⟩) := (w2.le (m1.trans m2).le).ldN agg25 size25 (k := 0) rfl rfl (by simp)
  have mono : ∀ {rs}, PlanOK g rs → PlanOK x rs ∧ costZ x rs ≤ costZ g rs := fun h => plan_mono xns xnb E.bus E.pw E.pr h
  rcases B1 with ⟨rfl, rfl, _, _, hno⟩ | ⟨rfl, hP, rfl, hle⟩
  ·rcases B2 with ⟨rfl, _⟩ | ⟨rfl, _⟩
   ·exact lEasier_t3xnb g1 x1 x2 g2 x3 x4 rfl
   ·exact lEasier_t3xna g1 x1 x2 g2 x3 x4 rfl
  ·obtain ⟨h7, h8⟩ := mono hP
   rcases B2 with ⟨_, _, _, _, h⟩ | ⟨rfl, hP2, rfl, hle2⟩
   ·exact absurd h7 (h _)
   ·have := hle2 _ h7
    exact lEasier_t3xne g1 x1 x2 g2 x3 x4 rfl
 have T1 : ∀ (aS : Addr) (bs : Nat) (xs : Slot) (h : Bool), PtA y4 slotV 2 g.slots q3 bs aS xs → slotB xs = true → (bs = bq ∨ bs = σ4.next) → lEasier_K1_n wi (a : Int) B (B + 1) n (σ4.next + 1) h aS y4 (fun v _ => v = .bool true) := by
  intro aS bs xs h h1 h2 h3
  have ld : loadA Pg y4 23 ⟨B + 1, 1, none⟩ = some (.slice q5 g.nb c5') := b9.ld rfl agg23 (k := 1) rfl
  by_cases h0 : 0 < g.nb
  ·obtain ⟨k, hk⟩ : ∃ k, k = a % g.nb := ⟨_, rfl⟩
   have hkn : k < g.nb := by rw [hk]; exact Nat.mod_lt _ h0
   have hr : binA Pg .rem 3 (.tmp 61) (.tmp 64) (iV (a : Int)) (iV (g.nb : Int)) = some (iV (k : Int)) := by
    rw [rem_eq (by omega), Int.tmod_eq_emod_of_nonneg (by omega), hk]; rfl
   obtain ⟨b, hb⟩ := bus_at hkn
   refine lEasier_t1xna (Pn := fun ab τ => τ = y4 ∧ ab = ⟨br, k * 9, none⟩) ld ?_ ?_
   ·rw [hq5] at ld
    exact lEasier_s2a ld hr ⟨rfl, by simp [aadd]⟩
   ·rintro ab τ ⟨rfl, rfl⟩
    exact TP _ _ bs br xs b true h1 h2 h3 (.inl ⟨k, hb, rfl, or9, hq5⟩) (hv.bus b (List.mem_of_getElem? hb)) (.inl rfl)
  ·have hb0 : g.buses = [] := List.eq_nil_of_length_eq_zero (by have : g.nb = g.buses.length := rfl; omega)
   refine lEasier_t1xnb (Pn := fun ab τ => τ = y4 ∧ ab = ⟨σ4.next + 1, 0, none⟩) ld (lEasier_s2b ⟨rfl, rfl⟩) ?_
   rintro ab τ ⟨rfl, rfl⟩
   exact TP _ _ bs (σ4.next + 1) xs ⟨0, 0, 0, 0, 0, 0, 0, 0, 0⟩ false h1 h2 h3 (.inr ⟨hb0, rfl, zb, fun x e => by rw [hq5] at e; cases e; show br ≠ σ4.next + 1; omega⟩) rfl (.inr rfl)
 have e3 : loadA Pg τ3 22 ⟨B, 0, none⟩ = some (.slice p g.ns c) := a3.ld rfl agg22 (k := 0) rfl
 have e3' : loadA Pg τ3 23 ⟨B, 1, none⟩ = some (.slice q g.nb d) := a3.ld rfl agg23 (k := 1) rfl
 have e4' : loadA Pg τ4 23 ⟨B, 1, none⟩ = some (.slice q g.nb d) := a4.ld rfl agg23 (k := 1) rfl
 have e2 : loadA Pg σ2 22 ⟨B, 0, none⟩ = some (.slice p g.ns c) := (a4.le M2.le).ld rfl agg22 (k := 0) rfl
 have e2' : loadA Pg σ2 23 ⟨B, 1, none⟩ = some (.slice q g.nb d) := (a4.le M2.le).ld rfl agg23 (k := 1) rfl
 have e5 : loadA Pg τ5 22 ⟨B, 0, none⟩ = some (.slice p g.ns c) := a5.ld rfl agg22 (k := 0) rfl
 have e5' : loadA Pg τ5 23 ⟨B, 1, none⟩ = some (.slice q g.nb d) := a5.ld rfl agg23 (k := 1) rfl
 have e9 : loadA Pg y4 22 ⟨B + 1, 0, none⟩ = some (.slice q3 g.ns c3) := b9.ld rfl agg22 (k := 0) rfl
 have st1 : effOp Pg (evL [.pointer (some ⟨B + 1, 0, none⟩), .slice q3 g.ns c3]) σ4 (.store 22 (.tmp 0) (.tmp 1)) = some (undef, y1) := by
  rw [hy1]; exact b6.store (k := 0) (vs := [.slice q3 g.ns c3]) rfl size22 rfl (by simp) rfl
 have st2 : effOp Pg (evL [.pointer (some ⟨B + 1, 1, none⟩), .slice q5 g.nb c5']) y1 (.store 23 (.tmp 0) (.tmp 1)) = some (undef, y2) := by
  rw [hy2]; exact b7.store (k := 1) (vs := [.slice q5 g.nb c5']) rfl size23 rfl (by simp) rfl
 have ny1 : y1.next = σ4.next := by rw [hy1]; rfl
 have w7 : belowL τ5.next [.pointer (some ⟨B, 1, none⟩)] := belowL_cons (belowB_ptr (show B < τ5.next by omega)) belowL_nil
 have w8 : belowL τ5.next [.slice (some ⟨σ2.next, 0, none⟩) 0 0, .slice q g.nb d] := belowL_cons (belowB_sl1 (show σ2.next < τ5.next by omega)) (belowL_cons (belowB_sl (lq (by omega))) belowL_nil)
 have w9 : belowL σ4.next [.pointer (some ⟨B + 1, 0, none⟩), .slice q3 g.ns c3] := belowL_cons (belowB_ptr (show B + 1 < σ4.next by omega)) (belowL_cons (belowB_sl (fun x e => by rw [hq3] at e; cases e; show bq < σ4.next; omega)) belowL_nil)
 have w10 : belowL y1.next [.pointer (some ⟨B + 1, 1, none⟩), .slice q5 g.nb c5'] := belowL_cons (belowB_ptr (show B + 1 < y1.next by omega)) (belowL_cons (belowB_sl (fun x e => by rw [hq5] at e; cases e; show br < y1.next; omega)) belowL_nil)
 have i2 : B < σ2.next := by omega
 have i5 : B < τ5.next := by omega
 have lp0 := lp (n := σ.next) (by omega)
 rw [hy2] at st2
 rw [hy1] at st1 st2 w10
 rw [hτ5] at ap2 e5 e5' w7 w8 i5
 rw [hτ4, hτ3, hτ2, hτ1, hB] at ap1 e4'
 rw [hτ3, hτ2, hτ1, hB] at e3 e3'
 rw [hτ1] at cr
 rw [hB] at st1 st2 w7 w9 w10 e2 e2' e5 e5' i2 i5 e9 T1
 have e9' := e9
 rw [hy4, hy3, hy2, hy1, hB] at e9'
 by_cases h0 : 0 < g.ns
 ·obtain ⟨k, hk⟩ : ∃ k, k = a % g.ns := ⟨_, rfl⟩
  have hkn : k < g.ns := by rw [hk]; exact Nat.mod_lt _ h0
  have hr : binA Pg .rem 3 (.tmp 48) (.tmp 51) (iV (a : Int)) (iV (g.ns : Int)) = some (iV (k : Int)) := by
   rw [rem_eq (by omega), Int.tmod_eq_emod_of_nonneg (by omega), hk]; rfl
  obtain ⟨x, hx⟩ : ∃ x, g.slots[k]? = some x := ⟨g.slots[k], by simp⟩
  refine lEasier_ra (Pn := fun aS τ => τ = y4 ∧ aS = ⟨bq, k * 2, none⟩) cr ap1 e5' ap2 st1 st2 w7 w8 w9 w10 e3 ⟨⟨i2, rfl⟩, e2⟩ ⟨⟨i5, rfl⟩, e5⟩ e3' e4' ⟨⟨i2, rfl⟩, e2'⟩ ⟨⟨i5, rfl⟩, e5'⟩ e9' lp0 ?_ ?_
  ·rw [← hn, ← hB, ← hy1, ← hy2, ← hy3, ← hy4]
   rw [hq3, ← hB] at e9
   exact lEasier_s1a e9 hr ⟨rfl, by simp [aadd]⟩
  ·rintro aS τ ⟨rfl, rfl⟩
   rw [← hn]
   exact T1 _ bq x true (.inl ⟨k, hx, rfl, oq9, hq3⟩) (hv.slot x (List.mem_of_getElem? hx)) (.inl rfl)
 ·have hs0 : g.slots = [] := List.eq_nil_of_length_eq_zero (by have : g.ns = g.slots.length := rfl; omega)
  refine lEasier_rb (Pn := fun aS τ => τ = y4 ∧ aS = ⟨σ4.next, 0, none⟩) cr ap1 e5' ap2 st1 st2 w7 w8 w9 w10 e3 ⟨⟨i2, rfl⟩, e2⟩ ⟨⟨i5, rfl⟩, e5⟩ e3' e4' ⟨⟨i2, rfl⟩, e2'⟩ ⟨⟨i5, rfl⟩, e5'⟩ e9' lp0 ?_ ?_
  ·rw [← hn, ← hB, ← hy1, ← hy2, ← hy3, ← hy4]
   exact lEasier_s1b ⟨rfl, rfl⟩
  ·rintro aS τ ⟨rfl, rfl⟩
   rw [← hn]
   exact T1 _ σ4.next ⟨0, 0⟩ false (.inr ⟨hs0, rfl, zs, fun x e => by rw [hq3] at e; cases e; show bq ≠ σ4.next; omega⟩) rfl (.inr rfl)
end
end Go.Proofs.Ythcdddbghldmiaa
