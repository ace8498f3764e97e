/- Contract: a garage of the reference, laid anew for the program. -/
import Derived.Test.YthcdddbghldmiaaC5
namespace Go.Proofs.Ythcdddbghldmiaa
open Go Go.Lay
set_option linter.unusedVariables false
set_option linter.unusedSimpArgs false
set_option maxRecDepth 20000
section
variable {σ : St}
/-- A garage of the reference lies there. -/
structure RefP (σ : St) (p : Option Addr) (l : Nat) (q : Option Addr) (m : Nat) (g : Gar) : Prop where
  sl : SlV Try.prog σ 47 2 p l (g.slots.map slotV)
  bu : SlV Try.prog σ 52 9 q m (g.buses.map busV)
theorem RefP.le {σ' : St} {p q : Option Addr} {l m : Nat} {g : Gar} (h : RefP σ p l q m g) (k : Le σ σ') : RefP σ' p l q m g := ⟨h.sl.le k, h.bu.le k⟩
theorem RefP.len1 {p q : Option Addr} {l m : Nat} {g : Gar} (h : RefP σ p l q m g) : g.slots.length = l := by have := h.sl.2.1; simpa using this
theorem RefP.len2 {p q : Option Addr} {l m : Nat} {g : Gar} (h : RefP σ p l q m g) : g.buses.length = m := by have := h.bu.2.1; simpa using this
theorem appT_slots : AppT Try.prog 32 32 94 2 := appT_of (by kernel_rfl)
theorem appT_buses : AppT Try.prog 33 33 97 9 := appT_of (by kernel_rfl)
theorem elOk_slot (s : Slot) : elOk Try.prog 94 2 (slotV s) := .inr ⟨agg94, size94, _, rfl, rfl⟩
theorem elOk_bus (b : Bus) : elOk Try.prog 97 9 (busV b) := .inr ⟨agg97, size97, _, rfl, rfl⟩
theorem toR_c {lo hi : Int} : CallsA Try.prog 54 [.agg ⟨[.int .i64 lo, .int .i64 hi]⟩] σ (.agg ⟨[.int .i64 lo, .int .i64 hi]⟩) σ :=
  pure_c (runs_of ⟨0, fun N _ => ⟨_, toR_w0p ⟨rfl, rfl⟩⟩⟩) (by show σ.next ≤ min σ.next (σ.next + 1); omega) rfl

theorem garage_1 {p q : Option Addr} {l c m d : Nat} {g : Gar} {τ0 : St} (B1 B2 B3 lo : Nat) (hs : SlV Try.prog τ0 47 2 p l (g.slots.map slotV)) (hps : ∀ a, p = some a → a.block < lo) (hl : l ≤ 1073741823)
    (h1 : Own τ0 B1 (garL p l c q m d) 2) (h2 : Own τ0 B2 [.slice none 0 0, .slice none 0 0] 2) (h3 : Own τ0 B3 [.slice none 0 0, .slice none 0 0] 2) (d1 : B1 ≠ B3) (d2 : B2 ≠ B3) (hlo : lo ≤ B1 ∧ lo ≤ B2 ∧ lo ≤ B3) :
    ∃ fr' τ1, LoopR Try.prog (runA Try.prog) none garage_c1 (garage_fr1 (p) (l) (c) (q) (m) (d) (B1) (B2) (B3) (0) (undef) (undef) (undef) (undef) (undef) (undef) (undef) (undef) (undef) (undef) (undef) (undef) (undef) (undef) (undef) (undef) (undef) (undef) (undef) (undef) (undef) (undef) (undef) (undef) (undef)) τ0 (.exit 0) fr' τ1 ∧
      (∃ (i4_1 : Int) (g7_1 g8_1 g9_1 g10_1 g11_1 g12_1 g13_1 g14_1 g15_1 g16_1 g17_1 g18_1 g19_1 g20_1 g21_1 g22_1 g23_1 g24_1 g25_1 g26_1 g27_1 g28_1 g29_1 g30_1 g31_1 : Value), fr' = garage_fr1 p l c q m d B1 B2 B3 i4_1 g7_1 g8_1 g9_1 g10_1 g11_1 g12_1 g13_1 g14_1 g15_1 g16_1 g17_1 g18_1 g19_1 g20_1 g21_1 g22_1 g23_1 g24_1 g25_1 g26_1 g27_1 g28_1 g29_1 g30_1 g31_1) ∧ Keep lo τ0 τ1 ∧ Own τ1 B1 (garL p l c q m d) 2 ∧ Own τ1 B2 [.slice none 0 0, .slice none 0 0] 2 ∧
      ∃ p' c', Own τ1 B3 [.slice p' l c', .slice none 0 0] 2 ∧ SlV Try.prog τ1 94 2 p' l (g.slots.map slotV) ∧ (∀ a, p' = some a → τ0.next ≤ a.block) := by
  have hlen : g.slots.length = l := by have := hs.2.1; simpa using this
  have hlt1 := h1.lt
  have hlt2 := h2.lt
  have hlt3 := h3.lt
  obtain ⟨e, fr', σ', hloop, he, hfr, hk, k1, k2, p', c', k3, k4⟩ := loop_inv (P := Try.prog) (R := runA Try.prog) (rd := none) (c := garage_c1)
    (Inv := fun k fr τ => ∃ (i4_1 : Int) (g7_1 g8_1 g9_1 g10_1 g11_1 g12_1 g13_1 g14_1 g15_1 g16_1 g17_1 g18_1 g19_1 g20_1 g21_1 g22_1 g23_1 g24_1 g25_1 g26_1 g27_1 g28_1 g29_1 g30_1 g31_1 : Value), fr = garage_fr1 p l c q m d B1 B2 B3 i4_1 g7_1 g8_1 g9_1 g10_1 g11_1 g12_1 g13_1 g14_1 g15_1 g16_1 g17_1 g18_1 g19_1 g20_1 g21_1 g22_1 g23_1 g24_1 g25_1 g26_1 g27_1 g28_1 g29_1 g30_1 g31_1 ∧ ∃ i : Nat, i4_1 = i ∧ i + k = l ∧ τ0.next ≤ τ.next ∧ Keep lo τ0 τ ∧ Own τ B1 (garL p l c q m d) 2 ∧ Own τ B2 [.slice none 0 0, .slice none 0 0] 2 ∧
      ∃ p' c', Own τ B3 [.slice p' i c', .slice none 0 0] 2 ∧ App τ τ0.next 2 (.slice p' i c') i (flat ((g.slots.take i).map slotV)))
    (Q := fun e fr τ => e = .exit 0 ∧ (∃ (i4_1 : Int) (g7_1 g8_1 g9_1 g10_1 g11_1 g12_1 g13_1 g14_1 g15_1 g16_1 g17_1 g18_1 g19_1 g20_1 g21_1 g22_1 g23_1 g24_1 g25_1 g26_1 g27_1 g28_1 g29_1 g30_1 g31_1 : Value), fr = garage_fr1 p l c q m d B1 B2 B3 i4_1 g7_1 g8_1 g9_1 g10_1 g11_1 g12_1 g13_1 g14_1 g15_1 g16_1 g17_1 g18_1 g19_1 g20_1 g21_1 g22_1 g23_1 g24_1 g25_1 g26_1 g27_1 g28_1 g29_1 g30_1 g31_1) ∧ Keep lo τ0 τ ∧ Own τ B1 (garL p l c q m d) 2 ∧ Own τ B2 [.slice none 0 0, .slice none 0 0] 2 ∧
      ∃ p' c', Own τ B3 [.slice p' l c', .slice none 0 0] 2 ∧ App τ τ0.next 2 (.slice p' l c') l (flat (g.slots.map slotV)))
    (fun k fr τ hi => by
      obtain ⟨i4_1, g7_1, g8_1, g9_1, g10_1, g11_1, g12_1, g13_1, g14_1, g15_1, g16_1, g17_1, g18_1, g19_1, g20_1, g21_1, g22_1, g23_1, g24_1, g25_1, g26_1, g27_1, g28_1, g29_1, g30_1, g31_1, rfl, i, rfl, hk, hnx, hkp, o1, o2, p', c', o3, happ⟩ := hi
      cases k with
      | zero =>
        have hi : i = l := by omega
        subst hi
        rw [List.take_of_length_le (by omega)] at happ
        exact .out (.exit 0) _ _ (by simp) ⟨0, fun N _ => ⟨_, garage_b1b.mpr ⟨o1.rw.ld agg22 (k := 0) rfl, ltI_ff (by omega), rfl, rfl, rfl⟩⟩⟩ ⟨rfl, ⟨_, _, _, _, _, _, _, _, _, _, _, _, _, _, _, _, _, _, _, _, _, _, _, _, _, _, rfl⟩, hkp, o1, o2, p', c', o3, happ⟩
      | succ k =>
        have hsl : SlV Try.prog τ 47 2 p l (g.slots.map slotV) := slv_keepN hs hkp hps
        obtain ⟨a, rfl, s, hsi, _⟩ := slv_agg hsl (i := i) (by omega)
        have hsv : (g.slots.map slotV)[i]? = some (slotV s) := by rw [List.getElem?_map, hsi]; rfl
        have hab := slv_lt hsl a rfl
        have hB1 := o1.lt
        have hB3 := o3.lt
        have hl1 : Le τ (τ.row (slotL s) 2) := Le.row _ _ _
        obtain ⟨p2, c2, τ2, g1, g2, g3⟩ := app_step (m := 1) (k := 1) appT_slots (happ.keep hl1) (row_new τ (slotL s) 2) rfl (by omega) (by omega) rfl (by simp; omega)
        have n2 : τ.next + 1 ≤ τ2.next := g3.next
        have o3' : Own τ2 B3 [.slice p' i c', .slice none 0 0] 2 := (o3.le hl1).keepN g3 (by omega)
        have hst := o3'.store (P := Try.prog) (k := 0) (t := 32) (v := .slice p2 (i + 1) c2) (vs := [.slice p2 (i + 1) c2]) (ds := [.slice p2 (i + 1) c2, .slice none 0 0]) rfl size32 rfl (by simp) rfl
        refine .next _ _ k (by omega) ⟨0, fun N hN => ⟨_, garage_b1ap hB3 hB1 hab hab happ.lt (o1.rw.ld agg22 (k := 0) rfl) (ltI_tt (by omega)) (o3.rw.ld agg32 (k := 0) rfl) (o1.rw.ld agg22 (k := 0) rfl) ⟨by omega, by omega⟩
          (slv_fld hsl hsv (k := 0) rfl agg3) (o1.rw.ld agg22 (k := 0) rfl) ⟨by omega, by omega⟩ (slv_fld hsl hsv (k := 1) rfl agg3) g1 hst (belowL_cons (belowB_ptr (by simp; omega)) (belowL_cons (belowB_sl g2.lt) belowL_nil)) (o3.row.rw.ld agg32 (k := 0) rfl)
          (wrap64 (n := (i : Int) + 1) (by omega) (by omega)) ⟨rfl, rfl, rfl⟩⟩⟩
          ⟨_, _, _, _, _, _, _, _, _, _, _, _, _, _, _, _, _, _, _, _, _, _, _, _, _, _, rfl, i + 1, by omega, by omega, by simp; omega, ((hkp.trans (Keep.row (by omega) _ _)).trans (g3.mono (by omega))).trans (Keep.own (by omega) _ _),
            ((o1.le hl1).keepN g3 (by omega)).own d1, ((o2.le hl1).keepN g3 (by omega)).own d2, p2, c2, o3'.put, ?_⟩
        rw [take_snoc hsi, List.map_append, flat_append, List.map_singleton, flat_agg]
        exact g2.own' (by omega))
    l _ τ0 ⟨_, _, _, _, _, _, _, _, _, _, _, _, _, _, _, _, _, _, _, _, _, _, _, _, _, _, rfl, 0, rfl, by omega, Nat.le_refl _, Keep.refl _ _, h1, h2, none, 0, h3, App.nil⟩
  subst he
  exact ⟨fr', σ', hloop, hfr, hk, k1, k2, p', c', k3, k4.slv (by simp [hlen]) (fun v hv => by
    obtain ⟨x, _, rfl⟩ := List.mem_map.1 hv
    exact elOk_slot x), k4.ge⟩

theorem garage_2 {p q : Option Addr} {l c m d : Nat} {g : Gar} {τ0 : St} (B1 B2 B3 lo : Nat) {i4 : Int} {g7 g8 g9 g10 g11 g12 g13 g14 g15 g16 g17 g18 g19 g20 g21 g22 g23 g24 g25 g26 g27 g28 g29 g30 g31 : Value} {ps : Option Addr} {cs : Nat} (hs : SlV Try.prog τ0 52 9 q m (g.buses.map busV)) (hps : ∀ a, q = some a → a.block < lo) (hl : m ≤ 1073741823)
    (h1 : Own τ0 B1 (garL p l c q m d) 2) (h2 : Own τ0 B2 [.slice none 0 0, .slice none 0 0] 2) (h3 : Own τ0 B3 [.slice ps l cs, .slice none 0 0] 2) (d1 : B1 ≠ B3) (d2 : B2 ≠ B3) (hlo : lo ≤ B1 ∧ lo ≤ B2 ∧ lo ≤ B3)
    (h4 : SlV Try.prog τ0 94 2 ps l (g.slots.map slotV)) (h5 : ∀ a, ps = some a → B3 < a.block) :
    ∃ fr' τ1, LoopR Try.prog (runA Try.prog) none garage_c2 (garage_fr2 (p) (l) (c) (q) (m) (d) (B1) (B2) (B3) (i4) (g7) (g8) (g9) (g10) (g11) (g12) (g13) (g14) (g15) (g16) (g17) (g18) (g19) (g20) (g21) (g22) (g23) (g24) (g25) (g26) (g27) (g28) (g29) (g30) (g31) (0) (undef) (undef) (undef) (undef) (undef) (undef) (undef) (undef) (undef) (undef) (undef) (undef) (undef) (undef) (undef) (undef) (undef) (undef) (undef) (undef) (undef) (undef) (undef) (undef) (undef) (undef) (undef) (undef) (undef) (undef) (undef) (undef) (undef) (undef) (undef)) τ0 (.exit 2) fr' τ1 ∧
      (∃ (i5_2 : Int) (g6_2 g32_2 g33_2 g34_2 g35_2 g36_2 g37_2 g38_2 g39_2 g40_2 g41_2 g42_2 g43_2 g44_2 g45_2 g46_2 g47_2 g48_2 g49_2 g50_2 g51_2 g52_2 g53_2 g54_2 g55_2 g56_2 g57_2 g58_2 g59_2 g60_2 g61_2 g62_2 g63_2 g64_2 g65_2 : Value), fr' = garage_fr2 p l c q m d B1 B2 B3 i4 g7 g8 g9 g10 g11 g12 g13 g14 g15 g16 g17 g18 g19 g20 g21 g22 g23 g24 g25 g26 g27 g28 g29 g30 g31 i5_2 g6_2 g32_2 g33_2 g34_2 g35_2 g36_2 g37_2 g38_2 g39_2 g40_2 g41_2 g42_2 g43_2 g44_2 g45_2 g46_2 g47_2 g48_2 g49_2 g50_2 g51_2 g52_2 g53_2 g54_2 g55_2 g56_2 g57_2 g58_2 g59_2 g60_2 g61_2 g62_2 g63_2 g64_2 g65_2) ∧ Keep lo τ0 τ1 ∧ Own τ1 B2 [.slice none 0 0, .slice none 0 0] 2 ∧
      ∃ p' c', Own τ1 B3 [.slice ps l cs, .slice p' m c'] 2 ∧ SlV Try.prog τ1 94 2 ps l (g.slots.map slotV) ∧ SlV Try.prog τ1 97 9 p' m (g.buses.map busV) ∧ (∀ a, p' = some a → τ0.next ≤ a.block) := by
  have hlen : g.buses.length = m := by have := hs.2.1; simpa using this
  have hlt1 := h1.lt
  have hlt2 := h2.lt
  have hlt3 := h3.lt
  obtain ⟨e, fr', σ', hloop, he, hfr, hk, k2, k5, p', c', k3, k4⟩ := loop_inv (P := Try.prog) (R := runA Try.prog) (rd := none) (c := garage_c2)
    (Inv := fun k fr τ => ∃ (i5_2 : Int) (g6_2 g32_2 g33_2 g34_2 g35_2 g36_2 g37_2 g38_2 g39_2 g40_2 g41_2 g42_2 g43_2 g44_2 g45_2 g46_2 g47_2 g48_2 g49_2 g50_2 g51_2 g52_2 g53_2 g54_2 g55_2 g56_2 g57_2 g58_2 g59_2 g60_2 g61_2 g62_2 g63_2 g64_2 g65_2 : Value), fr = garage_fr2 p l c q m d B1 B2 B3 i4 g7 g8 g9 g10 g11 g12 g13 g14 g15 g16 g17 g18 g19 g20 g21 g22 g23 g24 g25 g26 g27 g28 g29 g30 g31 i5_2 g6_2 g32_2 g33_2 g34_2 g35_2 g36_2 g37_2 g38_2 g39_2 g40_2 g41_2 g42_2 g43_2 g44_2 g45_2 g46_2 g47_2 g48_2 g49_2 g50_2 g51_2 g52_2 g53_2 g54_2 g55_2 g56_2 g57_2 g58_2 g59_2 g60_2 g61_2 g62_2 g63_2 g64_2 g65_2 ∧ ∃ i : Nat, i5_2 = i ∧ i + k = m ∧ τ0.next ≤ τ.next ∧ Keep lo τ0 τ ∧ Own τ B1 (garL p l c q m d) 2 ∧ Own τ B2 [.slice none 0 0, .slice none 0 0] 2 ∧ SlV Try.prog τ 94 2 ps l (g.slots.map slotV) ∧
      ∃ p' c', Own τ B3 [.slice ps l cs, .slice p' i c'] 2 ∧ App τ τ0.next 9 (.slice p' i c') i (flat ((g.buses.take i).map busV)))
    (Q := fun e fr τ => e = .exit 2 ∧ (∃ (i5_2 : Int) (g6_2 g32_2 g33_2 g34_2 g35_2 g36_2 g37_2 g38_2 g39_2 g40_2 g41_2 g42_2 g43_2 g44_2 g45_2 g46_2 g47_2 g48_2 g49_2 g50_2 g51_2 g52_2 g53_2 g54_2 g55_2 g56_2 g57_2 g58_2 g59_2 g60_2 g61_2 g62_2 g63_2 g64_2 g65_2 : Value), fr = garage_fr2 p l c q m d B1 B2 B3 i4 g7 g8 g9 g10 g11 g12 g13 g14 g15 g16 g17 g18 g19 g20 g21 g22 g23 g24 g25 g26 g27 g28 g29 g30 g31 i5_2 g6_2 g32_2 g33_2 g34_2 g35_2 g36_2 g37_2 g38_2 g39_2 g40_2 g41_2 g42_2 g43_2 g44_2 g45_2 g46_2 g47_2 g48_2 g49_2 g50_2 g51_2 g52_2 g53_2 g54_2 g55_2 g56_2 g57_2 g58_2 g59_2 g60_2 g61_2 g62_2 g63_2 g64_2 g65_2) ∧ Keep lo τ0 τ ∧ Own τ B2 [.slice none 0 0, .slice none 0 0] 2 ∧ SlV Try.prog τ 94 2 ps l (g.slots.map slotV) ∧
      ∃ p' c', Own τ B3 [.slice ps l cs, .slice p' m c'] 2 ∧ App τ τ0.next 9 (.slice p' m c') m (flat (g.buses.map busV)))
    (fun k fr τ hi => by
      obtain ⟨i5_2, g6_2, g32_2, g33_2, g34_2, g35_2, g36_2, g37_2, g38_2, g39_2, g40_2, g41_2, g42_2, g43_2, g44_2, g45_2, g46_2, g47_2, g48_2, g49_2, g50_2, g51_2, g52_2, g53_2, g54_2, g55_2, g56_2, g57_2, g58_2, g59_2, g60_2, g61_2, g62_2, g63_2, g64_2, g65_2, rfl, i, rfl, hk, hnx, hkp, o1, o2, o4, p', c', o3, happ⟩ := hi
      cases k with
      | zero =>
        have hi : i = m := by omega
        subst hi
        rw [List.take_of_length_le (by omega)] at happ
        exact .out (.exit 2) _ _ (by simp) ⟨0, fun N _ => ⟨_, garage_b2b.mpr ⟨o1.rw.ld agg23 (k := 1) rfl, ltI_ff (by omega), rfl, rfl, rfl⟩⟩⟩ ⟨rfl, ⟨_, _, _, _, _, _, _, _, _, _, _, _, _, _, _, _, _, _, _, _, _, _, _, _, _, _, _, _, _, _, _, _, _, _, _, _, rfl⟩, hkp, o2, o4, p', c', o3, happ⟩
      | succ k =>
        have hsl : SlV Try.prog τ 52 9 q m (g.buses.map busV) := slv_keepN hs hkp hps
        obtain ⟨a, rfl, b, hbi, hld⟩ := slv_agg hsl (i := i) (by omega)
        have hB1 := o1.lt
        have hB3 := o3.lt
        have hl0 : Le τ ((τ.row (ints9 0 0 0 0 0 0 0 0 0) 9).own τ.next (busL b) 9) := (Le.row _ _ _).own (Nat.le_refl _)
        have hl1 := hl0.trans (Le.row _ (busL b) 9)
        have hk1 : Keep τ0.next τ (((τ.row (ints9 0 0 0 0 0 0 0 0 0) 9).own τ.next (busL b) 9).row (busL b) 9) := ((Keep.row (by omega) _ _).trans (Keep.own (by omega) _ _)).trans (Keep.row (by simp; omega) _ _)
        obtain ⟨N1, c1⟩ := toR_c (lo := b.hlo) (hi := b.hhi) (σ := (τ.row (ints9 0 0 0 0 0 0 0 0 0) 9).own τ.next (busL b) 9)
        obtain ⟨N2, c2⟩ := toR_c (lo := b.ulo) (hi := b.uhi) (σ := (τ.row (ints9 0 0 0 0 0 0 0 0 0) 9).own τ.next (busL b) 9)
        obtain ⟨p2, c2', τ2, g1, g2, g3⟩ := app_step (m := 1) (k := 1) appT_buses (happ.keep hl1) (row_new _ (busL b) 9) rfl (by omega) (by omega) rfl (by simp; omega)
        have n2 := g3.next
        simp only [St.row_next, St.own_next] at n2
        have o3' : Own τ2 B3 [.slice ps l cs, .slice p' i c'] 2 := (o3.le hl1).keepN g3 (by omega)
        have hst := o3'.store (P := Try.prog) (k := 1) (t := 33) (v := .slice p2 (i + 1) c2') (vs := [.slice p2 (i + 1) c2']) (ds := [.slice ps l cs, .slice p2 (i + 1) c2']) rfl size33 rfl (by simp) rfl
        have hq := slv_lt h4
        refine .next _ _ k (by omega) ⟨N1 + N2, fun N hN => ⟨_, garage_b2ap hB3 happ.lt (o1.rw.ld agg23 (k := 1) rfl) (ltI_tt (by omega)) (o1.rw.ld agg23 (k := 1) rfl) ⟨by omega, by omega⟩ hld ((o3.le hl0).rw.ld agg33 (k := 1) rfl)
          (c1 N (by omega)) (c2 N (by omega)) g1 hst (belowL_cons (belowB_ptr (by simp; omega)) (belowL_cons (belowB_sl g2.lt) belowL_nil)) ((o3.le hl1).rw.ld agg33 (k := 1) rfl)
          (wrap64 (n := (i : Int) + 1) (by omega) (by omega)) ⟨rfl, rfl, rfl⟩⟩⟩
          ⟨_, _, _, _, _, _, _, _, _, _, _, _, _, _, _, _, _, _, _, _, _, _, _, _, _, _, _, _, _, _, _, _, _, _, _, _, rfl, i + 1, by omega, by omega, by simp; omega, ((hkp.trans (hk1.mono (by omega))).trans (g3.mono (by omega))).trans (Keep.own (by omega) _ _),
            ((o1.le hl1).keepN g3 (by omega)).own d1, ((o2.le hl1).keepN g3 (by omega)).own d2, (slv_keepN (o4.le hl1) g3 hq).own (.inr (fun a e => by have := h5 a e; omega)), p2, c2', o3'.put, ?_⟩
        rw [take_snoc hbi, List.map_append, flat_append, List.map_singleton, flat_agg]
        exact g2.own' (by omega))
    m _ τ0 ⟨_, _, _, _, _, _, _, _, _, _, _, _, _, _, _, _, _, _, _, _, _, _, _, _, _, _, _, _, _, _, _, _, _, _, _, _, rfl, 0, rfl, by omega, Nat.le_refl _, Keep.refl _ _, h1, h2, h4, none, 0, h3, App.nil⟩
  subst he
  exact ⟨fr', σ', hloop, hfr, hk, k2, p', c', k3, k5, k4.slv (by simp [hlen]) (fun v hv => by
    obtain ⟨x, _, rfl⟩ := List.mem_map.1 hv
    exact elOk_bus x), k4.ge⟩

theorem garage_c {p q : Option Addr} {l c m d : Nat} {g : Gar} (h : RefP σ p l q m g) (hl : l ≤ 1073741823) (hm : m ≤ 1073741823) :
    ∃ p' c' q' d' σ', CallsA Try.prog 19 [.agg ⟨garL p l c q m d⟩] σ (.agg ⟨garL p' l c' q' m d'⟩) σ' ∧ New σ σ' ∧ GarP σ' p' l q' m g := by
  let s1 := σ.re.row (garL p l c q m d) 2
  let s2 := s1.row [.slice none 0 0, .slice none 0 0] 2
  let s3 := s2.row [.slice none 0 0, .slice none 0 0] 2
  have hle : Le σ s3 := (((le0 σ).trans (Le.row _ _ _)).trans (Le.row _ _ _)).trans (Le.row _ _ _)
  have a1 : Own s3 σ.next (garL p l c q m d) 2 := (own_new σ.re (garL p l c q m d) 2).row.row
  have a2 : Own s3 (σ.next + 1) [.slice none 0 0, .slice none 0 0] 2 := (own_new s1 [.slice none 0 0, .slice none 0 0] 2).row
  have a3 : Own s3 (σ.next + 2) [.slice none 0 0, .slice none 0 0] 2 := own_new s2 [.slice none 0 0, .slice none 0 0] 2
  obtain ⟨fr1, t1, ⟨N1, lp1⟩, ⟨i4_1, g7_1, g8_1, g9_1, g10_1, g11_1, g12_1, g13_1, g14_1, g15_1, g16_1, g17_1, g18_1, g19_1, g20_1, g21_1, g22_1, g23_1, g24_1, g25_1, g26_1, g27_1, g28_1, g29_1, g30_1, g31_1, rfl⟩, kp1, b1, b2, p', c', b3, b4, b5⟩ :=
    garage_1 σ.next (σ.next + 1) (σ.next + 2) σ.next (h.sl.le hle) (fun a e => slv_lt h.sl a e) hl a1 a2 a3 (by omega) (by omega) (by omega)
  have hs3 : s3.next = σ.next + 3 := rfl
  obtain ⟨fr2, t2, ⟨N2, lp2⟩, ⟨i5_2, g6_2, g32_2, g33_2, g34_2, g35_2, g36_2, g37_2, g38_2, g39_2, g40_2, g41_2, g42_2, g43_2, g44_2, g45_2, g46_2, g47_2, g48_2, g49_2, g50_2, g51_2, g52_2, g53_2, g54_2, g55_2, g56_2, g57_2, g58_2, g59_2, g60_2, g61_2, g62_2, g63_2, g64_2, g65_2, rfl⟩, kp2, e2, q', d', e3, e4, e5, e6⟩ :=
    garage_2 σ.next (σ.next + 1) (σ.next + 2) σ.next (g := g) (slv_keepN (h.bu.le hle) kp1 (fun a e => slv_lt h.bu a e)) (fun a e => slv_lt h.bu a e) hm b1 b2 b3 (by omega) (by omega) (by omega) b4 (fun a e => by have := b5 a e; omega)
  have hst := e2.store (P := Try.prog) (k := 0) (t := 35) (v := .agg ⟨[.slice p' l c', .slice q' m d']⟩) (vs := [.slice p' l c', .slice q' m d']) (ds := [.slice p' l c', .slice q' m d']) rfl size35 rfl (by simp) rfl
  have hkk : Keep σ.next s3 (t2.own (σ.next + 1) [.slice p' l c', .slice q' m d'] 2) := (kp1.trans kp2).trans (Keep.own (by omega) _ _)
  have hnew : New σ.re (t2.own (σ.next + 1) [.slice p' l c', .slice q' m d'] 2) := by
    have hk0 : Keep σ.re.next σ.re s3 := ((Keep.row (Nat.le_refl _) _ _).trans (Keep.row (by simp [s1]) _ _)).trans (Keep.row (by simp [s2, s1]; omega) _ _)
    exact New.of_keep (hk0.trans hkk)
  have hb : ∀ {x : Option Addr} {n t len : Nat} {vs : List Value}, SlV Try.prog t2 t n x len vs → (∀ a, x = some a → a.block ≠ σ.next + 1) → SlV Try.prog (t2.own (σ.next + 1) [.slice p' l c', .slice q' m d'] 2) t n x len vs := fun h1 h2 => h1.own (.inr h2)
  have hgar : GarP (t2.own (σ.next + 1) [.slice p' l c', .slice q' m d'] 2) p' l q' m g := ⟨hb e4 (fun a e => by have := b5 a e; omega), hb e5 (fun a e => by have := e6 a e; have := kp1.next; omega)⟩
  · obtain ⟨v, σ'', k1, k2, p2, c2, q2, d2, rfl, k3⟩ := new_c (σ := σ) (Q := fun v s => ∃ p' c' q' d', v = .agg ⟨garL p' l c' q' m d'⟩ ∧ GarP s p' l q' m g)
      (runs_of ⟨N1 + N2, fun N hN => ⟨_, garage_w0.mpr ⟨lp1 N N (by omega) (by omega), lp2 N N (by omega) (by omega), e3.rw.ldN agg35 size35 (k := 0) rfl rfl (by simp), hst, e2.put.rw.ldN agg35 size35 (k := 0) rfl rfl (by simp), rfl, rfl⟩⟩⟩) hnew ⟨_, _, _, _, rfl, hgar⟩
      (fun s s' ⟨p', c', q', d', e, hs⟩ hl => ⟨p', c', q', d', e, hs.le hl⟩) (fun hr => by
        cases p' with
        | some a => simp [rigidB, atomB, RD] at hr
        | none => cases q' with
          | some a => simp [rigidB, atomB, RD] at hr
          | none => exact ⟨none, _, none, _, rfl, slv_none hgar.sl, slv_none hgar.bu⟩)
    exact ⟨p2, c2, q2, d2, σ'', k1, k2, k3⟩
end
end Go.Proofs.Ythcdddbghldmiaa
