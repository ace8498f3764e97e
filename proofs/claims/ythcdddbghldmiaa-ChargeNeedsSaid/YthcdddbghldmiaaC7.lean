/- Contract: the error of a garage, by the reference. -/
import Derived.Test.YthcdddbghldmiaaC6
import Derived.Test.YthcdddbghldmiaaP2b
namespace Go.Proofs.Ythcdddbghldmiaa
open Go Go.Lay
set_option linter.unusedVariables false
set_option linter.unusedSimpArgs false
set_option maxRecDepth 20000
section
variable {σ : St}
theorem all_snoc {α : Type} {xs : List α} {i : Nat} {x : α} {f : α → Bool} (h : xs[i]? = some x) (ha : (xs.take i).all f = true) : (xs.take (i + 1)).all f = f x := by
  rw [take_snoc h, List.all_append, ha]; simp
theorem all_false {α : Type} {xs : List α} {i : Nat} {f : α → Bool} (h : (xs.take i).all f = false) : xs.all f = false := by
  cases hx : xs.all f with
  | false => rfl
  | true =>
    have : (xs.take i).all f = true := List.all_eq_true.2 (fun x hx2 => List.all_eq_true.1 hx x (List.mem_of_mem_take hx2))
    rw [this] at h; cases h
theorem rFault_1 {p q : Option Addr} {l c m d : Nat} {g : Gar} {τ0 : St} {B1 : Nat} (hs : SlV Try.prog τ0 47 2 p l (g.slots.map slotV)) (hl : l ≤ 12) (o1 : Own τ0 B1 (garL p l c q m d) 2) :
    ∃ e fr', LoopR Try.prog (runA Try.prog) none rFault_c1 (rFault_fr1 (p) (l) (c) (q) (m) (d) (B1) (0) (0) (.tuple ⟨[]⟩) (.tuple ⟨[]⟩) (.tuple ⟨[]⟩) (.tuple ⟨[]⟩) (.tuple ⟨[]⟩) (.tuple ⟨[]⟩) (.tuple ⟨[]⟩) (.tuple ⟨[]⟩) (.tuple ⟨[]⟩) (.tuple ⟨[]⟩) (.tuple ⟨[]⟩) (.tuple ⟨[]⟩) (.tuple ⟨[]⟩) (.tuple ⟨[]⟩) (.tuple ⟨[]⟩) (.tuple ⟨[]⟩) (.tuple ⟨[]⟩) (.tuple ⟨[]⟩) (.tuple ⟨[]⟩) (.tuple ⟨[]⟩) (.tuple ⟨[]⟩) (.tuple ⟨[]⟩) (.tuple ⟨[]⟩) (.tuple ⟨[]⟩) (.tuple ⟨[]⟩)) τ0 e fr' τ0 ∧
      ((e = .ret ∧ (∃ (x3 x16 x17 x18 x19 x20 x21 x22 x23 x24 x25 x26 x27 x28 x29 x30 x31 x32 x33 x34 x35 x36 x37 x38 x39 x40 : Value), fr' = rFault_re1 p l c q m d B1 (.int .i64 1) x3 x16 x17 x18 x19 x20 x21 x22 x23 x24 x25 x26 x27 x28 x29 x30 x31 x32 x33 x34 x35 x36 x37 x38 x39 x40) ∧ g.slots.all slotB = false) ∨ (e = .exit 0 ∧ (∃ (i3_1 : Int) (g16_1 g17_1 g18_1 g19_1 g20_1 g21_1 g22_1 g23_1 g24_1 g25_1 g26_1 g27_1 g28_1 g29_1 g30_1 g31_1 g32_1 g33_1 g34_1 g35_1 g36_1 g37_1 g38_1 g39_1 g40_1 : Value), fr' = rFault_fr1 p l c q m d B1 0 i3_1 g16_1 g17_1 g18_1 g19_1 g20_1 g21_1 g22_1 g23_1 g24_1 g25_1 g26_1 g27_1 g28_1 g29_1 g30_1 g31_1 g32_1 g33_1 g34_1 g35_1 g36_1 g37_1 g38_1 g39_1 g40_1) ∧ g.slots.all slotB = true)) := by
  have hlen : g.slots.length = l := by have := hs.2.1; simpa using this
  obtain ⟨e, fr', σ', hloop, rfl, hq⟩ := loop_inv (P := Try.prog) (R := runA Try.prog) (rd := none) (c := rFault_c1)
    (Inv := fun k fr τ => τ = τ0 ∧ ∃ (i3_1 : Int) (g16_1 g17_1 g18_1 g19_1 g20_1 g21_1 g22_1 g23_1 g24_1 g25_1 g26_1 g27_1 g28_1 g29_1 g30_1 g31_1 g32_1 g33_1 g34_1 g35_1 g36_1 g37_1 g38_1 g39_1 g40_1 : Value), fr = rFault_fr1 p l c q m d B1 0 i3_1 g16_1 g17_1 g18_1 g19_1 g20_1 g21_1 g22_1 g23_1 g24_1 g25_1 g26_1 g27_1 g28_1 g29_1 g30_1 g31_1 g32_1 g33_1 g34_1 g35_1 g36_1 g37_1 g38_1 g39_1 g40_1 ∧ ∃ i : Nat, i3_1 = i ∧ i + k = l ∧ (g.slots.take i).all slotB = true)
    (Q := fun e fr τ => τ = τ0 ∧ ((e = .ret ∧ (∃ (x3 x16 x17 x18 x19 x20 x21 x22 x23 x24 x25 x26 x27 x28 x29 x30 x31 x32 x33 x34 x35 x36 x37 x38 x39 x40 : Value), fr = rFault_re1 p l c q m d B1 (.int .i64 1) x3 x16 x17 x18 x19 x20 x21 x22 x23 x24 x25 x26 x27 x28 x29 x30 x31 x32 x33 x34 x35 x36 x37 x38 x39 x40) ∧ g.slots.all slotB = false) ∨ (e = .exit 0 ∧ (∃ (i3_1 : Int) (g16_1 g17_1 g18_1 g19_1 g20_1 g21_1 g22_1 g23_1 g24_1 g25_1 g26_1 g27_1 g28_1 g29_1 g30_1 g31_1 g32_1 g33_1 g34_1 g35_1 g36_1 g37_1 g38_1 g39_1 g40_1 : Value), fr = rFault_fr1 p l c q m d B1 0 i3_1 g16_1 g17_1 g18_1 g19_1 g20_1 g21_1 g22_1 g23_1 g24_1 g25_1 g26_1 g27_1 g28_1 g29_1 g30_1 g31_1 g32_1 g33_1 g34_1 g35_1 g36_1 g37_1 g38_1 g39_1 g40_1) ∧ g.slots.all slotB = true)))
    (fun k fr τ hi => by
      obtain ⟨rfl, i3_1, g16_1, g17_1, g18_1, g19_1, g20_1, g21_1, g22_1, g23_1, g24_1, g25_1, g26_1, g27_1, g28_1, g29_1, g30_1, g31_1, g32_1, g33_1, g34_1, g35_1, g36_1, g37_1, g38_1, g39_1, g40_1, rfl, i, rfl, hk, hall⟩ := hi
      cases k with
      | zero =>
        have hi : i = l := by omega
        subst hi
        rw [List.take_of_length_le (by omega)] at hall
        exact .out (.exit 0) _ _ (by simp) ⟨0, fun N _ => ⟨_, rFault_b1d.mpr ⟨o1.rw.ld agg22 (k := 0) rfl, ltI_ff (by omega), rfl, rfl, rfl⟩⟩⟩ ⟨rfl, .inr ⟨rfl, ⟨_, _, _, _, _, _, _, _, _, _, _, _, _, _, _, _, _, _, _, _, _, _, _, _, _, _, rfl⟩, hall⟩⟩
      | succ k =>
        obtain ⟨a, rfl, x, hx, _⟩ := slv_agg hs (i := i) (by omega)
        have hxv : (g.slots.map slotV)[i]? = some (slotV x) := by rw [List.getElem?_map, hx]; rfl
        obtain ⟨N1, c1⟩ := rIn_c (n := x.pw) (lo := 0) (hi := 1000) (σ := τ)
        obtain ⟨N2, c2⟩ := rIn_c (n := x.pr) (lo := 0) (hi := 1000) (σ := τ)
        have hsn := all_snoc hx hall
        cases h1 : inB x.pw 0 1000 with
        | false =>
          rw [h1] at c1
          rw [show slotB x = false by simp [slotB, h1]] at hsn
          exact .out .ret _ _ (by simp) ⟨N1, fun N hN => ⟨_, rFault_b1c.mpr ⟨o1.rw.ld agg22 (k := 0) rfl, ltI_tt (by omega), o1.rw.ld agg22 (k := 0) rfl, ⟨by omega, by omega⟩, slv_fld hs hxv (k := 0) rfl agg3, c1 N hN, rfl, rfl, rfl⟩⟩⟩ ⟨rfl, .inl ⟨rfl, ⟨_, _, _, _, _, _, _, _, _, _, _, _, _, _, _, _, _, _, _, _, _, _, _, _, _, _, rfl⟩, all_false hsn⟩⟩
        | true =>
          rw [h1] at c1
          cases h2 : inB x.pr 0 1000 with
          | false =>
            rw [h2] at c2
            rw [show slotB x = false by simp [slotB, h2]] at hsn
            exact .out .ret _ _ (by simp) ⟨N1 + N2, fun N hN => ⟨_, rFault_b1b.mpr ⟨o1.rw.ld agg22 (k := 0) rfl, ltI_tt (by omega), o1.rw.ld agg22 (k := 0) rfl, ⟨by omega, by omega⟩, slv_fld hs hxv (k := 0) rfl agg3, c1 N (by omega), o1.rw.ld agg22 (k := 0) rfl, ⟨by omega, by omega⟩, slv_fld hs hxv (k := 1) rfl agg3, c2 N (by omega), rfl, rfl, rfl⟩⟩⟩ ⟨rfl, .inl ⟨rfl, ⟨_, _, _, _, _, _, _, _, _, _, _, _, _, _, _, _, _, _, _, _, _, _, _, _, _, _, rfl⟩, all_false hsn⟩⟩
          | true =>
            rw [h2] at c2
            rw [show slotB x = true by simp [slotB, h1, h2]] at hsn
            exact .next _ _ k (by omega) ⟨N1 + N2, fun N hN => ⟨_, rFault_b1a.mpr ⟨o1.rw.ld agg22 (k := 0) rfl, ltI_tt (by omega), o1.rw.ld agg22 (k := 0) rfl, ⟨by omega, by omega⟩, slv_fld hs hxv (k := 0) rfl agg3, c1 N (by omega), o1.rw.ld agg22 (k := 0) rfl, ⟨by omega, by omega⟩, slv_fld hs hxv (k := 1) rfl agg3, c2 N (by omega), wrap64 (n := (i : Int) + 1) (by omega) (by omega), rfl, rfl, rfl⟩⟩⟩ ⟨rfl, _, _, _, _, _, _, _, _, _, _, _, _, _, _, _, _, _, _, _, _, _, _, _, _, _, _, rfl, i + 1, by omega, by omega, hsn⟩)
    l _ τ0 ⟨rfl, _, _, _, _, _, _, _, _, _, _, _, _, _, _, _, _, _, _, _, _, _, _, _, _, _, _, rfl, 0, rfl, by omega, rfl⟩
  exact ⟨e, fr', hloop, hq⟩
theorem rFault_2 {p q : Option Addr} {l c m d : Nat} {g : Gar} {τ0 : St} {B1 : Nat} {i3_1_3 : Int} {g16_1_4 g17_1_5 g18_1_6 g19_1_7 g20_1_8 g21_1_9 g22_1_10 g23_1_11 g24_1_12 g25_1_13 g26_1_14 g27_1_15 g28_1_16 g29_1_17 g30_1_18 g31_1_19 g32_1_20 g33_1_21 g34_1_22 g35_1_23 g36_1_24 g37_1_25 g38_1_26 g39_1_27 g40_1_28 : Value} (hs : SlV Try.prog τ0 52 9 q m (g.buses.map busV)) (hps : ∀ a, q = some a → a.block < τ0.next) (hm : m ≤ 5) (h1 : Own τ0 B1 (garL p l c q m d) 2) :
    ∃ e fr' τ1, LoopR Try.prog (runA Try.prog) none rFault_c2 (rFault_fr2 (p) (l) (c) (q) (m) (d) (B1) (i3_1_3) (g16_1_4) (g17_1_5) (g18_1_6) (g19_1_7) (g20_1_8) (g21_1_9) (g22_1_10) (g23_1_11) (g24_1_12) (g25_1_13) (g26_1_14) (g27_1_15) (g28_1_16) (g29_1_17) (g30_1_18) (g31_1_19) (g32_1_20) (g33_1_21) (g34_1_22) (g35_1_23) (g36_1_24) (g37_1_25) (g38_1_26) (g39_1_27) (g40_1_28) (0) (0) (.tuple ⟨[]⟩) (.tuple ⟨[]⟩) (.tuple ⟨[]⟩) (.tuple ⟨[]⟩) (.tuple ⟨[]⟩) (.tuple ⟨[]⟩) (.tuple ⟨[]⟩) (.tuple ⟨[]⟩) (.tuple ⟨[]⟩) (.tuple ⟨[]⟩) (.tuple ⟨[]⟩) (.tuple ⟨[]⟩) (.tuple ⟨[]⟩) (.tuple ⟨[]⟩) (.tuple ⟨[]⟩) (.tuple ⟨[]⟩) (.tuple ⟨[]⟩) (.tuple ⟨[]⟩) (.tuple ⟨[]⟩) (.tuple ⟨[]⟩) (.tuple ⟨[]⟩) (.tuple ⟨[]⟩) (.tuple ⟨[]⟩) (.tuple ⟨[]⟩) (.tuple ⟨[]⟩) (.tuple ⟨[]⟩) (.tuple ⟨[]⟩) (.tuple ⟨[]⟩) (.tuple ⟨[]⟩) (.tuple ⟨[]⟩) (.tuple ⟨[]⟩) (.tuple ⟨[]⟩) (.tuple ⟨[]⟩) (.tuple ⟨[]⟩) (.tuple ⟨[]⟩) (.tuple ⟨[]⟩) (.tuple ⟨[]⟩) (.tuple ⟨[]⟩) (.tuple ⟨[]⟩) (.tuple ⟨[]⟩) (.tuple ⟨[]⟩) (.tuple ⟨[]⟩) (.tuple ⟨[]⟩) (.tuple ⟨[]⟩) (.tuple ⟨[]⟩) (.tuple ⟨[]⟩) (.tuple ⟨[]⟩) (.tuple ⟨[]⟩) (.tuple ⟨[]⟩) (.tuple ⟨[]⟩) (.tuple ⟨[]⟩) (.tuple ⟨[]⟩) (.tuple ⟨[]⟩) (.tuple ⟨[]⟩) (.tuple ⟨[]⟩) (.tuple ⟨[]⟩) (.tuple ⟨[]⟩) (.tuple ⟨[]⟩) (.tuple ⟨[]⟩) (.tuple ⟨[]⟩) (.tuple ⟨[]⟩) (.tuple ⟨[]⟩) (.tuple ⟨[]⟩) (.tuple ⟨[]⟩) (.tuple ⟨[]⟩) (.tuple ⟨[]⟩) (.tuple ⟨[]⟩) (.tuple ⟨[]⟩) (.tuple ⟨[]⟩) (.tuple ⟨[]⟩) (.tuple ⟨[]⟩) (.tuple ⟨[]⟩) (.tuple ⟨[]⟩) (.tuple ⟨[]⟩) (.tuple ⟨[]⟩) (.tuple ⟨[]⟩) (.tuple ⟨[]⟩) (.tuple ⟨[]⟩) (.tuple ⟨[]⟩) (.tuple ⟨[]⟩) (.tuple ⟨[]⟩)) τ0 e fr' τ1 ∧ Keep τ0.next τ0 τ1 ∧
      ((e = .ret ∧ (∃ (x4 x5 x41 x42 x43 x44 x45 x46 x47 x48 x49 x50 x51 x52 x53 x54 x55 x56 x57 x58 x59 x60 x61 x62 x63 x64 x65 x66 x67 x68 x69 x70 x71 x72 x73 x74 x75 x76 x77 x78 x79 x80 x81 x82 x83 x84 x85 x86 x87 x88 x89 x90 x91 x92 x93 x94 x95 x96 x97 x98 x99 x100 x101 x102 x103 x104 x105 x106 x107 x108 x109 x110 x111 x112 x113 x114 x115 x116 x117 x118 x119 x120 : Value), fr' = rFault_re2 p l c q m d B1 i3_1_3 g16_1_4 g17_1_5 g18_1_6 g19_1_7 g20_1_8 g21_1_9 g22_1_10 g23_1_11 g24_1_12 g25_1_13 g26_1_14 g27_1_15 g28_1_16 g29_1_17 g30_1_18 g31_1_19 g32_1_20 g33_1_21 g34_1_22 g35_1_23 g36_1_24 g37_1_25 g38_1_26 g39_1_27 g40_1_28 (.int .i64 1) x4 x5 x41 x42 x43 x44 x45 x46 x47 x48 x49 x50 x51 x52 x53 x54 x55 x56 x57 x58 x59 x60 x61 x62 x63 x64 x65 x66 x67 x68 x69 x70 x71 x72 x73 x74 x75 x76 x77 x78 x79 x80 x81 x82 x83 x84 x85 x86 x87 x88 x89 x90 x91 x92 x93 x94 x95 x96 x97 x98 x99 x100 x101 x102 x103 x104 x105 x106 x107 x108 x109 x110 x111 x112 x113 x114 x115 x116 x117 x118 x119 x120) ∧ g.buses.all busB = false) ∨ (e = .exit 2 ∧ (∃ (i4_2 : Int) (g5_2 g41_2 g42_2 g43_2 g44_2 g45_2 g46_2 g47_2 g48_2 g49_2 g50_2 g51_2 g52_2 g53_2 g54_2 g55_2 g56_2 g57_2 g58_2 g59_2 g60_2 g61_2 g62_2 g63_2 g64_2 g65_2 g66_2 g67_2 g68_2 g69_2 g70_2 g71_2 g72_2 g73_2 g74_2 g75_2 g76_2 g77_2 g78_2 g79_2 g80_2 g81_2 g82_2 g83_2 g84_2 g85_2 g86_2 g87_2 g88_2 g89_2 g90_2 g91_2 g92_2 g93_2 g94_2 g95_2 g96_2 g97_2 g98_2 g99_2 g100_2 g101_2 g102_2 g103_2 g104_2 g105_2 g106_2 g107_2 g108_2 g109_2 g110_2 g111_2 g112_2 g113_2 g114_2 g115_2 g116_2 g117_2 g118_2 g119_2 g120_2 : Value), fr' = rFault_fr2 p l c q m d B1 i3_1_3 g16_1_4 g17_1_5 g18_1_6 g19_1_7 g20_1_8 g21_1_9 g22_1_10 g23_1_11 g24_1_12 g25_1_13 g26_1_14 g27_1_15 g28_1_16 g29_1_17 g30_1_18 g31_1_19 g32_1_20 g33_1_21 g34_1_22 g35_1_23 g36_1_24 g37_1_25 g38_1_26 g39_1_27 g40_1_28 0 i4_2 g5_2 g41_2 g42_2 g43_2 g44_2 g45_2 g46_2 g47_2 g48_2 g49_2 g50_2 g51_2 g52_2 g53_2 g54_2 g55_2 g56_2 g57_2 g58_2 g59_2 g60_2 g61_2 g62_2 g63_2 g64_2 g65_2 g66_2 g67_2 g68_2 g69_2 g70_2 g71_2 g72_2 g73_2 g74_2 g75_2 g76_2 g77_2 g78_2 g79_2 g80_2 g81_2 g82_2 g83_2 g84_2 g85_2 g86_2 g87_2 g88_2 g89_2 g90_2 g91_2 g92_2 g93_2 g94_2 g95_2 g96_2 g97_2 g98_2 g99_2 g100_2 g101_2 g102_2 g103_2 g104_2 g105_2 g106_2 g107_2 g108_2 g109_2 g110_2 g111_2 g112_2 g113_2 g114_2 g115_2 g116_2 g117_2 g118_2 g119_2 g120_2) ∧ g.buses.all busB = true)) := by
  have hlen : g.buses.length = m := by have := hs.2.1; simpa using this
  obtain ⟨e, fr', σ', hloop, hkk, hq⟩ := loop_inv (P := Try.prog) (R := runA Try.prog) (rd := none) (c := rFault_c2)
    (Inv := fun k fr τ => Keep τ0.next τ0 τ ∧ ∃ (i4_2 : Int) (g5_2 g41_2 g42_2 g43_2 g44_2 g45_2 g46_2 g47_2 g48_2 g49_2 g50_2 g51_2 g52_2 g53_2 g54_2 g55_2 g56_2 g57_2 g58_2 g59_2 g60_2 g61_2 g62_2 g63_2 g64_2 g65_2 g66_2 g67_2 g68_2 g69_2 g70_2 g71_2 g72_2 g73_2 g74_2 g75_2 g76_2 g77_2 g78_2 g79_2 g80_2 g81_2 g82_2 g83_2 g84_2 g85_2 g86_2 g87_2 g88_2 g89_2 g90_2 g91_2 g92_2 g93_2 g94_2 g95_2 g96_2 g97_2 g98_2 g99_2 g100_2 g101_2 g102_2 g103_2 g104_2 g105_2 g106_2 g107_2 g108_2 g109_2 g110_2 g111_2 g112_2 g113_2 g114_2 g115_2 g116_2 g117_2 g118_2 g119_2 g120_2 : Value), fr = rFault_fr2 p l c q m d B1 i3_1_3 g16_1_4 g17_1_5 g18_1_6 g19_1_7 g20_1_8 g21_1_9 g22_1_10 g23_1_11 g24_1_12 g25_1_13 g26_1_14 g27_1_15 g28_1_16 g29_1_17 g30_1_18 g31_1_19 g32_1_20 g33_1_21 g34_1_22 g35_1_23 g36_1_24 g37_1_25 g38_1_26 g39_1_27 g40_1_28 0 i4_2 g5_2 g41_2 g42_2 g43_2 g44_2 g45_2 g46_2 g47_2 g48_2 g49_2 g50_2 g51_2 g52_2 g53_2 g54_2 g55_2 g56_2 g57_2 g58_2 g59_2 g60_2 g61_2 g62_2 g63_2 g64_2 g65_2 g66_2 g67_2 g68_2 g69_2 g70_2 g71_2 g72_2 g73_2 g74_2 g75_2 g76_2 g77_2 g78_2 g79_2 g80_2 g81_2 g82_2 g83_2 g84_2 g85_2 g86_2 g87_2 g88_2 g89_2 g90_2 g91_2 g92_2 g93_2 g94_2 g95_2 g96_2 g97_2 g98_2 g99_2 g100_2 g101_2 g102_2 g103_2 g104_2 g105_2 g106_2 g107_2 g108_2 g109_2 g110_2 g111_2 g112_2 g113_2 g114_2 g115_2 g116_2 g117_2 g118_2 g119_2 g120_2 ∧ ∃ i : Nat, i4_2 = i ∧ i + k = m ∧ (g.buses.take i).all busB = true)
    (Q := fun e fr τ => Keep τ0.next τ0 τ ∧ ((e = .ret ∧ (∃ (x4 x5 x41 x42 x43 x44 x45 x46 x47 x48 x49 x50 x51 x52 x53 x54 x55 x56 x57 x58 x59 x60 x61 x62 x63 x64 x65 x66 x67 x68 x69 x70 x71 x72 x73 x74 x75 x76 x77 x78 x79 x80 x81 x82 x83 x84 x85 x86 x87 x88 x89 x90 x91 x92 x93 x94 x95 x96 x97 x98 x99 x100 x101 x102 x103 x104 x105 x106 x107 x108 x109 x110 x111 x112 x113 x114 x115 x116 x117 x118 x119 x120 : Value), fr = rFault_re2 p l c q m d B1 i3_1_3 g16_1_4 g17_1_5 g18_1_6 g19_1_7 g20_1_8 g21_1_9 g22_1_10 g23_1_11 g24_1_12 g25_1_13 g26_1_14 g27_1_15 g28_1_16 g29_1_17 g30_1_18 g31_1_19 g32_1_20 g33_1_21 g34_1_22 g35_1_23 g36_1_24 g37_1_25 g38_1_26 g39_1_27 g40_1_28 (.int .i64 1) x4 x5 x41 x42 x43 x44 x45 x46 x47 x48 x49 x50 x51 x52 x53 x54 x55 x56 x57 x58 x59 x60 x61 x62 x63 x64 x65 x66 x67 x68 x69 x70 x71 x72 x73 x74 x75 x76 x77 x78 x79 x80 x81 x82 x83 x84 x85 x86 x87 x88 x89 x90 x91 x92 x93 x94 x95 x96 x97 x98 x99 x100 x101 x102 x103 x104 x105 x106 x107 x108 x109 x110 x111 x112 x113 x114 x115 x116 x117 x118 x119 x120) ∧ g.buses.all busB = false) ∨ (e = .exit 2 ∧ (∃ (i4_2 : Int) (g5_2 g41_2 g42_2 g43_2 g44_2 g45_2 g46_2 g47_2 g48_2 g49_2 g50_2 g51_2 g52_2 g53_2 g54_2 g55_2 g56_2 g57_2 g58_2 g59_2 g60_2 g61_2 g62_2 g63_2 g64_2 g65_2 g66_2 g67_2 g68_2 g69_2 g70_2 g71_2 g72_2 g73_2 g74_2 g75_2 g76_2 g77_2 g78_2 g79_2 g80_2 g81_2 g82_2 g83_2 g84_2 g85_2 g86_2 g87_2 g88_2 g89_2 g90_2 g91_2 g92_2 g93_2 g94_2 g95_2 g96_2 g97_2 g98_2 g99_2 g100_2 g101_2 g102_2 g103_2 g104_2 g105_2 g106_2 g107_2 g108_2 g109_2 g110_2 g111_2 g112_2 g113_2 g114_2 g115_2 g116_2 g117_2 g118_2 g119_2 g120_2 : Value), fr = rFault_fr2 p l c q m d B1 i3_1_3 g16_1_4 g17_1_5 g18_1_6 g19_1_7 g20_1_8 g21_1_9 g22_1_10 g23_1_11 g24_1_12 g25_1_13 g26_1_14 g27_1_15 g28_1_16 g29_1_17 g30_1_18 g31_1_19 g32_1_20 g33_1_21 g34_1_22 g35_1_23 g36_1_24 g37_1_25 g38_1_26 g39_1_27 g40_1_28 0 i4_2 g5_2 g41_2 g42_2 g43_2 g44_2 g45_2 g46_2 g47_2 g48_2 g49_2 g50_2 g51_2 g52_2 g53_2 g54_2 g55_2 g56_2 g57_2 g58_2 g59_2 g60_2 g61_2 g62_2 g63_2 g64_2 g65_2 g66_2 g67_2 g68_2 g69_2 g70_2 g71_2 g72_2 g73_2 g74_2 g75_2 g76_2 g77_2 g78_2 g79_2 g80_2 g81_2 g82_2 g83_2 g84_2 g85_2 g86_2 g87_2 g88_2 g89_2 g90_2 g91_2 g92_2 g93_2 g94_2 g95_2 g96_2 g97_2 g98_2 g99_2 g100_2 g101_2 g102_2 g103_2 g104_2 g105_2 g106_2 g107_2 g108_2 g109_2 g110_2 g111_2 g112_2 g113_2 g114_2 g115_2 g116_2 g117_2 g118_2 g119_2 g120_2) ∧ g.buses.all busB = true)))
    (fun k fr τ hi => by
      obtain ⟨hkp, i4_2, g5_2, g41_2, g42_2, g43_2, g44_2, g45_2, g46_2, g47_2, g48_2, g49_2, g50_2, g51_2, g52_2, g53_2, g54_2, g55_2, g56_2, g57_2, g58_2, g59_2, g60_2, g61_2, g62_2, g63_2, g64_2, g65_2, g66_2, g67_2, g68_2, g69_2, g70_2, g71_2, g72_2, g73_2, g74_2, g75_2, g76_2, g77_2, g78_2, g79_2, g80_2, g81_2, g82_2, g83_2, g84_2, g85_2, g86_2, g87_2, g88_2, g89_2, g90_2, g91_2, g92_2, g93_2, g94_2, g95_2, g96_2, g97_2, g98_2, g99_2, g100_2, g101_2, g102_2, g103_2, g104_2, g105_2, g106_2, g107_2, g108_2, g109_2, g110_2, g111_2, g112_2, g113_2, g114_2, g115_2, g116_2, g117_2, g118_2, g119_2, g120_2, rfl, i, rfl, hk, hall⟩ := hi
      have o1 : Own τ B1 (garL p l c q m d) 2 := h1.keepN hkp h1.lt
      cases k with
      | zero =>
        have hi : i = m := by omega
        subst hi
        rw [List.take_of_length_le (by omega)] at hall
        exact .out (.exit 2) _ _ (by simp) ⟨0, fun N _ => ⟨_, rFault_b2k.mpr ⟨o1.rw.ld agg23 (k := 1) rfl, ltI_ff (by omega), rfl, rfl, rfl⟩⟩⟩ ⟨hkp, .inr ⟨rfl, ⟨_, _, _, _, _, _, _, _, _, _, _, _, _, _, _, _, _, _, _, _, _, _, _, _, _, _, _, _, _, _, _, _, _, _, _, _, _, _, _, _, _, _, _, _, _, _, _, _, _, _, _, _, _, _, _, _, _, _, _, _, _, _, _, _, _, _, _, _, _, _, _, _, _, _, _, _, _, _, _, _, _, _, rfl⟩, hall⟩⟩
      | succ k =>
        have hsl : SlV Try.prog τ 52 9 q m (g.buses.map busV) := slv_keepN hs hkp hps
        obtain ⟨a, rfl, b, hbi, hld⟩ := slv_agg hsl (i := i) (by omega)
        have hall := all_snoc hbi hall
        have hnx := hkp.next
        have hk1 : Keep τ0.next τ ((τ.row (ints9 0 0 0 0 0 0 0 0 0) 9).own τ.next (busL b) 9) := (Keep.row (by omega) _ _).trans (Keep.own (by omega) _ _)
        obtain ⟨N1, c1⟩ := rIn_c (n := b.fr) (lo := 0) (hi := b.to) (σ := (τ.row (ints9 0 0 0 0 0 0 0 0 0) 9).own τ.next (busL b) 9)
        obtain ⟨N2, c2⟩ := rIn_c (n := b.rate) (lo := 0) (hi := 1000) (σ := (τ.row (ints9 0 0 0 0 0 0 0 0 0) 9).own τ.next (busL b) 9)
        obtain ⟨N3, c3⟩ := rIn_c (n := b.full) (lo := 0) (hi := 1000) (σ := (τ.row (ints9 0 0 0 0 0 0 0 0 0) 9).own τ.next (busL b) 9)
        obtain ⟨N4, c4⟩ := rIn_c (n := b.floor) (lo := 0) (hi := b.full) (σ := (τ.row (ints9 0 0 0 0 0 0 0 0 0) 9).own τ.next (busL b) 9)
        obtain ⟨N5, c5⟩ := rIn_c (n := b.hlo) (lo := 0) (hi := b.hhi) (σ := (τ.row (ints9 0 0 0 0 0 0 0 0 0) 9).own τ.next (busL b) 9)
        obtain ⟨N6, c6⟩ := rIn_c (n := b.ulo) (lo := 0) (hi := b.uhi) (σ := (τ.row (ints9 0 0 0 0 0 0 0 0 0) 9).own τ.next (busL b) 9)
        have fin : busB b = false → g.buses.all busB = false := fun e => all_false (hall.trans e)
        cases h1 : inB b.fr 0 b.to with
        | false =>
            rw [h1] at c1
            rw [show busB b = false by simp [busB, h1]] at hall
            exact .out .ret _ _ (by simp) ⟨N1 + N2 + N3 + N4 + N5 + N6, fun N hN => ⟨_, rFault_b2jp (o1.rw.ld agg23 (k := 1) rfl) (ltI_tt (by omega)) (o1.rw.ld agg23 (k := 1) rfl) ⟨by omega, by omega⟩ hld (c1 N (by omega)) ⟨rfl, rfl, rfl⟩⟩⟩ ⟨hkp.trans hk1, .inl ⟨rfl, ⟨_, _, _, _, _, _, _, _, _, _, _, _, _, _, _, _, _, _, _, _, _, _, _, _, _, _, _, _, _, _, _, _, _, _, _, _, _, _, _, _, _, _, _, _, _, _, _, _, _, _, _, _, _, _, _, _, _, _, _, _, _, _, _, _, _, _, _, _, _, _, _, _, _, _, _, _, _, _, _, _, _, _, rfl⟩, all_false hall⟩⟩
        | true =>
        rw [h1] at c1
        have qh1 := inB_iff.1 h1
        by_cases h0 : b.to ≤ 12
        case neg =>
            rw [show busB b = false by simp [busB, h0]] at hall
            exact .out .ret _ _ (by simp) ⟨N1 + N2 + N3 + N4 + N5 + N6, fun N hN => ⟨_, rFault_b2ap (o1.rw.ld agg23 (k := 1) rfl) (ltI_tt (by omega)) (o1.rw.ld agg23 (k := 1) rfl) ⟨by omega, by omega⟩ hld (c1 N (by omega)) (ltI_tt (by omega)) ⟨rfl, rfl, rfl⟩⟩⟩ ⟨hkp.trans hk1, .inl ⟨rfl, ⟨_, _, _, _, _, _, _, _, _, _, _, _, _, _, _, _, _, _, _, _, _, _, _, _, _, _, _, _, _, _, _, _, _, _, _, _, _, _, _, _, _, _, _, _, _, _, _, _, _, _, _, _, _, _, _, _, _, _, _, _, _, _, _, _, _, _, _, _, _, _, _, _, _, _, _, _, _, _, _, _, _, _, rfl⟩, all_false hall⟩⟩
        cases h2 : inB b.rate 0 1000 with
        | false =>
            rw [h2] at c2
            rw [show busB b = false by simp [busB, h2]] at hall
            exact .out .ret _ _ (by simp) ⟨N1 + N2 + N3 + N4 + N5 + N6, fun N hN => ⟨_, rFault_b2ip (o1.rw.ld agg23 (k := 1) rfl) (ltI_tt (by omega)) (o1.rw.ld agg23 (k := 1) rfl) ⟨by omega, by omega⟩ hld (c1 N (by omega)) (ltI_ff (by omega)) (c2 N (by omega)) ⟨rfl, rfl, rfl⟩⟩⟩ ⟨hkp.trans hk1, .inl ⟨rfl, ⟨_, _, _, _, _, _, _, _, _, _, _, _, _, _, _, _, _, _, _, _, _, _, _, _, _, _, _, _, _, _, _, _, _, _, _, _, _, _, _, _, _, _, _, _, _, _, _, _, _, _, _, _, _, _, _, _, _, _, _, _, _, _, _, _, _, _, _, _, _, _, _, _, _, _, _, _, _, _, _, _, _, _, rfl⟩, all_false hall⟩⟩
        | true =>
        rw [h2] at c2
        have qh2 := inB_iff.1 h2
        cases h3 : inB b.full 0 1000 with
        | false =>
            rw [h3] at c3
            rw [show busB b = false by simp [busB, h3]] at hall
            exact .out .ret _ _ (by simp) ⟨N1 + N2 + N3 + N4 + N5 + N6, fun N hN => ⟨_, rFault_b2hp (o1.rw.ld agg23 (k := 1) rfl) (ltI_tt (by omega)) (o1.rw.ld agg23 (k := 1) rfl) ⟨by omega, by omega⟩ hld (c1 N (by omega)) (ltI_ff (by omega)) (c2 N (by omega)) (c3 N (by omega)) ⟨rfl, rfl, rfl⟩⟩⟩ ⟨hkp.trans hk1, .inl ⟨rfl, ⟨_, _, _, _, _, _, _, _, _, _, _, _, _, _, _, _, _, _, _, _, _, _, _, _, _, _, _, _, _, _, _, _, _, _, _, _, _, _, _, _, _, _, _, _, _, _, _, _, _, _, _, _, _, _, _, _, _, _, _, _, _, _, _, _, _, _, _, _, _, _, _, _, _, _, _, _, _, _, _, _, _, _, rfl⟩, all_false hall⟩⟩
        | true =>
        rw [h3] at c3
        have qh3 := inB_iff.1 h3
        cases h4 : inB b.floor 0 b.full with
        | false =>
            rw [h4] at c4
            rw [show busB b = false by simp [busB, h4]] at hall
            exact .out .ret _ _ (by simp) ⟨N1 + N2 + N3 + N4 + N5 + N6, fun N hN => ⟨_, rFault_b2gp (o1.rw.ld agg23 (k := 1) rfl) (ltI_tt (by omega)) (o1.rw.ld agg23 (k := 1) rfl) ⟨by omega, by omega⟩ hld (c1 N (by omega)) (ltI_ff (by omega)) (c2 N (by omega)) (c3 N (by omega)) (c4 N (by omega)) ⟨rfl, rfl, rfl⟩⟩⟩ ⟨hkp.trans hk1, .inl ⟨rfl, ⟨_, _, _, _, _, _, _, _, _, _, _, _, _, _, _, _, _, _, _, _, _, _, _, _, _, _, _, _, _, _, _, _, _, _, _, _, _, _, _, _, _, _, _, _, _, _, _, _, _, _, _, _, _, _, _, _, _, _, _, _, _, _, _, _, _, _, _, _, _, _, _, _, _, _, _, _, _, _, _, _, _, _, rfl⟩, all_false hall⟩⟩
        | true =>
        rw [h4] at c4
        have qh4 := inB_iff.1 h4
        cases h5 : inB b.hlo 0 b.hhi with
        | false =>
            rw [h5] at c5
            rw [show busB b = false by simp only [inB, Bool.and_eq_false_iff, decide_eq_false_iff_not] at h5; simp only [busB, uptoB]; simp; intros; omega] at hall
            exact .out .ret _ _ (by simp) ⟨N1 + N2 + N3 + N4 + N5 + N6, fun N hN => ⟨_, rFault_b2fp (o1.rw.ld agg23 (k := 1) rfl) (ltI_tt (by omega)) (o1.rw.ld agg23 (k := 1) rfl) ⟨by omega, by omega⟩ hld (c1 N (by omega)) (ltI_ff (by omega)) (c2 N (by omega)) (c3 N (by omega)) (c4 N (by omega)) (c5 N (by omega)) ⟨rfl, rfl, rfl⟩⟩⟩ ⟨hkp.trans hk1, .inl ⟨rfl, ⟨_, _, _, _, _, _, _, _, _, _, _, _, _, _, _, _, _, _, _, _, _, _, _, _, _, _, _, _, _, _, _, _, _, _, _, _, _, _, _, _, _, _, _, _, _, _, _, _, _, _, _, _, _, _, _, _, _, _, _, _, _, _, _, _, _, _, _, _, _, _, _, _, _, _, _, _, _, _, _, _, _, _, rfl⟩, all_false hall⟩⟩
        | true =>
        rw [h5] at c5
        have qh5 := inB_iff.1 h5
        by_cases h0b : b.hhi ≤ b.full
        case neg =>
            rw [show busB b = false by simp only [busB, uptoB]; simp; intros; omega] at hall
            exact .out .ret _ _ (by simp) ⟨N1 + N2 + N3 + N4 + N5 + N6, fun N hN => ⟨_, rFault_b2bp (o1.rw.ld agg23 (k := 1) rfl) (ltI_tt (by omega)) (o1.rw.ld agg23 (k := 1) rfl) ⟨by omega, by omega⟩ hld (c1 N (by omega)) (ltI_ff (by omega)) (c2 N (by omega)) (c3 N (by omega)) (c4 N (by omega)) (c5 N (by omega)) (ltI_tt (by omega)) ⟨rfl, rfl, rfl⟩⟩⟩ ⟨hkp.trans hk1, .inl ⟨rfl, ⟨_, _, _, _, _, _, _, _, _, _, _, _, _, _, _, _, _, _, _, _, _, _, _, _, _, _, _, _, _, _, _, _, _, _, _, _, _, _, _, _, _, _, _, _, _, _, _, _, _, _, _, _, _, _, _, _, _, _, _, _, _, _, _, _, _, _, _, _, _, _, _, _, _, _, _, _, _, _, _, _, _, _, rfl⟩, all_false hall⟩⟩
        cases h6 : inB b.ulo 0 b.uhi with
        | false =>
            rw [h6] at c6
            rw [show busB b = false by simp only [inB, Bool.and_eq_false_iff, decide_eq_false_iff_not] at h6; simp only [busB, uptoB]; simp; intros; omega] at hall
            exact .out .ret _ _ (by simp) ⟨N1 + N2 + N3 + N4 + N5 + N6, fun N hN => ⟨_, rFault_b2ep (o1.rw.ld agg23 (k := 1) rfl) (ltI_tt (by omega)) (o1.rw.ld agg23 (k := 1) rfl) ⟨by omega, by omega⟩ hld (c1 N (by omega)) (ltI_ff (by omega)) (c2 N (by omega)) (c3 N (by omega)) (c4 N (by omega)) (c5 N (by omega)) (ltI_ff (by omega)) (c6 N (by omega)) ⟨rfl, rfl, rfl⟩⟩⟩ ⟨hkp.trans hk1, .inl ⟨rfl, ⟨_, _, _, _, _, _, _, _, _, _, _, _, _, _, _, _, _, _, _, _, _, _, _, _, _, _, _, _, _, _, _, _, _, _, _, _, _, _, _, _, _, _, _, _, _, _, _, _, _, _, _, _, _, _, _, _, _, _, _, _, _, _, _, _, _, _, _, _, _, _, _, _, _, _, _, _, _, _, _, _, _, _, rfl⟩, all_false hall⟩⟩
        | true =>
        rw [h6] at c6
        have qh6 := inB_iff.1 h6
        by_cases h0c : b.uhi ≤ b.full - b.floor
        case neg =>
            rw [show busB b = false by simp only [busB, uptoB]; simp; intros; omega] at hall
            exact .out .ret _ _ (by simp) ⟨N1 + N2 + N3 + N4 + N5 + N6, fun N hN => ⟨_, rFault_b2cp (o1.rw.ld agg23 (k := 1) rfl) (ltI_tt (by omega)) (o1.rw.ld agg23 (k := 1) rfl) ⟨by omega, by omega⟩ hld (c1 N (by omega)) (ltI_ff (by omega)) (c2 N (by omega)) (c3 N (by omega)) (c4 N (by omega)) (c5 N (by omega)) (ltI_ff (by omega)) (c6 N (by omega)) (wrap64 (n := b.full - b.floor) (by omega) (by omega)) (ltI_tt (by omega)) ⟨rfl, rfl, rfl⟩⟩⟩ ⟨hkp.trans hk1, .inl ⟨rfl, ⟨_, _, _, _, _, _, _, _, _, _, _, _, _, _, _, _, _, _, _, _, _, _, _, _, _, _, _, _, _, _, _, _, _, _, _, _, _, _, _, _, _, _, _, _, _, _, _, _, _, _, _, _, _, _, _, _, _, _, _, _, _, _, _, _, _, _, _, _, _, _, _, _, _, _, _, _, _, _, _, _, _, _, rfl⟩, all_false hall⟩⟩
        rw [show busB b = true by simp only [busB, h1, h2, h3, h4, uptoB]; simp; omega] at hall
        exact .next _ _ k (by omega) ⟨N1 + N2 + N3 + N4 + N5 + N6, fun N hN => ⟨_, rFault_b2dp (o1.rw.ld agg23 (k := 1) rfl) (ltI_tt (by omega)) (o1.rw.ld agg23 (k := 1) rfl) ⟨by omega, by omega⟩ hld (c1 N (by omega)) (ltI_ff (by omega)) (c2 N (by omega)) (c3 N (by omega)) (c4 N (by omega)) (c5 N (by omega)) (ltI_ff (by omega)) (c6 N (by omega)) (wrap64 (n := b.full - b.floor) (by omega) (by omega)) (ltI_ff (by omega)) (wrap64 (n := (i : Int) + 1) (by omega) (by omega)) ⟨rfl, rfl, rfl⟩⟩⟩ ⟨hkp.trans hk1, _, _, _, _, _, _, _, _, _, _, _, _, _, _, _, _, _, _, _, _, _, _, _, _, _, _, _, _, _, _, _, _, _, _, _, _, _, _, _, _, _, _, _, _, _, _, _, _, _, _, _, _, _, _, _, _, _, _, _, _, _, _, _, _, _, _, _, _, _, _, _, _, _, _, _, _, _, _, _, _, _, _, rfl, i + 1, by omega, by omega, hall⟩)
    m _ τ0 ⟨Keep.refl _ _, _, _, _, _, _, _, _, _, _, _, _, _, _, _, _, _, _, _, _, _, _, _, _, _, _, _, _, _, _, _, _, _, _, _, _, _, _, _, _, _, _, _, _, _, _, _, _, _, _, _, _, _, _, _, _, _, _, _, _, _, _, _, _, _, _, _, _, _, _, _, _, _, _, _, _, _, _, _, _, _, _, _, rfl, 0, rfl, by omega, rfl⟩
  exact ⟨e, fr', σ', hloop, hkk, hq⟩
end
end Go.Proofs.Ythcdddbghldmiaa
