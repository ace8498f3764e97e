/- Contracts: the error of a garage, by the reference; is it thin. -/
import Derived.Test.YthcdddbghldmiaaC7
namespace Go.Proofs.Ythcdddbghldmiaa
open Go Go.Lay
set_option linter.unusedVariables false
set_option linter.unusedSimpArgs false
set_option maxRecDepth 20000
section
variable {σ : St}
theorem rFault_c {p q : Option Addr} {l c m d : Nat} {g : Gar} (h : RefP σ p l q m g) : CallsA Try.prog 26 [.agg ⟨garL p l c q m d⟩] σ (.int .i64 (checkZ g)) σ := by
  have h1 := h.len1
  have h2 := h.len2
  have hle : Le σ (σ.re.row (garL p l c q m d) 2) := (le0 σ).trans (Le.row _ _ _)
  by_cases k1 : 12 < l
  · rw [show checkZ g = 3 by simp [checkZ, h1, k1]]
    exact pure_c (runs_of ⟨0, fun N hN => ⟨_, rFault_w0p (ltI_tt (by omega)) ⟨rfl, rfl⟩⟩⟩) (Nat.le_refl _) rfl
  by_cases k2 : 5 < m
  · rw [show checkZ g = 3 by simp [checkZ, h2, k2]]
    exact pure_c (runs_of ⟨0, fun N hN => ⟨_, rFault_w1p (ltI_ff (by omega)) (ltI_tt (by omega)) ⟨rfl, rfl⟩⟩⟩) (Nat.le_refl _) rfl
  have own1 : Own (σ.re.row (garL p l c q m d) 2) σ.next (garL p l c q m d) 2 := own_new σ.re (garL p l c q m d) 2
  obtain ⟨e, fr1, ⟨N1, lp1⟩, h3⟩ := rFault_1 (q := q) (m := m) (c := c) (d := d) (h.sl.le hle) (by omega) own1
  rcases h3 with ⟨rfl, ⟨x3, x16, x17, x18, x19, x20, x21, x22, x23, x24, x25, x26, x27, x28, x29, x30, x31, x32, x33, x34, x35, x36, x37, x38, x39, x40, rfl⟩, hb⟩ | ⟨rfl, ⟨i3_1, g16_1, g17_1, g18_1, g19_1, g20_1, g21_1, g22_1, g23_1, g24_1, g25_1, g26_1, g27_1, g28_1, g29_1, g30_1, g31_1, g32_1, g33_1, g34_1, g35_1, g36_1, g37_1, g38_1, g39_1, g40_1, rfl⟩, hb⟩
  · rw [show checkZ g = 1 by simp only [checkZ, h1, h2, hb]; simp; omega]
    exact pure_c (runs_of ⟨N1, fun N hN => ⟨_, rFault_w2p (ltI_ff (by omega)) (ltI_ff (by omega)) (lp1 N N hN hN) ⟨rfl, rfl⟩⟩⟩) (Nat.le_refl _) rfl
  · have hlt : ∀ a, q = some a → a.block < (σ.re.row (garL p l c q m d) 2).next := fun a e => by have := slv_lt h.bu a e; simp [St.re]; omega
    obtain ⟨e2, fr2, t2, ⟨N2, lp2⟩, hk, h4⟩ := rFault_2 (p := p) (l := l) (c := c) (d := d) (h.bu.le hle) hlt (by omega) own1
    have hlow : σ.next ≤ t2.low := by have := hk.low; simp [St.re] at this; omega
    rcases h4 with ⟨rfl, ⟨x4, x5, x41, x42, x43, x44, x45, x46, x47, x48, x49, x50, x51, x52, x53, x54, x55, x56, x57, x58, x59, x60, x61, x62, x63, x64, x65, x66, x67, x68, x69, x70, x71, x72, x73, x74, x75, x76, x77, x78, x79, x80, x81, x82, x83, x84, x85, x86, x87, x88, x89, x90, x91, x92, x93, x94, x95, x96, x97, x98, x99, x100, x101, x102, x103, x104, x105, x106, x107, x108, x109, x110, x111, x112, x113, x114, x115, x116, x117, x118, x119, x120, rfl⟩, hb2⟩ | ⟨rfl, ⟨i4_2, g5_2, g41_2, g42_2, g43_2, g44_2, g45_2, g46_2, g47_2, g48_2, g49_2, g50_2, g51_2, g52_2, g53_2, g54_2, g55_2, g56_2, g57_2, g58_2, g59_2, g60_2, g61_2, g62_2, g63_2, g64_2, g65_2, g66_2, g67_2, g68_2, g69_2, g70_2, g71_2, g72_2, g73_2, g74_2, g75_2, g76_2, g77_2, g78_2, g79_2, g80_2, g81_2, g82_2, g83_2, g84_2, g85_2, g86_2, g87_2, g88_2, g89_2, g90_2, g91_2, g92_2, g93_2, g94_2, g95_2, g96_2, g97_2, g98_2, g99_2, g100_2, g101_2, g102_2, g103_2, g104_2, g105_2, g106_2, g107_2, g108_2, g109_2, g110_2, g111_2, g112_2, g113_2, g114_2, g115_2, g116_2, g117_2, g118_2, g119_2, g120_2, rfl⟩, hb2⟩
    · rw [show checkZ g = 1 by simp only [checkZ, h1, h2, hb, hb2]; simp; omega]
      exact pure_c (runs_of ⟨N1 + N2, fun N hN => ⟨_, rFault_w3p (ltI_ff (by omega)) (ltI_ff (by omega)) (lp1 N N (by omega) (by omega)) (lp2 N N (by omega) (by omega)) ⟨rfl, rfl⟩⟩⟩) hlow rfl
    · rw [show checkZ g = 0 by simp only [checkZ, h1, h2, hb, hb2]; simp; omega]
      exact pure_c (runs_of ⟨N1 + N2, fun N hN => ⟨_, rFault_w4p (ltI_ff (by omega)) (ltI_ff (by omega)) (lp1 N N (by omega) (by omega)) (lp2 N N (by omega) (by omega)) ⟨rfl, rfl⟩⟩⟩) hlow rfl
theorem fault_c {p q : Option Addr} {l c m d : Nat} {g : Gar} (h : RefP σ p l q m g) : CallsA Try.prog 20 [.agg ⟨garL p l c q m d⟩] σ (.int .i64 (checkZ g)) σ := by
  obtain ⟨N1, c1⟩ := rFault_c (σ := σ.re.row (garL p l c q m d) 2) (c := c) (d := d) (h.le ((le0 σ).trans (Le.row _ _ _)))
  exact pure_c (runs_of ⟨N1, fun N hN => ⟨_, fault_w0p (c1 N hN) ⟨rfl, rfl⟩⟩⟩) (Nat.le_refl _) rfl
theorem thin_c {p q : Option Addr} {l c m d : Nat} : CallsA Try.prog 27 [.agg ⟨garL p l c q m d⟩] σ (.bool (decide (l ≤ 15) && decide (m ≤ 8))) σ := by
  by_cases h1 : l ≤ 15
  · by_cases h2 : m ≤ 8
    · rw [show (decide (l ≤ 15) && decide (m ≤ 8)) = true by simp [h1, h2]]
      exact pure_c (runs_of ⟨0, fun N _ => ⟨_, thin_w0p (leI_tt (by omega)) (leI_tt (by omega)) ⟨rfl, rfl⟩⟩⟩) (Nat.le_refl _) rfl
    · rw [show (decide (l ≤ 15) && decide (m ≤ 8)) = false by simp [h1, h2]]
      exact pure_c (runs_of ⟨0, fun N _ => ⟨_, thin_w1p (leI_tt (by omega)) (leI_ff (by omega)) ⟨rfl, rfl⟩⟩⟩) (Nat.le_refl _) rfl
  · rw [show (decide (l ≤ 15) && decide (m ≤ 8)) = false by simp [h1]]
    exact pure_c (runs_of ⟨0, fun N _ => ⟨_, thin_w2p (leI_ff (by omega)) ⟨rfl, rfl⟩⟩⟩) (Nat.le_refl _) rfl
end
end Go.Proofs.Ythcdddbghldmiaa
