
import Derived.Test.YthcdddbghldmiaaCB
namespace Go.Proofs.Ythcdddbghldmiaa
open Go Go.Lay
set_option linter.unusedVariables false
set_option linter.unusedSimpArgs false
set_option maxRecDepth 20000
section
variable {σ : St}
theorem rFault_c {p q : Option Addr} {l c m d : Nat} {g : Gar} (h : RefP σ p l q m g) : CallsA Try.prog 26 [.agg ⟨garL p l c q m d⟩] σ (iV (checkZ g)) σ := by
 have hl1 := h.len1; have hl2 := h.len2
 unfold checkZ
 by_cases hl : 12 < l
 ·rw [if_pos (by omega)]; exact (rFault_ra ⟨rfl, Nat.le_refl _⟩).pure
 by_cases hm : 5 < m
 ·rw [if_pos (by omega)]; exact (rFault_rb ⟨rfl, Nat.le_refl _⟩).pure
 rw [if_neg (by omega)]
 have o1 := own_new σ.re (garL p l c q m d) 2
 have hN1 : New σ.re (σ.re.row (garL p l c q m d) 2) := New.row _ _ _
 refine (rFault_rc (rFault_loop1 (Inv := fun k i3 τ => τ = σ.re.row (garL p l c q m d) 2 ∧ ∃ i : Nat, i3 = i ∧ i + k = l ∧ (g.slots.take i).all slotB = true) (Qr := fun n τ => τ = σ.re.row (garL p l c q m d) 2 ∧ n = 1 ∧ g.slots.all slotB = false)
  (Q0 := fun τ => τ = σ.re.row (garL p l c q m d) 2 ∧ g.slots.all slotB = true) ?_ l 0 _ ⟨rfl, 0, rfl, by omega, by simp⟩) ?_ ?_).pure
 ·rintro k i3 τ ⟨rfl, i, rfl, hk, ha⟩
  by_cases hi : i < l
  ·obtain ⟨a, rfl, x, hx, ld1, ld2⟩ := pw_at (h.sl.le ((le0 σ).trans hN1.le)) hi
   have hs := all_snoc hx ha
   have c1 := rIn_c (n := x.pw) (lo := 0) (hi := 1000) (σ := σ.re.row (garL (some a) l c q m d) 2)
   have c2 := rIn_c (n := x.pr) (lo := 0) (hi := 1000) (σ := σ.re.row (garL (some a) l c q m d) 2)
   cases h1 : inB x.pw 0 1000 with
   | false => rw [h1] at c1; exact rFault_s1c (o1.ld rfl agg22 (k := 0) rfl) ld1 c1 ⟨rfl, rfl, all_false (i := i + 1) (by rw [hs]; simp [slotB, h1])⟩
   | true =>
    rw [h1] at c1
    cases h2 : inB x.pr 0 1000 with
    | false => rw [h2] at c2; exact rFault_s1b (o1.ld rfl agg22 (k := 0) rfl) ld1 c1 ld2 c2 ⟨rfl, rfl, all_false (i := i + 1) (by rw [hs]; simp [slotB, h2])⟩
    | true => rw [h2] at c2; exact rFault_s1a (o1.ld rfl agg22 (k := 0) rfl) ld1 c1 ld2 c2 ⟨k - 1, by omega, rfl, i + 1, by omega, by omega, by rw [hs]; simp [slotB, h1, h2]⟩
  ·rw [List.take_of_length_le (by omega)] at ha
   exact rFault_s1d (o1.ld rfl agg22 (k := 0) rfl) ⟨rfl, ha⟩
 ·rintro n τ ⟨rfl, rfl, ha⟩
  exact rFault_t1xra ⟨by simp [ha], Nat.le_refl _⟩
 rintro τ0 ⟨rfl, ha⟩
 rw [ha]
 refine rFault_t1x0a (rFault_loop2 (Inv := fun k i4 τ => New (σ.re.row (garL p l c q m d) 2) τ ∧ ∃ i : Nat, i4 = i ∧ i + k = m ∧ (g.buses.take i).all busB = true) (Qr := fun n τ => New (σ.re.row (garL p l c q m d) 2) τ ∧ n = 1 ∧ g.buses.all busB = false)
  (Q2 := fun τ => New (σ.re.row (garL p l c q m d) 2) τ ∧ g.buses.all busB = true) ?_ m 0 _ ⟨New.refl _, 0, rfl, by omega, by simp⟩) ?_ ?_
 ·rintro k i4 τ ⟨hN, i, rfl, hk, hb⟩
  have o2 := o1.le hN.le
  by_cases hi : i < m
  ·obtain ⟨a, rfl, x, hx, ld⟩ := slv_at (h.bu.le ((le0 σ).trans (hN1.le.trans hN.le))) hi
   have hs := all_snoc hx hb
   have hcp : New τ ((τ.row (ints9 0 0 0 0 0 0 0 0 0) 9).own τ.next (busL x) 9) := (New.row _ _ _).own (Nat.le_refl _)
   have hN2 := hN.trans hcp
   have lo := o2.ld rfl agg23 (k := 1) rfl
   have e := fun n lo hi => rIn_c (n := n) (lo := lo) (hi := hi) (σ := (τ.row (ints9 0 0 0 0 0 0 0 0 0) 9).own τ.next (busL x) 9)
   have c1 := e x.fr 0 x.to; have c2 := e x.rate 0 1000; have c3 := e x.full 0 1000; have c4 := e x.floor 0 x.full; have c5 := e x.hlo 0 x.hhi; have c6 := e x.ulo 0 x.uhi
   have bad : busB x = false → g.buses.all busB = false := fun hx => all_false (i := i + 1) (by rw [hs]; exact hx)
   cases h1 : inB x.fr 0 x.to with
   | false => rw [h1] at c1; exact rFault_s2j lo ld c1 ⟨hN2, rfl, bad (by simp [busB, h1])⟩
   | true =>
   rw [h1] at c1
   by_cases h12 : ¬ x.to ≤ 12
   ·exact rFault_s2a lo ld c1 ⟨hN2, rfl, bad (by simp [busB, h12])⟩
   cases h2 : inB x.rate 0 1000 with
   | false => rw [h2] at c2; exact rFault_s2i lo ld c1 c2 ⟨hN2, rfl, bad (by simp [busB, h2])⟩
   | true =>
   rw [h2] at c2
   cases h3 : inB x.full 0 1000 with
   | false => rw [h3] at c3; exact rFault_s2h lo ld c1 c2 c3 ⟨hN2, rfl, bad (by simp [busB, h3])⟩
   | true =>
   rw [h3] at c3
   cases h4 : inB x.floor 0 x.full with
   | false => rw [h4] at c4; exact rFault_s2g lo ld c1 c2 c3 c4 ⟨hN2, rfl, bad (by simp [busB, h4])⟩
   | true =>
   rw [h4] at c4
   have i3 := inB_iff.1 h3; have i4 := inB_iff.1 h4
   cases h5 : inB x.hlo 0 x.hhi with
   | false =>
    rw [h5] at c5
    refine rFault_s2f lo ld c1 c2 c3 c4 c5 ⟨hN2, rfl, bad ?_⟩
    simp only [inB, Bool.and_eq_false_iff, decide_eq_false_iff_not] at h5
    simp only [busB, uptoB, Bool.and_eq_false_iff, decide_eq_false_iff_not]
    omega
   | true =>
   rw [h5] at c5
   have i5 := inB_iff.1 h5
   by_cases h6 : x.full < x.hhi
   ·refine rFault_s2b lo ld c1 c2 c3 c4 c5 ⟨hN2, rfl, bad ?_⟩
    simp only [busB, uptoB, Bool.and_eq_false_iff, decide_eq_false_iff_not]
    omega
   cases h7 : inB x.ulo 0 x.uhi with
   | false =>
    rw [h7] at c6
    refine rFault_s2e lo ld c1 c2 c3 c4 c5 c6 ⟨hN2, rfl, bad ?_⟩
    simp only [inB, Bool.and_eq_false_iff, decide_eq_false_iff_not] at h7
    simp only [busB, uptoB, Bool.and_eq_false_iff, decide_eq_false_iff_not]
    omega
   | true =>
   rw [h7] at c6
   have i7 := inB_iff.1 h7
   by_cases h8 : x.full - x.floor < x.uhi
   ·refine rFault_s2c lo ld c1 c2 c3 c4 c5 c6 ⟨hN2, rfl, bad ?_⟩
    simp only [busB, uptoB, Bool.and_eq_false_iff, decide_eq_false_iff_not]
    omega
   ·refine rFault_s2d lo ld c1 c2 c3 c4 c5 c6 ⟨k - 1, by omega, hN2, i + 1, by omega, by omega, ?_⟩
    rw [hs]
    simp only [busB, uptoB, h1, h2, h3, h4, Bool.and_eq_true, decide_eq_true_eq, true_and, and_true]
    omega
  ·rw [List.take_of_length_le (by omega)] at hb
   exact rFault_s2k (o2.ld rfl agg23 (k := 1) rfl) ⟨hN, hb⟩
 ·rintro n τ ⟨hN, rfl, hb⟩
  exact rFault_t2xra ⟨by simp [hb], hN.low _ (Nat.le_refl _) (by simp)⟩
 ·rintro τ ⟨hN, hb⟩
  exact rFault_t2x2a ⟨by simp [hb], hN.low _ (Nat.le_refl _) (by simp)⟩
theorem fault_c {p q : Option Addr} {l c m d : Nat} {g : Gar} (h : RefP σ p l q m g) : CallsA Try.prog 20 [.agg ⟨garL p l c q m d⟩] σ (iV (checkZ g)) σ :=
 (fault_ra (rFault_c (h.le ((le0 σ).trans (Le.row _ _ _)))) ⟨rfl, Nat.le_refl _⟩).pure
theorem thin_c {p q : Option Addr} {l c m d : Nat} : CallsA Try.prog 27 [.agg ⟨garL p l c q m d⟩] σ (.bool (decide (l ≤ 15) && decide (m ≤ 8))) σ := by
 by_cases hl : l ≤ 15 <;> by_cases hm : m ≤ 8
 ·exact (thin_ra ⟨by simp [hl, hm], Nat.le_refl _⟩).pure
 ·exact (thin_rb ⟨by simp [hl, hm], Nat.le_refl _⟩).pure
 ·exact (thin_rc ⟨by simp [hl], Nat.le_refl _⟩).pure
 ·exact (thin_rc ⟨by simp [hl], Nat.le_refl _⟩).pure
end
end Go.Proofs.Ythcdddbghldmiaa
