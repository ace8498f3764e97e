
import Derived.Test.YtgfiniccfpfplaaGreatSB
import Derived.Test.YtgfiniccfpfplaaGreatXR
namespace Go.Proofs.YtgfiniccfpfplaaGreat
open Go Go.Lay
set_option linter.unusedVariables false
set_option linter.unusedSimpArgs false
set_option maxRecDepth 20000
section
variable {σ : St} {w : Wk} {p q r t : Option Addr} {l m c d rl rc tl tc : Nat} {rs ts : List Int}
theorem bch_at {td n i : Nat} {p : Option Addr} {A : List Bch} (h : SlV Tryz.prog σ td 3 p n (A.map zFH)) (hi : i < n) : ∃ a, p = some a ∧ ∃ b, A[i]? = some b ∧ zC Tryz.prog σ 5 (zK a ((Int.toNat (i : Int) * 3) + 0)) = some (.int .u8 b.kind) ∧ zC Tryz.prog σ 3 (zK a ((Int.toNat (i : Int) * 3) + 1)) = some (iV b.drv) ∧ zC Tryz.prog σ 3 (zK a ((Int.toNat (i : Int) * 3) + 2)) = some (iV b.dut) := by
 obtain ⟨a, rfl, hr⟩ := h.some hi
 have hl : i < A.length := by have := h.2.1; simp at this; omega
 have hx : A[i]? = some A[i] := List.getElem?_eq_getElem hl
 rw [Int.toNat_natCast]
 exact ⟨a, rfl, A[i], hx, hr.load1 agg5 (zLY (F := zFH) (n := 3) (fun _ => rfl) (by omega) rfl hx), hr.load1 zO (zLY (F := zFH) (n := 3) (fun _ => rfl) (by omega) rfl hx), hr.load1 zO (zLY (F := zFH) (n := 3) (fun _ => rfl) (by omega) rfl hx)⟩
theorem yLU (h : WkP σ 92 76 w p l q m) (hr : yS σ r rl rs) (ht : yS σ t tl ts) : zVA Tryz.prog 15 3 [.agg ⟨wkc w.days p l c q m d w.rest w.run w.hours⟩, .slice r rl rc, .slice t tl tc] σ fun v _ => v = .bool true := by
 have hln := h.len.1
 have hm := h.len.2
 obtain ⟨σ1, hσ1⟩ : ∃ σ1, σ1 = σ.row (wkc w.days p l c q m d w.rest w.run w.hours) 6 := ⟨_, rfl⟩
 have N1 : New σ σ1 := by rw [hσ1]; exact New.row _ _ _
 have L1 := N1.le
 have hk0 := xQ σ (wkc w.days p l c q m d w.rest w.run w.hours) 6
 rw [← hσ1] at hk0
 have k0 := Thin_c (c := c) (d := d) (h.le L1)
 cases b0 : zNY w with
 | false => rw [b0, hσ1] at k0; exact yRR k0 rfl
 | true =>
 rw [b0, hσ1] at k0
 obtain ⟨hsh, h15, h9⟩ := yOK b0
 by_cases h20 : 20 < rl
 ·exact yRX k0 rfl (by omega)
 by_cases t20 : 20 < tl
 ·exact yRW k0 rfl (by omega) (by omega)
 have lW : ∀ {z : St}, New σ1 z → zC Tryz.prog z 25 ⟨σ.next, 0, none⟩ = some (.agg ⟨wkc w.days p l c q m d w.rest w.run w.hours⟩) := fun hN => (hk0.le hN.le).ldN (k := 0) zDJ zAD (ds := wkc w.days p l c q m d w.rest w.run w.hours) rfl rfl (by simp)
 obtain ⟨p1, c1, q2, d2, σ8, k1, n1, w1⟩ := Week_c (c := c) (d := d) (h.le L1) (by omega) (by omega) hsh
 have k2 := zMP (c := c1) (d := d2) w1 hsh
 obtain ⟨p7, c7, q8, d8, σ12, k6, n6, w6⟩ := Week_c (c := c) (d := d) ((h.le L1).le n1.le) (by omega) (by omega) hsh
 have n12 : New σ1 σ12 := n1.trans n6
 obtain ⟨p13, c13, σ14, k7, n7, i7, f7⟩ := zXZ (c := rc) (SlV.le (SlV.le hr L1) n12.le) (by omega)
 obtain ⟨p15, c15, σ16, k9, n9, i9, f9⟩ := zXZ (c := tc) (SlV.le (SlV.le (SlV.le ht L1) n12.le) n7.le) (by omega)
 have n16 : New σ1 σ16 := (n12.trans n7).trans n9
 have w16 := (w6.le n7.le).le n9.le
 have i7' := SlV.le i7 n9.le
 have hd16 := (h.le L1).le n16.le
 have hr16 := SlV.le (SlV.le hr L1) n16.le
 have ht16 := SlV.le (SlV.le ht L1) n16.le
 have kf := yWM (c := c) (d := d) hd16 hsh
 rw [hσ1] at k1
 by_cases hz : zAO w rs ts = 0
 rotate_left
 ·have k8 := Breaks_no (c := c7) (d := d8) (rc := c13) (tc := c15) w16 hsh i7' i9 (by omega) (by omega) hz
  by_cases hf : xG w = 0
  rotate_left
  ·exact yRS k0 k1 k2 (lW n1) k6 k7 k9 k8 (lW n16) kf rfl (by omega) (by omega) rfl hf (by unfold zAO; rw [if_pos hf]) rfl
  have e : zAO w rs ts = if zDD w rs && zAY w ts then 0 else 2 := by unfold zAO; rw [if_neg (by omega)]
  have k3 := zTG (c := c) (d := d) (rc := rc) hd16 hr16 (by omega) (by omega)
  cases b3 : zDD w rs with
  | false =>
   rw [b3] at k3 e
   exact yRT k0 k1 k2 (lW n1) k6 k7 k9 k8 (lW n16) kf k3 rfl (by omega) (by omega) rfl hf e rfl
  | true =>
  have k4 := zWX (c := c) (d := d) (tc := tc) hd16 ht16 (by omega)
  cases b4 : zAY w ts with
  | true => rw [b3, b4] at e; exact absurd e hz
  | false =>
   rw [b3] at k3 e
   rw [b4] at k4 e
   exact yRU k0 k1 k2 (lW n1) k6 k7 k9 k8 (lW n16) kf k3 k4 rfl (by omega) (by omega) rfl hf e rfl
 obtain ⟨p11, c11, σ20, k8, n8, i8, f8⟩ := yUO (c := c7) (d := d8) (rc := c13) (tc := c15) w16 hsh i7' i9 (by omega) (by omega) hz
 have n20 := n16.trans n8
 have hd20 := (h.le L1).le n20.le
 have hr20 := SlV.le (SlV.le hr L1) n20.le
 have ht20 := SlV.le (SlV.le ht L1) n20.le
 have kf := yWM (c := c) (d := d) hd20 hsh
 have hf : xG w = 0 := by
  by_cases e : xG w = 0
  ·exact e
  ·unfold zAO at hz; rw [if_pos e] at hz; exact hz
 have e : (zDD w rs && zAY w ts) = true := by
  unfold zAO at hz
  rw [if_neg (by omega)] at hz
  split at hz
  ·assumption
  ·cases hz
 rw [Bool.and_eq_true] at e
 obtain ⟨b3, b4⟩ := e
 have k3 := zTG (c := c) (d := d) (rc := rc) hd20 hr20 (by omega) (by omega)
 have k4 := zWX (c := c) (d := d) (tc := tc) hd20 ht20 (by omega)
 rw [b3] at k3
 rw [b4] at k4
 obtain ⟨r1, r2⟩ := yCO.1 b3
 obtain ⟨t1, t2⟩ := yCN.1 b4
 have el := hr.len
 have et := ht.len
 have hrll : rl = l := by omega
 have htll : tl = l := by omega
 subst hrll htll
 have hs := Sane.of hf hsh hln hm
 obtain ⟨p21, c21, σ22, k10, n10, i10, f10⟩ := yYN (c := c) (d := d) (rc := rc) (tc := tc) hd20 hs hr20 ht20 (fun i hi => by
  have := t2 i (by omega)
  have := hs.duty i hi
  omega)
 have i8' := SlV.le i8 n10.le
 generalize hA : zDN w (zN rs) (zN ts) m = A at k8 i8 k10 i10 i8'
 have hle : A.length ≤ 1000 := by
  rw [← hA]
  have hrb := yJF (w := w) (ros := zN rs) (tru := zN ts) (k := m)
  have hjm : m * (5 * w.duties.length + 1) ≤ 6 * (5 * 12 + 1) := Nat.mul_le_mul hs.m6 (by have := hs.l12; omega)
  omega
 refine yRV k0 k1 k2 (lW n1) k6 k7 k9 k8 (lW n20) kf k3 k4 k10 (yAL (Inv := fun k i τ => τ = σ22 ∧ ∃ j : Nat, i = j ∧ j + k = A.length) (Qr := fun b τ => False) (Q0 := fun τ => True) ?_ A.length 0 _ ⟨rfl, 0, rfl, by omega⟩) ?_ ?_ (by omega) (by omega) rfl hf rfl rfl
 ·rintro k i τ ⟨rfl, j, rfl, hk⟩
  by_cases hj : j < A.length
  ·obtain ⟨a, rfl, x, hx, l1, l2, l3⟩ := bch_at i8' hj
   obtain ⟨b, rfl, y, hy, g1, g2, g3⟩ := bch_at i10 hj
   rw [hx] at hy
   cases hy
   exact yLW l1 g1 l2 g2 l3 g3 ⟨k - 1, by omega, rfl, j + 1, by omega, by omega⟩ (by omega) (by omega) (by omega) rfl rfl rfl (by omega)
  ·exact yLV trivial (by omega)
 ·rintro b τ h; exact h.elim
 ·rintro τ _
  exact yAK rfl
end
end Go.Proofs.YtgfiniccfpfplaaGreat
