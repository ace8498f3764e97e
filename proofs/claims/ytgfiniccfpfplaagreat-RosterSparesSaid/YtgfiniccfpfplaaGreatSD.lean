
import Derived.Test.YtgfiniccfpfplaaGreatSB
import Derived.Test.YtgfiniccfpfplaaGreatXT
namespace Go.Proofs.YtgfiniccfpfplaaGreat
open Go Go.Lay
set_option linter.unusedVariables false
set_option linter.unusedSimpArgs false
set_option maxRecDepth 20000
section
variable {σ : St} {w : Wk} {p q r t : Option Addr} {l m c d rl rc tl tc : Nat} {rs ts : List Int}
theorem yLV {i : Int} (h : WkP σ 92 76 w p l q m) (hr : yO σ r rl rs) : zZI Tryz.prog 15 5 [.agg ⟨wkc w.days p l c q m d w.rest w.run w.hours⟩, .slice r rl rc, iV i] σ fun v _ => v = .bool true := by
 have hln := h.len.1
 have hm := h.len.2
 obtain ⟨σ1, hσ1⟩ : ∃ σ1, σ1 = σ.row (wkc w.days p l c q m d w.rest w.run w.hours) 6 := ⟨_, rfl⟩
 have N1 : New σ σ1 := by rw [hσ1]; exact New.row _ _ _
 have L1 := N1.le
 have hk0 := xR σ (wkc w.days p l c q m d w.rest w.run w.hours) 6
 rw [← hσ1] at hk0
 have k0 := Thin_c (c := c) (d := d) (h.le L1)
 cases b0 : zOE w with
 | false => rw [b0, hσ1] at k0; exact yRO k0 rfl
 | true =>
 rw [b0, hσ1] at k0
 obtain ⟨hsh, h15, h9⟩ := yOH b0
 by_cases h20 : 20 < rl
 ·exact yRT k0 rfl (by omega)
 obtain ⟨p7, c7, q8, d8, σ12, k6, n6, w6⟩ := Week_c (c := c) (d := d) (h.le L1) (by omega) (by omega) hsh
 obtain ⟨p13, c13, σ14, k7, n7, i7, f7⟩ := yGI (c := rc) (SlV.le (SlV.le hr L1) n6.le) (by omega)
 have lW : ∀ {z : St}, New σ1 z → zC Tryz.prog z 25 ⟨σ.next, 0, none⟩ = some (.agg ⟨wkc w.days p l c q m d w.rest w.run w.hours⟩) := fun hN => (hk0.le hN.le).ldN (k := 0) zAS wU (ds := wkc w.days p l c q m d w.rest w.run w.hours) rfl rfl (by simp)
 have n14 : New σ1 σ14 := n6.trans n7
 have hw14 := w6.le n7.le
 have hd14 := (h.le L1).le n14.le
 have hr14 := SlV.le (SlV.le hr L1) n14.le
 rw [hσ1] at k6
 by_cases hz : zAG w rs i = 0
 rotate_left
 ·have k8 := Spares_no (c := c7) (d := d8) (rc := c13) (i := i) hw14 hsh i7 (by omega) (by omega) hz
  have kf := yWR (c := c) (d := d) hd14 hsh
  by_cases hf : xH w = 0
  rotate_left
  ·exact yRP k0 k6 k7 k8 (lW n14) kf rfl (by omega) hf (by unfold zAG; rw [if_pos hf]) rfl
  have e : zAG w rs i = if zDH w rs && inB i 0 ((l : Int) - 1) then 0 else 2 := by unfold zAG; rw [if_neg (by omega), hln]
  have k3 := zTE (c := c) (d := d) (rc := rc) hd14 hr14 (by omega) (by omega)
  cases b3 : zDH w rs with
  | false =>
   rw [b3] at k3 e
   exact yRQ k0 k6 k7 k8 (lW n14) kf k3 rfl (by omega) hf e rfl
  | true =>
  have k4 := yJI (σ := σ14) (n := i) (lo := 0) (hi := (l : Int) - 1)
  cases b4 : inB i 0 ((l : Int) - 1) with
  | true => rw [b3, b4] at e; exact absurd e hz
  | false =>
   rw [b3] at k3
   rw [b4] at k4
   rw [b3, b4] at e
   exact yRR k0 k6 k7 k8 (lW n14) kf k3 ((hk0.le n14.le).ld zBI rfl) k4 rfl (by omega) hf (by omega) e rfl
 obtain ⟨p11, c11, σ15, k8, n8, i8, f8⟩ := yUN (c := c7) (d := d8) (rc := c13) (i := i) hw14 hsh i7 (by omega) (by omega) hz
 have n15 := n14.trans n8
 have hd15 := (h.le L1).le n15.le
 have hr15 := SlV.le (SlV.le hr L1) n15.le
 have kf := yWR (c := c) (d := d) hd15 hsh
 have hf : xH w = 0 := by
  by_cases e : xH w = 0
  ·exact e
  ·unfold zAG at hz; rw [if_pos e] at hz; exact hz
 rw [hf] at kf
 have e : (zDH w rs && inB i 0 ((l : Int) - 1)) = true := by
  unfold zAG at hz
  rw [if_neg (by omega), hln] at hz
  split at hz
  ·assumption
  ·cases hz
 rw [Bool.and_eq_true] at e
 obtain ⟨b3, b4⟩ := e
 have k3 := zTE (c := c) (d := d) (rc := rc) hd15 hr15 (by omega) (by omega)
 have k4 := yJI (σ := σ15) (n := i) (lo := 0) (hi := (l : Int) - 1)
 rw [b3] at k3
 rw [b4] at k4
 obtain ⟨r1, r2⟩ := yCM.1 b3
 have hi := zBV.1 b4
 have el := hr.len
 have hrll : rl = l := by omega
 subst hrll
 have hs := Sane.of hf hsh hln hm
 obtain ⟨i0, rfl⟩ : ∃ i0 : Nat, i = (i0 : Int) := ⟨i.toNat, by omega⟩
 rw [Int.toNat_natCast] at k8 i8
 refine yRS k0 k6 k7 k8 (lW n15) kf k3 ((hk0.le n15.le).ld zBI rfl) k4 (yAL (Inv := fun k p' l' c' i τ => New σ15 τ ∧ ∃ j : Nat, i = j ∧ j + k = m ∧ l' = (wO w rs i0 j).length ∧ Gr Tryz.prog τ σ15.next 3 1 p' l' c' ((wO w rs i0 j).map yS))
  (Q0 := fun p' l' c' τ => New σ15 τ ∧ l' = (wO w rs i0 m).length ∧ Gr Tryz.prog τ σ15.next 3 1 p' l' c' ((wO w rs i0 m).map yS)) ?_ m none 0 0 0 _ ⟨New.refl _, 0, rfl, by omega, by simp [wO], by simpa [wO] using Gr.nil⟩) ?_ (by omega) rfl
 ·rintro k p' l' c' j' τ ⟨hN, j, rfl, hk, rfl, hg⟩
  have hN1 := n15.trans hN
  have lV : zC Tryz.prog τ 23 ⟨σ.next, 2, none⟩ = some (.slice q m d) := (hk0.le hN1.le).ld zCI rfl
  by_cases hj : j < m
  rotate_left
  ·have : j = m := by omega
   subst this
   exact yLW lV ⟨hN, rfl, hg⟩ (by omega)
  have hr0 := SlV.le hr15 hN.le
  obtain ⟨p2, c2, τ2, g1, n2, i2, f2⟩ := rWith_c (c := rc) (k := (j : Int)) hr0 (by omega : i0 < rl) (by omega)
  have hd2 := (hd15.le hN.le).le n2.le
  have k6 := rLegal_c (c := c) (d := d) (rc := c2) hd2 hs i2
  have hlb : decide (zCD w (zN (rs.set i0 (j : Int))) (zN (uE w)) m = []) = zHZ w (rs.set i0 (j : Int)) := by unfold zHZ; rw [hm]
  rw [hlb] at k6
  have es := yAU (w := w) (rs := rs) (i := i0) (j := j)
  have hle := zLE (w := w) (rs := rs) (i := i0) (j := j)
  have hlt : σ.next < τ.next := (hk0.le hN1.le).lt
  have nx2 := n2.nx
  have pab : ∀ a, p = some a → a.block < τ2.next := xG hd2.dty
  have qab : ∀ a, q = some a → a.block < τ2.next := by obtain ⟨vs, h1, _⟩ := hd2.drv; exact xG h1
  have hb : zT τ2.next [.agg ⟨wkc w.days p rl c q m d w.rest w.run w.hours⟩, .slice p2 rl c2] := zG (zGK pab qab) (zG (xZ (xG i2)) zL)
  cases hlg : zHZ w (rs.set i0 (j : Int)) with
  | true =>
   rw [hlg] at k6 es
   rw [if_pos rfl] at es
   obtain ⟨q7, d7, τ4, g2, g3, g4, _, _⟩ := grow (yS (j : Int)) zEU hg hN n2 (zHD _) (by omega)
   refine yLY lV (lW hN1) g1 k6 hb ⟨⟨by show σ.next < _; omega, rfl⟩, lW (hN1.trans n2)⟩ g2 (xG hr0) ⟨k - 1, by omega, g4, j + 1, by omega, by omega, by rw [es, List.length_append]; rfl, ?_⟩ (by omega) (by omega) (by omega)
   rw [es, List.map_append]
   exact g3
  | false =>
   rw [hlg] at k6 es
   rw [if_neg (by simp), List.append_nil] at es
   exact yLX lV (lW hN1) g1 k6 hb ⟨⟨by show σ.next < _; omega, rfl⟩, lW (hN1.trans n2)⟩ (xG hr0) ⟨k - 1, by omega, hN.trans n2, j + 1, by omega, by omega, by rw [es], by rw [es]; exact hg.le n2.le⟩ (by omega) (by omega) (by omega)
 ·rintro p' l' c' τ ⟨hN, rfl, hg⟩
  have ki := ints_c (c := c11) (d := c') (SlV.le i8 hN.le) hg.slv (by have := zLE (w := w) (rs := rs) (i := i0) (j := m); omega)
  rw [decide_eq_true rfl] at ki
  exact yAK ki rfl rfl
end
end Go.Proofs.YtgfiniccfpfplaaGreat
