
import Derived.Test.YtgfiniccfpfplaaGreatSB
import Derived.Test.YtgfiniccfpfplaaGreatXS
namespace Go.Proofs.YtgfiniccfpfplaaGreat
open Go Go.Lay
set_option linter.unusedVariables false
set_option linter.unusedSimpArgs false
set_option maxRecDepth 20000
section
variable {σ : St} {w : Wk} {p q r t : Option Addr} {l m c d rl rc tl tc : Nat} {rs ts : List Int}
theorem yLP {least : Int} (h : WkP σ 92 76 w p l q m) (hr : yU σ r rl rs) : zUO Tryz.prog 15 6 [.agg ⟨wkc w.days p l c q m d w.rest w.run w.hours⟩, .slice r rl rc, iV least] σ fun v _ => v = .bool true := by
 have hln := h.len.1
 have hm := h.len.2
 have L1 := Le.row σ (wkc w.days p l c q m d w.rest w.run w.hours) 6
 have k0 := Thin_c (c := c) (d := d) (h.le L1)
 cases b0 : zNT w with
 | false => rw [b0] at k0; exact yRK k0 rfl
 | true =>
 rw [b0] at k0
 obtain ⟨hsh, h15, h9⟩ := yOC b0
 by_cases h20 : 20 < rl
 ·exact yRQ k0 rfl (by omega)
 have kf := fault_c (c := c) (d := d) (h.le L1) hsh
 obtain ⟨p7, c7, q8, d8, σ12, k6, n6, w6⟩ := Week_c (c := c) (d := d) (h.le L1) (by omega) (by omega) hsh
 obtain ⟨p13, c13, σ14, k7, n7, i7, f7⟩ := yGA (c := rc) (SlV.le (SlV.le hr L1) n6.le) (by omega)
 have k8 := yAK (c := c7) (d := d8) (rc := c13) (least := least) (w6.le n7.le) hsh i7 (by omega)
 by_cases hf : wB w = 0
 rotate_left
 ·have e : zDZ w rs least = false := by unfold zDZ; rw [decide_eq_false hf]; rfl
  rw [e] at k8
  exact yRL k0 kf k6 k7 k8 rfl (by omega) hf
 have k3 := yIZ (c := c) (d := d) (rc := rc) (h.le L1) (SlV.le hr L1) (by omega) (by omega)
 cases b3 : zGT w rs with
 | false =>
  have e : zDZ w rs least = false := by unfold zDZ; rw [b3, decide_eq_true hf]; rfl
  rw [e] at k8
  rw [b3] at k3
  exact yRM k0 kf k3 k6 k7 k8 rfl (by omega) hf
 | true =>
 rw [b3] at k3
 obtain ⟨r1, r2⟩ := yCF.1 b3
 have el := hr.len
 have hrll : rl = l := by omega
 subst hrll
 have hs := Sane.of hf hsh hln hm
 have k4 := rLegal_c (c := c) (d := d) (rc := rc) (h.le L1) hs (SlV.le hr L1)
 have k5 := yYL (c := rc) (SlV.le hr L1) (by omega)
 have e : zDZ w rs least = (decide (zAY w (zL rs) (zL (vW w)) m = []) && decide (least ≤ (zYG rs : Int))) := by unfold zDZ; rw [b3, decide_eq_true hf, hm]; rfl
 rw [e] at k8
 by_cases h3 : zAY w (zL rs) (zL (vW w)) m = []
 ·rw [decide_eq_true h3] at k4 k8
  by_cases h4 : least ≤ (zYG rs : Int)
  ·rw [decide_eq_true h4] at k8
   exact yRP k0 kf k3 k4 k5 k6 k7 k8 rfl (by omega) hf h4
  ·rw [decide_eq_false h4] at k8
   exact yRO k0 kf k3 k4 k5 k6 k7 k8 rfl (by omega) hf h4
 ·rw [decide_eq_false h3] at k4 k8
  exact yRN k0 kf k3 k4 k6 k7 k8 rfl (by omega) hf
end
end Go.Proofs.YtgfiniccfpfplaaGreat
