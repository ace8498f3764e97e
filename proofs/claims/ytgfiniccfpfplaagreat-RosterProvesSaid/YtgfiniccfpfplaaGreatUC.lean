
import Derived.Test.YtgfiniccfpfplaaGreatUB
namespace Go.Proofs.YtgfiniccfpfplaaGreat
open Go Go.Lay
set_option linter.unusedVariables false
set_option linter.unusedSimpArgs false
set_option maxRecDepth 20000
open Go.Sort (swp)
section
variable {σ : St} {b c : Nat} {s : Option Nat} {d : Array Rec} {g : FuncId} {gc : List Value} {lt : Rec → Rec → Bool} {V : Rec → Prop}
theorem Cmp.at_ (hc : Cmp g gc lt V) {τ : St} {dk : Array Rec} (hv : xJ V dk) {i j : Nat} (hi : i < dk.size) (hj : j < dk.size) : ∃ n : Int, zE Tryz.prog g (zHC dk[i]! :: zHC dk[j]! :: gc) τ (iV n) τ ∧ ((n < 0 ∧ lt dk[i]! dk[j]! = true) ∨ (¬ n < 0 ∧ lt dk[i]! dk[j]! = false)) := by
 obtain ⟨n, h1, h2⟩ := hc τ dk[i]! dk[j]! (hv i hi) (hv j hj)
 refine ⟨n, h1, ?_⟩
 by_cases h : n < 0
 ·exact .inl ⟨h, h2.1 h⟩
 ·exact .inr ⟨h, by rw [Bool.eq_false_iff]; exact fun e => h (h2.2 e)⟩
theorem Dt.ldN {τ : St} {dk : Array Rec} (h : Dt τ b s dk) {i : Int} {k : Nat} (e : i = (k : Int)) (hk : k < dk.size) : zC Tryz.prog τ 45 (zK ⟨b, 0, s⟩ (Int.toNat i * 3)) = some (zHC dk[k]!) := by
 subst e
 exact h.ld (by omega) (by omega)
theorem W.swapN {τ : St} {dk : Array Rec} (w : W σ τ b s d dk) {i j : Int} {p q : Nat} (ei : i = (p : Int)) (ej : j = (q : Int)) (hp : p < dk.size) (hq : q < dk.size) :
  ∃ τ1 τ2, zQ Tryz.prog (evL [.pointer (some (zK ⟨b, 0, s⟩ (Int.toNat i * 3))), zHC dk[q]!]) τ (.store 45 (.tmp 0) (.tmp 1)) = some (undef, τ1) ∧
   zQ Tryz.prog (evL [.pointer (some (zK ⟨b, 0, s⟩ (Int.toNat j * 3))), zHC dk[p]!]) τ1 (.store 45 (.tmp 0) (.tmp 1)) = some (undef, τ2) ∧ W σ τ2 b s d (swp dk p q) := by
 subst ei ej
 have := w.swap (i := (p : Int)) (j := (q : Int)) (by omega) (by omega) (by omega) (by omega)
 simpa only [Int.toNat_natCast] using this
theorem yID (lt : Rec → Rec → Bool) (hi first root : Nat) (d : Array Rec) : Go.Sort.siftDown lt hi first root d = (if 2 * root + 1 ≥ hi then d else
  if 2 * root + 1 + 1 < hi && lt d[first + (2 * root + 1)]! d[first + (2 * root + 1) + 1]! then
   if !lt d[first + root]! d[first + (2 * root + 2)]! then d else
    if 2 * root + 2 < hi then Go.Sort.siftDown lt hi first (2 * root + 2) (swp d (first + root) (first + (2 * root + 2))) else d
  else
   if !lt d[first + root]! d[first + (2 * root + 1)]! then d else Go.Sort.siftDown lt hi first (2 * root + 1) (swp d (first + root) (first + (2 * root + 1)))) := by
 conv => lhs; unfold Go.Sort.siftDown
 simp only [dite_eq_ite]
theorem zES (lt : Rec → Rec → Bool) (hi first : Nat) : ∀ (k root : Nat) (d : Array Rec), hi - root ≤ k → (Go.Sort.siftDown lt hi first root d).size = d.size
 | 0, root, d, hk => by unfold Go.Sort.siftDown; rw [dif_pos (by omega)]
 | k + 1, root, d, hk => by
  unfold Go.Sort.siftDown
  split
  ·rfl
  ·split
   ·split
    ·rfl
    ·split
     ·rw [zES lt hi first k _ _ (by omega), yS]
     ·rfl
   ·split
    ·rfl
    ·rw [zES lt hi first k _ _ (by omega), yS]
theorem zFI (lt : Rec → Rec → Bool) (hi first : Nat) {V : Rec → Prop} : ∀ (k root : Nat) (d : Array Rec), hi - root ≤ k → first + hi ≤ d.size → xJ V d → xJ V (Go.Sort.siftDown lt hi first root d)
 | 0, root, d, hk, hs, h => by unfold Go.Sort.siftDown; rw [dif_pos (by omega)]; exact h
 | k + 1, root, d, hk, hs, h => by
  unfold Go.Sort.siftDown
  split
  ·exact h
  ·rename_i h1
   split
   ·split
    ·exact h
    ·split
     ·rename_i h2
      exact zFI lt hi first k _ _ (by omega) (by rw [yS]; exact hs) (h.swp (by omega) (by omega))
     ·exact h
   ·split
    ·exact h
    ·exact zFI lt hi first k _ _ (by omega) (by rw [yS]; exact hs) (h.swp (by omega) (by omega))
theorem yUV {lo hi first : Nat} (h : Dt σ b s d) (hc : Cmp g gc lt V) (hv : xJ V d) (hB : first + hi ≤ d.size) (hn : d.size ≤ 1000000) (hlo : lo ≤ 1000000) :
  zBI 121 [.slice (some ⟨b, 0, s⟩) d.size c, iV (lo : Int), iV (hi : Int), iV (first : Int), .func (.func g) ⟨[]⟩ ⟨gc⟩] (.tuple ⟨[]⟩) σ b s d (Go.Sort.siftDown lt hi first lo d) := by
 refine zBI.of h (siftD_ra (P0 := fun τ => W σ τ b s d (Go.Sort.siftDown lt hi first lo d)) (Pr := fun τ => W σ τ b s d (Go.Sort.siftDown lt hi first lo d)) (yIG (Inv := fun k i τ => ∃ (r : Nat) (dk : Array Rec), i = r ∧ k = hi - r ∧ r ≤ 1000000 + 2 * hi + 2 ∧ W σ τ b s d dk ∧ dk.size = d.size ∧ xJ V dk ∧ Go.Sort.siftDown lt hi first r dk = Go.Sort.siftDown lt hi first lo d) ?_ (hi - lo) _ σ.re ⟨lo, d, rfl, rfl, by omega, W.start h, rfl, hv, rfl⟩) (fun τ hw => yIF ⟨rfl, hw⟩) (fun τ hw => yIE ⟨rfl, hw⟩))
 rintro k i τ ⟨r, dk, rfl, hk, hr, w, hsz, hall, ht⟩
 by_cases h1 : 2 * r + 1 ≥ hi
 ·have e : Go.Sort.siftDown lt hi first r dk = dk := by unfold Go.Sort.siftDown; rw [dif_pos h1]
  exact yXN (by rw [← ht, e]; exact w) (by omega) (by omega) (by omega)
 have e0 := yID lt hi first r dk
 rw [if_neg h1] at e0
 have bR : first + r < dk.size := by omega
 have bC : first + (2 * r + 1) < dk.size := by omega
 have lR := w.dt.ldN (i := (first : Int) + (r : Int)) (k := first + r) (by omega) bR
 have lC := w.dt.ldN (i := (first : Int) + (2 * (r : Int) + 1)) (k := first + (2 * r + 1)) (by omega) bC
 obtain ⟨nC, cC, hC⟩ := hc.at_ (τ := τ) hall bR bC
 by_cases h2 : 2 * r + 1 + 1 < hi
 ·have bD : first + (2 * r + 2) < dk.size := by omega
  have lD1 := w.dt.ldN (i := (first : Int) + (2 * (r : Int) + 1) + 1) (k := first + (2 * r + 2)) (by omega) bD
  have lD2 := w.dt.ldN (i := (first : Int) + (2 * (r : Int) + 1 + 1)) (k := first + (2 * r + 2)) (by omega) bD
  obtain ⟨n1, c1, hc1⟩ := hc.at_ (τ := τ) hall bC bD
  obtain ⟨n2, c2, hc2⟩ := hc.at_ (τ := τ) hall bR bD
  have eD : first + (2 * r + 1) + 1 = first + (2 * r + 2) := by omega
  rcases hc1 with ⟨m1, l1⟩ | ⟨m1, l1⟩
  ·rw [if_pos (by simp [h2, eD, l1])] at e0
   rcases hc2 with ⟨m2, l2⟩ | ⟨m2, l2⟩
   ·rw [if_neg (by simp [l2]), if_pos (by omega)] at e0
    obtain ⟨τ1, τ2, s1, s2, w2⟩ := w.swapN (i := (first : Int) + (r : Int)) (j := (first : Int) + (2 * (r : Int) + 1 + 1)) (p := first + r) (q := first + (2 * r + 2)) (by omega) (by omega) bR bD
    exact yXM lC lD1 c1 lR lD2 c2 s1 s2 ⟨hi - (2 * r + 2), by omega, 2 * r + 2, _, by omega, rfl, by omega, w2, by rw [yS, hsz], hall.swp bR bD, by rw [← e0, ht]⟩ (by omega) (by omega) (by omega) (by omega) (by omega) (by omega) (by omega) (by omega) (by omega) (by omega) (by omega) (by omega) (by omega) (by omega) (by omega)
   ·rw [if_pos (by simp [l2])] at e0
    exact yXL lC lD1 c1 lR lD2 c2 (by rw [← ht, e0]; exact w)
  ·rw [if_neg (by simp [eD, l1])] at e0
   rcases hC with ⟨m2, l2⟩ | ⟨m2, l2⟩
   ·rw [if_neg (by simp [l2])] at e0
    obtain ⟨τ1, τ2, s1, s2, w2⟩ := w.swapN (i := (first : Int) + (r : Int)) (j := (first : Int) + (2 * (r : Int) + 1)) (p := first + r) (q := first + (2 * r + 1)) (by omega) (by omega) bR bC
    exact yXK lC lD1 c1 lR cC s1 s2 ⟨hi - (2 * r + 1), by omega, 2 * r + 1, _, by omega, rfl, by omega, w2, by rw [yS, hsz], hall.swp bR bC, by rw [← e0, ht]⟩
   ·rw [if_pos (by simp [l2])] at e0
    exact yXJ lC lD1 c1 lR cC (by rw [← ht, e0]; exact w)
 ·rw [if_neg (by simp [show ¬ 2 * r + 1 + 1 < hi from h2])] at e0
  rcases hC with ⟨m2, l2⟩ | ⟨m2, l2⟩
  ·rw [if_neg (by simp [l2])] at e0
   obtain ⟨τ1, τ2, s1, s2, w2⟩ := w.swapN (i := (first : Int) + (r : Int)) (j := (first : Int) + (2 * (r : Int) + 1)) (p := first + r) (q := first + (2 * r + 1)) (by omega) (by omega) bR bC
   exact yXI lR lC cC s1 s2 ⟨hi - (2 * r + 1), by omega, 2 * r + 1, _, by omega, rfl, by omega, w2, by rw [yS, hsz], hall.swp bR bC, by rw [← e0, ht]⟩
  ·rw [if_pos (by simp [l2])] at e0
   exact yXH lR lC cC (by rw [← ht, e0]; exact w)
end
end Go.Proofs.YtgfiniccfpfplaaGreat
