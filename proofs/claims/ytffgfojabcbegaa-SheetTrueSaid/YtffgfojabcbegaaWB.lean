
import Derived.Test.YtffgfojabcbegaaPB
namespace Go.Proofs.Ytffgfojabcbegaa
set_option linter.unusedVariables false
theorem fold_lo {rate : Int} {r : Rec} {v : Int} : ∀ {L : List Rec} {w : Int × Int}, (L.foldl (zFM rate r) w).1 ≤ v ↔ w.1 ≤ v ∧ ∀ s ∈ L, s.m = r.m → s.k = 1 → (uG rate r s).1 ≤ v
 | [], w => by simp
 | s :: L, w => by
  rw [List.foldl_cons, fold_lo (L := L)]
  unfold zFM
  by_cases h : s.m = r.m ∧ s.k = 1
  ·rw [if_pos h]
   unfold cutW
   simp only [List.forall_mem_cons]
   constructor
   ·rintro ⟨a, b⟩; exact ⟨by omega, fun _ _ => by omega, b⟩
   ·rintro ⟨a, b, c⟩; have := b h.1 h.2; exact ⟨by omega, c⟩
  ·rw [if_neg h]
   simp only [List.forall_mem_cons]
   exact ⟨fun ⟨a, b⟩ => ⟨a, fun h1 h2 => absurd ⟨h1, h2⟩ h, b⟩, fun ⟨a, _, b⟩ => ⟨a, b⟩⟩
theorem fold_hi {rate : Int} {r : Rec} {v : Int} : ∀ {L : List Rec} {w : Int × Int}, v ≤ (L.foldl (zFM rate r) w).2 ↔ v ≤ w.2 ∧ ∀ s ∈ L, s.m = r.m → s.k = 1 → v ≤ (uG rate r s).2
 | [], w => by simp
 | s :: L, w => by
  rw [List.foldl_cons, fold_hi (L := L)]
  unfold zFM
  by_cases h : s.m = r.m ∧ s.k = 1
  ·rw [if_pos h]
   unfold cutW
   simp only [List.forall_mem_cons]
   constructor
   ·rintro ⟨a, b⟩; exact ⟨by omega, fun _ _ => by omega, b⟩
   ·rintro ⟨a, b, c⟩; have := b h.1 h.2; exact ⟨by omega, c⟩
  ·rw [if_neg h]
   simp only [List.forall_mem_cons]
   exact ⟨fun ⟨a, b⟩ => ⟨a, fun h1 h2 => absurd ⟨h1, h2⟩ h, b⟩, fun ⟨a, _, b⟩ => ⟨a, b⟩⟩
theorem mono_t {L : List Rec} (hs : Srt L) (hc : vJ L) {x y : Rec} (hx : x ∈ L) (hy : y ∈ L) (hm : x.m = y.m) (h : x.s < y.s) : x.t ≤ y.t := by
 have c1 := hc x hx y hy
 by_cases ht : x.t ≤ y.t
 ·exact ht
 ·have : wB x y = true := wA.2 ⟨fun e => by subst e; omega, hm, .inr (.inr ⟨h, by omega⟩)⟩
  simp_all
theorem same_s {L : List Rec} (hc : vJ L) {x y : Rec} (hx : x ∈ L) (hy : y ∈ L) (hm : x.m = y.m) (h : x.s = y.s) : x = y := hc.key hx hy ⟨hm, h⟩
def uZ (L : List Rec) (rate : Int) (W : Nat → Int) : Nat → Int
 | 0 => 1000 * (1000 + (W 0).tmod 500)
 | i + 1 => if (L.getD (i + 1) default).m = (L.getD i default).m then uZ L rate W i + ((L.getD (i + 1) default).t - (L.getD i default).t) * (1000 - rate + (W (i + 1)).tmod (2 * rate + 1)) else 1000 * (1000 + (W (i + 1)).tmod 500)
def wN (L : List Rec) (rate : Int) (W : Nat → Int) (i : Nat) : Int := (uZ L rate W i).tdiv 1000
def zDU (L : List Rec) (rate : Int) (W : Nat → Int) (i : Nat) (r : Rec) : Rec := if r.k = 1 then { r with a := wN L rate W i } else r
def zAF (L : List Rec) (rate : Int) (W : Nat → Int) : List Rec := L.mapIdx (zDU L rate W)
theorem zCO {L : List Rec} {rate : Int} {W : Nat → Int} {i : Nat} {r : Rec} : (zDU L rate W i r).m = r.m ∧ (zDU L rate W i r).s = r.s ∧ (zDU L rate W i r).t = r.t ∧ (zDU L rate W i r).k = r.k ∧ (zDU L rate W i r).b = r.b := by
 unfold zDU; split <;> exact ⟨rfl, rfl, rfl, rfl, rfl⟩
section
variable {L : List Rec} {rate : Int} {W : Nat → Int}
theorem trueL_len : (zAF L rate W).length = L.length := by simp [zAF]
theorem trueL_get {i : Nat} : (zAF L rate W)[i]? = (L[i]?).map (zDU L rate W i) := by simp [zAF, List.getElem?_mapIdx]
theorem trueL_of {i : Nat} {x : Rec} (h : (zAF L rate W)[i]? = some x) : ∃ r, L[i]? = some r ∧ x = zDU L rate W i r := by
 rw [trueL_get] at h
 cases e : L[i]? with
 | none => rw [e] at h; cases h
 | some r => rw [e] at h; exact ⟨r, rfl, by simpa using h.symm⟩
theorem trueL_mem {x : Rec} (h : x ∈ zAF L rate W) : ∃ i r, L[i]? = some r ∧ x = zDU L rate W i r := by
 obtain ⟨i, hi, rfl⟩ := List.mem_iff_getElem.1 h
 obtain ⟨r, h1, h2⟩ := trueL_of (L := L) (rate := rate) (W := W) (i := i) (List.getElem?_eq_getElem hi)
 exact ⟨i, r, h1, h2⟩
theorem srt_like {L L' : List Rec} (hs : Srt L) (h : ∀ (i : Nat) x', L'[i]? = some x' → ∃ x, L[i]? = some x ∧ x'.m = x.m ∧ x'.s = x.s) : Srt L' := srt_of fun i x y hx hy => by
 obtain ⟨a, ha, e1, e2⟩ := h i x hx
 obtain ⟨b, hb, e3, e4⟩ := h (i + 1) y hy
 have := zGB hs ha hb (by omega)
 unfold yX at this ⊢
 omega
theorem cons_like {L L' : List Rec} (hs : Srt L) (hc : vJ L) (h : ∀ (i : Nat) x', L'[i]? = some x' → ∃ x, L[i]? = some x ∧ x'.m = x.m ∧ x'.s = x.s ∧ x'.t = x.t) : vJ L' := cons_of_adj (srt_like hs fun i x' hx => by
  obtain ⟨x, h1, h2, h3, _⟩ := h i x' hx; exact ⟨x, h1, h2, h3⟩) fun i x y hx hy hm => by
 obtain ⟨a, ha, e1, e2, e5⟩ := h i x hx
 obtain ⟨b, hb, e3, e4, e6⟩ := h (i + 1) y hy
 have := (zHO hs hc ha hb (by omega) (by omega)).2
 omega
theorem trueL_srt (hs : Srt L) : Srt (zAF L rate W) := srt_like hs fun i x' hx => by
 obtain ⟨r, h1, rfl⟩ := trueL_of hx
 exact ⟨r, h1, zCO.1, zCO.2.1⟩
theorem trueL_cons (hs : Srt L) (hc : vJ L) : vJ (zAF L rate W) := cons_like hs hc fun i x' hx => by
 obtain ⟨r, h1, rfl⟩ := trueL_of hx
 exact ⟨r, h1, zCO.1, zCO.2.1, zCO.2.2.1⟩
theorem yC {i : Nat} {r : Rec} (h : L[i]? = some r) : L.getD i default = r := by rw [List.getD_eq_getElem?_getD, h]; rfl
theorem zFR (hs : Srt L) (hc : vJ L) (h0 : 0 ≤ rate) (h1 : rate ≤ 1000) (hW : ∀ i, 0 ≤ W i) : ∀ (i : Nat), i < L.length → 1000000 ≤ uZ L rate W i
 | 0, _ => by
  have := Int.tmod_nonneg 500 (hW 0)
  unfold uZ; omega
 | i + 1, hi => by
  have ih := zFR hs hc h0 h1 hW i (by omega)
  have hx : L[i]? = some (L[i]'(by omega)) := by simp
  have hy : L[i + 1]? = some (L[i + 1]'hi) := by simp
  unfold uZ
  rw [yC hx, yC hy]
  have hw := Int.tmod_nonneg (2 * rate + 1) (hW (i + 1))
  split
  ·rename_i e
   have h2 := (zHO hs hc hx hy (by omega) e.symm).2
   have := Int.mul_nonneg (show 0 ≤ (L[i + 1]'hi).t - (L[i]'(by omega)).t by omega) (show 0 ≤ 1000 - rate + (W (i + 1)).tmod (2 * rate + 1) by omega)
   omega
  ·have := Int.tmod_nonneg 500 (hW (i + 1))
   omega
theorem tick_diff (hs : Srt L) (hc : vJ L) (h0 : 0 ≤ rate) (h1 : rate ≤ 1000) (hW : ∀ i, 0 ≤ W i) {j : Nat} {y : Rec} (hj : L[j]? = some y) : ∀ (d : Nat) (x : Rec), L[j + d]? = some x → x.m = y.m → y.t ≤ x.t ∧ (x.t - y.t) * (1000 - rate) ≤ uZ L rate W (j + d) - uZ L rate W j ∧ uZ L rate W (j + d) - uZ L rate W j ≤ (x.t - y.t) * (1000 + rate)
 | 0, x, hx, _ => by
  rw [Nat.add_zero, hj] at hx; cases hx
  simp
 | d + 1, x, hx, hm => by
  have hlt : j + (d + 1) < L.length := (List.getElem?_eq_some_iff.1 hx).1
  have hz : L[j + d]? = some (L[j + d]'(by omega)) := by simp
  generalize hzz : L[j + d]'(by omega) = z at hz
  have hzx := zGB hs hz hx (by omega)
  have hyz : y.m ≤ z.m := by
   by_cases e : d = 0
   ·subst e; rw [Nat.add_zero, hj] at hz; cases hz; exact Int.le_refl _
   ·have := zGB hs hj hz (by omega)
    unfold yX at this; omega
  have ez : z.m = y.m := by unfold yX at hzx; omega
  obtain ⟨i1, i2, i3⟩ := tick_diff hs hc h0 h1 hW hj d z hz ez
  have ht := (zHO hs hc hz hx (by omega) (by omega)).2
  have e : uZ L rate W (j + (d + 1)) = uZ L rate W (j + d) + (x.t - z.t) * (1000 - rate + (W (j + d + 1)).tmod (2 * rate + 1)) := by
   show uZ L rate W ((j + d) + 1) = _
   conv => lhs; unfold uZ
   rw [yC (show L[j + d + 1]? = some x from hx), yC hz, if_pos (by omega)]
  have w1 := Int.tmod_nonneg (2 * rate + 1) (hW (j + d + 1))
  have w2 := Int.tmod_lt_of_pos (W (j + d + 1)) (show 0 < 2 * rate + 1 by omega)
  generalize (W (j + d + 1)).tmod (2 * rate + 1) = w at e w1 w2
  have m1 := Int.mul_le_mul_of_nonneg_left (show 1000 - rate ≤ 1000 - rate + w by omega) (show 0 ≤ x.t - z.t by omega)
  have m2 := Int.mul_le_mul_of_nonneg_left (show 1000 - rate + w ≤ 1000 + rate by omega) (show 0 ≤ x.t - z.t by omega)
  have f1 : (x.t - y.t) * (1000 - rate) = (x.t - z.t) * (1000 - rate) + (z.t - y.t) * (1000 - rate) := by rw [← Int.add_mul]; congr 1; omega
  have f2 : (x.t - y.t) * (1000 + rate) = (x.t - z.t) * (1000 + rate) + (z.t - y.t) * (1000 + rate) := by rw [← Int.add_mul]; congr 1; omega
  rw [e, f1, f2]
  generalize (x.t - z.t) * (1000 - rate + w) = u at *
  generalize (x.t - z.t) * (1000 - rate) = u1 at *
  generalize (x.t - z.t) * (1000 + rate) = u2 at *
  generalize (z.t - y.t) * (1000 - rate) = u3 at *
  generalize (z.t - y.t) * (1000 + rate) = u4 at *
  exact ⟨by omega, by omega, by omega⟩
theorem min_diff (hs : Srt L) (hc : vJ L) (h0 : 0 ≤ rate) (h1 : rate ≤ 1000) (hW : ∀ i, 0 ≤ W i) {i j : Nat} {x y : Rec} (hj : L[j]? = some y) (hi : L[i]? = some x) (hij : j ≤ i) (hm : x.m = y.m) :
  y.t ≤ x.t ∧ pLo (x.t - y.t) rate ≤ wN L rate W i - wN L rate W j ∧ wN L rate W i - wN L rate W j ≤ pHi (x.t - y.t) rate := by
 obtain ⟨d, rfl⟩ : ∃ d, i = j + d := ⟨i - j, by omega⟩
 obtain ⟨k1, k2, k3⟩ := tick_diff hs hc h0 h1 hW hj d x hi hm
 have g1 := zFR hs hc h0 h1 hW (j + d) (List.getElem?_eq_some_iff.1 hi).1
 have g2 := zFR hs hc h0 h1 hW j (List.getElem?_eq_some_iff.1 hj).1
 have n1 := Int.mul_nonneg (show 0 ≤ x.t - y.t by omega) (show 0 ≤ 1000 - rate by omega)
 have n2 := Int.mul_nonneg (show 0 ≤ x.t - y.t by omega) (show 0 ≤ 1000 + rate by omega)
 unfold wN pLo pHi
 rw [Int.tdiv_eq_ediv_of_nonneg (show 0 ≤ uZ L rate W (j + d) by omega), Int.tdiv_eq_ediv_of_nonneg (show 0 ≤ uZ L rate W j by omega), Int.tdiv_eq_ediv_of_nonneg n1, Int.tdiv_eq_ediv_of_nonneg (by omega)]
 refine ⟨k1, ?_, ?_⟩ <;> omega
def Tells (L L' : List Rec) (M : Nat → Int) : Prop := ∀ (i : Nat) x', L'[i]? = some x' → ∃ x, L[i]? = some x ∧ x'.m = x.m ∧ x'.s = x.s ∧ x'.t = x.t ∧ (x'.k = 1 → x'.a = M i)
theorem tells_in (hs : Srt L) (hc : vJ L) (h0 : 0 ≤ rate) (h1 : rate ≤ 1000) (hW : ∀ i, 0 ≤ W i) {L' : List Rec} (h : Tells L L' (wN L rate W)) {i : Nat} {x' : Rec} (hi : L'[i]? = some x') (hM : wN L rate W i ≤ 1000000) :
  (xI L' rate x').1 ≤ wN L rate W i ∧ wN L rate W i ≤ (xI L' rate x').2 := by
 obtain ⟨x, hx, e1, e2, e3, e4⟩ := h i x' hi
 have g1 := zFR hs hc h0 h1 hW i (List.getElem?_eq_some_iff.1 hx).1
 have hm0 : 0 ≤ wN L rate W i := by unfold wN; rw [Int.tdiv_eq_ediv_of_nonneg (by omega)]; omega
 have key : ∀ s' ∈ L', s'.m = x'.m → s'.k = 1 → (uG rate x' s').1 ≤ wN L rate W i ∧ wN L rate W i ≤ (uG rate x' s').2 := by
  intro s' hs' hm hk
  obtain ⟨j, hj, rfl⟩ := List.mem_iff_getElem.1 hs'
  have hj' : L'[j]? = some (L'[j]) := List.getElem?_eq_getElem hj
  generalize L'[j] = s' at *
  obtain ⟨s, hS, f1, f2, f3, f4⟩ := h j s' hj'
  have f4 := f4 hk
  unfold uG
  rcases Nat.lt_trichotomy j i with hji | hji | hji
  ·have k1 := zGB hs hS hx hji
   have k2 : s.s < x.s := by unfold yX at k1; omega
   rw [if_neg (fun e => by rw [e] at f2; omega), if_pos (by omega)]
   obtain ⟨m1, m2, m3⟩ := min_diff hs hc h0 h1 hW hS hx (by omega) (by omega)
   rw [e3, f3, f4]
   exact ⟨by simp only; omega, by simp only; omega⟩
  ·subst hji
   rw [hi] at hj'; cases hj'
   rw [if_pos rfl, f4]; exact ⟨Int.le_refl _, Int.le_refl _⟩
  ·have k1 := zGB hs hx hS hji
   have k2 : x.s < s.s := by unfold yX at k1; omega
   rw [if_neg (fun e => by rw [e] at f2; omega), if_neg (by omega)]
   obtain ⟨m1, m2, m3⟩ := min_diff hs hc h0 h1 hW hx hS (by omega) (by omega)
   rw [e3, f3, f4]
   exact ⟨by simp only; omega, by simp only; omega⟩
 exact ⟨fold_lo.2 ⟨hm0, fun s' a b c => (key s' a b c).1⟩, fold_hi.2 ⟨hM, fun s' a b c => (key s' a b c).2⟩⟩
end
end Go.Proofs.Ytffgfojabcbegaa
