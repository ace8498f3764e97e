
import Derived.Test.YtffgfojabcbegaaPB
namespace Go.Proofs.Ytffgfojabcbegaa
set_option linter.unusedVariables false
theorem zME {rate : Int} {r : Rec} {v : Int} : ∀ {L : List Rec} {w : Int × Int}, (L.foldl (zGB rate r) w).1 ≤ v ↔ w.1 ≤ v ∧ ∀ s ∈ L, s.m = r.m → s.k = 1 → (xN rate r s).1 ≤ v
 | [], w => by simp
 | s :: L, w => by
  rw [List.foldl_cons, zME (L := L)]
  unfold zGB
  by_cases h : s.m = r.m ∧ s.k = 1
  ·rw [if_pos h]
   unfold zRZ
   simp only [List.forall_mem_cons]
   constructor
   ·rintro ⟨a, b⟩; exact ⟨by omega, fun _ _ => by omega, b⟩
   ·rintro ⟨a, b, c⟩; have := b h.1 h.2; exact ⟨by omega, c⟩
  ·rw [if_neg h]
   simp only [List.forall_mem_cons]
   exact ⟨fun ⟨a, b⟩ => ⟨a, fun h1 h2 => absurd ⟨h1, h2⟩ h, b⟩, fun ⟨a, _, b⟩ => ⟨a, b⟩⟩
theorem zMF {rate : Int} {r : Rec} {v : Int} : ∀ {L : List Rec} {w : Int × Int}, v ≤ (L.foldl (zGB rate r) w).2 ↔ v ≤ w.2 ∧ ∀ s ∈ L, s.m = r.m → s.k = 1 → v ≤ (xN rate r s).2
 | [], w => by simp
 | s :: L, w => by
  rw [List.foldl_cons, zMF (L := L)]
  unfold zGB
  by_cases h : s.m = r.m ∧ s.k = 1
  ·rw [if_pos h]
   unfold zRZ
   simp only [List.forall_mem_cons]
   constructor
   ·rintro ⟨a, b⟩; exact ⟨by omega, fun _ _ => by omega, b⟩
   ·rintro ⟨a, b, c⟩; have := b h.1 h.2; exact ⟨by omega, c⟩
  ·rw [if_neg h]
   simp only [List.forall_mem_cons]
   exact ⟨fun ⟨a, b⟩ => ⟨a, fun h1 h2 => absurd ⟨h1, h2⟩ h, b⟩, fun ⟨a, _, b⟩ => ⟨a, b⟩⟩
theorem zXP {L L' : List Rec} {k k' : Int} {r r' : Rec} (h : ∀ s ∈ L, s.m = r.m → s.k = 1 → ∃ s' ∈ L', s'.m = r'.m ∧ s'.k = 1 ∧ (xN k r s).1 ≤ (xN k' r' s').1 ∧ (xN k' r' s').2 ≤ (xN k r s).2) :
  (yB L k r).1 ≤ (yB L' k' r').1 ∧ (yB L' k' r').2 ≤ (yB L k r).2 := by
 constructor
 ·refine zME.2 ⟨(zME.1 (Int.le_refl (yB L' k' r').1)).1, fun s hs h1 h2 => ?_⟩
  obtain ⟨s', hs', e1, e2, e3, _⟩ := h s hs h1 h2
  have := (zME.1 (Int.le_refl (yB L' k' r').1)).2 s' hs' e1 e2
  omega
 ·refine zMF.2 ⟨(zMF.1 (Int.le_refl (yB L' k' r').2)).1, fun s hs h1 h2 => ?_⟩
  obtain ⟨s', hs', e1, e2, _, e4⟩ := h s hs h1 h2
  have := (zMF.1 (Int.le_refl (yB L' k' r').2)).2 s' hs' e1 e2
  omega
theorem yYN {d k m : Int} (hd : 0 ≤ d) (hm : 0 ≤ m) (h : m ≤ k) (hk : k ≤ 1000) : pLo d k ≤ pLo d m := by
 unfold pLo
 have h1 : d * (1000 - k) ≤ d * (1000 - m) := Int.mul_le_mul_of_nonneg_left (by omega) hd
 have h2 : 0 ≤ d * (1000 - k) := Int.mul_nonneg hd (by omega)
 rw [Int.tdiv_eq_ediv_of_nonneg h2, Int.tdiv_eq_ediv_of_nonneg (by omega)]
 omega
theorem yYO {d k m : Int} (hd : 0 ≤ d) (hm : 0 ≤ m) (h : m ≤ k) (hk : k ≤ 1000) : pHi d m ≤ pHi d k := by
 unfold pHi
 have h1 : d * (1000 + m) ≤ d * (1000 + k) := Int.mul_le_mul_of_nonneg_left (by omega) hd
 have h2 : 0 ≤ d * (1000 + m) := Int.mul_nonneg hd (by omega)
 rw [Int.tdiv_eq_ediv_of_nonneg (by omega), Int.tdiv_eq_ediv_of_nonneg (by omega)]
 omega
theorem pLo_0 {d : Int} (hd : 0 ≤ d) : pLo d 0 = d := by
 unfold pLo
 rw [Int.tdiv_eq_ediv_of_nonneg (by omega)]; omega
theorem pHi_0 {d : Int} (hd : 0 ≤ d) : pHi d 0 = d := by
 unfold pHi
 rw [Int.tdiv_eq_ediv_of_nonneg (by omega)]; omega
theorem zKN {L : List Rec} (hs : Srt L) (hc : vD L) {x y : Rec} (hx : x ∈ L) (hy : y ∈ L) (hm : x.m = y.m) (h : x.s < y.s) : x.t ≤ y.t := by
 have c1 := hc x hx y hy
 by_cases ht : x.t ≤ y.t
 ·exact ht
 ·have : wE x y = true := wD.2 ⟨fun e => by subst e; omega, hm, .inr (.inr ⟨h, by omega⟩)⟩
  simp_all
theorem yAR {L : List Rec} (hc : vD L) {x y : Rec} (hx : x ∈ L) (hy : y ∈ L) (hm : x.m = y.m) (h : x.s = y.s) : x = y := hc.key hx hy ⟨hm, h⟩
theorem yWD {L : List Rec} (hs : Srt L) (hc : vD L) {k m : Int} (hm : 0 ≤ m) (h : m ≤ k) (hk : k ≤ 1000) {r s : Rec} (hr : r ∈ L) (hS : s ∈ L) (e : s.m = r.m) : (xN k r s).1 ≤ (xN m r s).1 ∧ (xN m r s).2 ≤ (xN k r s).2 := by
 unfold xN
 by_cases h1 : s = r
 ·rw [if_pos h1, if_pos h1]; exact ⟨Int.le_refl _, Int.le_refl _⟩
 ·rw [if_neg h1, if_neg h1]
  by_cases h2 : s.s < r.s
  ·rw [if_pos h2, if_pos h2]
   have hd : 0 ≤ r.t - s.t := by have := zKN hs hc hS hr e h2; omega
   have := yYN hd hm h hk
   have := yYO hd hm h hk
   exact ⟨by simp only; omega, by simp only; omega⟩
  ·rw [if_neg h2, if_neg h2]
   have h3 : r.s < s.s := by
    by_cases e2 : s.s = r.s
    ·exact absurd (yAR hc hS hr e e2) h1
    ·omega
   have hd : 0 ≤ s.t - r.t := by have := zKN hs hc hr hS e.symm h3; omega
   have := yYN hd hm h hk
   have := yYO hd hm h hk
   exact ⟨by simp only; omega, by simp only; omega⟩
theorem yWB {L : List Rec} (hs : Srt L) (hc : vD L) {r s : Rec} (hr : r ∈ L) (hS : s ∈ L) (e : s.m = r.m) : (xN 0 r s).1 = (xN 0 r s).2 := by
 unfold xN
 by_cases h1 : s = r
 ·rw [if_pos h1]
 ·rw [if_neg h1]
  by_cases h2 : s.s < r.s
  ·rw [if_pos h2]
   have hd : 0 ≤ r.t - s.t := by have := zKN hs hc hS hr e h2; omega
   simp only [pLo_0 hd, pHi_0 hd]
  ·rw [if_neg h2]
   have h3 : r.s < s.s := by
    by_cases e2 : s.s = r.s
    ·exact absurd (yAR hc hS hr e e2) h1
    ·omega
   have hd : 0 ≤ s.t - r.t := by have := zKN hs hc hr hS e.symm h3; omega
   simp only [pLo_0 hd, pHi_0 hd]
def zAH (L : List Rec) (rate : Int) (W : Nat → Int) : Nat → Int
 | 0 => 1000 * (1000 + (W 0).tmod 500)
 | i + 1 => if (L.getD (i + 1) default).m = (L.getD i default).m then zAH L rate W i + ((L.getD (i + 1) default).t - (L.getD i default).t) * (1000 - rate + (W (i + 1)).tmod (2 * rate + 1)) else 1000 * (1000 + (W (i + 1)).tmod 500)
def xO (L : List Rec) (rate : Int) (W : Nat → Int) (i : Nat) : Int := (zAH L rate W i).tdiv 1000
def zEG (L : List Rec) (rate : Int) (W : Nat → Int) (i : Nat) (r : Rec) : Rec := if r.k = 1 then { r with a := xO L rate W i } else r
def vL (L : List Rec) (rate : Int) (W : Nat → Int) : List Rec := L.mapIdx (zEG L rate W)
theorem zDB {L : List Rec} {rate : Int} {W : Nat → Int} {i : Nat} {r : Rec} : (zEG L rate W i r).m = r.m ∧ (zEG L rate W i r).s = r.s ∧ (zEG L rate W i r).t = r.t ∧ (zEG L rate W i r).k = r.k ∧ (zEG L rate W i r).b = r.b := by
 unfold zEG; split <;> exact ⟨rfl, rfl, rfl, rfl, rfl⟩
section
variable {L : List Rec} {rate : Int} {W : Nat → Int}
theorem yQV : (vL L rate W).length = L.length := by simp [vL]
theorem yQW {i : Nat} : (vL L rate W)[i]? = (L[i]?).map (zEG L rate W i) := by simp [vL, List.getElem?_mapIdx]
theorem zOA {i : Nat} {x : Rec} (h : (vL L rate W)[i]? = some x) : ∃ r, L[i]? = some r ∧ x = zEG L rate W i r := by
 rw [yQW] at h
 cases e : L[i]? with
 | none => rw [e] at h; cases h
 | some r => rw [e] at h; exact ⟨r, rfl, by simpa using h.symm⟩
theorem yQU {x : Rec} (h : x ∈ vL L rate W) : ∃ i r, L[i]? = some r ∧ x = zEG L rate W i r := by
 obtain ⟨i, hi, rfl⟩ := List.mem_iff_getElem.1 h
 obtain ⟨r, h1, h2⟩ := zOA (L := L) (rate := rate) (W := W) (i := i) (List.getElem?_eq_getElem hi)
 exact ⟨i, r, h1, h2⟩
theorem zSU {L L' : List Rec} (hs : Srt L) (h : ∀ (i : Nat) x', L'[i]? = some x' → ∃ x, L[i]? = some x ∧ x'.m = x.m ∧ x'.s = x.s) : Srt L' := yWP fun i x y hx hy => by
 obtain ⟨a, ha, e1, e2⟩ := h i x hx
 obtain ⟨b, hb, e3, e4⟩ := h (i + 1) y hy
 have := zGO hs ha hb (by omega)
 unfold xB at this ⊢
 omega
theorem yAC {L L' : List Rec} (hs : Srt L) (hc : vD L) (h : ∀ (i : Nat) x', L'[i]? = some x' → ∃ x, L[i]? = some x ∧ x'.m = x.m ∧ x'.s = x.s ∧ x'.t = x.t) : vD L' := zRP (zSU hs fun i x' hx => by
  obtain ⟨x, h1, h2, h3, _⟩ := h i x' hx; exact ⟨x, h1, h2, h3⟩) fun i x y hx hy hm => by
 obtain ⟨a, ha, e1, e2, e5⟩ := h i x hx
 obtain ⟨b, hb, e3, e4, e6⟩ := h (i + 1) y hy
 have := (zID hs hc ha hb (by omega) (by omega)).2
 omega
theorem yQT (hs : Srt L) : Srt (vL L rate W) := zSU hs fun i x' hx => by
 obtain ⟨r, h1, rfl⟩ := zOA hx
 exact ⟨r, h1, zDB.1, zDB.2.1⟩
theorem zSS (hs : Srt L) (hc : vD L) : vD (vL L rate W) := yAC hs hc fun i x' hx => by
 obtain ⟨r, h1, rfl⟩ := zOA hx
 exact ⟨r, h1, zDB.1, zDB.2.1, zDB.2.2.1⟩
theorem yF {i : Nat} {r : Rec} (h : L[i]? = some r) : L.getD i default = r := by rw [List.getD_eq_getElem?_getD, h]; rfl
theorem zGF (hs : Srt L) (hc : vD L) (h0 : 0 ≤ rate) (h1 : rate ≤ 1000) (hW : ∀ i, 0 ≤ W i) : ∀ (i : Nat), i < L.length → 1000000 ≤ zAH L rate W i
 | 0, _ => by
  have := Int.tmod_nonneg 500 (hW 0)
  unfold zAH; omega
 | i + 1, hi => by
  have ih := zGF hs hc h0 h1 hW i (by omega)
  have hx : L[i]? = some (L[i]'(by omega)) := by simp
  have hy : L[i + 1]? = some (L[i + 1]'hi) := by simp
  unfold zAH
  rw [yF hx, yF hy]
  have hw := Int.tmod_nonneg (2 * rate + 1) (hW (i + 1))
  split
  ·rename_i e
   have h2 := (zID hs hc hx hy (by omega) e.symm).2
   have := Int.mul_nonneg (show 0 ≤ (L[i + 1]'hi).t - (L[i]'(by omega)).t by omega) (show 0 ≤ 1000 - rate + (W (i + 1)).tmod (2 * rate + 1) by omega)
   omega
  ·have := Int.tmod_nonneg 500 (hW (i + 1))
   omega
theorem zXO (hs : Srt L) (hc : vD L) (h0 : 0 ≤ rate) (h1 : rate ≤ 1000) (hW : ∀ i, 0 ≤ W i) {j : Nat} {y : Rec} (hj : L[j]? = some y) : ∀ (d : Nat) (x : Rec), L[j + d]? = some x → x.m = y.m → y.t ≤ x.t ∧ (x.t - y.t) * (1000 - rate) ≤ zAH L rate W (j + d) - zAH L rate W j ∧ zAH L rate W (j + d) - zAH L rate W j ≤ (x.t - y.t) * (1000 + rate)
 | 0, x, hx, _ => by
  rw [Nat.add_zero, hj] at hx; cases hx
  simp
 | d + 1, x, hx, hm => by
  have hlt : j + (d + 1) < L.length := (List.getElem?_eq_some_iff.1 hx).1
  have hz : L[j + d]? = some (L[j + d]'(by omega)) := by simp
  generalize hzz : L[j + d]'(by omega) = z at hz
  have hzx := zGO hs hz hx (by omega)
  have hyz : y.m ≤ z.m := by
   by_cases e : d = 0
   ·subst e; rw [Nat.add_zero, hj] at hz; cases hz; exact Int.le_refl _
   ·have := zGO hs hj hz (by omega)
    unfold xB at this; omega
  have ez : z.m = y.m := by unfold xB at hzx; omega
  obtain ⟨i1, i2, i3⟩ := zXO hs hc h0 h1 hW hj d z hz ez
  have ht := (zID hs hc hz hx (by omega) (by omega)).2
  have e : zAH L rate W (j + (d + 1)) = zAH L rate W (j + d) + (x.t - z.t) * (1000 - rate + (W (j + d + 1)).tmod (2 * rate + 1)) := by
   show zAH L rate W ((j + d) + 1) = _
   conv => lhs; unfold zAH
   rw [yF (show L[j + d + 1]? = some x from hx), yF hz, if_pos (by omega)]
  have w1 := Int.tmod_nonneg (2 * rate + 1) (hW (j + d + 1))
  have w2 := Int.tmod_lt_of_pos (W (j + d + 1)) (show 0 < 2 * rate + 1 by omega)
  generalize (W (j + d + 1)).tmod (2 * rate + 1) = w at e w1 w2
  have m1 := Int.mul_le_mul_of_nonneg_left (show 1000 - rate ≤ 1000 - rate + w by omega) (show 0 ≤ x.t - z.t by omega)
  have m2 := Int.mul_le_mul_of_nonneg_left (show 1000 - rate + w ≤ 1000 + rate by omega) (show 0 ≤ x.t - z.t by omega)
  have f1 : (x.t - y.t) * (1000 - rate) = (x.t - z.t) * (1000 - rate) + (z.t - y.t) * (1000 - rate) := by rw [← Int.add_mul]; congr 1; omega
  have f2 : (x.t - y.t) * (1000 + rate) = (x.t - z.t) * (1000 + rate) + (z.t - y.t) * (1000 + rate) := by rw [← Int.add_mul]; congr 1; omega
  rw [e, f1, f2]
  generalize (x.t - z.t) * (1000 - rate + w) = u at *
  generalize (x.t - z.t) * (1000 - rate) = u1 at *
  generalize (x.t - z.t) * (1000 + rate) = u2 at *
  generalize (z.t - y.t) * (1000 - rate) = u3 at *
  generalize (z.t - y.t) * (1000 + rate) = u4 at *
  exact ⟨by omega, by omega, by omega⟩
theorem yGB (hs : Srt L) (hc : vD L) (h0 : 0 ≤ rate) (h1 : rate ≤ 1000) (hW : ∀ i, 0 ≤ W i) {i j : Nat} {x y : Rec} (hj : L[j]? = some y) (hi : L[i]? = some x) (hij : j ≤ i) (hm : x.m = y.m) :
  y.t ≤ x.t ∧ pLo (x.t - y.t) rate ≤ xO L rate W i - xO L rate W j ∧ xO L rate W i - xO L rate W j ≤ pHi (x.t - y.t) rate := by
 obtain ⟨d, rfl⟩ : ∃ d, i = j + d := ⟨i - j, by omega⟩
 obtain ⟨k1, k2, k3⟩ := zXO hs hc h0 h1 hW hj d x hi hm
 have g1 := zGF hs hc h0 h1 hW (j + d) (List.getElem?_eq_some_iff.1 hi).1
 have g2 := zGF hs hc h0 h1 hW j (List.getElem?_eq_some_iff.1 hj).1
 have n1 := Int.mul_nonneg (show 0 ≤ x.t - y.t by omega) (show 0 ≤ 1000 - rate by omega)
 have n2 := Int.mul_nonneg (show 0 ≤ x.t - y.t by omega) (show 0 ≤ 1000 + rate by omega)
 unfold xO pLo pHi
 rw [Int.tdiv_eq_ediv_of_nonneg (show 0 ≤ zAH L rate W (j + d) by omega), Int.tdiv_eq_ediv_of_nonneg (show 0 ≤ zAH L rate W j by omega), Int.tdiv_eq_ediv_of_nonneg n1, Int.tdiv_eq_ediv_of_nonneg (by omega)]
 refine ⟨k1, ?_, ?_⟩ <;> omega
def yQP (L L' : List Rec) (M : Nat → Int) : Prop := ∀ (i : Nat) x', L'[i]? = some x' → ∃ x, L[i]? = some x ∧ x'.m = x.m ∧ x'.s = x.s ∧ x'.t = x.t ∧ (x'.k = 1 → x'.a = M i)
theorem yEC (hs : Srt L) (hc : vD L) (h0 : 0 ≤ rate) (h1 : rate ≤ 1000) (hW : ∀ i, 0 ≤ W i) {L' : List Rec} (h : yQP L L' (xO L rate W)) {i : Nat} {x' : Rec} (hi : L'[i]? = some x') (hM : xO L rate W i ≤ 1000000) :
  (yB L' rate x').1 ≤ xO L rate W i ∧ xO L rate W i ≤ (yB L' rate x').2 := by
 obtain ⟨x, hx, e1, e2, e3, e4⟩ := h i x' hi
 have g1 := zGF hs hc h0 h1 hW i (List.getElem?_eq_some_iff.1 hx).1
 have hm0 : 0 ≤ xO L rate W i := by unfold xO; rw [Int.tdiv_eq_ediv_of_nonneg (by omega)]; omega
 have key : ∀ s' ∈ L', s'.m = x'.m → s'.k = 1 → (xN rate x' s').1 ≤ xO L rate W i ∧ xO L rate W i ≤ (xN rate x' s').2 := by
  intro s' hs' hm hk
  obtain ⟨j, hj, rfl⟩ := List.mem_iff_getElem.1 hs'
  have hj' : L'[j]? = some (L'[j]) := List.getElem?_eq_getElem hj
  generalize L'[j] = s' at *
  obtain ⟨s, hS, f1, f2, f3, f4⟩ := h j s' hj'
  have f4 := f4 hk
  unfold xN
  rcases Nat.lt_trichotomy j i with hji | hji | hji
  ·have k1 := zGO hs hS hx hji
   have k2 : s.s < x.s := by unfold xB at k1; omega
   rw [if_neg (fun e => by rw [e] at f2; omega), if_pos (by omega)]
   obtain ⟨m1, m2, m3⟩ := yGB hs hc h0 h1 hW hS hx (by omega) (by omega)
   rw [e3, f3, f4]
   exact ⟨by simp only; omega, by simp only; omega⟩
  ·subst hji
   rw [hi] at hj'; cases hj'
   rw [if_pos rfl, f4]; exact ⟨Int.le_refl _, Int.le_refl _⟩
  ·have k1 := zGO hs hx hS hji
   have k2 : x.s < s.s := by unfold xB at k1; omega
   rw [if_neg (fun e => by rw [e] at f2; omega), if_neg (by omega)]
   obtain ⟨m1, m2, m3⟩ := yGB hs hc h0 h1 hW hx hS (by omega) (by omega)
   rw [e3, f3, f4]
   exact ⟨by simp only; omega, by simp only; omega⟩
 exact ⟨zME.2 ⟨hm0, fun s' a b c => (key s' a b c).1⟩, zMF.2 ⟨hM, fun s' a b c => (key s' a b c).2⟩⟩
end
end Go.Proofs.Ytffgfojabcbegaa
