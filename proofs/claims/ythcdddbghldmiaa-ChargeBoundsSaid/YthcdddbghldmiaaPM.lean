
import Derived.Test.YthcdddbghldmiaaPE
namespace Go.Proofs.Ythcdddbghldmiaa
open Go Go.Lay
set_option linter.unusedVariables false
def IsLeast (R : Int → Prop) (r : Int) : Prop := (r = -1 ∧ ∀ c, ¬ R c) ∨ (0 ≤ r ∧ R r ∧ ∀ c, R c → r ≤ c)
theorem IsLeast.congr {R R' : Int → Prop} {r : Int} (h : IsLeast R r) (k : ∀ c, R c ↔ R' c) : IsLeast R' r := by
 rcases h with ⟨h1, h2⟩ | ⟨h1, h2, h3⟩
 ·exact .inl ⟨h1, fun c hc => h2 c ((k c).2 hc)⟩
 ·exact .inr ⟨h1, (k r).1 h2, fun c hc => h3 c ((k c).2 hc)⟩
theorem IsLeast.skip {R R' : Int → Prop} {r r' d : Int} (h : IsLeast R r) (k : IsLeast R' r') (hr : ¬ 0 ≤ r') : IsLeast (fun c => R c ∨ ∃ c', R' c' ∧ c = c' + d) r := by
 have hk : ∀ c, ¬ R' c := by
  rcases k with ⟨_, k⟩ | ⟨k, _⟩
  ·exact k
  ·omega
 exact h.congr (fun c => ⟨.inl, fun h => by rcases h with h | ⟨c', h, _⟩; exact h; exact absurd h (hk c')⟩)
theorem IsLeast.take {R R' : Int → Prop} {r r' d : Int} (h : IsLeast R r) (k : IsLeast R' r') (hr : 0 ≤ r') (hd : 0 ≤ d) (hb : r < 0 ∨ r' + d < r) : IsLeast (fun c => R c ∨ ∃ c', R' c' ∧ c = c' + d) (r' + d) := by
 rcases k with ⟨k1, _⟩ | ⟨k1, k2, k3⟩
 ·omega
 refine .inr ⟨by omega, .inr ⟨r', k2, rfl⟩, fun c hc => ?_⟩
 rcases hc with hc | ⟨c', hc, rfl⟩
 ·rcases h with ⟨_, h⟩ | ⟨h1, h2, h3⟩
  ·exact absurd hc (h c)
  ·have := h3 c hc; omega
 ·have := k3 c' hc; omega
theorem IsLeast.keep {R R' : Int → Prop} {r r' d : Int} (h : IsLeast R r) (k : IsLeast R' r') (hr : 0 ≤ r') (hb : ¬ r < 0) (hb2 : ¬ r' + d < r) : IsLeast (fun c => R c ∨ ∃ c', R' c' ∧ c = c' + d) r := by
 rcases h with ⟨h1, _⟩ | ⟨h1, h2, h3⟩
 ·omega
 rcases k with ⟨k1, _⟩ | ⟨k1, k2, k3⟩
 ·omega
 refine .inr ⟨h1, .inl h2, fun c hc => ?_⟩
 rcases hc with hc | ⟨c', hc, rfl⟩
 ·exact h3 c hc
 ·have := k3 c' hc; omega
def mostZ (g : Gar) (s j : Nat) (p : Int) (nd : List Int) : Int := match g.buses[j]? with | some b => if thereB b (s : Int) then min (min p b.rate) (nd.getD j 0) else 0 | none => 0
def GvR (g : Gar) (K : List Int → Int → Prop) (s : Nat) : Nat → Int → List Int → Int → Prop
 | 0, _, nd, c => K nd c
 | m + 1, p, nd, c => ∃ n c' : Int, 0 ≤ n ∧ n ≤ mostZ g s (g.nb - (m + 1)) p nd ∧ GvR g K s m (p - n) (nd.set (g.nb - (m + 1)) (nd.getD (g.nb - (m + 1)) 0 - n)) c' ∧ c = c' + n * prS g s
def ChR (g : Gar) : Nat → List Int → Int → Prop
 | 0, nd, c => nd = [0, 0, 0, 0, 0] ∧ c = 0
 | k + 1, nd, c => GvR g (ChR g k) (g.ns - (k + 1)) g.nb (pwS g (g.ns - (k + 1))) nd c
section
variable {g : Gar} {K : List Int → Int → Prop} {s k : Nat}
theorem set_sum : ∀ {l : List Int} {j : Nat} {v : Int}, j < l.length → (l.set j v).sum = l.sum - l.getD j 0 + v
 | [], j, v, h => by simp at h
 | x :: l, 0, v, _ => by simp; omega
 | x :: l, j + 1, v, h => by
  have := set_sum (l := l) (j := j) (v := v) (by simpa using h)
  simp only [List.set_cons_succ, List.sum_cons, this, List.getD_cons_succ]; omega
theorem GvR.bd (hv : Valid g) (hnb : g.nb ≤ 5) (hK : ∀ nd c, nd.length = 5 → K nd c → 0 ≤ c ∧ c ≤ 1000 * nd.sum) : ∀ {m : Nat} {p : Int} {nd : List Int} {c : Int}, m ≤ g.nb → nd.length = 5 → GvR g K s m p nd c → 0 ≤ c ∧ c ≤ 1000 * nd.sum
 | 0, p, nd, c, _, hl, h => hK nd c hl h
 | m + 1, p, nd, c, hm, hl, h => by
  obtain ⟨n, c', h1, h2, h3, rfl⟩ := h
  have ih := GvR.bd hv hnb hK (by omega) (by simpa using hl) h3
  rw [set_sum (by omega)] at ih
  have hp := hv.pr s
  have a1 : 0 ≤ n * prS g s := Int.mul_nonneg h1 hp.1
  have a2 : n * prS g s ≤ n * 1000 := Int.mul_le_mul_of_nonneg_left hp.2 h1
  omega
theorem ChR.bd (hv : Valid g) (hnb : g.nb ≤ 5) : ∀ {k : Nat} {nd : List Int} {c : Int}, nd.length = 5 → ChR g k nd c → 0 ≤ c ∧ c ≤ 1000 * nd.sum
 | 0, nd, c, _, h => by obtain ⟨rfl, rfl⟩ := h; simp
 | k + 1, nd, c, hl, h => GvR.bd hv hnb (fun nd c hl h => ChR.bd hv hnb hl h) (Nat.le_refl _) hl h
structure ExP (g : Gar) (k : Nat) (nd : List Int) (c : Int) (x : Nat → Nat → Int) : Prop where
 cap : ∀ i s, i < g.nb → g.ns - k ≤ s → s < g.ns → 0 ≤ x i s ∧ x i s ≤ rateI g i s
 pow : ∀ s, g.ns - k ≤ s → s < g.ns → sumN g.nb (fun i => x i s) ≤ pwS g s
 sum : ∀ i, i < g.nb → sumN k (fun t => x i (g.ns - k + t)) = nd.getD i 0
 cost : sumN k (fun t => sumN g.nb (fun i => x i (g.ns - k + t)) * prS g (g.ns - k + t)) = c
def DropN (nd : List Int) (y : Nat → Int) (j n : Nat) : List Int := (List.range 5).map fun i => if j ≤ i ∧ i < n then nd.getD i 0 - y i else nd.getD i 0
theorem getD_set {l : List Int} {j i : Nat} {v : Int} (hj : j < l.length) : (l.set j v).getD i 0 = if i = j then v else l.getD i 0 := by
 simp only [List.getD_eq_getElem?_getD, List.getElem?_set]
 by_cases e : j = i
 ·subst e; simp [hj]
 ·rw [if_neg e, if_neg (fun h => e h.symm)]
theorem drop_get {nd : List Int} {y : Nat → Int} {j n i : Nat} (h : i < 5) : (DropN nd y j n).getD i 0 = if j ≤ i ∧ i < n then nd.getD i 0 - y i else nd.getD i 0 := by
 simp [DropN, List.getD_eq_getElem?_getD, h]
theorem drop_out {nd : List Int} {y : Nat → Int} {j n i : Nat} (h : ¬ i < 5) : (DropN nd y j n).getD i 0 = 0 := by
 have : (DropN nd y j n).length ≤ i := by simp [DropN]; omega
 rw [List.getD_eq_getElem?_getD, List.getElem?_eq_none this]; rfl
theorem list5 {a b : List Int} (ha : a.length = 5) (hb : b.length = 5) (h : ∀ i, i < 5 → a.getD i 0 = b.getD i 0) : a = b := by
 apply List.ext_getElem?
 intro i
 by_cases hi : i < 5
 ·have := h i hi
  simp only [List.getD_eq_getElem?_getD, List.getElem?_eq_getElem (show i < a.length by omega), List.getElem?_eq_getElem (show i < b.length by omega), Option.getD_some] at this ⊢
  rw [this]
 ·rw [List.getElem?_eq_none (by omega), List.getElem?_eq_none (by omega)]
theorem mostZ_le {j : Nat} {p : Int} {nd : List Int} {n : Int} (hv : Valid g) (hj : j < g.nb) (h0 : 0 ≤ n) (h : n ≤ mostZ g s j p nd) : n ≤ rateI g j s ∧ (0 < n → n ≤ p ∧ n ≤ nd.getD j 0) := by
 obtain ⟨b, hb⟩ := bus_at hj
 have := busB_iff (hv.b hb)
 unfold mostZ at h
 rw [hb] at h
 simp only [] at h
 rw [rateI_eq hb]
 by_cases ht : thereB b (s : Int) = true
 ·rw [if_pos ht] at h ⊢; omega
 ·rw [if_neg ht] at h ⊢; omega
theorem le_mostZ {j : Nat} {p : Int} {nd : List Int} {n : Int} (hv : Valid g) (hj : j < g.nb) (h0 : 0 ≤ n) (h1 : n ≤ rateI g j s) (h2 : n ≤ p) (h3 : n ≤ nd.getD j 0) : n ≤ mostZ g s j p nd := by
 obtain ⟨b, hb⟩ := bus_at hj
 have := busB_iff (hv.b hb)
 unfold mostZ
 rw [hb]
 simp only []
 rw [rateI_eq hb] at h1
 by_cases ht : thereB b (s : Int) = true
 ·rw [if_pos ht] at h1 ⊢; omega
 ·rw [if_neg ht] at h1 ⊢; omega
theorem GvR.amounts (hv : Valid g) (hnb : g.nb ≤ 5) : ∀ {m : Nat} {p : Int} {nd : List Int} {c : Int}, m ≤ g.nb → nd.length = 5 → 0 ≤ p → GvR g K s m p nd c →
  ∃ (y : Nat → Int) (c' : Int), (∀ i, i < g.nb → 0 ≤ y i ∧ y i ≤ rateI g i s) ∧ (∀ i, i < g.nb - m → y i = 0) ∧ sumN g.nb y ≤ p ∧ K (DropN nd y 0 g.nb) c' ∧ c = c' + sumN g.nb y * prS g s
 | 0, p, nd, c, _, hl, hp, h => by
  refine ⟨fun _ => 0, c, fun i _ => ⟨Int.le_refl _, hv.rate i s⟩, fun _ _ => rfl, by rw [sumN_zero (fun _ _ => rfl)]; exact hp, ?_, by rw [sumN_zero (fun _ _ => rfl)]; omega⟩
  have : DropN nd (fun _ => 0) 0 g.nb = nd := list5 (by simp [DropN]) hl (fun i hi => by rw [drop_get hi]; split <;> omega)
  rw [this]; exact h
 | m + 1, p, nd, c, hm, hl, hp, h => by
  obtain ⟨n, c', h1, h2, h3, rfl⟩ := h
  have hj : g.nb - (m + 1) < g.nb := by omega
  obtain ⟨hnr, h2'⟩ := mostZ_le hv hj h1 h2
  have hnp : n ≤ p := by
   by_cases h0 : 0 < n
   ·exact (h2' h0).1
   ·omega
  obtain ⟨y, c2, a1, a2, a3, a4, rfl⟩ := GvR.amounts hv hnb (by omega) (by simpa using hl) (by omega) h3
  have hy0 : y (g.nb - (m + 1)) = 0 := a2 _ (by omega)
  have hs : sumN g.nb (fun i => if i = g.nb - (m + 1) then n else y i) = sumN g.nb y + n := sumN_upd (k := g.nb - (m + 1)) hj (fun i _ hne => by simp [hne]) (by simp [hy0])
  refine ⟨fun i => if i = g.nb - (m + 1) then n else y i, c2, fun i hi => ?_, fun i hi => ?_, by rw [hs]; omega, ?_, by rw [hs, Int.add_mul]; omega⟩
  ·by_cases e : i = g.nb - (m + 1)
   ·subst e; simp only [if_true]; exact ⟨h1, hnr⟩
   ·simp only [e, if_false]; exact a1 i hi
  ·simp only [show i ≠ g.nb - (m + 1) by omega, if_false]; exact a2 i (by omega)
  ·have : DropN nd (fun i => if i = g.nb - (m + 1) then n else y i) 0 g.nb = DropN (nd.set (g.nb - (m + 1)) (nd.getD (g.nb - (m + 1)) 0 - n)) y 0 g.nb := list5 (by simp [DropN]) (by simp [DropN]) (fun i hi => by
    rw [drop_get hi, drop_get hi, getD_set (by omega)]
    by_cases e : i = g.nb - (m + 1)
    ·subst e; simp only [if_true]; rw [hy0]; split <;> omega
    ·simp only [e, if_false])
   rw [this]; exact a4
theorem GvR.of (hv : Valid g) (hnb : g.nb ≤ 5) : ∀ {m : Nat} {p : Int} {nd : List Int} {y : Nat → Int} {c' : Int}, m ≤ g.nb → nd.length = 5 → (∀ i, i < g.nb → 0 ≤ y i ∧ y i ≤ rateI g i s ∧ y i ≤ nd.getD i 0) → (∀ i, i < g.nb - m → y i = 0) → sumN g.nb y ≤ p → K (DropN nd y 0 g.nb) c' →
  GvR g K s m p nd (c' + sumN g.nb y * prS g s)
 | 0, p, nd, y, c', _, hl, h1, h2, h3, h4 => by
  have e : sumN g.nb y = 0 := sumN_zero (fun i hi => h2 i (by omega))
  have : DropN nd y 0 g.nb = nd := list5 (by simp [DropN]) hl (fun i hi => by
   rw [drop_get hi]
   split
   ·rename_i h; rw [h2 i (by omega)]; omega
   ·rfl)
  rw [this] at h4
  rw [e, Int.zero_mul, Int.add_zero]; exact h4
 | m + 1, p, nd, y, c', hm, hl, h1, h2, h3, h4 => by
  have hj : g.nb - (m + 1) < g.nb := by omega
  obtain ⟨z, hz⟩ : ∃ z, z = y (g.nb - (m + 1)) := ⟨_, rfl⟩
  have hb := h1 _ hj
  rw [← hz] at hb
  have hs : sumN g.nb y = sumN g.nb (fun i => if i = g.nb - (m + 1) then 0 else y i) + z := sumN_upd (k := g.nb - (m + 1)) hj (fun i _ hne => by simp [hne]) (by simp [hz])
  have hp : z ≤ p := by
   have := sumN_one (f := y) (n := g.nb) (fun i hi => (h1 i hi).1) hj
   omega
  have hlen : g.nb - (m + 1) < nd.length := by omega
  refine ⟨z, c' + sumN g.nb (fun i => if i = g.nb - (m + 1) then 0 else y i) * prS g s, hb.1, le_mostZ hv hj hb.1 hb.2.1 hp hb.2.2, ?_, by rw [hs, Int.add_mul]; omega⟩
  refine GvR.of hv hnb (by omega) (by simpa using hl) (fun i hi => ?_) (fun i hi => ?_) (by omega) ?_
  ·rw [getD_set hlen]
   by_cases e : i = g.nb - (m + 1)
   ·subst e; simp only [if_true]; exact ⟨Int.le_refl _, hv.rate _ s, by omega⟩
   ·simp only [e, if_false]; exact h1 i hi
  ·by_cases e : i = g.nb - (m + 1)
   ·rw [if_pos e]
   ·rw [if_neg e]; exact h2 i (by omega)
  ·have : DropN (nd.set (g.nb - (m + 1)) (nd.getD (g.nb - (m + 1)) 0 - z)) (fun i => if i = g.nb - (m + 1) then 0 else y i) 0 g.nb = DropN nd y 0 g.nb := list5 (by simp [DropN]) (by simp [DropN]) (fun i hi => by
    rw [drop_get hi, drop_get hi, getD_set hlen]
    by_cases e : i = g.nb - (m + 1)
    ·subst e; simp only [if_true]; rw [← hz]; split <;> omega
    ·simp only [e, if_false])
   rw [this]; exact h4
theorem sumN_head {f : Nat → Int} : ∀ {n : Nat}, sumN (n + 1) f = f 0 + sumN n (fun t => f (t + 1))
 | 0 => by simp [sumN]
 | n + 1 => by
  have := sumN_head (f := f) (n := n)
  rw [sumN, this]
  simp only [sumN]
  omega
theorem ch_plan (hv : Valid g) (hnb : g.nb ≤ 5) : ∀ {k : Nat} {nd : List Int} {c : Int}, k ≤ g.ns → nd.length = 5 → (∀ i, g.nb ≤ i → nd.getD i 0 = 0) → ChR g k nd c → ∃ x, ExP g k nd c x
 | 0, nd, c, _, _, _, h => by
  obtain ⟨rfl, rfl⟩ := h
  refine ⟨fun _ _ => 0, fun i s _ h1 h2 => by omega, fun s h1 h2 => by omega, fun i hi => ?_, rfl⟩
  have : i < 5 := by omega
  rcases (show i = 0 ∨ i = 1 ∨ i = 2 ∨ i = 3 ∨ i = 4 by omega) with rfl | rfl | rfl | rfl | rfl <;> rfl
 | k + 1, nd, c, hk, hl, h0, h => by
  obtain ⟨y, c', a1, a2, a3, a4, rfl⟩ := GvR.amounts hv hnb (Nat.le_refl _) hl (hv.pw _).1 h
  obtain ⟨x, hx⟩ := ch_plan hv hnb (k := k) (by omega) (by simp [DropN]) (fun i hi => by
   by_cases h5 : i < 5
   ·rw [drop_get h5, if_neg (by omega)]; exact h0 i hi
   ·exact drop_out h5) a4
  have e1 : g.ns - k = g.ns - (k + 1) + 1 := by omega
  have hne : ∀ s, g.ns - k ≤ s → s ≠ g.ns - (k + 1) := fun s hs => by omega
  refine ⟨fun i s => if s = g.ns - (k + 1) then y i else x i s, fun i s hi h1 h2 => ?_, fun s h1 h2 => ?_, fun i hi => ?_, ?_⟩
  ·by_cases e : s = g.ns - (k + 1)
   ·subst e; simp only [if_true]; exact a1 i hi
   ·simp only [e, if_false]; exact hx.cap i s hi (by omega) h2
  ·by_cases e : s = g.ns - (k + 1)
   ·subst e; simp only [if_true]; exact a3
   ·simp only [e, if_false]; exact hx.pow s (by omega) h2
  ·have := hx.sum i hi
   rw [drop_get (by omega), if_pos ⟨by omega, hi⟩] at this
   rw [sumN_head, Nat.add_zero, if_pos rfl, sumN_congr (g := fun t => x i (g.ns - k + t)) (fun t _ => by rw [if_neg (by omega), show g.ns - (k + 1) + (t + 1) = g.ns - k + t by omega]), this]
   omega
  ·have e3 : ∀ t, sumN g.nb (fun i => if g.ns - (k + 1) + (t + 1) = g.ns - (k + 1) then y i else x i (g.ns - (k + 1) + (t + 1))) * prS g (g.ns - (k + 1) + (t + 1)) = sumN g.nb (fun i => x i (g.ns - k + t)) * prS g (g.ns - k + t) := fun t => by
    rw [show g.ns - (k + 1) + (t + 1) = g.ns - k + t by omega]
    congr 1
    exact sumN_congr (fun i _ => by rw [if_neg (by omega)])
   have e4 : sumN g.nb (fun i => if g.ns - (k + 1) = g.ns - (k + 1) then y i else x i (g.ns - (k + 1))) = sumN g.nb y := sumN_congr (fun i _ => by rw [if_pos rfl])
   rw [sumN_head, Nat.add_zero, e4, sumN_congr (n := k) (g := fun t => sumN g.nb (fun i => x i (g.ns - k + t)) * prS g (g.ns - k + t)) (fun t _ => e3 t), hx.cost]
   omega
theorem plan_ch (hv : Valid g) (hnb : g.nb ≤ 5) : ∀ {k : Nat} {nd : List Int} {c : Int} {x : Nat → Nat → Int}, k ≤ g.ns → nd.length = 5 → (∀ i, g.nb ≤ i → nd.getD i 0 = 0) → ExP g k nd c x → ChR g k nd c
 | 0, nd, c, x, _, hl, h0, h => by
  refine ⟨list5 hl rfl (fun i hi => ?_), h.cost.symm⟩
  have e : ([0, 0, 0, 0, 0] : List Int).getD i 0 = 0 := by
   rcases (show i = 0 ∨ i = 1 ∨ i = 2 ∨ i = 3 ∨ i = 4 by omega) with rfl | rfl | rfl | rfl | rfl <;> rfl
  rw [e]
  by_cases hn : i < g.nb
  ·exact (h.sum i hn).symm
  ·exact h0 i (by omega)
 | k + 1, nd, c, x, hk, hl, h0, h => by
  have hs0 : g.ns - (k + 1) < g.ns := by omega
  have hsum := fun i (hi : i < g.nb) => h.sum i hi
  have hc := h.cost
  rw [sumN_head, Nat.add_zero] at hc
  have e2 : ∀ t, g.ns - (k + 1) + (t + 1) = g.ns - k + t := fun t => by omega
  simp only [e2] at hc
  have hn : ∀ i, i < g.nb → x i (g.ns - (k + 1)) ≤ nd.getD i 0 ∧ sumN k (fun t => x i (g.ns - k + t)) = nd.getD i 0 - x i (g.ns - (k + 1)) := fun i hi => by
   have := hsum i hi
   rw [sumN_head, Nat.add_zero] at this
   simp only [e2] at this
   have h2 : 0 ≤ sumN k (fun t => x i (g.ns - k + t)) := sumN_nn (fun t ht => (h.cap i _ hi (by omega) (by omega)).1)
   omega
  have key := GvR.of (K := ChR g k) (s := g.ns - (k + 1)) hv hnb (m := g.nb) (p := pwS g (g.ns - (k + 1))) (nd := nd) (y := fun i => x i (g.ns - (k + 1))) (c' := c - sumN g.nb (fun i => x i (g.ns - (k + 1))) * prS g (g.ns - (k + 1))) (Nat.le_refl _) hl
   (fun i hi => ⟨(h.cap i _ hi (Nat.le_refl _) hs0).1, (h.cap i _ hi (Nat.le_refl _) hs0).2, (hn i hi).1⟩) (fun i hi => by omega) (h.pow _ (Nat.le_refl _) hs0) (plan_ch hv hnb (by omega) (by simp [DropN]) (fun i hi => by
    by_cases h5 : i < 5
    ·rw [drop_get h5, if_neg (by omega)]; exact h0 i hi
    ·exact drop_out h5) (x := x) ⟨fun i s hi h1 h2 => h.cap i s hi (by omega) h2, fun s h1 h2 => h.pow s (by omega) h2, fun i hi => ?_, by omega⟩)
  ·have e : c - sumN g.nb (fun i => x i (g.ns - (k + 1))) * prS g (g.ns - (k + 1)) + sumN g.nb (fun i => x i (g.ns - (k + 1))) * prS g (g.ns - (k + 1)) = c := by omega
   rw [e] at key
   exact key
  ·rw [drop_get (by omega), if_pos ⟨by omega, hi⟩]; exact (hn i hi).2
def ndL (g : Gar) : List Int := (List.range 5).map (needI g)
theorem ndL_get {i : Nat} (h : i < 5) : (ndL g).getD i 0 = needI g i := by simp [ndL, List.getD_eq_getElem?_getD, h]
theorem ndL_zero {i : Nat} (h : g.nb ≤ i) : (ndL g).getD i 0 = 0 := by
 by_cases h5 : i < 5
 ·rw [ndL_get h5]
  have : g.buses[i]? = none := List.getElem?_eq_none h
  simp [needI, this]
 ·have : (ndL g).length ≤ i := by simp [ndL]; omega
  rw [List.getD_eq_getElem?_getD, List.getElem?_eq_none this]; rfl
theorem ch_exact (hv : Valid g) {c : Int} (h : ChR g g.ns (ndL g) c) : ∃ rs, PlanOK g rs ∧ costZ g rs = c := by
 have hnb := hv.nb
 obtain ⟨x, hx⟩ := ch_plan hv hnb (Nat.le_refl _) (by simp [ndL]) (fun i hi => ndL_zero hi) h
 have hcell : ∀ i s, i < g.nb → s < g.ns → cell ((List.range g.nb).map fun i => (List.range g.ns).map fun s => x i s) i s = x i s := fun i s hi hs => by simp [cell, hi, hs]
 have e0 : g.ns - g.ns = 0 := by omega
 refine ⟨(List.range g.nb).map fun i => (List.range g.ns).map fun s => x i s, ⟨by simp, fun r hr => ?_, fun i b hb s hs => ?_, fun i b hb => ?_, fun s hs => ?_⟩, ?_⟩
 ·obtain ⟨i, _, rfl⟩ := List.mem_map.1 hr; simp
 ·have hi : i < g.nb := (List.getElem?_eq_some_iff.1 hb).1
  rw [hcell i s hi hs]
  have := hx.cap i s hi (by omega) hs
  rw [rateI_eq hb] at this
  have hB := busB_iff (hv.b hb)
  refine ⟨this.1, ?_, fun h => ?_⟩
  ·split at this <;> omega
  ·cases ht : thereB b (s : Int) with
   | true => rfl
   | false => rw [ht] at this; simp at this; omega
 ·have hi : i < g.nb := (List.getElem?_eq_some_iff.1 hb).1
  have := hx.sum i hi
  rw [ndL_get (by omega), needI_eq hb, e0] at this
  rw [sumN_congr (g := fun t => x i (0 + t)) (fun s hs => by rw [hcell i s hi hs, Nat.zero_add]), this]; omega
 ·have := hx.pow s (by omega) hs
  rw [sumN_congr (g := fun i => x i s) (fun i hi => hcell i s hi hs)]; exact this
 ·have := hx.cost
  rw [e0] at this
  rw [← this]
  unfold costZ
  rw [sumN_swap]
  refine sumN_congr (fun s hs => ?_)
  rw [Nat.zero_add, ← sumN_mul']
  exact sumN_congr (fun i hi => by rw [hcell i s hi hs])
theorem exact_ch (hv : Valid g) {rs : List (List Int)} (h : PlanOK g rs) (hn : ∀ i, i < g.nb → sumN g.ns (cell rs i) = needI g i) : ChR g g.ns (ndL g) (costZ g rs) := by
 have hnb := hv.nb
 have e0 : g.ns - g.ns = 0 := by omega
 refine plan_ch hv hnb (x := cell rs) (Nat.le_refl _) (by simp [ndL]) (fun i hi => ndL_zero hi) ⟨fun i s hi h1 h2 => ?_, fun s h1 h2 => h.pow s h2, fun i hi => ?_, ?_⟩
 ·obtain ⟨b, hb⟩ := bus_at hi
  have := h.cap i b hb s h2
  rw [rateI_eq hb]
  refine ⟨this.1, ?_⟩
  cases ht : thereB b (s : Int) with
  | true => simpa using this.2.1
  | false =>
   have hp : ¬ 0 < cell rs i s := fun hc => by rw [this.2.2 hc] at ht; cases ht
   simp; omega
 ·rw [e0, ndL_get (by omega), ← hn i hi]
  exact sumN_congr (fun t _ => by rw [Nat.zero_add])
 ·rw [e0]
  unfold costZ
  rw [sumN_swap]
  refine sumN_congr (fun s hs => ?_)
  rw [Nat.zero_add, sumN_mul']
end
end Go.Proofs.Ythcdddbghldmiaa
