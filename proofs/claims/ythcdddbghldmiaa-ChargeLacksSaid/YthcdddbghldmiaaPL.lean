
import Derived.Test.YthcdddbghldmiaaPE
namespace Go.Proofs.Ythcdddbghldmiaa
open Go Go.Lay
set_option linter.unusedVariables false
def RiseN (n : Nat) : Nat → List Nat → Prop
 | _, [] => True
 | k, i :: l => k ≤ i ∧ i < n ∧ RiseN n (i + 1) l
section
variable {g x : Gar} {f : Nat → Int} {n k : Nat} {l : List Nat} {z y : Int}
theorem RiseN.mem : ∀ {l : List Nat} {k : Nat}, RiseN n k l → ∀ i ∈ l, k ≤ i ∧ i < n
 | [], _, _, i, h => by cases h
 | j :: l, k, h, i, hi => by
  obtain ⟨h1, h2, h3⟩ := h
  rcases List.mem_cons.1 hi with rfl | hi
  ·exact ⟨h1, h2⟩
  ·have := RiseN.mem h3 i hi; omega
theorem RiseN.len : ∀ {l : List Nat} {k : Nat}, RiseN n k l → l.length ≤ n - k
 | [], _, _ => by simp
 | j :: l, k, h => by
  obtain ⟨h1, h2, h3⟩ := h
  have := RiseN.len h3
  simp only [List.length_cons]; omega
theorem RiseN.snoc : ∀ {l : List Nat} {k i : Nat}, RiseN n k l → (∀ j ∈ l, j < i) → k ≤ i → i < n → RiseN n k (l ++ [i])
 | [], _, i, _, _, hk, hi => ⟨hk, hi, trivial⟩
 | j :: l, k, i, h, hl, hk, hi => ⟨h.1, h.2.1, RiseN.snoc h.2.2 (fun j' hj => hl j' (List.mem_cons_of_mem _ hj)) (hl j List.mem_cons_self) hi⟩
theorem RiseN.sum : ∀ {l : List Nat} {k : Nat}, RiseN n k l → (l.map f).sum = sumN n fun i => if i ∈ l then f i else 0
 | [], _, _ => by rw [sumN_zero (fun i _ => by simp)]; rfl
 | j :: l, k, h => by
  obtain ⟨h1, h2, h3⟩ := h
  have hj : j ∉ l := fun hm => by have := (RiseN.mem h3 j hm).1; omega
  rw [List.map_cons, List.sum_cons, RiseN.sum h3, sumN_upd (f := fun i => if i ∈ l then f i else 0) (g := fun i => if i ∈ j :: l then f i else 0) (d := f j) (k := j) h2 (fun i _ hne => by simp [hne]) (by simp [hj])]
  omega
theorem rise_iff : ∀ {l : List Nat} {k : Nat}, RiseN n k l ↔ l.Pairwise (· < ·) ∧ ∀ i ∈ l, k ≤ i ∧ i < n
 | [], _ => by simp [RiseN]
 | j :: l, k => by
  constructor
  ·intro h
   have hm := h.mem
   obtain ⟨h1, h2, h3⟩ := h
   exact ⟨List.pairwise_cons.2 ⟨fun i hi => by have := h3.mem i hi; omega, (rise_iff.1 h3).1⟩, hm⟩
  ·rintro ⟨h1, h2⟩
   obtain ⟨h3, h4⟩ := List.pairwise_cons.1 h1
   have := h2 j List.mem_cons_self
   exact ⟨this.1, this.2, rise_iff.2 ⟨h4, fun i hi => ⟨h3 i hi, (h2 i (List.mem_cons_of_mem _ hi)).2⟩⟩⟩
theorem rise_filter (P : Nat → Bool) : RiseN n 0 ((List.range n).filter P) :=
 rise_iff.2 ⟨List.Pairwise.filter _ List.pairwise_lt_range, fun i hi => by
  have := (List.mem_filter.1 hi).1
  simp at this; omega⟩
def lackL (g : Gar) (l : List Nat) : Int := max 0 ((l.map (needI g)).sum - sumN g.ns fun s => min (l.map fun i => rateI g i s).sum (pwS g s))
theorem lackF_congr {P Q : Nat → Bool} (h : ∀ i, i < g.nb → P i = Q i) : lackF g P = lackF g Q := by
 unfold lackF
 rw [sumN_congr (f := fun i => if P i then needI g i else 0) (g := fun i => if Q i then needI g i else 0) (fun i hi => by simp only [h i hi])]
 congr 1
 exact sumN_congr (fun s _ => by
  rw [sumN_congr (f := fun i => if P i then rateI g i s else 0) (g := fun i => if Q i then rateI g i s else 0) (fun i hi => by simp only [h i hi])])
theorem lackL_eq (h : RiseN g.nb k l) : lackL g l = max 0 (lackF g fun i => decide (i ∈ l)) := by
 unfold lackL lackF
 rw [h.sum]
 simp only [decide_eq_true_eq]
 congr 2
 exact sumN_congr (fun s _ => by rw [h.sum])
structure IsMost (g : Gar) (z : Int) : Prop where
 at_ : ∃ l, RiseN g.nb 0 l ∧ lackL g l = z
 le : ∀ l, RiseN g.nb 0 l → lackL g l ≤ z
theorem IsMost.uniq (h : IsMost g z) (k : IsMost g y) : z = y := by
 obtain ⟨l, h1, rfl⟩ := h.at_
 obtain ⟨m, k1, rfl⟩ := k.at_
 have := k.le l h1
 have := h.le m k1
 omega
theorem lackL_nn : 0 ≤ lackL g l := by unfold lackL; omega
theorem IsMost.nn (h : IsMost g z) : 0 ≤ z := by
 obtain ⟨l, _, rfl⟩ := h.at_
 exact lackL_nn
def bitB (n i : Nat) : Bool := decide (n / 2 ^ i % 2 = 1)
def bitsL (n set : Nat) : List Nat := (List.range n).filter (bitB set)
theorem bits_all (P : Nat → Bool) : ∀ n : Nat, ∃ set, set < 2 ^ n ∧ ∀ i, i < n → bitB set i = P i
 | 0 => ⟨0, by simp, fun i h => by omega⟩
 | n + 1 => by
  obtain ⟨set, h1, h2⟩ := bits_all P n
  have hp : 2 ^ (n + 1) = 2 ^ n + 2 ^ n := by rw [Nat.pow_succ]; omega
  cases hn : P n with
  | false =>
   refine ⟨set, by omega, fun i hi => ?_⟩
   by_cases e : i = n
   ·subst e; rw [hn]; unfold bitB; rw [Nat.div_eq_of_lt h1]; rfl
   ·exact h2 i (by omega)
  | true =>
   refine ⟨set + 2 ^ n, by omega, fun i hi => ?_⟩
   by_cases e : i = n
   ·subst e
    rw [hn]; unfold bitB
    rw [Nat.add_div_right _ (Nat.two_pow_pos _), Nat.div_eq_of_lt h1]; rfl
   ·rw [← h2 i (by omega)]
    unfold bitB
    have e2 : (2 : Nat) ^ n = 2 ^ i * (2 * 2 ^ (n - i - 1)) := by
     rw [← Nat.pow_succ', ← Nat.pow_add]; congr 1; omega
    rw [e2, Nat.add_mul_div_left _ _ (Nat.two_pow_pos _), Nat.add_mul_mod_self_left]
theorem bitsL_rise {set : Nat} : RiseN n 0 (bitsL n set) := rise_filter _
def mostTo (g : Gar) : Nat → Int
 | 0 => 0
 | m + 1 => max (mostTo g m) (lackL g (bitsL g.nb m))
theorem mostTo_le : ∀ {m j : Nat}, j < m → lackL g (bitsL g.nb j) ≤ mostTo g m
 | m + 1, j, h => by
  simp only [mostTo]
  by_cases e : j = m
  ·subst e; omega
  ·have := mostTo_le (m := m) (j := j) (by omega)
   omega
theorem lackL_zero (hv : Valid g) : lackL g [] = 0 := by
 unfold lackL
 have : sumN g.ns (fun s => min (([] : List Nat).map fun i => rateI g i s).sum (pwS g s)) = 0 := sumN_zero (fun s _ => by
  have := (hv.pw s).1
  simp; omega)
 rw [this]; rfl
theorem mostTo_at (hv : Valid g) : ∀ m : Nat, ∃ l, RiseN g.nb 0 l ∧ lackL g l = mostTo g m
 | 0 => ⟨[], trivial, lackL_zero hv⟩
 | m + 1 => by
  simp only [mostTo]
  rcases Int.le_total (mostTo g m) (lackL g (bitsL g.nb m)) with h | h
  ·exact ⟨bitsL g.nb m, bitsL_rise, by omega⟩
  ·obtain ⟨l, h1, h2⟩ := mostTo_at hv m
   exact ⟨l, h1, by omega⟩
theorem mostTo_is (hv : Valid g) : IsMost g (mostTo g (2 ^ g.nb)) := by
 refine ⟨mostTo_at hv _, fun l h => ?_⟩
 obtain ⟨set, h1, h2⟩ := bits_all (fun i => decide (i ∈ l)) g.nb
 have h3 := mostTo_le (g := g) h1
 have e : lackL g (bitsL g.nb set) = lackL g l := by
  rw [lackL_eq (bitsL_rise (n := g.nb) (set := set)), lackL_eq h]
  congr 1
  exact lackF_congr (fun i hi => by
   rw [← h2 i hi]
   cases hb : bitB set i <;> simp [bitsL, hi, hb])
 omega
theorem sum_bd {B : Int} : ∀ {l : List Nat}, (∀ i ∈ l, 0 ≤ f i ∧ f i ≤ B) → 0 ≤ (l.map f).sum ∧ (l.map f).sum ≤ (l.length : Int) * B
 | [], _ => by simp
 | i :: l, h => by
  have h1 := h i List.mem_cons_self
  have h2 := sum_bd (l := l) (fun j hj => h j (List.mem_cons_of_mem _ hj))
  have e : ((l.length + 1 : Nat) : Int) * B = (l.length : Int) * B + B := by rw [Int.natCast_add, Int.add_mul]; simp
  simp only [List.map_cons, List.sum_cons, List.length_cons]
  omega
theorem needI_le (hv : Valid g) (i : Nat) : 0 ≤ needI g i ∧ needI g i ≤ 1000 := by
 unfold needI
 cases hb : g.buses[i]? with
 | none => simp
 | some b => have := busB_iff (hv.b hb); simp only [needZ]; omega
theorem rateI_le (hv : Valid g) (i s : Nat) : 0 ≤ rateI g i s ∧ rateI g i s ≤ 1000 := by
 unfold rateI
 cases hb : g.buses[i]? with
 | none => simp
 | some b => have := busB_iff (hv.b hb); simp only []; split <;> omega
end
end Go.Proofs.Ythcdddbghldmiaa
