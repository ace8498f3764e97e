
import Derived.Test.YthcdddbghldmiaaPE
namespace Go.Proofs.Ythcdddbghldmiaa
open Go Go.Lay
set_option linter.unusedVariables false
def RiseN (n : Nat) : Nat → List Nat → Prop
 | _, [] => True
 | k, i :: l => k ≤ i ∧ i < n ∧ RiseN n (i + 1) l
section
variable {g x : Gar} {f : Nat → Int} {n k : Nat} {l : List Nat} {z y : Int}
theorem RiseN.mem : ∀ {l : List Nat} {k : Nat}, RiseN n k l → ∀ i ∈ l, k ≤ i ∧ i < n
 | [], _, _, i, h => by cases h
 | j :: l, k, h, i, hi => by
  obtain ⟨h1, h2, h3⟩ := h
  rcases List.mem_cons.1 hi with rfl | hi
  ·exact ⟨h1, h2⟩
  ·have := RiseN.mem h3 i hi; omega
theorem RiseN.len : ∀ {l : List Nat} {k : Nat}, RiseN n k l → l.length ≤ n - k
 | [], _, _ => by simp
 | j :: l, k, h => by
  obtain ⟨h1, h2, h3⟩ := h
  have := RiseN.len h3
  simp only [List.length_cons]; omega
theorem RiseN.snoc : ∀ {l : List Nat} {k i : Nat}, RiseN n k l → (∀ j ∈ l, j < i) → k ≤ i → i < n → RiseN n k (l ++ [i])
 | [], _, i, _, _, hk, hi => ⟨hk, hi, trivial⟩
 | j :: l, k, i, h, hl, hk, hi => ⟨h.1, h.2.1, RiseN.snoc h.2.2 (fun j' hj => hl j' (List.mem_cons_of_mem _ hj)) (hl j List.mem_cons_self) hi⟩
theorem RiseN.sum : ∀ {l : List Nat} {k : Nat}, RiseN n k l → (l.map f).sum = sumN n fun i => if i ∈ l then f i else 0
 | [], _, _ => by rw [sumN_zero (fun i _ => by simp)]; rfl
 | j :: l, k, h => by
  obtain ⟨h1, h2, h3⟩ := h
  have hj : j ∉ l := fun hm => by have := (RiseN.mem h3 j hm).1; omega
  rw [List.map_cons, List.sum_cons, RiseN.sum h3, sumN_upd (f := fun i => if i ∈ l then f i else 0) (g := fun i => if i ∈ j :: l then f i else 0) (d := f j) (k := j) h2 (fun i _ hne => by simp [hne]) (by simp [hj])]
  omega
theorem rise_iff : ∀ {l : List Nat} {k : Nat}, RiseN n k l ↔ l.Pairwise (· < ·) ∧ ∀ i ∈ l, k ≤ i ∧ i < n
 | [], _ => by simp [RiseN]
 | j :: l, k => by
  constructor
  ·intro h
   have hm := h.mem
   obtain ⟨h1, h2, h3⟩ := h
   exact ⟨List.pairwise_cons.2 ⟨fun i hi => by have := h3.mem i hi; omega, (rise_iff.1 h3).1⟩, hm⟩
  ·rintro ⟨h1, h2⟩
   obtain ⟨h3, h4⟩ := List.pairwise_cons.1 h1
   have := h2 j List.mem_cons_self
   exact ⟨this.1, this.2, rise_iff.2 ⟨h4, fun i hi => ⟨h3 i hi, (h2 i (List.mem_cons_of_mem _ hi)).2⟩⟩⟩
theorem rise_filter (P : Nat → Bool) : RiseN n 0 ((List.range n).filter P) :=
 rise_iff.2 ⟨List.Pairwise.filter _ List.pairwise_lt_range, fun i hi => by
  have := (List.mem_filter.1 hi).1
  simp at this; omega⟩
def lackL (g : Gar) (l : List Nat) : Int := max 0 ((l.map (needI g)).sum - sumN g.ns fun s => min (l.map fun i => rateI g i s).sum (pwS g s))
theorem lackF_congr {P Q : Nat → Bool} (h : ∀ i, i < g.nb → P i = Q i) : lackF g P = lackF g Q := by
 unfold lackF
 rw [sumN_congr (f := fun i => if P i then needI g i else 0) (g := fun i => if Q i then needI g i else 0) (fun i hi => by simp only [h i hi])]
 congr 1
 exact sumN_congr (fun s _ => by
  rw [sumN_congr (f := fun i => if P i then rateI g i s else 0) (g := fun i => if Q i then rateI g i s else 0) (fun i hi => by simp only [h i hi])])
theorem lackL_eq (h : RiseN g.nb k l) : lackL g l = max 0 (lackF g fun i => decide (i ∈ l)) := by
 unfold lackL lackF
 rw [h.sum]
 simp only [decide_eq_true_eq]
 congr 2
 exact sumN_congr (fun s _ => by rw [h.sum])
theorem lackF_list (P : Nat → Bool) : RiseN g.nb 0 ((List.range g.nb).filter P) ∧ lackL g ((List.range g.nb).filter P) = max 0 (lackF g P) := by
 refine ⟨rise_filter P, ?_⟩
 rw [lackL_eq (rise_filter P)]
 congr 1
 exact lackF_congr (fun i hi => by
  cases hP : P i <;> simp [hi, hP])
structure IsMost (g : Gar) (z : Int) : Prop where
 at_ : ∃ l, RiseN g.nb 0 l ∧ lackL g l = z
 le : ∀ l, RiseN g.nb 0 l → lackL g l ≤ z
theorem lackL_nn : 0 ≤ lackL g l := by unfold lackL; omega
theorem IsMost.pos (h : IsMost g z) : 0 < z ↔ ∃ P, 0 < lackF g P := by
 constructor
 ·intro hz
  obtain ⟨l, h1, rfl⟩ := h.at_
  rw [lackL_eq h1] at hz
  exact ⟨fun i => decide (i ∈ l), by omega⟩
 ·rintro ⟨P, hP⟩
  obtain ⟨h1, h2⟩ := lackF_list (g := g) P
  have := h.le _ h1
  omega
theorem IsMost.nn (h : IsMost g z) : 0 ≤ z := by
 obtain ⟨l, _, rfl⟩ := h.at_
 exact lackL_nn
theorem lackL_zero (hv : Valid g) : lackL g [] = 0 := by
 unfold lackL
 have : sumN g.ns (fun s => min (([] : List Nat).map fun i => rateI g i s).sum (pwS g s)) = 0 := sumN_zero (fun s _ => by
  have := (hv.pw s).1
  simp; omega)
 rw [this]; rfl
theorem most_step {i0 : Nat} (hnb : x.nb = g.nb) (hns : x.ns = g.ns) (hp : ∀ s, pwS x s = pwS g s) (hr : ∀ i s, rateI x i s = rateI g i s) (hn : ∀ i, needI g i ≤ needI x i ∧ needI x i ≤ needI g i + if i = i0 then 1 else 0)
  (h : IsMost g z) (k : IsMost x y) : z ≤ y ∧ y ≤ z + 1 := by
 have key : ∀ l, RiseN g.nb 0 l → lackL g l ≤ lackL x l ∧ lackL x l ≤ lackL g l + 1 := by
  intro l hl
  have e2 : (sumN x.ns fun s => min (l.map fun i => rateI x i s).sum (pwS x s)) = sumN g.ns fun s => min (l.map fun i => rateI g i s).sum (pwS g s) := by
   rw [hns]
   exact sumN_congr (fun s _ => by simp only [hp, hr])
  have e1 : (l.map (needI g)).sum ≤ (l.map (needI x)).sum ∧ (l.map (needI x)).sum ≤ (l.map (needI g)).sum + 1 := by
   rw [hl.sum, hl.sum]
   constructor
   ·exact sumN_le (fun i _ => by
     by_cases hi : i ∈ l
     ·simp only [hi, if_true]; exact (hn i).1
     ·simp [hi])
   ·have h1 : sumN g.nb (fun i => if i ∈ l then needI x i else 0) ≤ sumN g.nb (fun i => (if i ∈ l then needI g i else 0) + if i = i0 then 1 else 0) := sumN_le (fun i _ => by
     by_cases hi : i ∈ l
     ·simp only [hi, if_true]; exact (hn i).2
     ·simp only [hi, if_false]; split <;> omega)
    rw [sumN_add] at h1
    have h2 : sumN g.nb (fun i => if i = i0 then (1 : Int) else 0) ≤ 1 := by
     by_cases hi : i0 < g.nb
     ·have := sumN_upd (n := g.nb) (f := fun _ => 0) (g := fun i => if i = i0 then (1 : Int) else 0) (d := 1) (k := i0) hi (fun i _ hne => by simp [hne]) (by simp)
      rw [this, sumN_zero (fun _ _ => rfl)]; omega
     ·rw [sumN_zero (fun i hlt => by rw [if_neg (by omega)])]; omega
    omega
  unfold lackL
  rw [e2]
  omega
 obtain ⟨l, h1, rfl⟩ := h.at_
 obtain ⟨m, k1, rfl⟩ := k.at_
 rw [hnb] at k1
 have a1 := (key l h1).1
 have a2 := (key m k1).2
 have a3 := k.le l (by rw [hnb]; exact h1)
 have a4 := h.le m k1
 omega
theorem sum_bd {B : Int} : ∀ {l : List Nat}, (∀ i ∈ l, 0 ≤ f i ∧ f i ≤ B) → 0 ≤ (l.map f).sum ∧ (l.map f).sum ≤ (l.length : Int) * B
 | [], _ => by simp
 | i :: l, h => by
  have h1 := h i List.mem_cons_self
  have h2 := sum_bd (l := l) (fun j hj => h j (List.mem_cons_of_mem _ hj))
  have e : ((l.length + 1 : Nat) : Int) * B = (l.length : Int) * B + B := by rw [Int.natCast_add, Int.add_mul]; simp
  simp only [List.map_cons, List.sum_cons, List.length_cons]
  omega
theorem needI_le (hv : Valid g) (i : Nat) : 0 ≤ needI g i ∧ needI g i ≤ 1000 := by
 unfold needI
 cases hb : g.buses[i]? with
 | none => simp
 | some b => have := busB_iff (hv.b hb); simp only [needZ]; omega
theorem rateI_le (hv : Valid g) (i s : Nat) : 0 ≤ rateI g i s ∧ rateI g i s ≤ 1000 := by
 unfold rateI
 cases hb : g.buses[i]? with
 | none => simp
 | some b => have := busB_iff (hv.b hb); simp only []; split <;> omega
end
end Go.Proofs.Ythcdddbghldmiaa
