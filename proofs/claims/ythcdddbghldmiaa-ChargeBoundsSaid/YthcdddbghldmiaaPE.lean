
import Derived.Test.YthcdddbghldmiaaPD
namespace Go.Proofs.Ythcdddbghldmiaa
set_option linter.unusedVariables false
def needI (g : Gar) (i : Nat) : Int := match g.buses[i]? with | some b => needZ b | none => 0
def rateI (g : Gar) (i s : Nat) : Int := match g.buses[i]? with | some b => if thereB b (s : Int) then b.rate else 0 | none => 0
theorem needI_eq {g : Gar} {i : Nat} {b : Bus} (h : g.buses[i]? = some b) : needI g i = needZ b := by simp [needI, h]
theorem rateI_eq {g : Gar} {i s : Nat} {b : Bus} (h : g.buses[i]? = some b) : rateI g i s = if thereB b (s : Int) then b.rate else 0 := by simp [rateI, h]
theorem needI_nn {g : Gar} (i : Nat) : 0 ≤ needI g i := by
 unfold needI; split
 ·unfold needZ; omega
 ·omega
theorem Valid.rate {g : Gar} (h : Valid g) (i s : Nat) : 0 ≤ rateI g i s := by
 unfold rateI; split
 ·rename_i b hb; have := busB_iff (h.b hb); split <;> omega
 ·omega
def lackF (g : Gar) (P : Nat → Bool) : Int := (sumN g.nb fun i => if P i then needI g i else 0) - sumN g.ns fun s => min (sumN g.nb fun i => if P i then rateI g i s else 0) (pwS g s)
theorem plan_lack {g : Gar} {rs : List (List Int)} (h : PlanOK g rs) (P : Nat → Bool) : lackF g P ≤ 0 := by
 have h1 : (sumN g.nb fun i => if P i then needI g i else 0) ≤ sumN g.nb fun i => sumN g.ns fun s => if P i then cell rs i s else 0 := by
  refine sumN_le (fun i hi => ?_)
  obtain ⟨b, hb⟩ := bus_at hi
  cases P i with
  | false => simp only [Bool.false_eq_true, if_false]; rw [sumN_zero (fun _ _ => rfl)]; exact Int.le_refl _
  | true => simp only [if_true]; rw [needI_eq hb]; exact h.need i b hb
 rw [sumN_swap] at h1
 have h2 : (sumN g.ns fun s => sumN g.nb fun i => if P i then cell rs i s else 0) ≤ sumN g.ns fun s => min (sumN g.nb fun i => if P i then rateI g i s else 0) (pwS g s) := by
  refine sumN_le (fun s hs => ?_)
  have k1 : (sumN g.nb fun i => if P i then cell rs i s else 0) ≤ sumN g.nb fun i => if P i then rateI g i s else 0 := by
   refine sumN_le (fun i hi => ?_)
   obtain ⟨b, hb⟩ := bus_at hi
   obtain ⟨c1, c2, c3⟩ := h.cap i b hb s hs
   cases P i with
   | false => exact Int.le_refl _
   | true =>
    simp only [if_true]
    rw [rateI_eq hb]
    split
    ·exact c2
    ·rename_i ht
     have : ¬ 0 < cell rs i s := fun hp => ht (c3 hp)
     omega
  have k2 : (sumN g.nb fun i => if P i then cell rs i s else 0) ≤ pwS g s := by
   refine Int.le_trans (sumN_le (fun i hi => ?_)) (h.pow s hs)
   obtain ⟨b, hb⟩ := bus_at hi
   have := (h.cap i b hb s hs).1
   split <;> omega
  omega
 unfold lackF
 omega
theorem cut_lack {g : Gar} {W : Wk} (hF : Feas g W) {price : Nd → Option Int} (hd : Done (waysM g W) price) (hg : price .grid = none) {b0 : Nat} (hb0 : b0 < g.nb) (hs0 : price (.bus b0) ≠ none) (hle : ∀ i, i < g.nb → sumN g.ns (cell W.plan i) ≤ needI g i) (hlt : sumN g.ns (cell W.plan b0) < needI g b0) :
  0 < lackF g fun i => (price (.bus i)).isSome := by
 have h1 : (sumN g.nb fun i => sumN g.ns fun s => if (price (.bus i)).isSome then cell W.plan i s else 0) < sumN g.nb fun i => if (price (.bus i)).isSome then needI g i else 0 := by
  have key : ∀ i, i < g.nb → (sumN g.ns fun s => if (price (.bus i)).isSome then cell W.plan i s else 0) ≤ (if (price (.bus i)).isSome then needI g i else 0) - (if i = b0 then 1 else 0) := by
   intro i hi
   have k1 := hle i hi
   by_cases e : i = b0
   ·subst e
    have : (price (.bus i)).isSome = true := Option.isSome_iff_ne_none.2 hs0
    simp only [this, if_true]
    have e2 : sumN g.ns (fun s => cell W.plan i s) = sumN g.ns (cell W.plan i) := rfl
    omega
   ·rw [if_neg e]
    cases hp : (price (.bus i)).isSome with
    | false => simp only [Bool.false_eq_true, if_false]; rw [sumN_zero (fun _ _ => rfl)]; omega
    | true =>
     simp only [if_true]
     have e2 : sumN g.ns (fun s => cell W.plan i s) = sumN g.ns (cell W.plan i) := rfl
     omega
  have := sumN_le key
  rw [sumN_sub, sumN_ind, if_pos hb0] at this
  omega
 rw [sumN_swap] at h1
 have h2 : (sumN g.ns fun s => min (sumN g.nb fun i => if (price (.bus i)).isSome then rateI g i s else 0) (pwS g s)) ≤ sumN g.ns fun s => sumN g.nb fun i => if (price (.bus i)).isSome then cell W.plan i s else 0 := by
  refine sumN_le (fun s hs => ?_)
  cases hps : price (.slot s) with
  | some p =>
   have full : ¬ 0 < pwS g s - W.used s := fun hr => by
    obtain ⟨q, hq, _⟩ := hd _ (mem_ways.2 (.out hs hr)) p hps
    dsimp only at hq
    rw [hg] at hq; cases hq
   have e : (sumN g.nb fun i => if (price (.bus i)).isSome then cell W.plan i s else 0) = W.used s := by
    rw [hF.use s hs]
    refine sumN_congr (fun i hi => ?_)
    obtain ⟨b, hb⟩ := bus_at hi
    obtain ⟨c1, c2, c3⟩ := hF.cap i b hb s hs
    by_cases hc : 0 < cell W.plan i s
    ·obtain ⟨q, hq, _⟩ := hd _ (mem_ways.2 (.down hb hs (c3 hc) hc)) p hps
     dsimp only at hq
     rw [hq]; rfl
    ·have : cell W.plan i s = 0 := by omega
     rw [this]; split <;> rfl
   rw [e]; omega
  | none =>
   refine Int.le_trans (Int.min_le_left _ _) (sumN_le (fun i hi => ?_))
   obtain ⟨b, hb⟩ := bus_at hi
   obtain ⟨c1, c2, c3⟩ := hF.cap i b hb s hs
   cases hp : price (.bus i) with
   | none => simp
   | some p =>
    simp only [Option.isSome_some, if_true]
    rw [rateI_eq hb]
    split
    ·rename_i ht
     have : ¬ 0 < b.rate - cell W.plan i s := fun hr => by
      obtain ⟨q, hq, _⟩ := hd _ (mem_ways.2 (.up hb hs ht hr)) p hp
      dsimp only at hq
      rw [hps] at hq; cases hq
     omega
    ·exact c1
 unfold lackF
 dsimp only
 omega
def boundZ (g : Gar) (w t : Nat → Int) : Int := (sumN g.nb fun i => needI g i * w i - sumN g.ns fun s => rateI g i s * max 0 (w i - prS g s - t s)) - sumN g.ns fun s => pwS g s * t s
theorem bound_le {g : Gar} (hv : Valid g) {rs : List (List Int)} (h : PlanOK g rs) {w t : Nat → Int} (ht : ∀ s, s < g.ns → 0 ≤ t s) : boundZ g w t ≤ costZ g rs := by
 have row : ∀ i, i < g.nb → needI g i * w i - (sumN g.ns fun s => rateI g i s * max 0 (w i - prS g s - t s)) ≤ sumN g.ns fun s => cell rs i s * prS g s + cell rs i s * t s := by
  intro i hi
  obtain ⟨b, hb⟩ := bus_at hi
  have hn := h.need i b hb
  rw [← needI_eq hb] at hn
  have hnn := needI_nn (g := g) i
  have pos : 0 ≤ sumN g.ns fun s => cell rs i s * prS g s + cell rs i s * t s := sumN_nn (fun s hs => by
   have := (h.cap i b hb s hs).1
   have := Int.mul_nonneg this (hv.pr s).1
   have := Int.mul_nonneg (h.cap i b hb s hs).1 (ht s hs)
   omega)
  have rnn : 0 ≤ sumN g.ns fun s => rateI g i s * max 0 (w i - prS g s - t s) := sumN_nn (fun s hs => Int.mul_nonneg (hv.rate i s) (by omega))
  by_cases hw : 0 ≤ w i
  ·have h1 : needI g i * w i ≤ sumN g.ns (cell rs i) * w i := Int.mul_le_mul_of_nonneg_right hn hw
   rw [← sumN_mul'] at h1
   have h2 : sumN g.ns (fun s => cell rs i s * w i) ≤ sumN g.ns fun s => rateI g i s * max 0 (w i - prS g s - t s) + (cell rs i s * prS g s + cell rs i s * t s) := by
    refine sumN_le (fun s hs => ?_)
    obtain ⟨c1, c2, c3⟩ := h.cap i b hb s hs
    have c4 : cell rs i s ≤ rateI g i s := by
     rw [rateI_eq hb]
     split
     ·exact c2
     ·rename_i hh
      have : ¬ 0 < cell rs i s := fun hp => hh (c3 hp)
      omega
    have e1 : cell rs i s * (w i - prS g s - t s) ≤ cell rs i s * max 0 (w i - prS g s - t s) := Int.mul_le_mul_of_nonneg_left (by omega) c1
    have e2 : cell rs i s * max 0 (w i - prS g s - t s) ≤ rateI g i s * max 0 (w i - prS g s - t s) := Int.mul_le_mul_of_nonneg_right c4 (by omega)
    have e3 : cell rs i s * (w i - prS g s - t s) = cell rs i s * w i - cell rs i s * prS g s - cell rs i s * t s := by rw [Int.mul_sub, Int.mul_sub]
    omega
   rw [sumN_add] at h2
   omega
  ·have : needI g i * w i ≤ 0 := Int.mul_nonpos_of_nonneg_of_nonpos hnn (by omega)
   omega
 have h1 := sumN_le row
 have h2 : (sumN g.nb fun i => sumN g.ns fun s => cell rs i s * prS g s + cell rs i s * t s) = costZ g rs + sumN g.ns fun s => sumN g.nb fun i => cell rs i s * t s := by
  have e : (sumN g.ns fun s => sumN g.nb fun i => cell rs i s * t s) = sumN g.nb fun i => sumN g.ns fun s => cell rs i s * t s := sumN_swap
  rw [e]
  unfold costZ
  rw [← sumN_add]
  exact sumN_congr (fun i _ => sumN_add)
 have h3 : (sumN g.ns fun s => sumN g.nb fun i => cell rs i s * t s) ≤ sumN g.ns fun s => pwS g s * t s := by
  refine sumN_le (fun s hs => ?_)
  rw [sumN_mul']
  exact Int.mul_le_mul_of_nonneg_right (h.pow s hs) (ht s hs)
 unfold boundZ
 omega
theorem Feas.plan {g : Gar} {W : Wk} (h : Feas g W) (hn : ∀ i, i < g.nb → sumN g.ns (cell W.plan i) = needI g i) : PlanOK g W.plan :=
 ⟨h.len, h.row, h.cap, fun i b hb => by rw [hn i (List.getElem?_eq_some_iff.1 hb).1, needI_eq hb]; exact Int.le_refl _, fun s hs => by rw [← h.use s hs]; exact h.pow s hs⟩
def worth (π : Nd → Int) (i : Nat) : Int := π .grid - π (.bus i)
def sur (π : Nd → Int) (s : Nat) : Int := max 0 (π .grid - π (.slot s))
theorem bound_eq {g : Gar} (hv : Valid g) {W : Wk} (hF : Feas g W) {π : Nd → Int} (hP : Pot (waysM g W) π) (hn : ∀ i, i < g.nb → sumN g.ns (cell W.plan i) = needI g i) : boundZ g (worth π) (sur π) = costZ g W.plan := by
 have hslot : ∀ s, s < g.ns → (0 < pwS g s - W.used s → π .grid - π (.slot s) ≤ 0) ∧ (0 < W.used s → 0 ≤ π .grid - π (.slot s)) := fun s hs =>
  ⟨fun h => by have := hP _ (mem_ways.2 (.out hs h)); dsimp only at this; omega, fun h => by have := hP _ (mem_ways.2 (.back hs h)); dsimp only at this; omega⟩
 have hunn : ∀ s, s < g.ns → 0 ≤ W.used s := fun s hs => by
  rw [hF.use s hs]
  exact sumN_nn (fun i hi => by obtain ⟨b, hb⟩ := bus_at hi; exact (hF.cap i b hb s hs).1)
 have h1 : ∀ s, s < g.ns → pwS g s * sur π s = W.used s * (π .grid - π (.slot s)) := by
  intro s hs
  obtain ⟨k1, k2⟩ := hslot s hs
  have k3 := hF.pow s hs
  have k4 := hunn s hs
  have k5 := hv.pw s
  unfold sur
  by_cases e1 : 0 < pwS g s - W.used s
  ·have := k1 e1
   rw [Int.max_eq_left (by omega), Int.mul_zero]
   by_cases e2 : 0 < W.used s
   ·have := k2 e2
    have : π .grid - π (.slot s) = 0 := by omega
    rw [this, Int.mul_zero]
   ·have : W.used s = 0 := by omega
    rw [this, Int.zero_mul]
  ·have e3 : pwS g s = W.used s := by omega
   by_cases e2 : 0 < W.used s
   ·have := k2 e2
    rw [Int.max_eq_right this, e3]
   ·have : W.used s = 0 := by omega
    rw [e3, this, Int.zero_mul, Int.zero_mul]
 have h2 : ∀ i s, i < g.nb → s < g.ns → rateI g i s * max 0 (worth π i - prS g s - sur π s) = cell W.plan i s * (worth π i - prS g s - (π .grid - π (.slot s))) := by
  intro i s hi hs
  obtain ⟨b, hb⟩ := bus_at hi
  obtain ⟨c1, c2, c3⟩ := hF.cap i b hb s hs
  obtain ⟨k1, k2⟩ := hslot s hs
  rw [rateI_eq hb]
  by_cases ht : thereB b (s : Int) = true
  ·rw [if_pos ht]
   have up : 0 < b.rate - cell W.plan i s → worth π i - prS g s - (π .grid - π (.slot s)) ≤ 0 := fun h => by
    have := hP _ (mem_ways.2 (.up hb hs ht h)); dsimp only at this; unfold worth; omega
   have down : 0 < cell W.plan i s → 0 ≤ worth π i - prS g s - (π .grid - π (.slot s)) := fun h => by
    have := hP _ (mem_ways.2 (.down hb hs ht h)); dsimp only at this; unfold worth; omega
   have usepos : 0 < cell W.plan i s → 0 ≤ π .grid - π (.slot s) := fun h => by
    apply k2
    rw [hF.use s hs]
    have := sumN_one (f := fun i => cell W.plan i s) (fun j hj => by obtain ⟨b', hb'⟩ := bus_at hj; exact (hF.cap j b' hb' s hs).1) hi
    have := h
    omega
   by_cases e1 : 0 < cell W.plan i s
   ·have u1 := usepos e1
    have d1 := down e1
    have : sur π s = π .grid - π (.slot s) := by unfold sur; omega
    rw [this]
    by_cases e2 : 0 < b.rate - cell W.plan i s
    ·have := up e2
     have e3 : worth π i - prS g s - (π .grid - π (.slot s)) = 0 := by omega
     rw [e3]; simp
    ·have e3 : b.rate = cell W.plan i s := by omega
     rw [e3, Int.max_eq_right d1]
   ·have e3 : cell W.plan i s = 0 := by omega
    rw [e3, Int.zero_mul]
    by_cases e2 : 0 < b.rate - cell W.plan i s
    ·have := up e2
     have : worth π i - prS g s - sur π s ≤ 0 := by unfold sur; omega
     rw [Int.max_eq_left this, Int.mul_zero]
    ·have : b.rate = 0 := by omega
     rw [this, Int.zero_mul]
  ·rw [if_neg ht, Int.zero_mul]
   have : ¬ 0 < cell W.plan i s := fun h => ht (c3 h)
   have : cell W.plan i s = 0 := by omega
   rw [this, Int.zero_mul]
 have h3 : (sumN g.nb fun i => needI g i * worth π i - sumN g.ns fun s => rateI g i s * max 0 (worth π i - prS g s - sur π s)) = costZ g W.plan + sumN g.ns fun s => W.used s * (π .grid - π (.slot s)) := by
  have e1 : (sumN g.ns fun s => W.used s * (π .grid - π (.slot s))) = sumN g.nb fun i => sumN g.ns fun s => cell W.plan i s * (π .grid - π (.slot s)) := by
   rw [sumN_swap]
   refine sumN_congr (fun s hs => ?_)
   rw [hF.use s hs, ← sumN_mul']
  rw [e1]
  unfold costZ
  rw [← sumN_add]
  refine sumN_congr (fun i hi => ?_)
  rw [← hn i hi, ← sumN_mul', ← sumN_sub, ← sumN_add]
  refine sumN_congr (fun s hs => ?_)
  rw [h2 i s hi hs]
  have : cell W.plan i s * (worth π i - prS g s - (π .grid - π (.slot s))) = cell W.plan i s * worth π i - cell W.plan i s * prS g s - cell W.plan i s * (π .grid - π (.slot s)) := by rw [Int.mul_sub, Int.mul_sub]
  omega
 unfold boundZ
 rw [h3, sumN_congr h1]
 omega
theorem best_least {g : Gar} (hv : Valid g) {W : Wk} (hF : Feas g W) {π : Nd → Int} (hP : Pot (waysM g W) π) (hn : ∀ i, i < g.nb → sumN g.ns (cell W.plan i) = needI g i) {rs : List (List Int)} (h : PlanOK g rs) : costZ g W.plan ≤ costZ g rs := by
 rw [← bound_eq hv hF hP hn]
 exact bound_le hv h (fun s _ => by unfold sur; omega)
end Go.Proofs.Ythcdddbghldmiaa
