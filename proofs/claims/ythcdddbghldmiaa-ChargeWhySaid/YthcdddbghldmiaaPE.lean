
import Derived.Test.YthcdddbghldmiaaPD
namespace Go.Proofs.Ythcdddbghldmiaa
set_option linter.unusedVariables false
def needI (g : Gar) (i : Nat) : Int := match g.buses[i]? with | some b => needZ b | none => 0
def rateI (g : Gar) (i s : Nat) : Int := match g.buses[i]? with | some b => if thereB b (s : Int) then b.rate else 0 | none => 0
theorem needI_eq {g : Gar} {i : Nat} {b : Bus} (h : g.buses[i]? = some b) : needI g i = needZ b := by simp [needI, h]
theorem rateI_eq {g : Gar} {i s : Nat} {b : Bus} (h : g.buses[i]? = some b) : rateI g i s = if thereB b (s : Int) then b.rate else 0 := by simp [rateI, h]
theorem needI_nn {g : Gar} (i : Nat) : 0 ≤ needI g i := by
 unfold needI; split
 ·unfold needZ; omega
 ·omega
def lackF (g : Gar) (P : Nat → Bool) : Int := (sumN g.nb fun i => if P i then needI g i else 0) - sumN g.ns fun s => min (sumN g.nb fun i => if P i then rateI g i s else 0) (pwS g s)
theorem plan_lack {g : Gar} {rs : List (List Int)} (h : PlanOK g rs) (P : Nat → Bool) : lackF g P ≤ 0 := by
 have h1 : (sumN g.nb fun i => if P i then needI g i else 0) ≤ sumN g.nb fun i => sumN g.ns fun s => if P i then cell rs i s else 0 := by
  refine sumN_le (fun i hi => ?_)
  obtain ⟨b, hb⟩ := bus_at hi
  cases P i with
  | false => simp only [Bool.false_eq_true, if_false]; rw [sumN_zero (fun _ _ => rfl)]; exact Int.le_refl _
  | true => simp only [if_true]; rw [needI_eq hb]; exact h.need i b hb
 rw [sumN_swap] at h1
 have h2 : (sumN g.ns fun s => sumN g.nb fun i => if P i then cell rs i s else 0) ≤ sumN g.ns fun s => min (sumN g.nb fun i => if P i then rateI g i s else 0) (pwS g s) := by
  refine sumN_le (fun s hs => ?_)
  have k1 : (sumN g.nb fun i => if P i then cell rs i s else 0) ≤ sumN g.nb fun i => if P i then rateI g i s else 0 := by
   refine sumN_le (fun i hi => ?_)
   obtain ⟨b, hb⟩ := bus_at hi
   obtain ⟨c1, c2, c3⟩ := h.cap i b hb s hs
   cases P i with
   | false => exact Int.le_refl _
   | true =>
    simp only [if_true]
    rw [rateI_eq hb]
    split
    ·exact c2
    ·rename_i ht
     have : ¬ 0 < cell rs i s := fun hp => ht (c3 hp)
     omega
  have k2 : (sumN g.nb fun i => if P i then cell rs i s else 0) ≤ pwS g s := by
   refine Int.le_trans (sumN_le (fun i hi => ?_)) (h.pow s hs)
   obtain ⟨b, hb⟩ := bus_at hi
   have := (h.cap i b hb s hs).1
   split <;> omega
  omega
 unfold lackF
 omega
theorem cut_lack {g : Gar} {W : Wk} (hF : Feas g W) {price : Nd → Option Int} (hd : Done (waysM g W) price) (hg : price .grid = none) {b0 : Nat} (hb0 : b0 < g.nb) (hs0 : price (.bus b0) ≠ none) (hle : ∀ i, i < g.nb → sumN g.ns (cell W.plan i) ≤ needI g i) (hlt : sumN g.ns (cell W.plan b0) < needI g b0) :
  0 < lackF g fun i => (price (.bus i)).isSome := by
 have h1 : (sumN g.nb fun i => sumN g.ns fun s => if (price (.bus i)).isSome then cell W.plan i s else 0) < sumN g.nb fun i => if (price (.bus i)).isSome then needI g i else 0 := by
  have key : ∀ i, i < g.nb → (sumN g.ns fun s => if (price (.bus i)).isSome then cell W.plan i s else 0) ≤ (if (price (.bus i)).isSome then needI g i else 0) - (if i = b0 then 1 else 0) := by
   intro i hi
   have k1 := hle i hi
   by_cases e : i = b0
   ·subst e
    have : (price (.bus i)).isSome = true := Option.isSome_iff_ne_none.2 hs0
    simp only [this, if_true]
    have e2 : sumN g.ns (fun s => cell W.plan i s) = sumN g.ns (cell W.plan i) := rfl
    omega
   ·rw [if_neg e]
    cases hp : (price (.bus i)).isSome with
    | false => simp only [Bool.false_eq_true, if_false]; rw [sumN_zero (fun _ _ => rfl)]; omega
    | true =>
     simp only [if_true]
     have e2 : sumN g.ns (fun s => cell W.plan i s) = sumN g.ns (cell W.plan i) := rfl
     omega
  have := sumN_le key
  rw [sumN_sub, sumN_ind, if_pos hb0] at this
  omega
 rw [sumN_swap] at h1
 have h2 : (sumN g.ns fun s => min (sumN g.nb fun i => if (price (.bus i)).isSome then rateI g i s else 0) (pwS g s)) ≤ sumN g.ns fun s => sumN g.nb fun i => if (price (.bus i)).isSome then cell W.plan i s else 0 := by
  refine sumN_le (fun s hs => ?_)
  cases hps : price (.slot s) with
  | some p =>
   have full : ¬ 0 < pwS g s - W.used s := fun hr => by
    obtain ⟨q, hq, _⟩ := hd _ (mem_ways.2 (.out hs hr)) p hps
    dsimp only at hq
    rw [hg] at hq; cases hq
   have e : (sumN g.nb fun i => if (price (.bus i)).isSome then cell W.plan i s else 0) = W.used s := by
    rw [hF.use s hs]
    refine sumN_congr (fun i hi => ?_)
    obtain ⟨b, hb⟩ := bus_at hi
    obtain ⟨c1, c2, c3⟩ := hF.cap i b hb s hs
    by_cases hc : 0 < cell W.plan i s
    ·obtain ⟨q, hq, _⟩ := hd _ (mem_ways.2 (.down hb hs (c3 hc) hc)) p hps
     dsimp only at hq
     rw [hq]; rfl
    ·have : cell W.plan i s = 0 := by omega
     rw [this]; split <;> rfl
   rw [e]; omega
  | none =>
   refine Int.le_trans (Int.min_le_left _ _) (sumN_le (fun i hi => ?_))
   obtain ⟨b, hb⟩ := bus_at hi
   obtain ⟨c1, c2, c3⟩ := hF.cap i b hb s hs
   cases hp : price (.bus i) with
   | none => simp
   | some p =>
    simp only [Option.isSome_some, if_true]
    rw [rateI_eq hb]
    split
    ·rename_i ht
     have : ¬ 0 < b.rate - cell W.plan i s := fun hr => by
      obtain ⟨q, hq, _⟩ := hd _ (mem_ways.2 (.up hb hs ht hr)) p hp
      dsimp only at hq
      rw [hps] at hq; cases hq
     omega
    ·exact c1
 unfold lackF
 dsimp only
 omega
theorem Feas.plan {g : Gar} {W : Wk} (h : Feas g W) (hn : ∀ i, i < g.nb → sumN g.ns (cell W.plan i) = needI g i) : PlanOK g W.plan :=
 ⟨h.len, h.row, h.cap, fun i b hb => by rw [hn i (List.getElem?_eq_some_iff.1 hb).1, needI_eq hb]; exact Int.le_refl _, fun s hs => by rw [← h.use s hs]; exact h.pow s hs⟩
end Go.Proofs.Ythcdddbghldmiaa
