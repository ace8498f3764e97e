
import Derived.Test.YthcdddbghldmiaaPB
namespace Go.Proofs.Ythcdddbghldmiaa
set_option linter.unusedVariables false
structure Wk where
 plan : List (List Int)
 used : Nat → Int
def wayB (g : Gar) (W : Wk) (i : Nat) (b : Bus) (s : Nat) : List Wy := [⟨.bus i, .slot s, b.rate - cell W.plan i s, prS g s⟩, ⟨.slot s, .bus i, cell W.plan i s, 0 - prS g s⟩]
def wayS (g : Gar) (W : Wk) (s : Nat) : List Wy := [⟨.slot s, .grid, pwS g s - W.used s, 0⟩, ⟨.grid, .slot s, W.used s, 0⟩]
def posW (l : List Wy) : List Wy := l.filter fun x => decide (0 < x.rest)
def waysI (g : Gar) (W : Wk) (i : Nat) (b : Bus) (n : Nat) : List Wy := ((List.range n).filter fun s : Nat => thereB b (s : Int)).flatMap fun s => posW (wayB g W i b s)
def waysU (g : Gar) (W : Wk) (k : Nat) : List Wy := (g.buses.take k).zipIdx.flatMap fun b => waysI g W b.2 b.1 g.ns
def waysV (g : Gar) (W : Wk) (k : Nat) : List Wy := (List.range k).flatMap fun s => posW (wayS g W s)
def waysM (g : Gar) (W : Wk) : List Wy := waysU g W g.nb ++ waysV g W g.ns
inductive IsWay (g : Gar) (W : Wk) : Wy → Prop
 | up {i : Nat} {b : Bus} {s : Nat} (hb : g.buses[i]? = some b) (hs : s < g.ns) (ht : thereB b (s : Int) = true) (hr : 0 < b.rate - cell W.plan i s) : IsWay g W ⟨.bus i, .slot s, b.rate - cell W.plan i s, prS g s⟩
 | down {i : Nat} {b : Bus} {s : Nat} (hb : g.buses[i]? = some b) (hs : s < g.ns) (ht : thereB b (s : Int) = true) (hr : 0 < cell W.plan i s) : IsWay g W ⟨.slot s, .bus i, cell W.plan i s, 0 - prS g s⟩
 | out {s : Nat} (hs : s < g.ns) (hr : 0 < pwS g s - W.used s) : IsWay g W ⟨.slot s, .grid, pwS g s - W.used s, 0⟩
 | back {s : Nat} (hs : s < g.ns) (hr : 0 < W.used s) : IsWay g W ⟨.grid, .slot s, W.used s, 0⟩
theorem mem_pos {x : Wy} {l : List Wy} : x ∈ posW l ↔ x ∈ l ∧ 0 < x.rest := by simp [posW]
theorem mem_ways {g : Gar} {W : Wk} {x : Wy} : x ∈ waysM g W ↔ IsWay g W x := by
 constructor
 ·intro h
  rcases List.mem_append.1 h with h | h
  ·obtain ⟨⟨b, i⟩, h1, h2⟩ := List.mem_flatMap.1 h
   obtain ⟨s, h3, h4⟩ := List.mem_flatMap.1 h2
   simp only [List.mem_filter, List.mem_range] at h3
   have hb : g.buses[i]? = some b := by
    have := List.mem_zipIdx_iff_getElem?.1 h1
    rw [List.take_of_length_le (Nat.le_refl _)] at this
    exact this
   obtain ⟨h5, h6⟩ := mem_pos.1 h4
   simp only [wayB, List.mem_cons, List.not_mem_nil, or_false] at h5
   rcases h5 with rfl | rfl
   ·exact .up hb h3.1 h3.2 h6
   ·exact .down hb h3.1 h3.2 h6
  ·obtain ⟨s, h1, h2⟩ := List.mem_flatMap.1 h
   obtain ⟨h5, h6⟩ := mem_pos.1 h2
   simp only [wayS, List.mem_cons, List.not_mem_nil, or_false] at h5
   have h1 := List.mem_range.1 h1
   rcases h5 with rfl | rfl
   ·exact .out h1 h6
   ·exact .back h1 h6
 ·intro h
  have busCase : ∀ {i : Nat} {b : Bus} {s : Nat} {y : Wy}, g.buses[i]? = some b → s < g.ns → thereB b (s : Int) = true → y ∈ wayB g W i b s → 0 < y.rest → y ∈ waysM g W := by
   intro i b s y hb hs ht hy hr
   refine List.mem_append_left _ (List.mem_flatMap.2 ⟨(b, i), ?_, List.mem_flatMap.2 ⟨s, ?_, mem_pos.2 ⟨hy, hr⟩⟩⟩)
   ·rw [List.mem_zipIdx_iff_getElem?, List.take_of_length_le (Nat.le_refl _)]; exact hb
   ·simp only [List.mem_filter, List.mem_range]; exact ⟨hs, ht⟩
  cases h with
  | up hb hs ht hr => exact busCase hb hs ht (by simp [wayB]) hr
  | down hb hs ht hr => exact busCase hb hs ht (by simp [wayB]) hr
  | out hs hr => exact List.mem_append_right _ (List.mem_flatMap.2 ⟨_, List.mem_range.2 hs, mem_pos.2 ⟨by simp [wayS], hr⟩⟩)
  | back hs hr => exact List.mem_append_right _ (List.mem_flatMap.2 ⟨_, List.mem_range.2 hs, mem_pos.2 ⟨by simp [wayS], hr⟩⟩)
structure Feas (g : Gar) (W : Wk) : Prop where
 len : W.plan.length = g.nb
 row : ∀ r ∈ W.plan, r.length = g.ns
 cap : ∀ (i : Nat) (b : Bus), g.buses[i]? = some b → ∀ s, s < g.ns → 0 ≤ cell W.plan i s ∧ cell W.plan i s ≤ b.rate ∧ (0 < cell W.plan i s → thereB b (s : Int) = true)
 use : ∀ s, s < g.ns → W.used s = sumN g.nb fun i => cell W.plan i s
 pow : ∀ s, s < g.ns → W.used s ≤ pwS g s
 zero : ∀ s, g.ns ≤ s → W.used s = 0
def addC (rs : List (List Int)) (i s : Nat) (d : Int) : List (List Int) := rs.set i ((rs.getD i []).set s (cell rs i s + d))
theorem getD_set_ne {α : Type} {l : List α} {i j : Nat} {x d : α} (h : j ≠ i) : (l.set i x).getD j d = l.getD j d := by
 rw [List.getD_eq_getElem?_getD, List.getD_eq_getElem?_getD, List.getElem?_set, if_neg (fun e : i = j => h e.symm)]
theorem getD_set_eq {α : Type} {l : List α} {i : Nat} {x d : α} (h : i < l.length) : (l.set i x).getD i d = x := by
 simp [List.getD_eq_getElem?_getD, h]
theorem cell_addC {rs : List (List Int)} {i s : Nat} {d : Int} (hi : i < rs.length) (hs : s < (rs.getD i []).length) (i' s' : Nat) : cell (addC rs i s d) i' s' = cell rs i' s' + if i' = i ∧ s' = s then d else 0 := by
 unfold addC
 by_cases e1 : i' = i
 ·subst e1
  have e : (rs.set i' ((rs.getD i' []).set s (cell rs i' s + d))).getD i' [] = (rs.getD i' []).set s (cell rs i' s + d) := getD_set_eq hi
  show ((rs.set i' ((rs.getD i' []).set s (cell rs i' s + d))).getD i' []).getD s' 0 = _
  rw [e]
  by_cases e2 : s' = s
  ·subst e2
   rw [getD_set_eq hs, if_pos ⟨rfl, rfl⟩]
  ·rw [getD_set_ne e2, if_neg (fun h => e2 h.2)]
   show cell rs i' s' = _
   omega
 ·show ((rs.set i ((rs.getD i []).set s (cell rs i s + d))).getD i' []).getD s' 0 = _
  rw [getD_set_ne e1, if_neg (fun h => e1 h.1)]
  show cell rs i' s' = _
  omega
def app1 (m : Int) (W : Wk) (x : Wy) : Wk :=
 match x.fr, x.to with
 | .bus i, .slot s => ⟨addC W.plan i s m, W.used⟩
 | .slot s, .bus i => ⟨addC W.plan i s (-m), W.used⟩
 | .slot s, .grid => ⟨W.plan, fun s' => if s' = s then W.used s + m else W.used s'⟩
 | .grid, .slot s => ⟨W.plan, fun s' => if s' = s then W.used s - m else W.used s'⟩
 | _, _ => W
def appM (m : Int) (W : Wk) (xs : List Wy) : Wk := xs.foldl (app1 m) W
def Shp (g : Gar) (x : Wy) : Prop := (∃ i s, i < g.nb ∧ s < g.ns ∧ ((x.fr = .bus i ∧ x.to = .slot s) ∨ (x.fr = .slot s ∧ x.to = .bus i))) ∨ (∃ s, s < g.ns ∧ ((x.fr = .slot s ∧ x.to = .grid) ∨ (x.fr = .grid ∧ x.to = .slot s)))
theorem IsWay.shp {g : Gar} {W : Wk} {x : Wy} (h : IsWay g W x) : Shp g x := by
 cases h with
 | up hb hs ht hr => exact .inl ⟨_, _, (List.getElem?_eq_some_iff.1 hb).1, hs, .inl ⟨rfl, rfl⟩⟩
 | down hb hs ht hr => exact .inl ⟨_, _, (List.getElem?_eq_some_iff.1 hb).1, hs, .inr ⟨rfl, rfl⟩⟩
 | out hs hr => exact .inr ⟨_, hs, .inl ⟨rfl, rfl⟩⟩
 | back hs hr => exact .inr ⟨_, hs, .inr ⟨rfl, rfl⟩⟩
structure Dim (g : Gar) (W : Wk) : Prop where
 len : W.plan.length = g.nb
 row : ∀ i, i < g.nb → (W.plan.getD i []).length = g.ns
theorem Feas.dim {g : Gar} {W : Wk} (h : Feas g W) : Dim g W := ⟨h.len, fun i hi => by
 have : i < W.plan.length := by rw [h.len]; exact hi
 have e : W.plan.getD i [] = W.plan[i] := by simp [List.getD_eq_getElem?_getD, this]
 rw [e]; exact h.row _ (List.getElem_mem _)⟩
theorem Dim.addC {g : Gar} {W : Wk} (h : Dim g W) {i s : Nat} {d : Int} {u : Nat → Int} : Dim g ⟨addC W.plan i s d, u⟩ := by
 refine ⟨by simp [Go.Proofs.Ythcdddbghldmiaa.addC, h.len], fun j hj => ?_⟩
 show ((W.plan.set i ((W.plan.getD i []).set s (cell W.plan i s + d))).getD j []).length = _
 by_cases e : j = i
 ·subst e
  rw [getD_set_eq (by rw [h.len]; exact hj), List.length_set]; exact h.row j hj
 ·rw [getD_set_ne e]; exact h.row j hj
theorem Dim.app1 {g : Gar} {W : Wk} (h : Dim g W) {m : Int} {x : Wy} : Dim g (app1 m W x) := by
 unfold Go.Proofs.Ythcdddbghldmiaa.app1
 split
 ·exact h.addC
 ·exact h.addC
 ·exact ⟨h.len, h.row⟩
 ·exact ⟨h.len, h.row⟩
 ·exact h
def cntE (a b : Nd) (xs : List Wy) : Nat := xs.countP (fun x => decide (x.fr = a ∧ x.to = b))
theorem cntE_cons {a b : Nd} {x : Wy} {xs : List Wy} : (cntE a b (x :: xs) : Int) = cntE a b xs + if x.fr = a ∧ x.to = b then 1 else 0 := by
 unfold cntE
 rw [List.countP_cons]
 by_cases h : x.fr = a ∧ x.to = b <;> simp [h]
theorem appM_dim {g : Gar} {m : Int} : ∀ {xs : List Wy} {W : Wk}, Dim g W → Dim g (appM m W xs)
 | [], _, h => h
 | x :: xs, W, h => appM_dim (xs := xs) (W := app1 m W x) h.app1
theorem appM_cell {g : Gar} {m : Int} {i s : Nat} (hi : i < g.nb) (hs : s < g.ns) : ∀ {xs : List Wy} {W : Wk}, Dim g W → (∀ x ∈ xs, Shp g x) → cell (appM m W xs).plan i s = cell W.plan i s + m * cntE (.bus i) (.slot s) xs - m * cntE (.slot s) (.bus i) xs
 | [], W, _, _ => by simp [appM, cntE]
 | x :: xs, W, h, hx => by
  have ih := appM_cell (m := m) hi hs (xs := xs) (W := app1 m W x) h.app1 (fun y hy => hx y (by simp [hy]))
  show cell (appM m (app1 m W x) xs).plan i s = _
  rw [ih, cntE_cons, cntE_cons]
  rcases hx x (by simp) with ⟨j, t, hj, ht, ⟨e1, e2⟩ | ⟨e1, e2⟩⟩ | ⟨t, ht, ⟨e1, e2⟩ | ⟨e1, e2⟩⟩
  ·have : (app1 m W x).plan = addC W.plan j t m := by simp [app1, e1, e2]
   rw [this, cell_addC (by rw [h.len]; exact hj) (by rw [h.row j hj]; exact ht), e1, e2]
   by_cases e : i = j ∧ s = t
   ·obtain ⟨rfl, rfl⟩ := e
    simp only [and_self, if_true, reduceCtorEq, false_and, if_false, and_false]
    simp only [Int.mul_add, Int.mul_one, Int.mul_zero, Int.add_zero]; omega
   ·rw [if_neg e, if_neg (fun k => e ⟨by have := k.1; cases this; rfl, by have := k.2; cases this; rfl⟩), if_neg (fun k => by have := k.1; cases this)]
    simp
  ·have : (app1 m W x).plan = addC W.plan j t (-m) := by simp [app1, e1, e2]
   rw [this, cell_addC (by rw [h.len]; exact hj) (by rw [h.row j hj]; exact ht), e1, e2]
   by_cases e : i = j ∧ s = t
   ·obtain ⟨rfl, rfl⟩ := e
    simp only [and_self, if_true, reduceCtorEq, false_and, if_false, and_false]
    simp only [Int.mul_add, Int.mul_one, Int.mul_zero, Int.add_zero]; omega
   ·rw [if_neg e, if_neg (fun k => by have := k.1; cases this), if_neg (fun k => e ⟨by have := k.2; cases this; rfl, by have := k.1; cases this; rfl⟩)]
    simp
  ·have : (app1 m W x).plan = W.plan := by simp [app1, e1, e2]
   rw [this, e1, e2, if_neg (fun k => by have := k.1; cases this), if_neg (fun k => by have := k.2; cases this)]; simp
  ·have : (app1 m W x).plan = W.plan := by simp [app1, e1, e2]
   rw [this, e1, e2, if_neg (fun k => by have := k.1; cases this), if_neg (fun k => by have := k.1; cases this)]; simp
theorem appM_used {g : Gar} {m : Int} {s : Nat} : ∀ {xs : List Wy} {W : Wk}, (∀ x ∈ xs, Shp g x) → (appM m W xs).used s = W.used s + m * cntE (.slot s) .grid xs - m * cntE .grid (.slot s) xs
 | [], W, _ => by simp [appM, cntE]
 | x :: xs, W, hx => by
  have ih := appM_used (m := m) (s := s) (xs := xs) (W := app1 m W x) (fun y hy => hx y (by simp [hy]))
  show (appM m (app1 m W x) xs).used s = _
  rw [ih, cntE_cons, cntE_cons]
  rcases hx x (by simp) with ⟨j, t, hj, ht, ⟨e1, e2⟩ | ⟨e1, e2⟩⟩ | ⟨t, ht, ⟨e1, e2⟩ | ⟨e1, e2⟩⟩
  ·have : (app1 m W x).used = W.used := by simp [app1, e1, e2]
   rw [this, e1, e2, if_neg (fun k => by have := k.1; cases this), if_neg (fun k => by have := k.1; cases this)]; simp
  ·have : (app1 m W x).used = W.used := by simp [app1, e1, e2]
   rw [this, e1, e2, if_neg (fun k => by have := k.2; cases this), if_neg (fun k => by have := k.1; cases this)]; simp
  ·have : (app1 m W x).used = fun s' => if s' = t then W.used t + m else W.used s' := by simp [app1, e1, e2]
   rw [this, e1, e2]
   dsimp only
   by_cases e : s = t
   ·subst e
    simp only [and_self, if_true, reduceCtorEq, false_and, if_false]
    simp only [Int.mul_add, Int.mul_one, Int.mul_zero, Int.add_zero]; omega
   ·rw [if_neg e, if_neg (fun k => e (by have := k.1; cases this; rfl)), if_neg (fun k => by have := k.1; cases this)]; simp
  ·have : (app1 m W x).used = fun s' => if s' = t then W.used t - m else W.used s' := by simp [app1, e1, e2]
   rw [this, e1, e2]
   dsimp only
   by_cases e : s = t
   ·subst e
    simp only [and_self, if_true, reduceCtorEq, false_and, if_false]
    simp only [Int.mul_add, Int.mul_one, Int.mul_zero, Int.add_zero]; omega
   ·rw [if_neg e, if_neg (fun k => by have := k.1; cases this), if_neg (fun k => e (by have := k.2; cases this; rfl))]; simp
theorem sumN_ind {k : Nat} : ∀ {n : Nat}, sumN n (fun i => if i = k then 1 else 0) = if k < n then 1 else 0
 | 0 => rfl
 | n + 1 => by
  simp only [sumN]
  rw [sumN_ind]
  by_cases h : k < n
  ·rw [if_pos h, if_neg (by omega), if_pos (by omega)]; rfl
  ·rw [if_neg h]
   by_cases e : n = k
   ·rw [if_pos e, if_pos (by omega)]; rfl
   ·rw [if_neg e, if_neg (by omega)]; rfl
theorem outN_cons {v : Nd} {x : Wy} {xs : List Wy} : (outN v (x :: xs) : Int) = outN v xs + if x.fr = v then 1 else 0 := by
 unfold outN; rw [List.countP_cons]; by_cases h : x.fr = v <;> simp [h]
theorem inN_cons {v : Nd} {x : Wy} {xs : List Wy} : (inN v (x :: xs) : Int) = inN v xs + if x.to = v then 1 else 0 := by
 unfold inN; rw [List.countP_cons]; by_cases h : x.to = v <;> simp [h]
theorem out_bus {g : Gar} {i : Nat} (hi : i < g.nb) : ∀ {xs : List Wy}, (∀ x ∈ xs, Shp g x) → sumN g.ns (fun s => (cntE (.bus i) (.slot s) xs : Int)) = outN (.bus i) xs ∧ sumN g.ns (fun s => (cntE (.slot s) (.bus i) xs : Int)) = inN (.bus i) xs
 | [], _ => by simp only [cntE, outN, inN, List.countP_nil, Int.natCast_zero]; exact ⟨sumN_zero (fun _ _ => rfl), sumN_zero (fun _ _ => rfl)⟩
 | x :: xs, h => by
  obtain ⟨h1, h2⟩ := out_bus hi (xs := xs) (fun y hy => h y (by simp [hy]))
  simp only [cntE_cons, sumN_add, h1, h2, outN_cons, inN_cons]
  rcases h x (by simp) with ⟨j, t, hj, ht, ⟨e1, e2⟩ | ⟨e1, e2⟩⟩ | ⟨t, ht, ⟨e1, e2⟩ | ⟨e1, e2⟩⟩ <;> simp only [e1, e2, Nd.bus.injEq, Nd.slot.injEq, reduceCtorEq, false_and, and_false, if_false]
  ·constructor
   ·by_cases e : j = i
    ·simp only [e, true_and, if_true]
     rw [sumN_congr (g := fun s => if s = t then 1 else 0) (fun s _ => by simp [eq_comm]), sumN_ind, if_pos ht]
    ·simp only [e, false_and, if_false]
     rw [sumN_zero (fun _ _ => rfl)]
   ·rw [sumN_zero (fun _ _ => rfl)]
  ·constructor
   ·rw [sumN_zero (fun _ _ => rfl)]
   ·by_cases e : j = i
    ·simp only [e, and_true, if_true]
     rw [sumN_congr (g := fun s => if s = t then 1 else 0) (fun s _ => by simp [eq_comm]), sumN_ind, if_pos ht]
    ·simp only [e, and_false, if_false]
     rw [sumN_zero (fun _ _ => rfl)]
  ·constructor <;> rw [sumN_zero (fun _ _ => rfl)]
  ·constructor <;> rw [sumN_zero (fun _ _ => rfl)]
theorem out_slot {g : Gar} {s : Nat} (hs : s < g.ns) : ∀ {xs : List Wy}, (∀ x ∈ xs, Shp g x) → sumN g.nb (fun i => (cntE (.bus i) (.slot s) xs : Int)) + cntE .grid (.slot s) xs = inN (.slot s) xs ∧ sumN g.nb (fun i => (cntE (.slot s) (.bus i) xs : Int)) + cntE (.slot s) .grid xs = outN (.slot s) xs
 | [], _ => by simp only [cntE, outN, inN, List.countP_nil, Int.natCast_zero, Int.add_zero]; exact ⟨sumN_zero (fun _ _ => rfl), sumN_zero (fun _ _ => rfl)⟩
 | x :: xs, h => by
  obtain ⟨h1, h2⟩ := out_slot hs (xs := xs) (fun y hy => h y (by simp [hy]))
  simp only [cntE_cons, sumN_add, outN_cons, inN_cons, ← h1, ← h2]
  rcases h x (by simp) with ⟨j, t, hj, ht, ⟨e1, e2⟩ | ⟨e1, e2⟩⟩ | ⟨t, ht, ⟨e1, e2⟩ | ⟨e1, e2⟩⟩ <;> simp only [e1, e2, Nd.bus.injEq, Nd.slot.injEq, reduceCtorEq, false_and, and_false, if_false, true_and, and_true]
  ·constructor
   ·by_cases e : t = s
    ·simp only [e, and_true, if_true]
     rw [sumN_congr (f := fun i => if j = i then (1 : Int) else 0) (g := fun i => if i = j then 1 else 0) (fun i _ => by simp [eq_comm]), sumN_ind, if_pos hj]; omega
    ·simp only [e, and_false, if_false]
     rw [sumN_zero (f := fun _ => (0 : Int)) (fun _ _ => rfl)]; omega
   ·rw [sumN_zero (f := fun _ => (0 : Int)) (fun _ _ => rfl)]; omega
  ·constructor
   ·rw [sumN_zero (f := fun _ => (0 : Int)) (fun _ _ => rfl)]; omega
   ·by_cases e : t = s
    ·simp only [e, true_and, if_true]
     rw [sumN_congr (f := fun i => if j = i then (1 : Int) else 0) (g := fun i => if i = j then 1 else 0) (fun i _ => by simp [eq_comm]), sumN_ind, if_pos hj]; omega
    ·simp only [e, false_and, if_false]
     rw [sumN_zero (f := fun _ => (0 : Int)) (fun _ _ => rfl)]; omega
  ·constructor
   ·rw [sumN_zero (f := fun _ => (0 : Int)) (fun _ _ => rfl)]; omega
   ·rw [sumN_zero (f := fun _ => (0 : Int)) (fun _ _ => rfl)]; omega
  ·constructor
   ·rw [sumN_zero (f := fun _ => (0 : Int)) (fun _ _ => rfl)]; omega
   ·rw [sumN_zero (f := fun _ => (0 : Int)) (fun _ _ => rfl)]; omega
end Go.Proofs.Ythcdddbghldmiaa
