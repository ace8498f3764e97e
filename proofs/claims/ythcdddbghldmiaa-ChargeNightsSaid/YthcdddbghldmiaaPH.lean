
import Derived.Test.YthcdddbghldmiaaPG
namespace Go.Proofs.Ythcdddbghldmiaa
set_option linter.unusedVariables false
set_option linter.unusedSimpArgs false
structure RowOK (n : Nat) (b : Bus) (r : List Int) : Prop where
 len : r.length = n
 cap : ∀ s, s < n → 0 ≤ r.getD s 0 ∧ r.getD s 0 ≤ b.rate ∧ (0 < r.getD s 0 → thereB b s = true)
 need : needZ b ≤ sumN n (fun s => r.getD s 0)
inductive Fit (n : Nat) : List Bus → List (List Int) → Prop
 | nil : Fit n [] []
 | cons {b bs r rs} : RowOK n b r → Fit n bs rs → Fit n (b :: bs) (r :: rs)
def colL : List (List Int) → Nat → Int
 | [], _ => 0
 | r :: rs, s => r.getD s 0 + colL rs s
theorem sumN_front {f : Nat → Int} {n : Nat} : sumN (n + 1) f = f 0 + sumN n (fun i => f (i + 1)) := by
 rw [Nat.add_comm n 1, sumN_split]
 simp only [sumN]
 rw [sumN_congr (f := fun i => f (1 + i)) (g := fun i => f (i + 1)) (fun i _ => by rw [Nat.add_comm])]
 omega
theorem colL_eq {s : Nat} : ∀ {rs : List (List Int)}, sumN rs.length (fun i => cell rs i s) = colL rs s
 | [] => rfl
 | r :: rs => by
  rw [List.length_cons, sumN_front, colL, ← colL_eq (rs := rs)]
  rfl
theorem fit_of {n : Nat} : ∀ {bs : List Bus} {rs : List (List Int)}, rs.length = bs.length → (∀ (i : Nat) (b : Bus), bs[i]? = some b → RowOK n b (rs.getD i [])) → Fit n bs rs
 | [], [], _, _ => .nil
 | b :: bs, r :: rs, h, hr => .cons (hr 0 b rfl) (fit_of (by simpa using h) (fun i b' hb => hr (i + 1) b' (by simpa using hb)))
 | [], _ :: _, h, _ => by cases h
 | _ :: _, [], h, _ => by cases h
theorem Fit.at {n : Nat} {bs : List Bus} {rs : List (List Int)} (h : Fit n bs rs) : rs.length = bs.length ∧ ∀ (i : Nat) (b : Bus), bs[i]? = some b → RowOK n b (rs.getD i []) := by
 induction h with
 | nil => exact ⟨rfl, fun i b h => by simp at h⟩
 | cons h1 h2 ih =>
  refine ⟨by simp [ih.1], fun i b h => ?_⟩
  cases i with
  | zero => simp only [List.getElem?_cons_zero, Option.some.injEq] at h; subst h; exact h1
  | succ i => exact ih.2 i b (by simpa using h)
theorem fit_plan {g : Gar} {rs : List (List Int)} : PlanOK g rs ↔ Fit g.ns g.buses rs ∧ ∀ s, s < g.ns → colL rs s ≤ pwS g s := by
 constructor
 ·intro h
  refine ⟨fit_of h.len fun i b hb => ⟨?_, fun s hs => h.cap i b hb s hs, h.need i b hb⟩, fun s hs => ?_⟩
  ·have hi : i < g.nb := (List.getElem?_eq_some_iff.1 hb).1
   have hl := h.len
   have e : rs[i]? = some rs[i] := by simp [hl, hi]
   rw [List.getD_eq_getElem?_getD, e]
   exact h.row _ (List.mem_of_getElem? e)
  ·rw [← colL_eq, h.len]; exact h.pow s hs
 ·rintro ⟨h, hp⟩
  obtain ⟨hl, ha⟩ := h.at
  refine ⟨hl, fun r hr => ?_, fun i b hb s hs => (ha i b hb).cap s hs, fun i b hb => (ha i b hb).need, fun s hs => ?_⟩
  ·obtain ⟨i, hi⟩ := List.mem_iff_getElem?.1 hr
   have hi' : i < g.nb := by have := (List.getElem?_eq_some_iff.1 hi).1; have e : g.nb = g.buses.length := rfl; omega
   obtain ⟨b, hb⟩ := bus_at hi'
   have := (ha i b hb).len
   rw [List.getD_eq_getElem?_getD, hi] at this
   exact this
  ·have := hp s hs
   rw [← colL_eq, hl] at this
   exact this
theorem fit_cost {g : Gar} {rs : List (List Int)} (h : rs.length = g.nb) : costZ g rs = sumN g.ns fun s => colL rs s * prS g s := by
 unfold costZ
 rw [sumN_swap]
 refine sumN_congr fun s hs => ?_
 rw [sumN_mul', ← h, colL_eq]
def wB (k : Int) (x : Bus × Bool) : Bus :=
 if x.2 then { x.1 with fr := max x.1.fr k, to := max (max x.1.fr k) x.1.to } else { x.1 with fr := min x.1.fr (min x.1.to k), to := min x.1.to k }
def lB (k : Int) (x : Bus × Bool) : Bus := { wB k x with fr := (wB k x).fr - k, to := (wB k x).to - k }
def wG (g : List Slot) (k : Nat) (L : List (Bus × Bool)) : Gar := ⟨g, L.map (wB k)⟩
def eG (g : List Slot) (k : Nat) (L : List (Bus × Bool)) : Gar := ⟨g.take k, (L.filter (fun x => !x.2)).map (wB k)⟩
def dG (g : List Slot) (k : Nat) (L : List (Bus × Bool)) : Gar := ⟨g.drop k, (L.filter (fun x => x.2)).map (lB k)⟩
theorem there_iff {b : Bus} {s : Int} : thereB b s = true ↔ b.fr ≤ s ∧ s < b.to := by simp [thereB]
theorem getD_take {r : List Int} {k s : Nat} (h : s < k) : (r.take k).getD s 0 = r.getD s 0 := by
 rw [List.getD_eq_getElem?_getD, List.getD_eq_getElem?_getD, List.getElem?_take, if_pos h]
theorem getD_drop {r : List Int} {k s : Nat} : (r.drop k).getD s 0 = r.getD (k + s) 0 := by
 rw [List.getD_eq_getElem?_getD, List.getD_eq_getElem?_getD, List.getElem?_drop]
theorem row_early {n k : Nat} {b : Bus} {r : List Int} (hk : k ≤ n) (hb : b.to ≤ k) (h : RowOK n b r) : RowOK k b (r.take k) ∧ ∀ s, s < n - k → r.getD (k + s) 0 = 0 := by
 have hz : ∀ s, s < n - k → r.getD (k + s) 0 = 0 := fun s hs => by
  have := h.cap (k + s) (by omega)
  rcases Int.lt_or_le 0 (r.getD (k + s) 0) with h1 | h1
  ·have := there_iff.1 (this.2.2 h1); omega
  ·omega
 refine ⟨⟨by rw [List.length_take, h.len]; omega, fun s hs => by rw [getD_take hs]; exact h.cap s (by omega), ?_⟩, hz⟩
 have h1 := h.need
 obtain ⟨m, rfl⟩ : ∃ m, n = k + m := ⟨n - k, by omega⟩
 rw [sumN_split, sumN_zero (n := m) (fun i hi => hz i (by omega))] at h1
 rw [sumN_congr (fun s hs => getD_take hs)]
 omega
theorem row_late {n k : Nat} {b b' : Bus} {r : List Int} (hk : k ≤ n) (hb : (k : Int) ≤ b.fr) (hb' : b' = { b with fr := b.fr - k, to := b.to - k }) (h : RowOK n b r) : RowOK (n - k) b' (r.drop k) ∧ ∀ s, s < k → r.getD s 0 = 0 := by
 have hz : ∀ s, s < k → r.getD s 0 = 0 := fun s hs => by
  have := h.cap s (by omega)
  rcases Int.lt_or_le 0 (r.getD s 0) with h1 | h1
  ·have := there_iff.1 (this.2.2 h1); omega
  ·omega
 subst hb'
 refine ⟨⟨by rw [List.length_drop, h.len], fun s hs => ?_, ?_⟩, hz⟩
 ·rw [getD_drop]
  have := h.cap (k + s) (by omega)
  refine ⟨this.1, this.2.1, fun h3 => there_iff.2 ?_⟩
  have := there_iff.1 (this.2.2 h3)
  show b.fr - k ≤ (s : Int) ∧ (s : Int) < b.to - k
  omega
 have h1 := h.need
 obtain ⟨m, rfl⟩ : ∃ m, n = k + m := ⟨n - k, by omega⟩
 rw [sumN_split, sumN_zero (n := k) (fun i hi => hz i (by omega))] at h1
 rw [show k + m - k = m by omega, sumN_congr (fun s hs => getD_drop)]
 show needZ b ≤ _
 omega
theorem getD_pre {r z : List Int} {k s : Nat} (hl : r.length = k) (h : s < k) : (r ++ z).getD s 0 = r.getD s 0 := by
 rw [List.getD_eq_getElem?_getD, List.getD_eq_getElem?_getD, List.getElem?_append_left (by omega)]
theorem getD_post {r z : List Int} {k s : Nat} (hl : r.length = k) : (r ++ z).getD (k + s) 0 = z.getD s 0 := by
 rw [List.getD_eq_getElem?_getD, List.getD_eq_getElem?_getD, List.getElem?_append_right (by omega), hl, Nat.add_sub_cancel_left]
theorem getD_rep {m s : Nat} : (List.replicate m (0 : Int)).getD s 0 = 0 := by
 rw [List.getD_eq_getElem?_getD, List.getElem?_replicate]; split <;> rfl
theorem row_early' {n k : Nat} {b : Bus} {r : List Int} (hk : k ≤ n) (hr : 0 ≤ b.rate) (h : RowOK k b r) : RowOK n b (r ++ List.replicate (n - k) 0) := by
 have hl := h.len
 refine ⟨by simp [hl]; omega, fun s hs => ?_, ?_⟩
 ·rcases Nat.lt_or_ge s k with h1 | h1
  ·rw [getD_pre hl h1]; exact h.cap s h1
  ·obtain ⟨t, rfl⟩ : ∃ t, s = k + t := ⟨s - k, by omega⟩
   rw [getD_post hl, getD_rep]
   exact ⟨Int.le_refl _, hr, fun h => absurd h (by omega)⟩
 ·obtain ⟨m, rfl⟩ : ∃ m, n = k + m := ⟨n - k, by omega⟩
  rw [sumN_split, sumN_zero (n := m) (fun i hi => by rw [getD_post hl, getD_rep]), sumN_congr (fun s hs => getD_pre hl hs)]
  have := h.need; omega
theorem row_late' {n k : Nat} {b b' : Bus} {r : List Int} (hk : k ≤ n) (hr : 0 ≤ b.rate) (hb' : b' = { b with fr := b.fr - k, to := b.to - k }) (h : RowOK (n - k) b' r) : RowOK n b (List.replicate k 0 ++ r) := by
 have hl := h.len
 have hk' : (List.replicate k (0 : Int)).length = k := by simp
 have hcap := h.cap
 have hneed := h.need
 subst hb'
 refine ⟨by simp [hl]; omega, fun s hs => ?_, ?_⟩
 ·rcases Nat.lt_or_ge s k with h1 | h1
  ·rw [getD_pre hk' h1, getD_rep]
   exact ⟨Int.le_refl _, hr, fun h => absurd h (by omega)⟩
  ·obtain ⟨t, rfl⟩ : ∃ t, s = k + t := ⟨s - k, by omega⟩
   rw [getD_post hk']
   have := hcap t (by omega)
   refine ⟨this.1, this.2.1, fun h3 => there_iff.2 ?_⟩
   have h4 := there_iff.1 (this.2.2 h3)
   have h4 : b.fr - k ≤ (t : Int) ∧ (t : Int) < b.to - k := h4
   omega
 ·obtain ⟨m, rfl⟩ : ∃ m, n = k + m := ⟨n - k, by omega⟩
  rw [show k + m - k = m by omega] at hneed
  rw [sumN_split, sumN_zero (n := k) (fun i hi => by rw [getD_pre hk' hi, getD_rep]), sumN_congr (n := m) (fun s hs => getD_post hk')]
  have : needZ b ≤ sumN m fun s => r.getD s 0 := hneed
  omega
theorem wB_early {k : Int} {x : Bus × Bool} (h : x.2 = false) : (wB k x).to ≤ k := by
 unfold wB; rw [h]; simp only [Bool.false_eq_true, if_false]; omega
theorem wB_late {k : Int} {x : Bus × Bool} (h : x.2 = true) : k ≤ (wB k x).fr := by
 unfold wB; rw [h]; simp only [if_true]; omega
theorem wB_rate {k : Int} {x : Bus × Bool} : (wB k x).rate = x.1.rate := by unfold wB; split <;> rfl
theorem fit_split {n k : Nat} (hk : k ≤ n) : ∀ {L : List (Bus × Bool)} {rs : List (List Int)}, Fit n (L.map (wB k)) rs → ∃ re rl, Fit k ((L.filter (fun x => !x.2)).map (wB k)) re ∧ Fit (n - k) ((L.filter (fun x => x.2)).map (lB k)) rl ∧
  (∀ s, s < k → colL rs s = colL re s) ∧ ∀ s, s < n - k → colL rs (k + s) = colL rl s
 | [], _, .nil => ⟨[], [], .nil, .nil, fun _ _ => rfl, fun _ _ => rfl⟩
 | x :: L, _, .cons (r := r) h1 h2 => by
  obtain ⟨re, rl, i1, i2, i3, i4⟩ := fit_split hk h2
  cases hx : x.2 with
  | false =>
   obtain ⟨j1, j2⟩ := row_early hk (wB_early hx) h1
   refine ⟨r.take k :: re, rl, by rw [List.filter_cons_of_pos (by simp [hx])]; exact .cons j1 i1, by rw [List.filter_cons_of_neg (by simp [hx])]; exact i2, fun s hs => ?_, fun s hs => ?_⟩
   ·show _ + _ = _ + _; rw [getD_take hs, i3 s hs]
   ·show _ + _ = _; rw [j2 s hs, i4 s hs]; omega
  | true =>
   obtain ⟨j1, j2⟩ := row_late (b' := lB k x) hk (wB_late hx) rfl h1
   refine ⟨re, r.drop k :: rl, by rw [List.filter_cons_of_neg (by simp [hx])]; exact i1, by rw [List.filter_cons_of_pos (by simp [hx])]; exact .cons j1 i2, fun s hs => ?_, fun s hs => ?_⟩
   ·show _ + _ = _; rw [j2 s hs, i3 s hs]; omega
   ·show _ + _ = _ + _; rw [getD_drop, i4 s hs]
theorem fit_join {n k : Nat} (hk : k ≤ n) : ∀ {L : List (Bus × Bool)} {re rl : List (List Int)}, (∀ x ∈ L, 0 ≤ x.1.rate) → Fit k ((L.filter (fun x => !x.2)).map (wB k)) re → Fit (n - k) ((L.filter (fun x => x.2)).map (lB k)) rl → ∃ rs, Fit n (L.map (wB k)) rs ∧
  (∀ s, s < k → colL rs s = colL re s) ∧ ∀ s, s < n - k → colL rs (k + s) = colL rl s
 | [], _, _, _, .nil, .nil => ⟨[], .nil, fun _ _ => rfl, fun _ _ => rfl⟩
 | x :: L, re, rl, hr, h1, h2 => by
  have hr' : ∀ x ∈ L, 0 ≤ x.1.rate := fun y hy => hr y (List.mem_cons_of_mem _ hy)
  have hx0 : 0 ≤ (wB k x).rate := by rw [wB_rate]; exact hr x (List.mem_cons_self ..)
  cases hx : x.2 with
  | false =>
   rw [List.filter_cons_of_pos (by simp [hx])] at h1
   rw [List.filter_cons_of_neg (by simp [hx])] at h2
   cases h1 with
   | cons a1 a2 =>
    rename_i r re
    obtain ⟨rs, i1, i3, i4⟩ := fit_join hk hr' a2 h2
    refine ⟨_, .cons (row_early' hk hx0 a1) i1, fun s hs => ?_, fun s hs => ?_⟩
    ·show _ + _ = _ + _; rw [getD_pre a1.len hs, i3 s hs]
    ·show _ + _ = _; rw [getD_post a1.len, getD_rep, i4 s hs]; omega
  | true =>
   rw [List.filter_cons_of_neg (by simp [hx])] at h1
   rw [List.filter_cons_of_pos (by simp [hx])] at h2
   cases h2 with
   | cons a1 a2 =>
    rename_i r rl
    obtain ⟨rs, i1, i3, i4⟩ := fit_join hk hr' h1 a2
    have hk' : (List.replicate k (0 : Int)).length = k := by simp
    refine ⟨_, .cons (row_late' (b' := lB k x) hk hx0 rfl a1) i1, fun s hs => ?_, fun s hs => ?_⟩
    ·show _ + _ = _; rw [getD_pre hk' hs, getD_rep, i3 s hs]; omega
    ·show _ + _ = _ + _; rw [getD_post hk', i4 s hs]
section
variable {g : List Slot} {k : Nat} {L : List (Bus × Bool)}
theorem wG_ns : (wG g k L).ns = g.length := rfl
theorem eG_ns (hk : k ≤ g.length) : (eG g k L).ns = k := by show (g.take k).length = k; rw [List.length_take]; omega
theorem dG_ns : (dG g k L).ns = g.length - k := List.length_drop
theorem eG_pw {s : Nat} (hs : s < k) : pwS (eG g k L) s = pwS (wG g k L) s ∧ prS (eG g k L) s = prS (wG g k L) s := by
 unfold pwS prS eG wG
 simp only [List.map_take]
 exact ⟨getD_take hs, getD_take hs⟩
theorem dG_pw {s : Nat} : pwS (dG g k L) s = pwS (wG g k L) (k + s) ∧ prS (dG g k L) s = prS (wG g k L) (k + s) := by
 unfold pwS prS dG wG
 simp only [List.map_drop]
 exact ⟨getD_drop, getD_drop⟩
theorem cost_split (hk : k ≤ g.length) {rs re rl : List (List Int)} (h0 : rs.length = (wG g k L).nb) (h1 : re.length = (eG g k L).nb) (h2 : rl.length = (dG g k L).nb)
  (c1 : ∀ s, s < k → colL rs s = colL re s) (c2 : ∀ s, s < g.length - k → colL rs (k + s) = colL rl s) : costZ (wG g k L) rs = costZ (eG g k L) re + costZ (dG g k L) rl := by
 rw [fit_cost h0, fit_cost h1, fit_cost h2, wG_ns, eG_ns hk, dG_ns]
 obtain ⟨m, hm⟩ : ∃ m, g.length = k + m := ⟨g.length - k, by omega⟩
 rw [hm, sumN_split, show k + m - k = m by omega]
 rw [sumN_congr (n := k) (fun s hs => by rw [c1 s hs, ← (eG_pw (g := g) (L := L) hs).2]), sumN_congr (n := m) (fun s hs => by rw [c2 s (by omega), ← (dG_pw (g := g) (L := L)).2])]
theorem night_split (hk : k ≤ g.length) {rs : List (List Int)} (h : PlanOK (wG g k L) rs) : ∃ re rl, PlanOK (eG g k L) re ∧ PlanOK (dG g k L) rl ∧ costZ (wG g k L) rs = costZ (eG g k L) re + costZ (dG g k L) rl := by
 obtain ⟨hf, hp⟩ := fit_plan.1 h
 obtain ⟨re, rl, i1, i2, i3, i4⟩ := fit_split (n := g.length) hk hf
 have p1 : PlanOK (eG g k L) re := fit_plan.2 ⟨by rw [eG_ns hk]; exact i1, fun s hs => by
  rw [eG_ns hk] at hs; rw [← i3 s hs, (eG_pw hs).1]; exact hp s (by show s < g.length; omega)⟩
 have p2 : PlanOK (dG g k L) rl := fit_plan.2 ⟨by rw [dG_ns]; exact i2, fun s hs => by
  rw [dG_ns] at hs; rw [← i4 s hs, (dG_pw).1]; exact hp _ (by show k + s < g.length; omega)⟩
 exact ⟨re, rl, p1, p2, cost_split hk h.len p1.len p2.len i3 i4⟩
theorem night_join (hk : k ≤ g.length) (hr : ∀ x ∈ L, 0 ≤ x.1.rate) {re rl : List (List Int)} (h1 : PlanOK (eG g k L) re) (h2 : PlanOK (dG g k L) rl) : ∃ rs, PlanOK (wG g k L) rs ∧ costZ (wG g k L) rs = costZ (eG g k L) re + costZ (dG g k L) rl := by
 obtain ⟨f1, p1⟩ := fit_plan.1 h1
 obtain ⟨f2, p2⟩ := fit_plan.1 h2
 rw [eG_ns hk] at f1 p1; rw [dG_ns] at f2 p2
 obtain ⟨rs, i1, i3, i4⟩ := fit_join (n := g.length) hk hr f1 f2
 have p : PlanOK (wG g k L) rs := fit_plan.2 ⟨i1, fun s hs => by
  rcases Nat.lt_or_ge s k with h | h
  ·rw [i3 s h, ← (eG_pw (L := L) h).1]; exact p1 s h
  ·obtain ⟨t, rfl⟩ : ∃ t, s = k + t := ⟨s - k, by omega⟩
   have hs : k + t < g.length := hs
   rw [i4 t (by omega), ← (dG_pw (L := L)).1]; exact p2 t (by omega)⟩
 exact ⟨rs, p, cost_split hk p.len h1.len h2.len i3 i4⟩
end
end Go.Proofs.Ythcdddbghldmiaa
