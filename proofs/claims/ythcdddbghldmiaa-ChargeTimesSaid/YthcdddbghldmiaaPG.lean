
import Derived.Test.YthcdddbghldmiaaPE
namespace Go.Proofs.Ythcdddbghldmiaa
set_option linter.unusedVariables false
set_option linter.unusedSimpArgs false
theorem sumN_split {f : Nat → Int} {a : Nat} : ∀ {b : Nat}, sumN (a + b) f = sumN a f + sumN b (fun i => f (a + i))
 | 0 => by simp [sumN]
 | b + 1 => by
  have := sumN_split (f := f) (a := a) (b := b)
  rw [← Nat.add_assoc, sumN, sumN, this]; omega
theorem plan_map {g x : Gar} {rs rs' : List (List Int)} {ρ : Nat → Nat} (hns : x.ns = g.ns) (hlen : rs'.length = x.nb) (hrow : ∀ r ∈ rs', r.length = g.ns) (hb : ∀ (i : Nat) (b : Bus), x.buses[i]? = some b → g.buses[ρ i]? = some b) (hc : ∀ i s, i < x.nb → cell rs' i s = cell rs (ρ i) s)
  (hpw : ∀ s, pwS x s = pwS g s) (hsum : ∀ f : Nat → Int, (∀ i, i < g.nb → 0 ≤ f i) → sumN x.nb (fun i => f (ρ i)) ≤ sumN g.nb f) (hP : PlanOK g rs) : PlanOK x rs' := by
 have nn : ∀ i s, i < g.nb → s < g.ns → 0 ≤ cell rs i s := fun i s hi hs => by
  obtain ⟨b, hb⟩ := bus_at hi
  exact (hP.cap i b hb s hs).1
 refine ⟨hlen, fun r hr => by rw [hrow r hr, hns], fun i b h s hs => ?_, fun i b h => ?_, fun s hs => ?_⟩
 ·have hi : i < x.nb := (List.getElem?_eq_some_iff.1 h).1
  rw [hc i s hi]
  exact hP.cap (ρ i) b (hb i b h) s (by omega)
 ·have hi : i < x.nb := (List.getElem?_eq_some_iff.1 h).1
  have := hP.need (ρ i) b (hb i b h)
  rw [hns, sumN_congr (fun s _ => hc i s hi)]; exact this
 ·rw [hpw, sumN_congr (fun i hi => hc i s hi)]
  exact Int.le_trans (hsum (fun i => cell rs i s) (fun i hi => nn i s hi (by omega))) (hP.pow s (by omega))
theorem cell_at {rs rs' : List (List Int)} {i j s : Nat} (h : rs'[i]? = rs[j]?) : cell rs' i s = cell rs j s := by
 have e : rs'.getD i [] = rs.getD j [] := by rw [List.getD_eq_getElem?_getD, List.getD_eq_getElem?_getD, h]
 unfold cell; rw [e]
def without (g : Gar) (k : Nat) : Gar := ⟨g.slots, g.buses.take k ++ g.buses.drop (k + 1)⟩
def rotL {α : Type} (k : Nat) (l : List α) : List α := l.drop k ++ l.take k
theorem rot_get {α : Type} {l : List α} {k i : Nat} (hk : k ≤ l.length) (hi : i < l.length) : (rotL k l)[i]? = l[if i < l.length - k then k + i else i - (l.length - k)]? := by
 unfold rotL
 rw [List.getElem?_append, List.length_drop]
 split
 ·rw [List.getElem?_drop]
 ·rw [List.getElem?_take, if_pos (by omega)]
theorem rot_len {α : Type} {l : List α} {k : Nat} (hk : k ≤ l.length) : (rotL k l).length = l.length := by
 unfold rotL; simp only [List.length_append, List.length_take, List.length_drop]; omega
theorem sumN_rot {f : Nat → Int} {k n : Nat} (hk : k ≤ n) : sumN n (fun i => f (if i < n - k then k + i else i - (n - k))) = sumN n f := by
 obtain ⟨m, rfl⟩ : ∃ m, n = m + k := ⟨n - k, by omega⟩
 rw [show m + k - k = m by omega, sumN_split, show m + k = k + m by omega, sumN_split (a := k)]
 rw [sumN_congr (n := m) (g := fun i => f (k + i)) (fun i hi => by rw [if_pos hi])]
 rw [sumN_congr (n := k) (g := f) (fun i hi => by rw [if_neg (by omega)]; congr 1; omega)]
 omega
def rotG (g : Gar) (k : Nat) (n : Int) : Gar := ⟨g.slots.map fun s => ⟨s.pw, n * s.pr⟩, rotL k g.buses⟩
theorem rotG_pw {g : Gar} {k : Nat} {n : Int} (s : Nat) : pwS (rotG g k n) s = pwS g s := by
 unfold pwS rotG; simp only [List.map_map]; rfl
theorem rotG_pr {g : Gar} {k : Nat} {n : Int} (s : Nat) : prS (rotG g k n) s = n * prS g s := by
 unfold prS rotG
 rw [List.getD_eq_getElem?_getD, List.getD_eq_getElem?_getD, List.map_map, List.getElem?_map, List.getElem?_map]
 cases g.slots[s]? <;> simp
theorem rotG_ns {g : Gar} {k : Nat} {n : Int} : (rotG g k n).ns = g.ns := by unfold rotG Gar.ns; simp
theorem rotG_nb {g : Gar} {k : Nat} {n : Int} (hk : k ≤ g.nb) : (rotG g k n).nb = g.nb := rot_len hk
theorem plan_rot {g : Gar} {rs : List (List Int)} {k : Nat} {n : Int} (hk : k ≤ g.nb) (hP : PlanOK g rs) : PlanOK (rotG g k n) (rotL k rs) ∧ costZ (rotG g k n) (rotL k rs) = n * costZ g rs := by
 have hl := hP.len
 have hc : ∀ i s, i < (rotG g k n).nb → cell (rotL k rs) i s = cell rs (if i < g.nb - k then k + i else i - (g.nb - k)) s := fun i s hi => by
  rw [rotG_nb hk] at hi
  have := rot_get (l := rs) (k := k) (i := i) (by omega) (by omega)
  rw [hl] at this
  exact cell_at this
 refine ⟨plan_map (g := g) (rs := rs) (ρ := fun i => if i < g.nb - k then k + i else i - (g.nb - k)) rotG_ns (by rw [rot_len (by omega), rotG_nb hk, hl]) ?_ ?_ hc rotG_pw (fun f hf => by rw [rotG_nb hk, sumN_rot hk]; exact Int.le_refl _) hP, ?_⟩
 ·intro r hr
  rcases List.mem_append.1 hr with h | h
  ·exact hP.row r (List.mem_of_mem_drop h)
  ·exact hP.row r (List.mem_of_mem_take h)
 ·intro i b h
  have hi : i < g.nb := by have := (List.getElem?_eq_some_iff.1 h).1; have : i < (rotG g k n).nb := this; rwa [rotG_nb hk] at this
  rw [← rot_get (l := g.buses) hk hi]; exact h
 ·unfold costZ
  rw [rotG_nb hk, rotG_ns, sumN_congr (fun i hi => sumN_congr (g := fun s => n * (cell rs (if i < g.nb - k then k + i else i - (g.nb - k)) s * prS g s)) (fun s hs => by rw [hc i s (by rw [rotG_nb hk]; exact hi), rotG_pr, Int.mul_left_comm]))]
  rw [sumN_congr (fun i hi => sumN_mul), sumN_mul]
  congr 1
  exact sumN_rot (f := fun i => sumN g.ns fun s => cell rs i s * prS g s) hk
theorem plan_unrot {g : Gar} {rs : List (List Int)} {k : Nat} {n : Int} (hk : k ≤ g.nb) (hP : PlanOK (rotG g k n) rs) : ∃ rs', PlanOK g rs' ∧ costZ (rotG g k n) rs = n * costZ g rs' := by
 have hl := hP.len
 rw [rotG_nb hk] at hl
 have e1 : g.nb - (g.nb - k) = k := by omega
 have hc : ∀ i s, i < g.nb → cell (rotL (g.nb - k) rs) i s = cell rs (if i < k then g.nb - k + i else i - k) s := fun i s hi => by
  have := rot_get (l := rs) (k := g.nb - k) (i := i) (by omega) (by omega)
  rw [hl, e1] at this
  exact cell_at this
 have hb : ∀ (i : Nat) (b : Bus), g.buses[i]? = some b → (rotG g k n).buses[if i < k then g.nb - k + i else i - k]? = some b := by
  intro i b h
  have hi : i < g.nb := (List.getElem?_eq_some_iff.1 h).1
  have hk' : k ≤ g.buses.length := hk
  have hi' : i < g.buses.length := hi
  show (rotL k g.buses)[_]? = some b
  have hn : g.nb = g.buses.length := rfl
  split
  ·rw [rot_get hk (by omega), if_neg (by omega), ← h]; congr 1; omega
  ·rw [rot_get hk (by omega), if_pos (by omega), ← h]; congr 1; omega
 have hs : ∀ f : Nat → Int, sumN g.nb (fun i => f (if i < k then g.nb - k + i else i - k)) = sumN g.nb f := fun f => by
  have := sumN_rot (f := f) (k := g.nb - k) (n := g.nb) (by omega)
  rwa [e1] at this
 have hP' : PlanOK g (rotL (g.nb - k) rs) := by
  refine plan_map (g := rotG g k n) (rs := rs) (ρ := fun i => if i < k then g.nb - k + i else i - k) rotG_ns.symm (by rw [rot_len (by omega), hl]) ?_ hb hc (fun s => (rotG_pw s).symm) (fun f hf => by rw [hs, rotG_nb hk]; exact Int.le_refl _) hP
  intro r hr
  rcases List.mem_append.1 hr with h | h
  ·exact hP.row r (List.mem_of_mem_drop h)
  ·exact hP.row r (List.mem_of_mem_take h)
 refine ⟨_, hP', ?_⟩
 unfold costZ
 rw [rotG_nb hk, rotG_ns, sumN_congr (n := g.nb) (f := fun i => sumN g.ns fun s => cell (rotL (g.nb - k) rs) i s * prS g s) (fun i hi => sumN_congr (fun s hs => by rw [hc i s hi])), hs (fun i => sumN g.ns fun s => cell rs i s * prS g s), ← sumN_mul]
 refine sumN_congr (fun i hi => ?_)
 rw [← sumN_mul]
 exact sumN_congr (fun s hs => by rw [rotG_pr, Int.mul_left_comm])
end Go.Proofs.Ythcdddbghldmiaa
