
import Derived.Test.YthcdddbghldmiaaPE
namespace Go.Proofs.Ythcdddbghldmiaa
set_option linter.unusedVariables false
set_option linter.unusedSimpArgs false
theorem sumN_skip {f : Nat → Int} {k : Nat} : ∀ {n : Nat}, k ≤ n → sumN n (fun i => f (if i < k then i else i + 1)) + f k = sumN (n + 1) f
 | 0, h => by
  have : k = 0 := by omega
  subst this; simp [sumN]
 | n + 1, h => by
  by_cases hk : k ≤ n
  ·have ih := sumN_skip (f := f) hk
   rw [sumN, sumN, if_neg (by omega)]
   omega
  ·have : k = n + 1 := by omega
   subst this
   rw [sumN_congr (g := f) (fun i hi => by rw [if_pos hi]), sumN.eq_2 f (n + 1)]
theorem plan_map {g x : Gar} {rs rs' : List (List Int)} {ρ : Nat → Nat} (hns : x.ns = g.ns) (hlen : rs'.length = x.nb) (hrow : ∀ r ∈ rs', r.length = g.ns) (hb : ∀ (i : Nat) (b : Bus), x.buses[i]? = some b → g.buses[ρ i]? = some b) (hc : ∀ i s, i < x.nb → cell rs' i s = cell rs (ρ i) s)
  (hpw : ∀ s, pwS x s = pwS g s) (hsum : ∀ f : Nat → Int, (∀ i, i < g.nb → 0 ≤ f i) → sumN x.nb (fun i => f (ρ i)) ≤ sumN g.nb f) (hP : PlanOK g rs) : PlanOK x rs' := by
 have nn : ∀ i s, i < g.nb → s < g.ns → 0 ≤ cell rs i s := fun i s hi hs => by
  obtain ⟨b, hb⟩ := bus_at hi
  exact (hP.cap i b hb s hs).1
 refine ⟨hlen, fun r hr => by rw [hrow r hr, hns], fun i b h s hs => ?_, fun i b h => ?_, fun s hs => ?_⟩
 ·have hi : i < x.nb := (List.getElem?_eq_some_iff.1 h).1
  rw [hc i s hi]
  exact hP.cap (ρ i) b (hb i b h) s (by omega)
 ·have hi : i < x.nb := (List.getElem?_eq_some_iff.1 h).1
  have := hP.need (ρ i) b (hb i b h)
  rw [hns, sumN_congr (fun s _ => hc i s hi)]; exact this
 ·rw [hpw, sumN_congr (fun i hi => hc i s hi)]
  exact Int.le_trans (hsum (fun i => cell rs i s) (fun i hi => nn i s hi (by omega))) (hP.pow s (by omega))
theorem cell_at {rs rs' : List (List Int)} {i j s : Nat} (h : rs'[i]? = rs[j]?) : cell rs' i s = cell rs j s := by
 have e : rs'.getD i [] = rs.getD j [] := by rw [List.getD_eq_getElem?_getD, List.getD_eq_getElem?_getD, h]
 unfold cell; rw [e]
def without (g : Gar) (k : Nat) : Gar := ⟨g.slots, g.buses.take k ++ g.buses.drop (k + 1)⟩
theorem erase_get {α : Type} {l : List α} {k i : Nat} : (l.take k ++ l.drop (k + 1))[i]? = l[if i < k then i else i + 1]? := by
 rw [← List.eraseIdx_eq_take_drop_succ, List.getElem?_eraseIdx]
 split <;> rfl
theorem plan_less {g : Gar} (hv : Valid g) {rs : List (List Int)} (hP : PlanOK g rs) {k : Nat} (hk : k < g.nb) : PlanOK (without g k) (rs.take k ++ rs.drop (k + 1)) ∧ costZ (without g k) (rs.take k ++ rs.drop (k + 1)) ≤ costZ g rs := by
 have hb1 : (g.buses.take k ++ g.buses.drop (k + 1)).length = g.nb - 1 := by
  have hk' : k < g.buses.length := hk
  simp only [List.length_append, List.length_take, List.length_drop]; show _ = g.buses.length - 1; omega
 have hn : (without g k).nb = g.nb - 1 := hb1
 have hl := hP.len
 have hc : ∀ i s, i < (without g k).nb → cell (rs.take k ++ rs.drop (k + 1)) i s = cell rs (if i < k then i else i + 1) s := fun i s _ => cell_at erase_get
 have e : g.nb = (g.nb - 1) + 1 := by omega
 have sk : ∀ f : Nat → Int, sumN (g.nb - 1) (fun i => f (if i < k then i else i + 1)) + f k = sumN g.nb f := fun f => by
  rw [e]; exact sumN_skip (by omega)
 refine ⟨plan_map (g := g) (rs := rs) (ρ := fun i => if i < k then i else i + 1) rfl ?_ ?_ ?_ hc (fun s => rfl) (fun f hf => ?_) hP, ?_⟩
 ·rw [hn]; simp only [List.length_append, List.length_take, List.length_drop]; omega
 ·intro r hr
  rcases List.mem_append.1 hr with h | h
  ·exact hP.row r (List.mem_of_mem_take h)
  ·exact hP.row r (List.mem_of_mem_drop h)
 ·intro i b h; rw [← erase_get]; exact h
 ·rw [hn]; have := sk f; have := hf k hk; omega
 ·unfold costZ
  rw [hn, sumN_congr (fun i hi => sumN_congr (fun s hs => by rw [hc i s (by rw [hn]; exact hi)]))]
  have h1 := sk (fun i => sumN g.ns fun s => cell rs i s * prS g s)
  have h2 : 0 ≤ sumN g.ns fun s => cell rs k s * prS g s := sumN_nn (fun s hs => (hP.term hv hk hs).1)
  show sumN (g.nb - 1) (fun i => sumN g.ns fun s => cell rs (if i < k then i else i + 1) s * prS g s) ≤ _
  omega
end Go.Proofs.Ythcdddbghldmiaa
