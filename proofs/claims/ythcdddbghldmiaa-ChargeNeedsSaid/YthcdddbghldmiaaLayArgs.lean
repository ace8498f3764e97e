/- The end of a statement: what was handed in reads as it did. -/
import Derived.Test.YthcdddbghldmiaaLayTop2
import Derived.ReadAgain
import Derived.ChangeBears
import Derived.Below
set_option linter.unusedVariables false
set_option linter.unusedSimpArgs false
namespace Go.Lay
open Go Go.RowKit
theorem heap_of_grown {W W' : World} (h : Grown W W') {b : Nat} (hb : b < W.heap.size) : W'.heap[b]? = W.heap[b]? := by
  have := h.1.2.2 b hb
  split at this
  · rename_i c t fr c' t' fr' h1 h2
    obtain ⟨rfl, rfl, hs, hj⟩ := this
    rw [h1, h2]
    have : c' = c := Array.ext_getElem? (fun j => hj j (fun f => f))
    rw [this]
  · rename_i h1 h2
    rcases this with f | ⟨rfl, rfl⟩
    · exact f.elim
    · rw [h1, h2]
  · exact this
theorem same_of_grown {W W' : World} (h : Grown W W') {p : MemPlace} (hp : p.block < W.heap.size) : W.sameAt W' p := by
  cases p with
  | cell b o => exact World.cell?_of_block (w := W) (heap_of_grown h hp)
  | map b => exact heap_of_grown h hp
section
variable {H : Type} {enc : TypeId × Value → H} {P : Program} {w w' : World} {b : Nat} {sp : Nat → Bool} {held : Bool}
theorem trodAll_carry : ∀ {ts : List TypeId} {vs : List Value} {ds : List (DataW H)} {ps : List MemPlace}, DataW.TrodAll enc P w b sp held ts vs ds ps → (∀ p ∈ ps, w.sameAt w' p) → DataW.TrodAll enc P w' b sp held ts vs ds ps
  | [], [], [], _, h, _ => h
  | _ :: _, _ :: _, _ :: _, _, ⟨p, q, ⟨n, h1⟩, h2, e⟩, hs => ⟨p, q, ⟨n, DataW.trod_carry _ _ _ _ h1 (fun x hx => hs x (by rw [e]; exact List.mem_append_left _ hx))⟩, trodAll_carry h2 (fun x hx => hs x (by rw [e]; exact List.mem_append_right _ hx)), e⟩
theorem args_same (K : Kids P (· < P.types.size)) (hz : ∀ (t : Nat) (e : TypeId), t < P.types.size → P.underlying t = some (.slice e) → 0 < P.cellsOf e) {ts : List TypeId} {vs : List Value} {ds : List (DataW H)} {ps : List MemPlace}
    (hT : ∀ t ∈ ts, t < P.types.size) (h : DataW.TrodAll enc P w 0 (fun _ => true) true ts vs ds ps) (hg : Grown w w') (hlt : ∀ p ∈ ps, p.block < w.heap.size) (hs : ∀ p ∈ ps, sp p.block = true) : DataW.TrodAll enc P w' 0 sp true ts vs ds ps :=
  trodAll_carry (DataW.TrodAll.respare K hz hT h hs) (fun p hp => same_of_grown hg (hlt p hp))
theorem trod_one {t : TypeId} {vs : List Value} {ds : List (DataW H)} {ps : List MemPlace} (h : DataW.TrodAll enc P w b sp held [t] vs ds ps) : ∃ v d, vs = [v] ∧ ds = [d] := by
  match vs, ds, h with
  | [v], [d], _ => exact ⟨v, d, rfl, rfl⟩
  | _ :: _ :: _, [_], ⟨_, _, _, h, _⟩ => exact h.elim
  | _ :: _ :: _, _ :: _ :: _, ⟨_, _, _, h, _⟩ => exact h.elim
  | [_], _ :: _ :: _, ⟨_, _, _, h, _⟩ => exact h.elim
  | _ :: _, [], h => exact h.elim
  | [], _ :: _, h => exact h.elim
  | [], [], h => exact h.elim
theorem trod_three {t1 t2 t3 : TypeId} {vs : List Value} {ds : List (DataW H)} {ps : List MemPlace} (h : DataW.TrodAll enc P w b sp held [t1, t2, t3] vs ds ps) : ∃ v1 v2 v3 d1 d2 d3, vs = [v1, v2, v3] ∧ ds = [d1, d2, d3] := by
  match vs, ds, h with
  | v1 :: vs, d1 :: ds, ⟨_, _, _, h, _⟩ =>
    match vs, ds, h with
    | v2 :: vs, d2 :: ds, ⟨_, _, _, h, _⟩ =>
      obtain ⟨v3, d3, rfl, rfl⟩ := trod_one h
      exact ⟨_, _, _, _, _, _, rfl, rfl⟩
    | _ :: _, [], h => exact h.elim
    | [], _ :: _, h => exact h.elim
    | [], [], h => exact h.elim
  | _ :: _, [], h => exact h.elim
  | [], _ :: _, h => exact h.elim
  | [], [], h => exact h.elim
end
end Go.Lay
