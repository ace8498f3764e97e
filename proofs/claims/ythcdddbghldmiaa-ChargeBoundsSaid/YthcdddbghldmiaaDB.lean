
import Derived.Test.YthcdddbghldmiaaCS
import Derived.Test.YthcdddbghldmiaaCC
import Derived.Test.YthcdddbghldmiaaXB
import Derived.Test.YthcdddbghldmiaaTy
namespace Go.Proofs.Ythcdddbghldmiaa
open Go Go.Lay
set_option linter.unusedVariables false
set_option linter.unusedSimpArgs false
set_option maxRecDepth 20000
section
variable {σ τ : St} {g : Gar} {p q pp wp up : Option Addr} {l c m d lp cp lw cw lu cu : Nat} {rs : List (List Int)} {ws us : List Int}
theorem boundZ_congr {w w' t t' : Nat → Int} (h1 : ∀ i, i < g.nb → w i = w' i) (h2 : ∀ s, s < g.ns → t s = t' s) : boundZ g w t = boundZ g w' t' := by
 unfold boundZ
 rw [sumN_congr (n := g.ns) (f := fun s => pwS g s * t s) (g := fun s => pwS g s * t' s) (fun s hs => by rw [h2 s hs])]
 congr 1
 refine sumN_congr (fun i hi => ?_)
 rw [h1 i hi]
 congr 1
 exact sumN_congr (fun s hs => by rw [h2 s hs])
theorem worthL_get {π : Nd → Int} {i : Nat} (hi : i < g.nb) : (worthL g π).getD i 0 = worth π i := by simp [worthL, hi]
theorem surL_get {π : Nd → Int} {s : Nat} (hs : s < g.ns) : (surL g π).getD s 0 = sur π s := by simp [surL, hs]
theorem areW {π : Nd → Int} (h : ∀ v ∈ nodes g, -18000 ≤ π v ∧ π v ≤ 0) : AreW g (worthL g π) (surL g π) := by
 have hgr := h .grid mem_grid
 refine ⟨by simp [worthL], by simp [surL], List.all_eq_true.2 fun x hx => ?_, List.all_eq_true.2 fun x hx => ?_⟩
 ·obtain ⟨i, hi, rfl⟩ := List.mem_map.1 hx
  have := h (.bus i) (mem_bus.2 (List.mem_range.1 hi))
  refine inB_iff.2 ?_; unfold worth; omega
 ·obtain ⟨i, hi, rfl⟩ := List.mem_map.1 hx
  have := h (.slot i) (mem_slot.2 (List.mem_range.1 hi))
  simp only [Bool.and_eq_true, decide_eq_true_eq, inB_iff]; unfold sur; omega
end
end Go.Proofs.Ythcdddbghldmiaa
