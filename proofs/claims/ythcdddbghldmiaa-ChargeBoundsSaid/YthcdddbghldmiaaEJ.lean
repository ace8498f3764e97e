
import Derived.Test.YthcdddbghldmiaaEH
import Derived.Test.YthcdddbghldmiaaCO
import Derived.Test.YthcdddbghldmiaaCP
import Derived.Test.YthcdddbghldmiaaTy
namespace Go.Proofs.Ythcdddbghldmiaa
open Go Go.Lay
set_option linter.unusedVariables false
set_option linter.unusedSimpArgs false
set_option maxRecDepth 20000
section
variable {σ : St} {g : Gar} {p q : Option Addr} {l c m d : Nat}
theorem least_good {W : Wk} {r : Int} (hv : Valid g) (hG : Good g W) (hn : ∀ i, i < g.nb → sumN g.ns (cell W.plan i) = needI g i) (h : IsLeast (ChR g g.ns (ndL g)) r) : r = costZ g W.plan ∧ 0 ≤ r := by
 have hP := hG.feas.plan hn
 have h1 := exact_ch hv hP hn
 rcases h with ⟨_, h⟩ | ⟨h2, h3, h4⟩
 ·exact absurd h1 (h _)
 ·obtain ⟨rs, h5, h6⟩ := ch_exact hv h3
  obtain ⟨π, hp, _⟩ := hG.pot
  have h7 := best_least hv hG.feas hp hn h5
  have := h4 _ h1
  exact ⟨by omega, h2⟩
theorem least_lack {r : Int} (hv : Valid g) (hP : ∃ P, 0 < lackF g P) (h : IsLeast (ChR g g.ns (ndL g)) r) : r = -1 := by
 rcases h with ⟨h, _⟩ | ⟨_, h, _⟩
 ·exact h
 ·obtain ⟨rs, h5, _⟩ := ch_exact hv h
  obtain ⟨P, hP⟩ := hP
  have := plan_lack h5 P; omega
theorem rig_nd : rigidB RD (.agg ⟨iL (ndL g)⟩) = true := by
 show rigidB RD (.agg ⟨iL [needI g 0, needI g 1, needI g 2, needI g 3, needI g 4]⟩) = true
 rfl
theorem Valid.chk (hv : Valid g) : checkZ g = 0 := by
 unfold checkZ
 rw [if_neg (by have h1 : g.slots.length ≤ 12 := hv.ns; have h2 : g.buses.length ≤ 5 := hv.nb; omega), if_pos]
 simp only [Bool.and_eq_true, List.all_eq_true]
 exact ⟨hv.slot, hv.bus⟩
end
end Go.Proofs.Ythcdddbghldmiaa
