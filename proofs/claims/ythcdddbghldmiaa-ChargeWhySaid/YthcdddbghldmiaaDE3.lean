
import Derived.Test.YthcdddbghldmiaaDE2
namespace Go.Proofs.Ythcdddbghldmiaa
open Go Go.Lay
set_option linter.unusedVariables false
set_option linter.unusedSimpArgs false
set_option maxRecDepth 20000
set_option maxHeartbeats 1000000
theorem appT_busE : AppT Try.prog 23 23 52 9 := appT_of (by kernel_rfl)
theorem cells_busE (bs : List Bus) : (flat (bs.map busV)).all cellB = true := by
 rw [List.all_eq_true]
 intro v hv
 simp only [flat, List.mem_flatMap, List.mem_map] at hv
 obtain ⟨_, ⟨b, _, rfl⟩, hv⟩ := hv
 simp [Value.cells] at hv
 rcases hv with rfl | rfl | rfl | rfl | rfl | rfl | rfl | rfl | rfl <;> rfl
section
variable {σ τ : St} {g : Gar} {p q : Option Addr} {l c m d : Nat} {i : Int}
end
end Go.Proofs.Ythcdddbghldmiaa
