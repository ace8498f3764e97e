
import Derived.Test.YthcdddbghldmiaaCN
namespace Go.Proofs.Ythcdddbghldmiaa
open Go Go.Lay
set_option linter.unusedVariables false
set_option linter.unusedSimpArgs false
set_option maxRecDepth 20000
section
variable {σ τ : St} {w : Nat} {g : Gar} {W : Wk} {p q pp : Option Addr} {c d cp : Nat} {B : Nat → Nat}
theorem belowB_gar {n l m : Nat} (h1 : ∀ a, p = some a → a.block < n) (h2 : ∀ a, q = some a → a.block < n) : belowB RD n (.agg ⟨[.slice p l c, .slice q m d]⟩) = true := by
 cases p with
 | none => cases q with
  | none => rfl
  | some b => show (true && (Nat.blt b.block n && true)) = true; rw [(blt_iff _ _).2 (h2 b rfl)]; rfl
 | some a => cases q with
  | none => show (Nat.blt a.block n && (true && true)) = true; rw [(blt_iff _ _).2 (h1 a rfl)]; rfl
  | some b => show (Nat.blt a.block n && (Nat.blt b.block n && true)) = true; rw [(blt_iff _ _).2 (h1 a rfl), (blt_iff _ _).2 (h2 b rfl)]; rfl
end
end Go.Proofs.Ythcdddbghldmiaa
