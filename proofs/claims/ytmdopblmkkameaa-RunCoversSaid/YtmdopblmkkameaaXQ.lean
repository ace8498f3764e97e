
import Derived.Test.YtmdopblmkkameaaTy
namespace Go.Proofs.Ytmdopblmkkameaa
open Go Go.Lay
set_option linter.unusedVariables false
set_option maxRecDepth 20000
variable {zP zL : Int} {zE zT l : Option Addr} {zEl zEc zTl zTc l_l l_c : Nat} {b1 : Bool} {σ2 σ : St} {Q : Value → St → Prop}
theorem wrising_ra (h1 : zD Try.prog 54 [.slice l l_l l_c, .func (.func 85) ⟨[]⟩ ⟨[.pointer (some ⟨(σ.next + 1), 0, none⟩), .pointer (some ⟨σ.next, 0, none⟩)]⟩] (((σ.row (tQ zP zL zE zEl zEc zT zTl zTc) 4).row [iV 0] 1).own (σ.next + 1) [iV (-1)] 1) (.bool b1) σ2) (nx : Q (.bool b1) σ2) : zN Try.prog 70 [.agg ⟨tQ zP zL zE zEl zEc zT zTl zTc⟩, .slice l l_l l_c] σ Q :=
 zK [.g, .g, .g, .e undef (((σ.row (tQ zP zL zE zEl zEc zT zTl zTc) 4).row [iV 0] 1).own (σ.next + 1) [iV (-1)] 1), .g, .g, .c (.bool b1) σ2, .g] (kc (by kernel_rfl) (ai ((zC _ _ _).store (vs := [iV (-1)]) rfl size3 rfl (by first | (simp; done) | (simp; omega)) rfl : zX Try.prog (evL [.pointer (some ⟨(σ.next + 1), 0, none⟩), iV (-1)]) ((σ.row (tQ zP zL zE zEl zEc zT zTl zTc) 4).row [iV 0] 1) (.store 3 (.tmp 0) (.tmp 1)) = some (undef, (((σ.row (tQ zP zL zE zEl zEc zT zTl zTc) 4).row [iV 0] 1).own (σ.next + 1) [iV (-1)] 1))) (ai h1 nx)))
end Go.Proofs.Ytmdopblmkkameaa
