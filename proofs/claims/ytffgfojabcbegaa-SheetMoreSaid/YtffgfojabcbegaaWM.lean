
import Derived.Test.YtffgfojabcbegaaXS
import Derived.Test.YtffgfojabcbegaaLayD
namespace Go.Proofs.Ytffgfojabcbegaa
open Go Go.Lay
set_option linter.unusedVariables false
set_option maxRecDepth 20000
theorem yTR {q3 qA : Option Addr} {l3 c3 lA cA : Nat} {nK aS : Int} {σ : St} {Nx : Int → St → Prop} {Q2 : St → Prop} {Qr : Bool → St → Prop} {P4 : Bool → St → Prop} (hL : yGU q3 l3 c3 qA lA cA nK aS false 0 σ P4) (k4 : ∀ t28_3' σ', P4 t28_3' σ' → zNR q3 l3 c3 qA lA cA nK aS t28_3' σ' Nx Q2 Qr) (u1 : aS < ((l3 : Nat) : Int) := by omega) (u2 : nK = 0 := by omega) : zOP q3 l3 c3 qA lA cA nK aS σ Nx Q2 Qr :=
 body_at (cl := zUS) (l' := zHQ q3 l3 c3 qA lA cA nK aS false 0) (ms' := []) (altsL := [vP q3 l3 c3 qA lA cA nK aS P4]) (σ1 := σ) [1, 0, 0, 1, 0, 1, 0] [.g, .g, .g, .b true, .g, .g, .b true, .g, .g, .g] (by kernel_rfl)
  (fun g => kc (by kernel_rfl) (And.intro (zJ u1) (And.intro (yJ u2) (And.intro (And.intro (Eq.refl ([] : List Ans)) (Eq.refl σ)) (And.intro tt (And.intro (arf (zHQ q3 l3 c3 qA lA cA nK aS false 0)) (Eq.refl ([] : List Nat))))))))
  hL (And.intro (fun (t : Bool) (g' : Nat → Value) (σ' : St) (q : P4 t σ') => k4 t σ' q g') trivial)
end Go.Proofs.Ytffgfojabcbegaa
