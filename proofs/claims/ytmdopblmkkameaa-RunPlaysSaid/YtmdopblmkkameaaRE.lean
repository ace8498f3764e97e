
import Derived.Test.YtmdopblmkkameaaRD
import Derived.Test.YtmdopblmkkameaaTy
namespace Go.Proofs.Ytmdopblmkkameaa
open Go Go.Lay
set_option linter.unusedVariables false
set_option linter.unusedSimpArgs false
set_option maxRecDepth 20000
section
variable {σ : St} {t : Tab} {pe pt : Option Addr} {le ce lt ct : Nat}
theorem slv_trip (h : TabP σ pe le pt lt t) {i : Nat} (hi : i < lt) : ∃ a, pt = some a ∧ ∃ x, t.trips[i]? = some x ∧ loadA Try.prog σ 79 (aadd a (Int.toNat (i : Int) * 6)) = some (tripV x) := slv_at h.tr hi
end
end Go.Proofs.Ytmdopblmkkameaa
