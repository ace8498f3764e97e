
import Derived.Test.YtmdopblmkkameaaRQ
import Derived.Test.YtmdopblmkkameaaTy
import Derived.Test.YtmdopblmkkameaaPM
import Derived.Test.YtmdopblmkkameaaRN
namespace Go.Proofs.Ytmdopblmkkameaa
open Go Go.Lay
set_option linter.unusedVariables false
set_option linter.unusedSimpArgs false
set_option maxRecDepth 20000
section
variable {σ : St} {t : Tab} {pe pt : Option Addr} {le ce lt ct : Nat}
theorem blkI_short {n : Nat} {nx bf : Nat → Int} (hv : Valid t) : ∀ r ∈ blkI t n nx bf, r.length ≤ 100000 := by
 intro r hr
 obtain ⟨l, hl, rfl⟩ := List.mem_map.1 hr
 obtain ⟨s, hs, rfl⟩ := List.mem_map.1 hl
 rw [natI_len]
 have h1 := ch_len nx (rkT t s + 1) s
 have h2 := rkT_le hv s
 unfold cq; omega
end
end Go.Proofs.Ytmdopblmkkameaa
