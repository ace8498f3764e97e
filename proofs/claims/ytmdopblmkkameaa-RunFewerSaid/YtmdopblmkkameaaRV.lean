import Derived.Test.YtmdopblmkkameaaRK
import Derived.Test.YtmdopblmkkameaaPO
import Derived.Test.YtmdopblmkkameaaTy
import Derived.Test.YtmdopblmkkameaaRQ

namespace Go.Proofs.Ytmdopblmkkameaa
open Go Go.Lay
set_option linter.unusedVariables false
set_option linter.unusedSimpArgs false
set_option maxRecDepth 20000
section
variable {σ : St} {t : Tab} {pe pt : Option Addr} {le ce lt ct : Nat}
def kindB (t : Tab) (kind : Int) (i : Nat) : Bool := decide (kind < 0) || (match t.trips[i]? with | some x => decide (x.kind = kind) | none => false)
def aB (t : Tab) (kind : Int) (ws : List Int) (i : Nat) : Bool := kindB t kind i && ws.all fun w => decide (w ≠ (i : Int))
def allL (t : Tab) (kind : Int) (ws : List Int) (n : Nat) : List Nat := (List.range n).filter (aB t kind ws)
end
end Go.Proofs.Ytmdopblmkkameaa

namespace Go.Proofs.Ytmdopblmkkameaa
open Go Go.Lay
set_option linter.unusedVariables false
set_option linter.unusedSimpArgs false
set_option maxRecDepth 20000
def tripAt (t : Tab) (i : Nat) : Trip := (t.trips[i]?).getD ⟨0, 0, 0, 0, 0, 0⟩
def onlyT (t : Tab) (ls : List Nat) : Tab := ⟨t.places, t.layover, t.empty, ls.map (tripAt t)⟩
section
variable {σ : St} {t : Tab} {pe pt : Option Addr} {le ce lt ct : Nat}
def Fw (t : Tab) (ws : List Int) (n : Nat) (k : Nat) (v : Int) : Prop := ∃ m : Nat, IsMax (allL t k ws n).length (EdS (onlyT t (allL t k ws n)) fun _ => true) m ∧ v = (((allL t k ws n).length - m : Nat) : Int)
end
end Go.Proofs.Ytmdopblmkkameaa

namespace Go.Proofs.Ytmdopblmkkameaa
open Go Go.Lay
set_option linter.unusedVariables false
set_option linter.unusedSimpArgs false
set_option maxRecDepth 20000
section
variable {σ : St} {t : Tab} {pe pt : Option Addr} {le ce lt ct : Nat}
theorem blkI_short {n : Nat} {nx bf : Nat → Int} (hv : Valid t) : ∀ r ∈ blkI t n nx bf, r.length ≤ 100000 := by
 intro r hr
 obtain ⟨l, hl, rfl⟩ := List.mem_map.1 hr
 obtain ⟨s, hs, rfl⟩ := List.mem_map.1 hl
 rw [natI_len]
 have h1 := ch_len nx (rkT t s + 1) s
 have h2 := rkT_le hv s
 unfold cq; omega
end
end Go.Proofs.Ytmdopblmkkameaa
