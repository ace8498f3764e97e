
import Derived.Test.YtmdopblmkkameaaRK
import Derived.Test.YtmdopblmkkameaaPM
import Derived.Test.YtmdopblmkkameaaTy
namespace Go.Proofs.Ytmdopblmkkameaa
open Go Go.Lay
set_option linter.unusedVariables false
set_option linter.unusedSimpArgs false
set_option maxRecDepth 20000
section
variable {σ : St} {t : Tab} {pe pt : Option Addr} {le ce lt ct : Nat}
def kindB (t : Tab) (kind : Int) (i : Nat) : Bool := decide (kind < 0) || (match t.trips[i]? with | some x => decide (x.kind = kind) | none => false)
def aB (t : Tab) (kind : Int) (ws : List Int) (i : Nat) : Bool := kindB t kind i && ws.all fun w => decide (w ≠ (i : Int))
def allL (t : Tab) (kind : Int) (ws : List Int) (n : Nat) : List Nat := (List.range n).filter (aB t kind ws)
end
end Go.Proofs.Ytmdopblmkkameaa
