
import Derived.Test.YtmdopblmkkameaaRK
import Derived.Test.YtmdopblmkkameaaXO
namespace Go.Proofs.Ytmdopblmkkameaa
open Go Go.Lay
set_option linter.unusedVariables false
set_option linter.unusedSimpArgs false
set_option maxRecDepth 20000
def risF (n : Nat) : Int → List Int → Bool
 | _, [] => true
 | last, x :: xs => inB x (last + 1) ((n : Int) - 1) && risF n x xs
def pairC (t : Tab) (a b : List Int) (i k : Nat) : Bool := !mayI t i k || decide ((i : Int) ∈ a) || decide ((k : Int) ∈ b)
def covP (t : Tab) (a b : List Int) : Bool := (List.range t.nt).all fun i => (List.range t.nt).all fun k => pairC t a b i k
def covB (t : Tab) (a b : List Int) : Bool := risF t.nt (-1) a && risF t.nt (-1) b && covP t a b
theorem drop_at' {α : Type} {l : List α} {i : Nat} {x : α} (h : l[i]? = some x) : l.drop i = x :: l.drop (i + 1) := by
 obtain ⟨hi, e⟩ := List.getElem?_eq_some_iff.1 h
 rw [List.drop_eq_getElem_cons hi, e]
section
variable {σ : St} {t : Tab} {pe pt : Option Addr} {le ce lt ct : Nat}
end
end Go.Proofs.Ytmdopblmkkameaa
