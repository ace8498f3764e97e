
import Derived.Test.YtmdopblmkkameaaRL
namespace Go.Proofs.Ytmdopblmkkameaa
open Go Go.Lay
set_option linter.unusedVariables false
set_option linter.unusedSimpArgs false
set_option maxRecDepth 20000
def tripAt (t : Tab) (i : Nat) : Trip := (t.trips[i]?).getD ⟨0, 0, 0, 0, 0, 0⟩
def onlyT (t : Tab) (ls : List Nat) : Tab := ⟨t.places, t.layover, t.empty, ls.map (tripAt t)⟩
section
variable {σ : St} {t : Tab} {pe pt : Option Addr} {le ce lt ct : Nat}
theorem allL_lt {kind : Int} {ws : List Int} {n i : Nat} (h : i ∈ allL t kind ws n) : i < n ∧ aB t kind ws i = true := by simpa [allL] using h
theorem allL_len {kind : Int} {ws : List Int} {n : Nat} : (allL t kind ws n).length ≤ n := by
 have := List.length_filter_le (aB t kind ws) (List.range n)
 rw [List.length_range] at this; exact this
def Fw (t : Tab) (ws : List Int) (n : Nat) (k : Nat) (v : Int) : Prop := ∃ m : Nat, IsMax (allL t k ws n).length (EdS (onlyT t (allL t k ws n)) fun _ => true) m ∧ v = (((allL t k ws n).length - m : Nat) : Int)
end
end Go.Proofs.Ytmdopblmkkameaa
