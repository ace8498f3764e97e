import Derived.Test.YtmdopblmkkameaaRL
import Derived.Test.YtmdopblmkkameaaRU
import Derived.Test.YtmdopblmkkameaaTy

namespace Go.Proofs.Ytmdopblmkkameaa
open Go Go.Lay
set_option linter.unusedVariables false
set_option linter.unusedSimpArgs false
set_option maxRecDepth 20000
def tripAt (t : Tab) (i : Nat) : Trip := (t.trips[i]?).getD ⟨0, 0, 0, 0, 0, 0⟩
def onlyT (t : Tab) (ls : List Nat) : Tab := ⟨t.places, t.layover, t.empty, ls.map (tripAt t)⟩
section
variable {σ : St} {t : Tab} {pe pt : Option Addr} {le ce lt ct : Nat}
theorem allL_lt {kind : Int} {ws : List Int} {n i : Nat} (h : i ∈ zGD t kind ws n) : i < n ∧ aB t kind ws i = true := by simpa [zGD] using h
def Fw (t : Tab) (ws : List Int) (n : Nat) (k : Nat) (v : Int) : Prop := ∃ m : Nat, IsMax (zGD t k ws n).length (EdS (onlyT t (zGD t k ws n)) fun _ => true) m ∧ v = (((zGD t k ws n).length - m : Nat) : Int)
end
end Go.Proofs.Ytmdopblmkkameaa

namespace Go.Proofs.Ytmdopblmkkameaa
open Go Go.Lay
set_option linter.unusedVariables false
set_option linter.unusedSimpArgs false
set_option maxRecDepth 20000
section
variable {t : Tab} {ws : List Int}
end
section
variable {σ : St} {t : Tab} {pe pt : Option Addr} {le ce lt ct : Nat}
theorem aB_nil {i : Nat} : aB t (-1) [] i = true := rfl
theorem allL_nil {n : Nat} : (zGD t (-1) [] n).length = n := by
 have e : zGD t (-1) [] n = List.range n := List.filter_eq_self.2 (fun a _ => aB_nil)
 rw [e, List.length_range]
theorem ints_none : yU σ none 0 [] := ⟨SlP.nil _ _, rfl, by simp⟩
end
end Go.Proofs.Ytmdopblmkkameaa

namespace Go.Proofs.Ytmdopblmkkameaa
open Go Go.Lay
set_option linter.unusedVariables false
set_option linter.unusedSimpArgs false
set_option maxRecDepth 20000
section
variable {σ : St} {t : Tab} {pe pt : Option Addr} {le ce lt ct : Nat}
theorem allL_full {n : Nat} : zGD t (-1) [] n = List.range n := List.filter_eq_self.2 (fun a _ => aB_nil)
theorem buses_all (hnt : t.nt = lt) {m : Nat} (hm : IsMax lt (EdS t fun _ => true) m) : vR (xL t) (zGD t (-1) [] lt) (zGD t (-1) [] lt) (fun _ => false) = lt - m := by
 have e := fewN_eq (n := lt) (E := xL t) (ls := zGD t (-1) [] lt) (by rw [allL_full]; exact List.nodup_range) (fun x hx => by rw [allL_full] at hx; simpa using hx) hm (fun x y => by
  unfold EdS
  rw [allL_full]
  simp only [List.mem_range]
  exact ⟨fun h => ⟨h.1, by have := mayI_lt h.1; omega, by have := mayI_lt h.1; omega⟩, fun h => ⟨h.1, by simp⟩⟩)
 rw [e, allL_full, List.length_range]
end
end Go.Proofs.Ytmdopblmkkameaa
