
import Derived.Test.YtmdopblmkkameaaRD
import Derived.Test.YtmdopblmkkameaaTy
namespace Go.Proofs.Ytmdopblmkkameaa
open Go Go.Lay
set_option linter.unusedVariables false
set_option linter.unusedSimpArgs false
set_option maxRecDepth 20000
section
variable {σ : St}
def boolL (n : Nat) (f : Nat → Bool) : List Value := (List.range n).map fun k => .bool (f k)
theorem boolL_len {n : Nat} {f : Nat → Bool} : (boolL n f).length = n := by simp [boolL]
theorem boolL_get {n k : Nat} {f : Nat → Bool} (h : k < n) : (boolL n f)[k]? = some (.bool (f k)) := by simp [boolL, h]
theorem boolL_set {n k : Nat} {f : Nat → Bool} {b : Bool} (h : k < n) : (boolL n f).set k (.bool b) = boolL n fun j => if j = k then b else f j := by
 apply List.ext_getElem?
 intro i
 rw [List.getElem?_set]
 by_cases e : k = i
 ·subst e; simp [boolL, h]
 ·rw [if_neg e]
  by_cases hi : i < n
  ·rw [boolL_get hi, boolL_get hi, if_neg (fun x => e x.symm)]
  ·rw [List.getElem?_eq_none (by rw [boolL_len]; omega), List.getElem?_eq_none (by rw [boolL_len]; omega)]
theorem own_stB {P : Program} {b n i : Nat} {f : Nat → Bool} {v : Bool} {t : TypeId} (h : Own σ b (boolL n f) 1) (hs : sizeT P t = some 1) (hi : i < n) :
  effOp P (evL [.pointer (some (aadd ⟨b, 0, none⟩ (Int.toNat (i : Int) * 1))), .bool v]) σ (.store t (.tmp 0) (.tmp 1)) = some (undef, σ.own b (boolL n fun j => if j = i then v else f j) 1) := by
 have := h.stI (P := P) (t := t) (v := .bool v) (i := i) rfl hs rfl (by rw [boolL_len]; exact hi)
 rw [boolL_set hi] at this; exact this
theorem own_ldB {P : Program} {b n i : Nat} {f : Nat → Bool} {t : TypeId} (h : Own σ b (boolL n f) 1) (ht : aggT P t = some false) (hi : i < n) : loadA P σ t (aadd ⟨b, 0, none⟩ (Int.toNat (i : Int) * 1)) = some (.bool (f i)) := by
 have := h.ldI (P := P) (t := t) (i := i) ht (boolL_get hi); simpa [aadd] using this
end
end Go.Proofs.Ytmdopblmkkameaa
