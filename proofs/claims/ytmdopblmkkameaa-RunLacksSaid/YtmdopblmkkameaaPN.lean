
import Derived.Test.YtmdopblmkkameaaPM
namespace Go.Proofs.Ytmdopblmkkameaa
set_option linter.unusedVariables false
def ch (nx : Nat → Int) : Nat → Nat → List Nat
 | 0, _ => []
 | f + 1, k => k :: if nx k = -1 then [] else ch nx f (nx k).toNat
section
variable {n : Nat} {nx bf : Nat → Int} {rk : Nat → Nat} {E : Nat → Nat → Prop}
def cq (nx : Nat → Int) (rk : Nat → Nat) (k : Nat) : List Nat := ch nx (rk k + 1) k
def blk (n : Nat) (nx bf : Nat → Int) (rk : Nat → Nat) : List (List Nat) := ((List.range n).filter fun i => decide (bf i = -1)).map (cq nx rk)
theorem cntN_filter {P : Nat → Bool} : ∀ {n : Nat}, ((List.range n).filter P).length = yW n P
 | 0 => rfl
 | n + 1 => by
  rw [List.range_succ, List.filter_append, List.length_append, cntN_filter]
  show _ = yW n P + (P n).toNat
  cases h : P n <;> simp [h, List.filter]
end
end Go.Proofs.Ytmdopblmkkameaa
