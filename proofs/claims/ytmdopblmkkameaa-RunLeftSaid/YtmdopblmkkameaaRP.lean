
import Derived.Test.YtmdopblmkkameaaRK
import Derived.Test.YtmdopblmkkameaaPO
namespace Go.Proofs.Ytmdopblmkkameaa
open Go Go.Lay
set_option linter.unusedVariables false
set_option linter.unusedSimpArgs false
set_option maxRecDepth 20000
structure SeenD (N : Nat) (D : List Int) (seen : Nat → Bool) : Prop where
 at_ : ∀ k, k < N → seen k = decide ((k : Int) ∈ D)
 len : D.length = yR N seen
theorem SeenD.more {N : Nat} {D : List Int} {seen : Nat → Bool} (h : SeenD N D seen) {x : Nat} (hx : x < N) (hn : ¬ (x : Int) ∈ D) : SeenD N (D ++ [(x : Int)]) (fun j => if j = x then true else seen j) := by
 refine ⟨fun k hk => ?_, ?_⟩
 ·by_cases e : k = x
  ·subst e; simp
  ·rw [if_neg e, h.at_ k hk]
   refine decide_eq_decide.2 ?_
   simp; intro h'; omega
 ·have h0 : seen x = false := by rw [h.at_ x hx]; simpa using hn
  have h1 := zFC (m := N) (Q := fun j => if j = x then true else seen j) hx (by simp)
  have h2 : yR N (fun i => (if i = x then true else seen i) && !Nat.beq i x) = yR N seen := xT fun i hi => by
   by_cases e : i = x
   ·subst e; simp [h0]
   ·have : Nat.beq i x = false := by rw [Bool.eq_false_iff]; intro h'; exact e (Nat.eq_of_beq_eq_true h')
    rw [if_neg e, this]; simp
  rw [h2] at h1
  rw [List.length_append, h.len, h1]; rfl
theorem SeenD.le {N : Nat} {D : List Int} {seen : Nat → Bool} (h : SeenD N D seen) : D.length ≤ N := by
 rw [h.len]
 have := zJJ (n := N) (P := seen); omega
section
variable {σ : St} {t : Tab} {pe pt : Option Addr} {le ce lt ct : Nat}
end
end Go.Proofs.Ytmdopblmkkameaa
