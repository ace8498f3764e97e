
import Derived.Test.YtmdopblmkkameaaPM
namespace Go.Proofs.Ytmdopblmkkameaa
set_option linter.unusedVariables false
def ch (nx : Nat → Int) : Nat → Nat → List Nat
 | 0, _ => []
 | f + 1, k => k :: if nx k = -1 then [] else ch nx f (nx k).toNat
structure Dn (n : Nat) (nx : Nat → Int) (rk : Nat → Nat) : Prop where
 dn : ∀ k, k < n → nx k ≠ -1 → ∃ k' : Nat, k' < n ∧ nx k = k' ∧ rk k' < rk k
section
variable {n : Nat} {nx bf : Nat → Int} {rk : Nat → Nat} {E : Nat → Nat → Prop}
def cq (nx : Nat → Int) (rk : Nat → Nat) (k : Nat) : List Nat := ch nx (rk k + 1) k
theorem ch_stable (h : Dn n nx rk) : ∀ (f k : Nat), k < n → rk k < f → ch nx f k = ch nx (f + 1) k := by
 intro f
 induction f with
 | zero => intro k _ h; omega
 | succ f ih =>
  intro k hk hf
  show k :: _ = k :: _
  congr 1
  by_cases e : nx k = -1
  ·rw [if_pos e, if_pos e]
  ·rw [if_neg e, if_neg e]
   obtain ⟨k', h1, h2, h3⟩ := h.dn k hk e
   rw [h2, Int.toNat_natCast]
   exact ih k' h1 (by omega)
theorem ch_ge (h : Dn n nx rk) (f k : Nat) (hk : k < n) : ∀ d, rk k < f → ch nx (f + d) k = ch nx f k := by
 intro d
 induction d with
 | zero => intro _; rfl
 | succ d ih => intro hf; rw [← ih hf, show f + (d + 1) = (f + d) + 1 from rfl, ← ch_stable h (f + d) k hk (by omega)]
theorem cq_eq (h : Dn n nx rk) {k : Nat} (hk : k < n) : cq nx rk k = k :: if nx k = -1 then [] else cq nx rk (nx k).toNat := by
 unfold cq
 show k :: _ = k :: _
 congr 1
 by_cases e : nx k = -1
 ·rw [if_pos e, if_pos e]
 ·rw [if_neg e, if_neg e]
  obtain ⟨k', h1, h2, h3⟩ := h.dn k hk e
  rw [h2, Int.toNat_natCast]
  have := ch_ge h (rk k' + 1) k' h1 (rk k - (rk k' + 1)) (by omega)
  rw [← this]
  congr 1; omega
def blk (n : Nat) (nx bf : Nat → Int) (rk : Nat → Nat) : List (List Nat) := ((List.range n).filter fun i => decide (bf i = -1)).map (cq nx rk)
theorem zFP {P : Nat → Bool} : ∀ {n : Nat}, ((List.range n).filter P).length = yR n P
 | 0 => rfl
 | n + 1 => by
  rw [List.range_succ, List.filter_append, List.length_append, zFP]
  show _ = yR n P + (P n).toNat
  cases h : P n <;> simp [h, List.filter]
theorem blk_cnt : (blk n nx bf rk).length = n - yR n (xM bf) := by
 unfold blk
 rw [List.length_map, zFP]
 have := zJJ (n := n) (P := xM bf)
 have e : yR n (fun k => !xM bf k) = yR n (fun i => decide (bf i = -1)) := xT fun k _ => by unfold xM; simp
 omega
end
end Go.Proofs.Ytmdopblmkkameaa
