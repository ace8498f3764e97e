
import Derived.Test.YtffgfojabcbegaaSD
import Derived.Sort.AssemblyPlain
namespace Go.Proofs.Ytffgfojabcbegaa
open Go Go.Lay
set_option linter.unusedVariables false
set_option linter.unusedSimpArgs false
set_option maxRecDepth 20000
open Go.Sort (swp)
def cellsD (d : Array Rec) : List Value := d.toList.flatMap recL
theorem recsL_len : ∀ l : List Rec, (l.flatMap recL).length = l.length * 6
 | [] => rfl
 | x :: l => by rw [List.flatMap_cons, List.length_append, recsL_len l]; simp; omega
theorem cellsD_len (d : Array Rec) : (cellsD d).length = d.size * 6 := by unfold cellsD; rw [recsL_len]; simp
def Dt (σ : St) (b : Nat) (s : Option Nat) (d : Array Rec) : Prop := b < σ.next ∧ ∃ log nx, getB σ.heap b = some (.cells (cellsD d) 6 ((s.getD 0, d.size * 6) :: log) nx false)
section
variable {σ τ : St} {b : Nat} {s : Option Nat} {d d0 : Array Rec}
theorem Dt.le (h : Dt σ b s d) (k : Le σ τ) : Dt τ b s d := by
 obtain ⟨h1, log, nx, h2⟩ := h
 exact ⟨Nat.lt_of_lt_of_le h1 k.next, log, nx, by rw [k.get b h1]; exact h2⟩
theorem Dt.only {S : Nat → Prop} (h : Dt σ b s d) (k : Only S σ τ) (hs : ¬ S b) : Dt τ b s d := by
 obtain ⟨h1, log, nx, h2⟩ := h
 exact ⟨Nat.lt_of_lt_of_le h1 k.next, log, nx, by rw [k.get b h1 hs]; exact h2⟩
theorem recs_drop : ∀ (l : List Rec) (i : Nat) (x : Rec), l[i]? = some x → ((l.flatMap recL).drop (i * 6)).take 6 = recL x
 | [], i, x, h => by simp at h
 | y :: l, 0, x, h => by
  cases h
  rw [List.flatMap_cons, Nat.zero_mul, List.drop_zero]
  exact List.take_left' rfl
 | y :: l, i + 1, x, h => by
  rw [List.flatMap_cons, Nat.add_mul, Nat.one_mul, Nat.add_comm (i * 6), ← List.drop_drop, show List.drop 6 (recL y ++ l.flatMap recL) = l.flatMap recL from rfl]
  exact recs_drop l i x (by simpa using h)
theorem recs_set : ∀ (l : List Rec) (i : Nat) (x : Rec), i < l.length → (l.flatMap recL).take (i * 6) ++ (recL x ++ (l.flatMap recL).drop (i * 6 + 6)) = (l.set i x).flatMap recL
 | [], i, x, h => by simp at h
 | y :: l, 0, x, h => by
  rw [List.set_cons_zero, List.flatMap_cons, List.flatMap_cons, Nat.zero_mul, List.take_zero, List.nil_append, Nat.zero_add, show List.drop 6 (recL y ++ l.flatMap recL) = l.flatMap recL from rfl]
 | y :: l, i + 1, x, h => by
  rw [List.set_cons_succ, List.flatMap_cons, List.flatMap_cons, ← recs_set l i x (by simpa using h), show (i + 1) * 6 = 6 + i * 6 by omega, List.take_append, List.drop_append, show 6 + i * 6 + 6 - (recL y).length = i * 6 + 6 by simp; omega, show 6 + i * 6 - (recL y).length = i * 6 by simp]
  rw [List.take_of_length_le (by simp), List.drop_of_length_le (by simp), List.nil_append, List.append_assoc]
theorem getD_at {i : Nat} (h : i < d.size) : d.toList[i]? = some d[i]! := by
 rw [Array.getElem?_toList, getElem!_pos d i h, Array.getElem?_eq_getElem h]
theorem Dt.ld (h : Dt σ b s d) {i : Int} (h0 : 0 ≤ i) (hi : i < (d.size : Int)) : loadA Try.prog σ 79 (aadd ⟨b, 0, s⟩ (Int.toNat i * 6)) = some (recV d[i.toNat]!) := by
 obtain ⟨h1, log, nx, h2⟩ := h
 have hlt : i.toNat < d.size := by omega
 have hr : readRow σ ⟨b, 0 + i.toNat * 6, s⟩ 6 = some (recL d[i.toNat]!) := by
  have hle : Nat.ble (0 + i.toNat * 6 + 6) (d.size * 6) = true := (ble_iff _ _).2 (by omega)
  unfold readRow
  simp only [h2, stampOf, extOf, Nat.beq_refl, cond_true, hle]
  rw [Nat.zero_add]
  unfold cellsD
  rw [recs_drop _ _ _ (getD_at hlt)]
 have hR : Row σ ⟨b, 0 + i.toNat * 6, s⟩ (recL d[i.toNat]!) := ⟨hr, h1⟩
 exact hR.loadN (P := Try.prog) (t := 79) (k := 0) agg79 size79 rfl rfl (by simp)
theorem Dt.st (h : Dt σ b s d) {i : Int} (x : Rec) (h0 : 0 ≤ i) (hi : i < (d.size : Int)) :
  ∃ σ', effOp Try.prog (evL [.pointer (some (aadd ⟨b, 0, s⟩ (Int.toNat i * 6))), recV x]) σ (.store 79 (.tmp 0) (.tmp 1)) = some (undef, σ') ∧ Dt σ' b s (d.setIfInBounds i.toNat x) ∧ Only (· = b) σ σ' ∧ σ'.low ≤ b := by
 obtain ⟨h1, log, nx, h2⟩ := h
 have hlt : i.toNat < d.size := by omega
 have hw : writeRow σ ⟨b, 0 + i.toNat * 6, s⟩ (recL x) = some (σ.put b (.cells (cellsD (d.setIfInBounds i.toNat x)) 6 [(s.getD 0, d.size * 6)] nx false)) := by
  have e6 : (recL x).length = 6 := rfl
  have hc : (Nat.beq (s.getD 0) (s.getD 0) && Nat.ble (0 + i.toNat * 6 + 6) (d.size * 6) && !false && (recL x).all cellB) = true := by
   rw [Nat.beq_refl, (ble_iff _ _).2 (show 0 + i.toNat * 6 + 6 ≤ d.size * 6 by omega)]; rfl
  unfold writeRow
  simp only [h2, stampOf, e6, hc, cond_true, fVs_eq, St.write_eq]
  have e : (cellsD d).take (0 + i.toNat * 6) ++ (recL x ++ (cellsD d).drop (0 + i.toNat * 6 + 6)) = cellsD (d.setIfInBounds i.toNat x) := by
   rw [Nat.zero_add]
   unfold cellsD
   rw [Array.toList_setIfInBounds]
   exact recs_set d.toList i.toNat x (by simpa using hlt)
  rw [e]
 refine ⟨σ.put b (.cells (cellsD (d.setIfInBounds i.toNat x)) 6 [(s.getD 0, d.size * 6)] nx false), ?_, ⟨h1, [], nx, ?_⟩, Only.put (.inr rfl), by simp; omega⟩
 ·have e0 : effOp Try.prog (evL [.pointer (some (aadd ⟨b, 0, s⟩ (Int.toNat i * 6))), recV x]) σ (.store 79 (.tmp 0) (.tmp 1)) = (writeRow σ ⟨b, 0 + i.toNat * 6, s⟩ (recL x)).map fun σ' => (undef, σ') := by
   have e1 : ∀ l : List Value, evL l (.tmp 0) = l.getD 0 undef := fun _ => rfl
   have e2 : ∀ l : List Value, evL l (.tmp 1) = l.getD 1 undef := fun _ => rfl
   have e3 : sizeT Try.prog 79 = some 6 := size79
   unfold effOp
   simp only [e1, e2, List.getD_cons_zero, List.getD_cons_succ, storeA, e3]
   rfl
  rw [e0, hw]; rfl
 ·rw [St.put_get, if_pos rfl, Array.size_setIfInBounds]
end
end Go.Proofs.Ytffgfojabcbegaa
