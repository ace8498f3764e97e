
import Derived.Test.YtgfiniccfpfplaaGreatRA
import Derived.Sort.AssemblyPlain
namespace Go.Proofs.YtgfiniccfpfplaaGreat
open Go Go.Lay
set_option linter.unusedVariables false
set_option linter.unusedSimpArgs false
set_option maxRecDepth 20000
open Go.Sort (swp)
def zDD (d : Array Rec) : List Value := d.toList.flatMap zDJ
theorem zRL : ∀ l : List Rec, (l.flatMap zDJ).length = l.length * 3
 | [] => rfl
 | x :: l => by rw [List.flatMap_cons, List.length_append, zRL l]; simp; omega
theorem zYN (d : Array Rec) : (zDD d).length = d.size * 3 := by unfold zDD; rw [zRL]; simp
def Dt (σ : St) (b : Nat) (s : Option Nat) (d : Array Rec) : Prop := b < σ.next ∧ ∃ log nx, yJ σ.heap b = some (.cells (zDD d) 3 ((s.getD 0, d.size * 3) :: log) nx false)
section
variable {σ τ : St} {b : Nat} {s : Option Nat} {d d0 : Array Rec}
theorem Dt.le (h : Dt σ b s d) (k : Le σ τ) : Dt τ b s d := by
 obtain ⟨h1, log, nx, h2⟩ := h
 exact ⟨Nat.lt_of_lt_of_le h1 k.next, log, nx, by rw [k.get b h1]; exact h2⟩
theorem Dt.only {S : Nat → Prop} (h : Dt σ b s d) (k : Only S σ τ) (hs : ¬ S b) : Dt τ b s d := by
 obtain ⟨h1, log, nx, h2⟩ := h
 exact ⟨Nat.lt_of_lt_of_le h1 k.next, log, nx, by rw [k.get b h1 hs]; exact h2⟩
theorem yAS : ∀ (l : List Rec) (i : Nat) (x : Rec), l[i]? = some x → ((l.flatMap zDJ).drop (i * 3)).take 3 = zDJ x
 | [], i, x, h => by simp at h
 | y :: l, 0, x, h => by
  cases h
  rw [List.flatMap_cons, Nat.zero_mul, List.drop_zero]
  exact List.take_left' rfl
 | y :: l, i + 1, x, h => by
  rw [List.flatMap_cons, Nat.add_mul, Nat.one_mul, Nat.add_comm (i * 3), ← List.drop_drop, show List.drop 3 (zDJ y ++ l.flatMap zDJ) = l.flatMap zDJ from rfl]
  exact yAS l i x (by simpa using h)
theorem yIW : ∀ (l : List Rec) (i : Nat) (x : Rec), i < l.length → (l.flatMap zDJ).take (i * 3) ++ (zDJ x ++ (l.flatMap zDJ).drop (i * 3 + 3)) = (l.set i x).flatMap zDJ
 | [], i, x, h => by simp at h
 | y :: l, 0, x, h => by
  rw [List.set_cons_zero, List.flatMap_cons, List.flatMap_cons, Nat.zero_mul, List.take_zero, List.nil_append, Nat.zero_add, show List.drop 3 (zDJ y ++ l.flatMap zDJ) = l.flatMap zDJ from rfl]
 | y :: l, i + 1, x, h => by
  rw [List.set_cons_succ, List.flatMap_cons, List.flatMap_cons, ← yIW l i x (by simpa using h), show (i + 1) * 3 = 3 + i * 3 by omega, List.take_append, List.drop_append, show 3 + i * 3 + 3 - (zDJ y).length = i * 3 + 3 by simp; omega, show 3 + i * 3 - (zDJ y).length = i * 3 by simp]
  rw [List.take_of_length_le (by simp), List.drop_of_length_le (by simp), List.nil_append, List.append_assoc]
theorem getD_at {i : Nat} (h : i < d.size) : d.toList[i]? = some d[i]! := by
 rw [Array.getElem?_toList, getElem!_pos d i h, Array.getElem?_eq_getElem h]
theorem Dt.ld (h : Dt σ b s d) {i : Int} (h0 : 0 ≤ i) (hi : i < (d.size : Int)) : zC Tryz.prog σ 45 (zK ⟨b, 0, s⟩ (Int.toNat i * 3)) = some (zHC d[i.toNat]!) := by
 obtain ⟨h1, log, nx, h2⟩ := h
 have hlt : i.toNat < d.size := by omega
 have hr : yP σ ⟨b, 0 + i.toNat * 3, s⟩ 3 = some (zDJ d[i.toNat]!) := by
  have hle : Nat.ble (0 + i.toNat * 3 + 3) (d.size * 3) = true := (zY _ _).2 (by omega)
  unfold yP
  simp only [h2, yD, uG, Nat.beq_refl, cond_true, hle]
  rw [Nat.zero_add]
  unfold zDD
  rw [yAS _ _ _ (getD_at hlt)]
 have hR : Row σ ⟨b, 0 + i.toNat * 3, s⟩ (zDJ d[i.toNat]!) := ⟨hr, h1⟩
 exact hR.loadN (P := Tryz.prog) (t := 45) (k := 0) agg45 yEM rfl rfl (by simp)
theorem Dt.st (h : Dt σ b s d) {i : Int} (x : Rec) (h0 : 0 ≤ i) (hi : i < (d.size : Int)) :
  ∃ σ', zQ Tryz.prog (evL [.pointer (some (zK ⟨b, 0, s⟩ (Int.toNat i * 3))), zHC x]) σ (.store 45 (.tmp 0) (.tmp 1)) = some (undef, σ') ∧ Dt σ' b s (d.setIfInBounds i.toNat x) ∧ Only (· = b) σ σ' ∧ σ'.low ≤ b := by
 obtain ⟨h1, log, nx, h2⟩ := h
 have hlt : i.toNat < d.size := by omega
 have hw : wX σ ⟨b, 0 + i.toNat * 3, s⟩ (zDJ x) = some (σ.put b (.cells (zDD (d.setIfInBounds i.toNat x)) 3 [(s.getD 0, d.size * 3)] nx false)) := by
  have e6 : (zDJ x).length = 3 := rfl
  have hc : (Nat.beq (s.getD 0) (s.getD 0) && Nat.ble (0 + i.toNat * 3 + 3) (d.size * 3) && !false && (zDJ x).all cellB) = true := by
   rw [Nat.beq_refl, (zY _ _).2 (show 0 + i.toNat * 3 + 3 ≤ d.size * 3 by omega)]; rfl
  unfold wX
  simp only [h2, yD, e6, hc, cond_true, zGV, St.write_eq]
  have e : (zDD d).take (0 + i.toNat * 3) ++ (zDJ x ++ (zDD d).drop (0 + i.toNat * 3 + 3)) = zDD (d.setIfInBounds i.toNat x) := by
   rw [Nat.zero_add]
   unfold zDD
   rw [Array.toList_setIfInBounds]
   exact yIW d.toList i.toNat x (by simpa using hlt)
  rw [e]
 refine ⟨σ.put b (.cells (zDD (d.setIfInBounds i.toNat x)) 3 [(s.getD 0, d.size * 3)] nx false), ?_, ⟨h1, [], nx, ?_⟩, Only.put (.inr rfl), by simp; omega⟩
 ·have e0 : zQ Tryz.prog (evL [.pointer (some (zK ⟨b, 0, s⟩ (Int.toNat i * 3))), zHC x]) σ (.store 45 (.tmp 0) (.tmp 1)) = (wX σ ⟨b, 0 + i.toNat * 3, s⟩ (zDJ x)).map fun σ' => (undef, σ') := by
   have e1 : ∀ l : List Value, evL l (.tmp 0) = l.getD 0 undef := fun _ => rfl
   have e2 : ∀ l : List Value, evL l (.tmp 1) = l.getD 1 undef := fun _ => rfl
   have e3 : yX Tryz.prog 45 = some 3 := yEM
   unfold zQ
   simp only [e1, e2, List.getD_cons_zero, List.getD_cons_succ, zJE, e3]
   rfl
  rw [e0, hw]; rfl
 ·rw [St.put_get, if_pos rfl, Array.size_setIfInBounds]
end
end Go.Proofs.YtgfiniccfpfplaaGreat
