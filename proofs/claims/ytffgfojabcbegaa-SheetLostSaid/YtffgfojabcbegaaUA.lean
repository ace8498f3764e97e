
import Derived.Test.YtffgfojabcbegaaSD
import Derived.Sort.AssemblyPlain
namespace Go.Proofs.Ytffgfojabcbegaa
open Go Go.Lay
set_option linter.unusedVariables false
set_option linter.unusedSimpArgs false
set_option maxRecDepth 20000
open Go.Sort (swp)
def zDB (d : Array Rec) : List Value := d.toList.flatMap yH
theorem zDK : ∀ l : List Rec, (l.flatMap yH).length = l.length * 6
 | [] => rfl
 | x :: l => by rw [List.flatMap_cons, List.length_append, zDK l]; simp; omega
theorem zWJ (d : Array Rec) : (zDB d).length = d.size * 6 := by unfold zDB; rw [zDK]; simp
def Dt (σ : St) (b : Nat) (s : Option Nat) (d : Array Rec) : Prop := b < σ.next ∧ ∃ log nx, yJ σ.heap b = some (.cells (zDB d) 6 ((s.getD 0, d.size * 6) :: log) nx false)
section
variable {σ τ : St} {b : Nat} {s : Option Nat} {d d0 : Array Rec}
theorem Dt.le (h : Dt σ b s d) (k : Le σ τ) : Dt τ b s d := by
 obtain ⟨h1, log, nx, h2⟩ := h
 exact ⟨Nat.lt_of_lt_of_le h1 k.next, log, nx, by rw [k.get b h1]; exact h2⟩
theorem Dt.only {S : Nat → Prop} (h : Dt σ b s d) (k : Only S σ τ) (hs : ¬ S b) : Dt τ b s d := by
 obtain ⟨h1, log, nx, h2⟩ := h
 exact ⟨Nat.lt_of_lt_of_le h1 k.next, log, nx, by rw [k.get b h1 hs]; exact h2⟩
theorem zXZ : ∀ (l : List Rec) (i : Nat) (x : Rec), l[i]? = some x → ((l.flatMap yH).drop (i * 6)).take 6 = yH x
 | [], i, x, h => by simp at h
 | y :: l, 0, x, h => by
  cases h
  rw [List.flatMap_cons, Nat.zero_mul, List.drop_zero]
  exact List.take_left' rfl
 | y :: l, i + 1, x, h => by
  rw [List.flatMap_cons, Nat.add_mul, Nat.one_mul, Nat.add_comm (i * 6), ← List.drop_drop, show List.drop 6 (yH y ++ l.flatMap yH) = l.flatMap yH from rfl]
  exact zXZ l i x (by simpa using h)
theorem zTS : ∀ (l : List Rec) (i : Nat) (x : Rec), i < l.length → (l.flatMap yH).take (i * 6) ++ (yH x ++ (l.flatMap yH).drop (i * 6 + 6)) = (l.set i x).flatMap yH
 | [], i, x, h => by simp at h
 | y :: l, 0, x, h => by
  rw [List.set_cons_zero, List.flatMap_cons, List.flatMap_cons, Nat.zero_mul, List.take_zero, List.nil_append, Nat.zero_add, show List.drop 6 (yH y ++ l.flatMap yH) = l.flatMap yH from rfl]
 | y :: l, i + 1, x, h => by
  rw [List.set_cons_succ, List.flatMap_cons, List.flatMap_cons, ← zTS l i x (by simpa using h), show (i + 1) * 6 = 6 + i * 6 by omega, List.take_append, List.drop_append, show 6 + i * 6 + 6 - (yH y).length = i * 6 + 6 by simp; omega, show 6 + i * 6 - (yH y).length = i * 6 by simp]
  rw [List.take_of_length_le (by simp), List.drop_of_length_le (by simp), List.nil_append, List.append_assoc]
theorem getD_at {i : Nat} (h : i < d.size) : d.toList[i]? = some d[i]! := by
 rw [Array.getElem?_toList, getElem!_pos d i h, Array.getElem?_eq_getElem h]
theorem Dt.ld (h : Dt σ b s d) {i : Int} (h0 : 0 ≤ i) (hi : i < (d.size : Int)) : zD Try.prog σ 79 (zJ ⟨b, 0, s⟩ (Int.toNat i * 6)) = some (yP d[i.toNat]!) := by
 obtain ⟨h1, log, nx, h2⟩ := h
 have hlt : i.toNat < d.size := by omega
 have hr : yV σ ⟨b, 0 + i.toNat * 6, s⟩ 6 = some (yH d[i.toNat]!) := by
  have hle : Nat.ble (0 + i.toNat * 6 + 6) (d.size * 6) = true := (zR _ _).2 (by omega)
  unfold yV
  simp only [h2, yA, zAF, Nat.beq_refl, cond_true, hle]
  rw [Nat.zero_add]
  unfold zDB
  rw [zXZ _ _ _ (getD_at hlt)]
 have hR : Row σ ⟨b, 0 + i.toNat * 6, s⟩ (yH d[i.toNat]!) := ⟨hr, h1⟩
 exact hR.loadN (P := Try.prog) (t := 79) (k := 0) zDE xC rfl rfl (by simp)
theorem Dt.st (h : Dt σ b s d) {i : Int} (x : Rec) (h0 : 0 ≤ i) (hi : i < (d.size : Int)) :
  ∃ σ', zL Try.prog (evL [.pointer (some (zJ ⟨b, 0, s⟩ (Int.toNat i * 6))), yP x]) σ (.store 79 (.tmp 0) (.tmp 1)) = some (undef, σ') ∧ Dt σ' b s (d.setIfInBounds i.toNat x) ∧ Only (· = b) σ σ' ∧ σ'.low ≤ b := by
 obtain ⟨h1, log, nx, h2⟩ := h
 have hlt : i.toNat < d.size := by omega
 have hw : xM σ ⟨b, 0 + i.toNat * 6, s⟩ (yH x) = some (σ.put b (.cells (zDB (d.setIfInBounds i.toNat x)) 6 [(s.getD 0, d.size * 6)] nx false)) := by
  have e6 : (yH x).length = 6 := rfl
  have hc : (Nat.beq (s.getD 0) (s.getD 0) && Nat.ble (0 + i.toNat * 6 + 6) (d.size * 6) && !false && (yH x).all cellB) = true := by
   rw [Nat.beq_refl, (zR _ _).2 (show 0 + i.toNat * 6 + 6 ≤ d.size * 6 by omega)]; rfl
  unfold xM
  simp only [h2, yA, e6, hc, cond_true, zDA, St.write_eq]
  have e : (zDB d).take (0 + i.toNat * 6) ++ (yH x ++ (zDB d).drop (0 + i.toNat * 6 + 6)) = zDB (d.setIfInBounds i.toNat x) := by
   rw [Nat.zero_add]
   unfold zDB
   rw [Array.toList_setIfInBounds]
   exact zTS d.toList i.toNat x (by simpa using hlt)
  rw [e]
 refine ⟨σ.put b (.cells (zDB (d.setIfInBounds i.toNat x)) 6 [(s.getD 0, d.size * 6)] nx false), ?_, ⟨h1, [], nx, ?_⟩, Only.put (.inr rfl), by simp; omega⟩
 ·have e0 : zL Try.prog (evL [.pointer (some (zJ ⟨b, 0, s⟩ (Int.toNat i * 6))), yP x]) σ (.store 79 (.tmp 0) (.tmp 1)) = (xM σ ⟨b, 0 + i.toNat * 6, s⟩ (yH x)).map fun σ' => (undef, σ') := by
   have e1 : ∀ l : List Value, evL l (.tmp 0) = l.getD 0 undef := fun _ => rfl
   have e2 : ∀ l : List Value, evL l (.tmp 1) = l.getD 1 undef := fun _ => rfl
   have e3 : xI Try.prog 79 = some 6 := xC
   unfold zL
   simp only [e1, e2, List.getD_cons_zero, List.getD_cons_succ, zFR, e3]
   rfl
  rw [e0, hw]; rfl
 ·rw [St.put_get, if_pos rfl, Array.size_setIfInBounds]
end
end Go.Proofs.Ytffgfojabcbegaa
