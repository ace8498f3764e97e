import Derived.Test.YtgfiniccfpfplaaGreatRG
import Derived.Test.YtgfiniccfpfplaaGreatRH
import Derived.Test.YtgfiniccfpfplaaGreatXH
import Derived.Test.YtgfiniccfpfplaaGreatRA
import Derived.Sort.AssemblyPlain

namespace Go.Proofs.YtgfiniccfpfplaaGreat
open Go Go.Lay
set_option linter.unusedVariables false
set_option linter.unusedSimpArgs false
set_option maxRecDepth 20000
theorem yDK (xs : List Int) : ∀ (_ : IntKind), zAU (xs.map xH) = xs.map xH := by
 intro _
 induction xs with
 | nil => rfl
 | cons x xs ih => simp only [zAU, List.map_cons, List.flatMap_cons] at ih ⊢; rw [ih]; rfl
section
variable {σ : St}
theorem zXZ {p : Option Addr} {l c : Nat} {xs : List Int} (h : yS σ p l xs) (hl : l ≤ 1073741824) :
  ∃ p' c' σ', zE Tryz.prog 19 [.slice p l c] σ (.slice p' l c') σ' ∧ New σ σ' ∧ yS σ' p' l xs ∧ ∀ b, AtP p' b → σ.next ≤ b := by
 have hc : (zAU (xs.map xH)).all cellB = true := by rw [yDK xs .i64]; simp [List.all_eq_true]; intro a _; rfl
 have N1 : New σ.re (σ.re.row [] 1) := New.row _ _ _
 obtain ⟨p6, c6, s5, ap1, A6, O6, b6⟩ := Ax.append (P := Tryz.prog) (k := c) (n0 := σ.re.next) appT_ints (Ax.lit (len := 0) (zD σ.re [] 1) rfl ((xB 0).2 zDE) (Nat.le_refl _)) (SlV.le h ((le0 σ).trans N1.le)).1 (by omega) hc N1.nx
 rw [Nat.zero_add] at ap1 A6
 have N5 : New σ.re s5 := N1.of_only O6 (by rintro b ⟨a, e, rfl⟩; cases e; exact Nat.le_refl _)
 exact zL.newSl (list_ra ap1 ⟨N5, p6, c6, rfl, Ax.slv (by simpa using A6) (by simpa using h.2.1) h.2.2, fun b hb => (A6.bd b hb).1⟩)
section
variable {w : Wk} {p q r t : Option Addr} {l m c d rl rc tl tc : Nat} {rs ts : List Int}
theorem yAS (h : WkP σ 85 88 w p l q m) (hr : yS σ r rl rs) (hl : rl ≤ 1073741824) (hm : m ≤ 1073741824) : zE Tryz.prog 52 [.agg ⟨wkc w.days p l c q m d w.rest w.run w.hours⟩, .slice r rl rc] σ (.bool (zDD w rs)) σ := by
 have hn := h.len.1
 have hmm := h.len.2
 have el := hr.len
 by_cases hh : rl = l
 rotate_left
 ·have : zDD w rs = false := by unfold zDD; rw [decide_eq_false (by omega), Bool.and_false]
  rw [this]
  exact (yNX ⟨rfl, Nat.le_refl _⟩ (by omega)).pure
 have L1 : Le σ (σ.re.row (wkc w.days p l c q m d w.rest w.run w.hours) 6) := (le0 σ).trans (Le.row _ _ _)
 have hk0 := xQ σ.re (wkc w.days p l c q m d w.rest w.run w.hours) 6
 have ca := allI_c (cap := rc) (g := 73) (gc := [.pointer (some ⟨σ.re.next, 0, none⟩)]) (f := fun x => inB x (-1) ((w.drivers.length : Int) - 1)) (SlV.le hr L1) hl (fun x _ τ hτ => by
  have ld : zC Tryz.prog τ.re 32 (zK ⟨σ.re.next, 0, none⟩ 2) = some (.slice q m d) := ((hk0.le hτ).re).load1 zFI rfl
  rw [hmm]
  exact (yOS ld zHV ⟨rfl, Nat.le_refl _⟩ (by omega)).pure)
 have : zDD w rs = rs.all (fun x => inB x (-1) ((w.drivers.length : Int) - 1)) := by unfold zDD; rw [decide_eq_true (by omega), Bool.and_true]
 rw [this]
 exact (yNY ca ⟨rfl, Nat.le_refl _⟩ (by omega)).pure
end
end
end Go.Proofs.YtgfiniccfpfplaaGreat

namespace Go.Proofs.YtgfiniccfpfplaaGreat
open Go Go.Lay
set_option linter.unusedVariables false
set_option linter.unusedSimpArgs false
set_option maxRecDepth 20000
open Go.Sort (swp)
def zDF (d : Array Rec) : List Value := d.toList.flatMap zDO
theorem zRR : ∀ l : List Rec, (l.flatMap zDO).length = l.length * 3
 | [] => rfl
 | x :: l => by rw [List.flatMap_cons, List.length_append, zRR l]; simp; omega
theorem zZA (d : Array Rec) : (zDF d).length = d.size * 3 := by unfold zDF; rw [zRR]; simp
def Dt (σ : St) (b : Nat) (s : Option Nat) (d : Array Rec) : Prop := b < σ.next ∧ ∃ log nx, yJ σ.heap b = some (.cells (zDF d) 3 ((s.getD 0, d.size * 3) :: log) nx false)
section
variable {σ τ : St} {b : Nat} {s : Option Nat} {d d0 : Array Rec}
theorem Dt.le (h : Dt σ b s d) (k : Le σ τ) : Dt τ b s d := by
 obtain ⟨h1, log, nx, h2⟩ := h
 exact ⟨Nat.lt_of_lt_of_le h1 k.next, log, nx, by rw [k.get b h1]; exact h2⟩
theorem Dt.only {S : Nat → Prop} (h : Dt σ b s d) (k : Only S σ τ) (hs : ¬ S b) : Dt τ b s d := by
 obtain ⟨h1, log, nx, h2⟩ := h
 exact ⟨Nat.lt_of_lt_of_le h1 k.next, log, nx, by rw [k.get b h1 hs]; exact h2⟩
theorem yBA : ∀ (l : List Rec) (i : Nat) (x : Rec), l[i]? = some x → ((l.flatMap zDO).drop (i * 3)).take 3 = zDO x
 | [], i, x, h => by simp at h
 | y :: l, 0, x, h => by
  cases h
  rw [List.flatMap_cons, Nat.zero_mul, List.drop_zero]
  exact List.take_left' rfl
 | y :: l, i + 1, x, h => by
  rw [List.flatMap_cons, Nat.add_mul, Nat.one_mul, Nat.add_comm (i * 3), ← List.drop_drop, show List.drop 3 (zDO y ++ l.flatMap zDO) = l.flatMap zDO from rfl]
  exact yBA l i x (by simpa using h)
theorem yJG : ∀ (l : List Rec) (i : Nat) (x : Rec), i < l.length → (l.flatMap zDO).take (i * 3) ++ (zDO x ++ (l.flatMap zDO).drop (i * 3 + 3)) = (l.set i x).flatMap zDO
 | [], i, x, h => by simp at h
 | y :: l, 0, x, h => by
  rw [List.set_cons_zero, List.flatMap_cons, List.flatMap_cons, Nat.zero_mul, List.take_zero, List.nil_append, Nat.zero_add, show List.drop 3 (zDO y ++ l.flatMap zDO) = l.flatMap zDO from rfl]
 | y :: l, i + 1, x, h => by
  rw [List.set_cons_succ, List.flatMap_cons, List.flatMap_cons, ← yJG l i x (by simpa using h), show (i + 1) * 3 = 3 + i * 3 by omega, List.take_append, List.drop_append, show 3 + i * 3 + 3 - (zDO y).length = i * 3 + 3 by simp; omega, show 3 + i * 3 - (zDO y).length = i * 3 by simp]
  rw [List.take_of_length_le (by simp), List.drop_of_length_le (by simp), List.nil_append, List.append_assoc]
theorem getD_at {i : Nat} (h : i < d.size) : d.toList[i]? = some d[i]! := by
 rw [Array.getElem?_toList, getElem!_pos d i h, Array.getElem?_eq_getElem h]
theorem Dt.ld (h : Dt σ b s d) {i : Int} (h0 : 0 ≤ i) (hi : i < (d.size : Int)) : zC Tryz.prog σ 45 (zK ⟨b, 0, s⟩ (Int.toNat i * 3)) = some (zHH d[i.toNat]!) := by
 obtain ⟨h1, log, nx, h2⟩ := h
 have hlt : i.toNat < d.size := by omega
 have hr : yP σ ⟨b, 0 + i.toNat * 3, s⟩ 3 = some (zDO d[i.toNat]!) := by
  have hle : Nat.ble (0 + i.toNat * 3 + 3) (d.size * 3) = true := (zX _ _).2 (by omega)
  unfold yP
  simp only [h2, yC, uF, Nat.beq_refl, cond_true, hle]
  rw [Nat.zero_add]
  unfold zDF
  rw [yBA _ _ _ (getD_at hlt)]
 have hR : Row σ ⟨b, 0 + i.toNat * 3, s⟩ (zDO d[i.toNat]!) := ⟨hr, h1⟩
 exact hR.loadN (P := Tryz.prog) (t := 45) (k := 0) agg45 yEU rfl rfl (by simp)
theorem Dt.st (h : Dt σ b s d) {i : Int} (x : Rec) (h0 : 0 ≤ i) (hi : i < (d.size : Int)) :
  ∃ σ', zQ Tryz.prog (evL [.pointer (some (zK ⟨b, 0, s⟩ (Int.toNat i * 3))), zHH x]) σ (.store 45 (.tmp 0) (.tmp 1)) = some (undef, σ') ∧ Dt σ' b s (d.setIfInBounds i.toNat x) ∧ Only (· = b) σ σ' ∧ σ'.low ≤ b := by
 obtain ⟨h1, log, nx, h2⟩ := h
 have hlt : i.toNat < d.size := by omega
 have hw : wV σ ⟨b, 0 + i.toNat * 3, s⟩ (zDO x) = some (σ.put b (.cells (zDF (d.setIfInBounds i.toNat x)) 3 [(s.getD 0, d.size * 3)] nx false)) := by
  have e6 : (zDO x).length = 3 := rfl
  have hc : (Nat.beq (s.getD 0) (s.getD 0) && Nat.ble (0 + i.toNat * 3 + 3) (d.size * 3) && !false && (zDO x).all cellB) = true := by
   rw [Nat.beq_refl, (zX _ _).2 (show 0 + i.toNat * 3 + 3 ≤ d.size * 3 by omega)]; rfl
  unfold wV
  simp only [h2, yC, e6, hc, cond_true, zHA, St.write_eq]
  have e : (zDF d).take (0 + i.toNat * 3) ++ (zDO x ++ (zDF d).drop (0 + i.toNat * 3 + 3)) = zDF (d.setIfInBounds i.toNat x) := by
   rw [Nat.zero_add]
   unfold zDF
   rw [Array.toList_setIfInBounds]
   exact yJG d.toList i.toNat x (by simpa using hlt)
  rw [e]
 refine ⟨σ.put b (.cells (zDF (d.setIfInBounds i.toNat x)) 3 [(s.getD 0, d.size * 3)] nx false), ?_, ⟨h1, [], nx, ?_⟩, Only.put (.inr rfl), by simp; omega⟩
 ·have e0 : zQ Tryz.prog (evL [.pointer (some (zK ⟨b, 0, s⟩ (Int.toNat i * 3))), zHH x]) σ (.store 45 (.tmp 0) (.tmp 1)) = (wV σ ⟨b, 0 + i.toNat * 3, s⟩ (zDO x)).map fun σ' => (undef, σ') := by
   have e1 : ∀ l : List Value, evL l (.tmp 0) = l.getD 0 undef := fun _ => rfl
   have e2 : ∀ l : List Value, evL l (.tmp 1) = l.getD 1 undef := fun _ => rfl
   have e3 : yW Tryz.prog 45 = some 3 := yEU
   unfold zQ
   simp only [e1, e2, List.getD_cons_zero, List.getD_cons_succ, zJK, e3]
   rfl
  rw [e0, hw]; rfl
 ·rw [St.put_get, if_pos rfl, Array.size_setIfInBounds]
end
end Go.Proofs.YtgfiniccfpfplaaGreat
