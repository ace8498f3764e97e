
import Derived.Test.YtffgfojabcbegaaUJ
import Derived.Test.YtffgfojabcbegaaSF
import Derived.Test.YtffgfojabcbegaaXH
namespace Go.Proofs.Ytffgfojabcbegaa
open Go Go.Lay
set_option linter.unusedVariables false
set_option linter.unusedSimpArgs false
set_option maxRecDepth 20000
open Go.Sort (swp PermIn SortedIn Below SWO)
def yHH (x y : Rec) : Bool := decide (xJ x y)
theorem swo_key : SWO yHH := by
 refine ⟨fun x => ?_, fun x y z h1 h2 => ?_, fun x y z h1 h2 => ?_⟩
 ·simp [yHH, xJ.irr]
 ·simp only [yHH, decide_eq_true_eq] at *
  exact h1.trans h2
 ·simp only [yHH, decide_eq_false_iff_not] at *
  unfold xJ at *
  omega
section
variable {σ : St}
theorem cmpOr_c {x y : Int} {b c : Nat} (o : Own σ b [iV x, iV y] 1) : zG Try.prog 64 [.slice (some ⟨b, 0, none⟩) 2 c] σ (iV (if x = 0 then y else x)) σ := by
 have h0 := o.re
 have l0 := h0.ldI (P := Try.prog) (t := 3) (i := 0) (v := iV x) zP rfl
 have l1 := h0.ldI (P := Try.prog) (t := 3) (i := 1) (v := iV y) zP rfl
 refine zO.pure (cmpOr_ra (Pr := fun n τ => τ = σ.re ∧ n = if x = 0 then y else x) (P0 := fun τ => τ = σ.re ∧ x = 0 ∧ y = 0)
  (yIQ (Inv := fun k i τ => τ = σ.re ∧ ((i = 0 ∧ k = 2) ∨ (i = 1 ∧ k = 1 ∧ x = 0) ∨ (i = 2 ∧ x = 0 ∧ y = 0))) ?_ 2 0 σ.re ⟨rfl, .inl ⟨rfl, rfl⟩⟩)
  (fun n τ h => yIO ⟨by rw [h.2], by rw [h.1]; exact Nat.le_refl _⟩) (fun τ h => yIP ⟨by simp [h.2.1, h.2.2], by rw [h.1]; exact Nat.le_refl _⟩))
 rintro k i τ ⟨rfl, ⟨rfl, rfl⟩ | ⟨rfl, rfl, hx⟩ | ⟨rfl, hx, hy⟩⟩
 ·by_cases hx : x = 0
  ·exact yAL l0 ⟨1, by omega, rfl, .inr (.inl ⟨rfl, rfl, hx⟩)⟩
  ·exact yAM l0 ⟨rfl, by rw [if_neg hx]⟩
 ·by_cases hy : y = 0
  ·exact yAL l1 ⟨0, by omega, rfl, .inr (.inr ⟨rfl, hx, hy⟩)⟩
  ·exact yAM l1 ⟨rfl, by rw [if_pos hx]⟩
 ·exact yVQ ⟨rfl, hx, hy⟩
theorem cmp_key : Cmp 63 [] yHH fun x => yL x = true := by
 intro τ x y hx hy
 have bx := zFV hx
 have bY := zFV hy
 refine ⟨if x.m - y.m = 0 then x.s - y.s else x.m - y.m, ?_, ?_⟩
 ·have N : New τ.re (((τ.re.row (yH x) 6).row (yH y) 6).row [iV (x.m - y.m), iV (x.s - y.s)] 1) := ((New.row _ _ _).row').row'
  exact zO.pure (cmpF_ra (cmpOr_c (zE _ _ _)) ⟨rfl, N.lw⟩ (by omega) (by omega))
 ·simp only [yHH, decide_eq_true_eq]
  by_cases h : x.m - y.m = 0
  ·rw [if_pos h]
   constructor
   ·intro h1; exact .inr ⟨by omega, by omega⟩
   ·rintro (h1 | ⟨h1, h2⟩) <;> omega
  ·rw [if_neg h]
   constructor
   ·intro h1; exact .inl (by omega)
   ·rintro (h1 | ⟨h1, h2⟩) <;> omega
abbrev keyV (k : Int × Int) : Value := .agg ⟨[iV k.1, iV k.2]⟩
theorem yMW : KeyT Try.prog 110 keyV := by
 refine ⟨fun a b => ?_, fun e a => ?_, fun a => ?_⟩
 ·have h := pv_rec (P := Try.prog) (t := 110) (n := 2) (d := 9998) (by kernel_rfl) («as» := [a.1, a.2]) (bs := [b.1, b.2]) rfl rfl
  have e : decide (a = b) = decide ([a.1, a.2] = [b.1, b.2]) := decide_eq_decide.2 ⟨fun h => by rw [h], fun h => by simp at h; exact Prod.ext h.1 h.2⟩
  rw [e]; exact h
 ·have : ∀ (e : Bool) (x y : Int), zKB Try.prog e 110 (.agg ⟨[iV x, iV y]⟩) = true := fun e x y => by kernel_rfl
  exact this e a.1 a.2
 ·have : ∀ (n : Nat) (x y : Int), Instr.sameBits (n + 2) (.agg ⟨[iV x, iV y]⟩) (.agg ⟨[iV x, iV y]⟩) = true := fun n x y => by simp [Instr.sameBits]
  exact this 9998 _ _
theorem mapW : zFZ Try.prog 107 = some (110, 79) := by kernel_rfl
theorem yWM : zCU Try.prog 79 = some (yP ⟨0, 0, 0, 0, 0, 0⟩) := by kernel_rfl
def zKC (out : List Rec) (k : Int × Int) : Option Rec := out.find? fun x => decide ((x.m, x.s) = k)
theorem yNJ {out : List Rec} {k : Int × Int} {x : Rec} (h : zKC out k = some x) : x ∈ out ∧ (x.m, x.s) = k := by
 have h1 := List.find?_some h
 exact ⟨List.mem_of_find?_eq_some h, by simpa using h1⟩
theorem yNL {out : List Rec} {k : Int × Int} (h : zKC out k = none) : ∀ x ∈ out, (x.m, x.s) ≠ k := by
 intro x hx e
 have := List.find?_eq_none.1 h x hx
 simp [e] at this
theorem yNK {out : List Rec} {k : Int × Int} {x : Rec} (h : zKC out (x.m, x.s) = none) : zKC (out ++ [x]) k = if k = (x.m, x.s) then some x else zKC out k := by
 unfold zKC at h ⊢
 rw [List.find?_append]
 by_cases hk : k = (x.m, x.s)
 ·subst hk
  rw [if_pos rfl, h]; simp
 ·rw [if_neg hk]
  have : [x].find? (fun y => decide ((y.m, y.s) = k)) = none := by
   have h2 : ¬ (x.m, x.s) = k := fun e => hk e.symm
   simp [List.find?_cons, h2]
  rw [this]; simp
theorem zXC {d d' : Array Rec} (hp : PermIn 0 d.size d d') (hs : SortedIn yHH 0 d.size d') (hk : d.toList.Pairwise fun x y => ¬ zGT x y) : Srt d'.toList ∧ d'.toList.Perm d.toList := by
 have hsz := hp.1
 have hperm : d'.toList.Perm d.toList := by
  have h3 := hp.2.2
  have e1 : (d'.extract 0 d.size).toList = d'.toList := by rw [← hsz]; simp
  have e2 : (d.extract 0 d.size).toList = d.toList := by simp
  rw [e1, e2] at h3
  exact h3
 have hk' : d'.toList.Pairwise fun x y => ¬ zGT x y := (hperm.symm.pairwise_iff (fun {x y} h e => h ⟨e.1.symm, e.2.symm⟩)).1 hk
 refine ⟨yXJ fun i x y hx hy => ?_, hperm⟩
 obtain ⟨h1, e1⟩ := List.getElem?_eq_some_iff.1 hx
 obtain ⟨h2, e2⟩ := List.getElem?_eq_some_iff.1 hy
 have hlen : d'.toList.length = d'.size := by simp
 have n1 : ¬ xJ y x := by
  have := hs i (i + 1) (Nat.zero_le _) (by omega) (by omega)
  rw [getElem!_pos d' (i + 1) (by omega), getElem!_pos d' i (by omega)] at this
  rw [Array.getElem_toList] at e1 e2
  rw [e1, e2] at this
  simpa [yHH] using this
 have n2 : ¬ zGT x y := by
  have := List.pairwise_iff_getElem.1 hk' i (i + 1) h1 h2 (by omega)
  rw [e1, e2] at this
  exact this
 rcases yDG x y with h | h | h
 ·exact h
 ·exact absurd h n2
 ·exact absurd h n1
end
end Go.Proofs.Ytffgfojabcbegaa
