
import Derived.Test.YthcdddbghldmiaaCR
namespace Go.Proofs.Ythcdddbghldmiaa
open Go Go.Lay
set_option linter.unusedVariables false
set_option linter.unusedSimpArgs false
set_option maxRecDepth 20000
def AreW (g : Gar) (ws us : List Int) : Prop := ws.length = g.nb ∧ us.length = g.ns ∧ ws.all (fun x => inB x (-100000) 100000) = true ∧ us.all (fun x => decide (0 ≤ x) && inB x (-100000) 100000) = true
section
variable {σ τ : St} {g : Gar} {p q wp up : Option Addr} {c d cw cu lw lu : Nat} {ws us : List Int}
theorem Bound1_c {x : Int} : CallsA Try.prog 63 [iV x] σ (.bool (inB x (-100000) 100000)) σ := (Bound1_ra within_c ⟨rfl, Nat.le_refl _⟩).pure
theorem Bound2_c {x : Int} {a : Nat} (ho : Own σ a [.func (.func 63) ⟨[]⟩ ⟨[]⟩] 1) : CallsA Try.prog 65 [iV x, .pointer (some ⟨a, 0, none⟩)] σ (.bool (decide (0 ≤ x) && inB x (-100000) 100000)) σ := by
 by_cases hx : 0 ≤ x
 ·have h : (decide (0 ≤ x) && inB x (-100000) 100000) = inB x (-100000) 100000 := by simp [hx]
  rw [h]
  exact (Bound2_ra (ho.re.ld rfl agg117 (k := 0) rfl) Bound1_c ⟨rfl, Nat.le_refl _⟩).pure
 ·have h : (decide (0 ≤ x) && inB x (-100000) 100000) = false := by simp [hx]
  rw [h]
  exact (Bound2_rb ⟨rfl, Nat.le_refl _⟩).pure
theorem getD_all {xs : List Int} {f : Int → Bool} (h : xs.all f = true) (h0 : f 0 = true) (i : Nat) : f (xs.getD i 0) = true := by
 rw [List.getD_eq_getElem?_getD]
 cases hx : xs[i]? with
 | none => exact h0
 | some x => exact List.all_eq_true.1 h x (List.mem_of_getElem? hx)
theorem Bound_c (hg : GarP σ p g.ns q g.nb g) (hw : IntsP σ wp lw ws) (hu : IntsP σ up lu us) (hlw : lw ≤ 1073741824) (hlu : lu ≤ 1073741824) : ∃ z e, CallsA Try.prog 39 [.agg ⟨garL p g.ns c q g.nb d⟩, .slice wp lw cw, .slice up lu cu] σ (.tuple ⟨[iV z, iV e]⟩) σ ∧
  ((checkZ g ≠ 0 ∧ z = 0 ∧ e = checkZ g) ∨ (Valid g ∧ ¬ AreW g ws us ∧ z = 0 ∧ e = 2) ∨ (Valid g ∧ AreW g ws us ∧ z = boundZ g (fun i => ws.getD i 0) (fun s => us.getD s 0) ∧ e = 0)) := by
 have hl1 := hw.len; have hl2 := hu.len
 have N1 : New σ.re (σ.re.row (garL p g.ns c q g.nb d) 2) := New.row _ _ _
 have c0 := check_c (c := c) (d := d) (hg.le ((le0 σ).trans N1.le))
 by_cases hz : checkZ g = 0
 rotate_left
 ·exact ⟨0, checkZ g, (Bound_ra c0 ⟨rfl, Nat.le_refl _⟩).pure, .inl ⟨hz, rfl, rfl⟩⟩
 have hv := valid_of hz
 rw [hz] at c0
 obtain ⟨τ, hτ⟩ : ∃ τ, τ = ((σ.re.row (garL p g.ns c q g.nb d) 2).row [.nilFunc] 1).own (σ.re.next + 1) [.func (.func 63) ⟨[]⟩ ⟨[]⟩] 1 := ⟨_, rfl⟩
 have N2 : New σ.re τ := by rw [hτ]; exact (N1.row').own (by omega)
 have lowτ : σ.next ≤ τ.low := N2.lw
 have oF : Own τ (σ.re.next + 1) [.func (.func 63) ⟨[]⟩ ⟨[]⟩] 1 := by rw [hτ]; exact Own.cp (σ.re.row (garL p g.ns c q g.nb d) 2) _ _ _
 have hle := (le0 σ).trans N2.le
 have w2 : IntsP τ wp lw ws := SlV.le hw hle
 have u2 : IntsP τ up lu us := SlV.le hu hle
 have ca := allI_c (cap := cw) (g := 63) (gc := []) (f := fun x => inB x (-100000) 100000) w2 hlw (fun x _ τ' _ => Bound1_c)
 have cb := allI_c (cap := cu) (g := 65) (gc := [.pointer (some ⟨σ.re.next + 1, 0, none⟩)]) (f := fun x => decide (0 ≤ x) && inB x (-100000) 100000) u2 hlu (fun x _ τ' h => Bound2_c (oF.le h))
 have no : ∀ (h : ¬ AreW g ws us), (CallsA Try.prog 39 [.agg ⟨garL p g.ns c q g.nb d⟩, .slice wp lw cw, .slice up lu cu] σ (.tuple ⟨[iV 0, iV 2]⟩) σ) → ∃ z e, CallsA Try.prog 39 [.agg ⟨garL p g.ns c q g.nb d⟩, .slice wp lw cw, .slice up lu cu] σ (.tuple ⟨[iV z, iV e]⟩) σ ∧
  ((checkZ g ≠ 0 ∧ z = 0 ∧ e = checkZ g) ∨ (Valid g ∧ ¬ AreW g ws us ∧ z = 0 ∧ e = 2) ∨ (Valid g ∧ AreW g ws us ∧ z = boundZ g (fun i => ws.getD i 0) (fun s => us.getD s 0) ∧ e = 0)) := fun h k => ⟨0, 2, k, .inr (.inl ⟨hv, h, rfl, rfl⟩)⟩
 rw [hτ] at lowτ
 by_cases h1 : lw = g.nb
 rotate_left
 ·exact no (fun h => h1 (hl1.symm.trans h.1)) (Bound_rb c0 ⟨rfl, lowτ⟩).pure
 by_cases h2 : lu = g.ns
 rotate_left
 ·exact no (fun h => h2 (hl2.symm.trans h.2.1)) (Bound_rc c0 ⟨rfl, lowτ⟩).pure
 cases h3 : ws.all (fun x => inB x (-100000) 100000) with
 | false =>
  rw [h3, hτ] at ca
  exact no (fun h => by have := h.2.2.1; rw [h3] at this; cases this) (Bound_rf c0 ca ⟨rfl, lowτ⟩).pure
 | true =>
  rw [h3, hτ] at ca
  cases h4 : us.all (fun x => decide (0 ≤ x) && inB x (-100000) 100000) with
  | false =>
   rw [h4, hτ] at cb
   exact no (fun h => by have := h.2.2.2; rw [h4] at this; cases this) (Bound_re c0 ca cb ⟨rfl, lowτ⟩).pure
  | true =>
   rw [h4, hτ] at cb
   subst h1 h2
   have hwb : ∀ i, -100000 ≤ ws.getD i 0 ∧ ws.getD i 0 ≤ 100000 := fun i => inB_iff.1 (getD_all h3 (by decide) i)
   have hub : ∀ i, 0 ≤ us.getD i 0 ∧ us.getD i 0 ≤ 100000 := fun i => by
    have := getD_all h4 (by decide) i
    simp only [Bool.and_eq_true, decide_eq_true_eq] at this
    exact ⟨this.1, (inB_iff.1 this.2).2⟩
   have cc := bound_c (c := c) (d := d) (cw := cw) (cu := cu) (hg.le hle) hv w2 u2 hwb hub
   rw [hτ] at cc
   exact ⟨_, _, (Bound_rd c0 ca cb cc ⟨rfl, lowτ⟩).pure, .inr (.inr ⟨hv, ⟨hl1, hl2, h3, h4⟩, rfl, rfl⟩)⟩
end
end Go.Proofs.Ythcdddbghldmiaa
