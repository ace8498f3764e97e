
import Derived.Test.YthcdddbghldmiaaCU
namespace Go.Proofs.Ythcdddbghldmiaa
open Go Go.Lay
set_option linter.unusedVariables false
set_option linter.unusedSimpArgs false
set_option maxRecDepth 20000
section
variable {σ τ : St} {g : Gar} {p q pp : Option Addr} {l c m d n lp : Nat} {rs : List (List Int)} {vs : List Value}
theorem Valid.check (h : Valid g) : checkZ g = 0 := by
 have h1 := h.ns; have h2 := h.nb
 have h3 : g.slots.all slotB = true := List.all_eq_true.2 h.slot
 have h4 : g.buses.all busB = true := List.all_eq_true.2 h.bus
 unfold checkZ
 rw [if_neg (by show ¬ (12 < g.ns ∨ 5 < g.nb); omega), h3, h4]; rfl
theorem RowsP.lt (h : RowsP σ p l rs) : ∀ a, p = some a → a.block < σ.next := by
 obtain ⟨vs, h1, _⟩ := h
 exact slv_lt h1
theorem GarP.lta (h : GarP σ p l q m g) : ∀ a, p = some a → a.block < σ.next := slv_lt h.sl
theorem GarP.ltb (h : GarP σ p l q m g) : ∀ a, q = some a → a.block < σ.next := slv_lt h.bu
theorem RefP.lta (h : RefP σ p l q m g) : ∀ a, p = some a → a.block < σ.next := slv_lt h.sl
theorem RefP.ltb (h : RefP σ p l q m g) : ∀ a, q = some a → a.block < σ.next := slv_lt h.bu
theorem SLT (h : ∀ a, p = some a → a.block < n := by
  first
  | assumption
  | (intro a e; first
   | exact Nat.lt_of_lt_of_le (slv_lt (by assumption) a e) (by omega)
   | exact Nat.lt_of_lt_of_le (RowsP.lt (by assumption) a e) (by omega)
   | exact Nat.lt_of_lt_of_le (GarP.lta (by assumption) a e) (by omega)
   | exact Nat.lt_of_lt_of_le (GarP.ltb (by assumption) a e) (by omega)
   | exact Nat.lt_of_lt_of_le (RefP.lta (by assumption) a e) (by omega)
   | exact Nat.lt_of_lt_of_le (RefP.ltb (by assumption) a e) (by omega))) : ∀ a, p = some a → a.block < n := h
theorem BS (h : belowL n vs := by
  (repeat' (first | exact belowL_nil | refine belowL_cons ?_ ?_)) <;>
  (first | exact belowB_rig rfl | exact belowB_ptr LT | exact belowB_sl1 LT | exact belowB_sl SLT | exact belowB_gar SLT SLT)) : belowL n vs := h
theorem truth_c {lh ch lu cu : Nat} {ph pu : Option Addr} {hs us : List Int} (hh : IntsP σ ph lh hs) (hu : IntsP σ pu lu us) (h1 : lh ≤ 1073741824) (h2 : lu ≤ 1073741824) :
  ∃ p6 c6 p7 c7 σ', CallsA Try.prog 35 [.agg ⟨[.slice ph lh ch, .slice pu lu cu]⟩] σ (.agg ⟨[.slice p6 lh c6, .slice p7 lu c7]⟩) σ' ∧ New σ σ' ∧ IntsP σ' p6 lh hs ∧ IntsP σ' p7 lu us := by
 suffices key : RunsQ Try.prog 35 [.agg ⟨[.slice ph lh ch, .slice pu lu cu]⟩] σ.re fun v s => New σ.re s ∧ ∃ p6 c6 p7 c7, v = .agg ⟨[.slice p6 lh c6, .slice p7 lu c7]⟩ ∧ IntsP s p6 lh hs ∧ IntsP s p7 lu us by
  obtain ⟨v, s, h1, h2, p6, c6, p7, c7, rfl, h3⟩ := RunsQ.new (Q := fun v s => ∃ p6 c6 p7 c7, v = .agg ⟨[.slice p6 lh c6, .slice p7 lu c7]⟩ ∧ IntsP s p6 lh hs ∧ IntsP s p7 lu us) key
   (by rintro v s s' ⟨p6, c6, p7, c7, rfl, h1, h2⟩ hle; exact ⟨p6, c6, p7, c7, rfl, h1.le hle, h2.le hle⟩)
   (by
    rintro v s hr ⟨p6, c6, p7, c7, rfl, h1, h2⟩
    cases p6 with
    | some a => exact Bool.noConfusion (show false = true from hr)
    | none =>
     cases p7 with
     | some a => exact Bool.noConfusion (show false = true from hr)
     | none => exact ⟨none, c6, none, c7, rfl, slv_none h1, slv_none h2⟩)
  exact ⟨p6, c6, p7, c7, s, h1, h2, h3⟩
 obtain ⟨τ, hτ⟩ : ∃ τ, τ = (σ.re.row [.slice ph lh ch, .slice pu lu cu] 2).row [.slice none 0 0, .slice none 0 0] 2 := ⟨_, rfl⟩
 have hx : σ.re.next = σ.next := rfl
 have N1 : New σ.re τ := by rw [hτ]; exact (New.row _ _ _).row'
 have o1 : Own τ σ.re.next [.slice ph lh ch, .slice pu lu cu] 2 := by rw [hτ]; exact (own_new σ.re _ _).row
 have o2 : Own τ (σ.re.next + 1) [.slice none 0 0, .slice none 0 0] 2 := by rw [hτ]; exact own_new (σ.re.row _ _) _ _
 have hl := (le0 σ).trans N1.le
 obtain ⟨p1, c1, τ1, k1, n1, i1, f1⟩ := list_c (c := ch) (SlV.le hh hl) h1
 obtain ⟨p2, c2, τ2, k2, n2, i2, f2⟩ := list_c (c := cu) (SlV.le hu (hl.trans n1.le)) h2
 have l1 := n1.nx; have l2 := n2.nx; have l0 := o2.lt
 have o1' := o1.le n1.le
 have o2' := (o2.le n1.le).le n2.le
 obtain ⟨y, hy⟩ : ∃ y, y = τ2.own (σ.re.next + 1) [.slice p1 lh c1, .slice p2 lu c2] 2 := ⟨_, rfl⟩
 have k : Only (· = σ.re.next + 1) τ2 y := by rw [hy]; exact Only.own (.inr rfl)
 have oy : Own y (σ.re.next + 1) [.slice p1 lh c1, .slice p2 lu c2] 2 := by rw [hy]; exact o2'.put
 have i1' := SlV.le i1 n2.le
 have f1' : ∀ a, p1 = some a → a.block ≠ σ.re.next + 1 := fun a e => by have := f1 a.block ⟨a, e, rfl⟩; omega
 have f2' : ∀ a, p2 = some a → a.block ≠ σ.re.next + 1 := fun a e => by have := f2 a.block ⟨a, e, rfl⟩; omega
 exact truth_ra (by rw [← hτ]; exact k1) LD k2 (STN o2' (hτ := hy)) BL BS BS (by rw [← hτ]; exact LD) GB LD SLT
  ⟨((N1.trans n1).trans n2).of_only k (by rintro b rfl; simp), p1, c1, p2, c2, rfl, k.slv' i1' f1', k.slv' i2 f2'⟩
end
end Go.Proofs.Ythcdddbghldmiaa
