
import Derived.Test.YtffgfojabcbegaaUI
namespace Go.Proofs.Ytffgfojabcbegaa
open Go Go.Lay
set_option linter.unusedVariables false
set_option linter.unusedSimpArgs false
set_option maxRecDepth 20000
open Go.Sort (swp PermIn SortedIn Below SWO)
section
variable {σ : St} {b c : Nat} {s : Option Nat} {d : Array Rec} {g : FuncId} {gc : List Value} {lt : Rec → Rec → Bool} {V : Rec → Prop}
theorem sortF_c (hS : SWO lt) (hc : Cmp g gc lt V) (hd : Dt σ b s d) (hv : wB V d) (hsz : d.size ≤ 60000) :
  ∃ d', PermIn 0 d.size d d' ∧ SortedIn lt 0 d.size d' ∧ zBM 62 [.slice (some ⟨b, 0, s⟩) d.size c, .func (.func g) ⟨[]⟩ ⟨gc⟩] (.tuple ⟨[]⟩) σ b s d d' := by
 obtain ⟨n, n1, n2, n3⟩ := yOQ (σ := σ.re) (x := d.size) (by omega)
 obtain ⟨d', p1, p2, p3⟩ := pdq_c (c := c) (s := s) hS hc d.size σ.re d 0 d.size (n : Int) (by omega) hd hv (Nat.zero_le _) (Nat.le_refl _) hsz (.inl rfl) (by omega)
 have w0 : W σ σ.re b s d d := W.start hd
 obtain ⟨τ', k1, w1⟩ := w0.call p3
 exact ⟨d', p1, p2, zBM.of hd (yEU (z1 := (d.size : Int)) (by rw [zQO]; omega) n3 k1 ⟨rfl, w1⟩)⟩
theorem insS_nil : zG Try.prog 89 [.slice none 0 c, iV 0, iV 0, .func (.func g) ⟨[]⟩ ⟨gc⟩] σ (.tuple ⟨[]⟩) σ :=
 zO.pure (yRC (P0 := fun τ => τ = σ.re) (zVJ (Inv := fun k i τ => i = 1 ∧ τ = σ.re) (fun k i τ h => by obtain ⟨rfl, rfl⟩ := h; exact yHI rfl (by omega)) 0 _ σ.re ⟨rfl, rfl⟩) (fun τ h => zVI ⟨rfl, by rw [h]; exact Nat.le_refl _⟩) (by omega))
theorem pdq_nil {n : Int} : zG Try.prog 81 [.slice none 0 c, iV 0, iV 0, iV n, .func (.func g) ⟨[]⟩ ⟨gc⟩] σ (.tuple ⟨[]⟩) σ :=
 zO.pure (yYO (Pr := fun τ => τ = σ.re) (zYQ (Inv := fun k i1 i2 i3 t10 t11 τ => i1 = 0 ∧ i2 = 0 ∧ τ = σ.re) (fun k i1 i2 i3 t10 t11 τ h => by obtain ⟨rfl, rfl, rfl⟩ := h; exact yQE insS_nil rfl (by omega) (by omega)) 0 _ _ _ _ _ σ.re ⟨rfl, rfl, rfl⟩) (fun τ h => zYP ⟨rfl, by rw [h]; exact Nat.le_refl _⟩))
theorem yRZ : zG Try.prog 62 [.slice none 0 c, .func (.func g) ⟨[]⟩ ⟨gc⟩] σ (.tuple ⟨[]⟩) σ := by
 obtain ⟨n, n1, n2, n3⟩ := yOQ (σ := σ.re) (x := 0) (by omega)
 exact zO.pure (yEU (x_l := 0) (z1 := ((0 : Nat) : Int)) (by rw [zQO]; rfl) n3 pdq_nil ⟨rfl, Nat.le_refl _⟩)
end
end Go.Proofs.Ytffgfojabcbegaa
