
import Derived.Test.YtgfiniccfpfplaaGreatUE
import Derived.Test.YtgfiniccfpfplaaGreatXF
namespace Go.Proofs.YtgfiniccfpfplaaGreat
open Go Go.Lay
set_option linter.unusedVariables false
set_option linter.unusedSimpArgs false
set_option maxRecDepth 20000
open Go.Sort (swp PermIn)
section
variable {σ : St} {b c : Nat} {s : Option Nat} {d : Array Rec} {g : FuncId} {gc : List Value} {lt : Rec → Rec → Bool} {V : Rec → Prop}
theorem revR_c {a B : Nat} (h : Dt σ b s d) (hv : xK V d) (ha : a < B) (hB : B ≤ d.size) (hn : d.size ≤ 1000000) :
  zBH 110 [.slice (some ⟨b, 0, s⟩) d.size c, iV (a : Int), iV (B : Int), .func (.func g) ⟨[]⟩ ⟨gc⟩] (.tuple ⟨[]⟩) σ b s d (Go.Sort.reverseRange d a B) := by
 refine zBH.of h (revR_ra (P0 := fun τ => W σ τ b s d (Go.Sort.reverseRange d a B)) (yOU (Inv := fun k i j τ => ∃ (p q : Nat) (dk : Array Rec), i = p ∧ j = q ∧ k = q - p ∧ p ≤ B ∧ q < B ∧ W σ τ b s d dk ∧ dk.size = d.size ∧ Go.Sort.reverseLoop p q dk = Go.Sort.reverseRange d a B) ?_ (B - 1 - a) _ _ σ.re ⟨a, B - 1, d, rfl, by omega, rfl, by omega, by omega, W.start h, rfl, rfl⟩) (fun τ hw => yOT ⟨rfl, hw⟩) (by omega))
 rintro k i j τ ⟨p, q, dk, rfl, rfl, hk, hp, hq, w, hsz, ht⟩
 by_cases hpq : p < q
 rotate_left
 ·rw [Go.Sort.reverseLoop, if_neg hpq] at ht
  exact revR_s1b (by rw [← ht]; exact w) (by omega)
 rw [Go.Sort.reverseLoop, if_pos hpq] at ht
 have l1 := w.dt.ldN (i := (q : Int)) (k := q) rfl (by omega)
 have l2 := w.dt.ldN (i := (p : Int)) (k := p) rfl (by omega)
 obtain ⟨τ5, τ6, t1, t2, w6⟩ := w.swapN (i := (p : Int)) (j := (q : Int)) (p := p) (q := q) rfl rfl (by omega) (by omega)
 exact revR_s1a l1 l2 t1 t2 ⟨q - 1 - (p + 1), by omega, p + 1, q - 1, _, by omega, by omega, rfl, by omega, by omega, w6, by rw [yR, hsz], ht⟩
def zHS : List UInt8 := [0, 1, 2, 2, 3, 3, 3, 3, 4, 4, 4, 4, 4, 4, 4, 4, 5, 5, 5, 5, 5, 5, 5, 5, 5, 5, 5, 5, 5, 5, 5, 5] ++ List.replicate 32 6 ++ List.replicate 64 7 ++ List.replicate 128 8
theorem len8_len : zHS.length = 256 := by decide
theorem yLT : ∀ n : Fin 256, (zHS.getD n.val 0).toNat ≤ 8 ∧ (0 < n.val → 2 ^ (zHS.getD n.val 0).toNat ≤ 2 * n.val) := by decide +kernel
theorem index8 {n : Nat} (hn : n < 256) : zEL Tryz.prog 9 (.string ⟨⟨zHS⟩⟩) (iV (n : Int)) = some (.int .u8 ((zHS.getD n 0).toNat : Int)) := by
 have hl : n < zHS.length := by rw [len8_len]; exact hn
 have e : zEL Tryz.prog 9 (.string ⟨⟨zHS⟩⟩) (iV (n : Int)) = if 0 ≤ (n : Int) then (((⟨⟨zHS⟩⟩ : ByteArray)[(n : Int).toNat]?).map fun b => Value.int .u8 b.toNat) else none := by
  unfold zEL
  have hu : Tryz.prog.underlying 9 = some .string := by kernel_rfl
  simp only [hu]
 rw [e, if_pos (by omega), Int.toNat_natCast]
 have hb : (⟨⟨zHS⟩⟩ : ByteArray)[n]? = some (zHS.getD n 0) := by
  rw [getElem?_pos _ n (by show n < zHS.length; exact hl)]
  congr 1
  rw [List.getD_eq_getElem?_getD, List.getElem?_eq_getElem hl]
  rfl
 rw [hb]; rfl
end
end Go.Proofs.YtgfiniccfpfplaaGreat
