
import Derived.Test.YtgfiniccfpfplaaGreatUE
import Derived.Test.YtgfiniccfpfplaaGreatXF
namespace Go.Proofs.YtgfiniccfpfplaaGreat
open Go Go.Lay
set_option linter.unusedVariables false
set_option linter.unusedSimpArgs false
set_option maxRecDepth 20000
open Go.Sort (swp PermIn)
section
variable {σ : St} {b c : Nat} {s : Option Nat} {d : Array Rec} {g : FuncId} {gc : List Value} {lt : Rec → Rec → Bool} {V : Rec → Prop}
theorem revR_c {a B : Nat} (h : Dt σ b s d) (hv : xJ V d) (ha : a < B) (hB : B ≤ d.size) (hn : d.size ≤ 1000000) :
  zBI 110 [.slice (some ⟨b, 0, s⟩) d.size c, iV (a : Int), iV (B : Int), .func (.func g) ⟨[]⟩ ⟨gc⟩] (.tuple ⟨[]⟩) σ b s d (Go.Sort.reverseRange d a B) := by
 refine zBI.of h (revR_ra (P0 := fun τ => W σ τ b s d (Go.Sort.reverseRange d a B)) (yOL (Inv := fun k i j τ => ∃ (p q : Nat) (dk : Array Rec), i = p ∧ j = q ∧ k = q - p ∧ p ≤ B ∧ q < B ∧ W σ τ b s d dk ∧ dk.size = d.size ∧ Go.Sort.reverseLoop p q dk = Go.Sort.reverseRange d a B) ?_ (B - 1 - a) _ _ σ.re ⟨a, B - 1, d, rfl, by omega, rfl, by omega, by omega, W.start h, rfl, rfl⟩) (fun τ hw => yOK ⟨rfl, hw⟩) (by omega))
 rintro k i j τ ⟨p, q, dk, rfl, rfl, hk, hp, hq, w, hsz, ht⟩
 by_cases hpq : p < q
 rotate_left
 ·rw [Go.Sort.reverseLoop, if_neg hpq] at ht
  exact revR_s1b (by rw [← ht]; exact w) (by omega)
 rw [Go.Sort.reverseLoop, if_pos hpq] at ht
 have l1 := w.dt.ldN (i := (q : Int)) (k := q) rfl (by omega)
 have l2 := w.dt.ldN (i := (p : Int)) (k := p) rfl (by omega)
 obtain ⟨τ5, τ6, t1, t2, w6⟩ := w.swapN (i := (p : Int)) (j := (q : Int)) (p := p) (q := q) rfl rfl (by omega) (by omega)
 exact revR_s1a l1 l2 t1 t2 ⟨q - 1 - (p + 1), by omega, p + 1, q - 1, _, by omega, by omega, rfl, by omega, by omega, w6, by rw [yS, hsz], ht⟩
def zHM : List UInt8 := [0, 1, 2, 2, 3, 3, 3, 3, 4, 4, 4, 4, 4, 4, 4, 4, 5, 5, 5, 5, 5, 5, 5, 5, 5, 5, 5, 5, 5, 5, 5, 5] ++ List.replicate 32 6 ++ List.replicate 64 7 ++ List.replicate 128 8
theorem len8_len : zHM.length = 256 := by decide
theorem yLO : ∀ n : Fin 256, (zHM.getD n.val 0).toNat ≤ 8 ∧ (0 < n.val → 2 ^ (zHM.getD n.val 0).toNat ≤ 2 * n.val) := by decide +kernel
theorem index8 {n : Nat} (hn : n < 256) : zEI Tryz.prog 9 (.string ⟨⟨zHM⟩⟩) (iV (n : Int)) = some (.int .u8 ((zHM.getD n 0).toNat : Int)) := by
 have hl : n < zHM.length := by rw [len8_len]; exact hn
 have e : zEI Tryz.prog 9 (.string ⟨⟨zHM⟩⟩) (iV (n : Int)) = if 0 ≤ (n : Int) then (((⟨⟨zHM⟩⟩ : ByteArray)[(n : Int).toNat]?).map fun b => Value.int .u8 b.toNat) else none := by
  unfold zEI
  have hu : Tryz.prog.underlying 9 = some .string := by kernel_rfl
  simp only [hu]
 rw [e, if_pos (by omega), Int.toNat_natCast]
 have hb : (⟨⟨zHM⟩⟩ : ByteArray)[n]? = some (zHM.getD n 0) := by
  rw [getElem?_pos _ n (by show n < zHM.length; exact hl)]
  congr 1
  rw [List.getD_eq_getElem?_getD, List.getElem?_eq_getElem hl]
  rfl
 rw [hb]; rfl
end
end Go.Proofs.YtgfiniccfpfplaaGreat
