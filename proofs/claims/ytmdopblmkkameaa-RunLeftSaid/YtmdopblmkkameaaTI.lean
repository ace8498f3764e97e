
import Derived.Test.YtmdopblmkkameaaRO
import Derived.Test.YtmdopblmkkameaaPS
namespace Go.Proofs.Ytmdopblmkkameaa
open Go Go.Lay
set_option linter.unusedVariables false
set_option linter.unusedSimpArgs false
set_option maxRecDepth 20000
def kS (t : Tab) (S : Nat → Bool) (k : Int) (i : Nat) : Bool := S i && decide (kdT t i = k)
def yG (t : Tab) (S : Nat → Bool) (k : Int) : Nat := fewN (zGO t) ((List.range t.nt).filter (kS t S k)) ((List.range t.nt).filter (kS t S k)) (fun _ => false)
section
variable {t : Tab} {S : Nat → Bool} {nx bf : Nat → Int} {k : Int}
theorem needN_eq (hv : Valid t) {m : Nat} (h : IsMax t.nt (fun x y => EdS t S x y ∧ kdT t x = k) m) : yG t S k = yR t.nt (kS t S k) - m := by
 unfold yG
 rw [fewN_eq (n := t.nt) (List.nodup_range.filter _) (fun x hx => by have := (List.mem_filter.1 hx).1; simpa using this) h (fun x y => ?_), zFP]
 simp only [List.mem_filter, List.mem_range, kS, Bool.and_eq_true, decide_eq_true_eq]
 constructor
 ·rintro ⟨⟨h1, h2, h3⟩, h4⟩
  obtain ⟨a, b⟩ := mayI_lt h1
  exact ⟨h1, ⟨a, h2, h4⟩, b, h3, by rw [← zKD hv h1]; exact h4⟩
 ·rintro ⟨h1, ⟨a, h2, h4⟩, b, h3, h5⟩
  exact ⟨⟨h1, h2, h3⟩, h4⟩
def resK (t : Tab) (k : Int) (f : Nat → Int) (i : Nat) : Int := if kdT t i = k then f i else -1
theorem mt_res (hv : Valid t) (h : Mt t.nt (EdS t S) nx bf) : Mt t.nt (fun x y => EdS t S x y ∧ kdT t x = k) (resK t k nx) (resK t k bf) := by
 refine ⟨fun j hj hb => ?_, fun i hi hb => ?_⟩
 ·unfold resK at hb ⊢
  by_cases e : kdT t j = k
  ·rw [if_pos e] at hb ⊢
   obtain ⟨i, h1, h2, h3, h4⟩ := h.b1 j hj hb
   have e2 := zKD hv h3.1
   exact ⟨i, h1, h2, ⟨h3, by rw [e2]; exact e⟩, by rw [if_pos (by rw [e2]; exact e)]; exact h4⟩
  ·rw [if_neg e] at hb; exact absurd rfl hb
 ·unfold resK at hb ⊢
  by_cases e : kdT t i = k
  ·rw [if_pos e] at hb ⊢
   obtain ⟨j, h1, h2, h3⟩ := h.n1 i hi hb
   obtain ⟨i', g1, g2, g3, g4⟩ := h.b1 j h1 (by omega)
   have : i' = i := by omega
   subst this
   have e2 := zKD hv g3.1
   exact ⟨j, h1, h2, by rw [if_pos (by rw [← e2]; exact e)]; exact h3⟩
  ·rw [if_neg e] at hb; exact absurd rfl hb
theorem need_of (hv : Valid t) (B : BestTo t.nt (EdS t S) S t.nt nx bf) (hk : k = 0 ∨ k = 1 ∨ k = 2) : yR t.nt (fun i => kS t S k i && decide (bf i = -1)) = yG t S k := by
 have hmax := B.isMax (fun i k _ _ h => h.2.1)
 obtain ⟨b0, B0⟩ := zJD t.nt (fun x y => EdS t S x y ∧ kdT t x = 0)
 obtain ⟨b1, B1⟩ := zJD t.nt (fun x y => EdS t S x y ∧ kdT t x = 1)
 obtain ⟨b2, B2⟩ := zJD t.nt (fun x y => EdS t S x y ∧ kdT t x = 2)
 obtain ⟨c, C⟩ := zJD t.nt (fun x y => EdS t S x y ∧ decide (kdT t x = 0) = false)
 have s1 := IsMax.split (Q := fun x => decide (kdT t x = 0)) (fun i k h => by show decide _ = decide _; rw [zKD hv h.1]) hmax (B0.congr fun i k => by simp) C
 have s2 := IsMax.split (Q := fun x => decide (kdT t x = 1)) (fun i k h => by show decide _ = decide _; rw [zKD hv h.1.1]) C (b := b1) (c := b2) (B1.congr fun i k => by
   constructor
   ·rintro ⟨q1, q2⟩; exact ⟨⟨q1, by simp [q2]⟩, by simp [q2]⟩
   ·rintro ⟨⟨q1, _⟩, q2⟩; exact ⟨q1, by simpa using q2⟩) (B2.congr fun i k => by
   constructor
   ·rintro ⟨q1, q2⟩; exact ⟨⟨q1, by simp [q2]⟩, by simp [q2]⟩
   ·rintro ⟨⟨q1, q2⟩, q3⟩
    have := kd_range hv (mayI_lt q1.1).1
    simp at q2 q3
    exact ⟨q1, by omega⟩)
 have hc : ∀ k : Int, yR t.nt (xM (resK t k bf)) = yR t.nt (fun i => xM bf i && decide (kdT t i = k)) := fun k => xT fun i _ => by
  unfold xM resK
  by_cases e : kdT t i = k <;> simp [e]
 have d0 := B0.le _ _ (mt_res hv B.mt (k := 0))
 have d1 := B1.le _ _ (mt_res hv B.mt (k := 1))
 have d2 := B2.le _ _ (mt_res hv B.mt (k := 2))
 rw [hc] at d0 d1 d2
 have t1 := uR (n := t.nt) (P := xM bf) (Q := fun i => decide (kdT t i = 0))
 have t2 := uR (n := t.nt) (P := fun i => xM bf i && !decide (kdT t i = 0)) (Q := fun i => decide (kdT t i = 1))
 have t3 : yR t.nt (fun i => (xM bf i && !decide (kdT t i = 0)) && decide (kdT t i = 1)) = yR t.nt (fun i => xM bf i && decide (kdT t i = 1)) := xT fun i hi => by
  by_cases e : kdT t i = 1 <;> simp [e]
 have t4 : yR t.nt (fun i => (xM bf i && !decide (kdT t i = 0)) && !decide (kdT t i = 1)) = yR t.nt (fun i => xM bf i && decide (kdT t i = 2)) := xT fun i hi => by
  have := kd_range hv hi
  have h3 : kdT t i = 0 ∨ kdT t i = 1 ∨ kdT t i = 2 := by omega
  rcases h3 with e | e | e <;> simp [e]
 have key : ∀ (k : Int) (b : Nat), IsMax t.nt (fun x y => EdS t S x y ∧ kdT t x = k) b → yR t.nt (fun i => xM bf i && decide (kdT t i = k)) = b → yR t.nt (fun i => kS t S k i && decide (bf i = -1)) = yG t S k := by
  intro k b hb e
  rw [needN_eq hv hb]
  have u1 := uR (n := t.nt) (P := kS t S k) (Q := xM bf)
  have u2 : yR t.nt (fun i => kS t S k i && xM bf i) = yR t.nt (fun i => xM bf i && decide (kdT t i = k)) := xT fun i hi => by
   unfold kS
   cases hh : xM bf i with
   | false => simp
   | true =>
    obtain ⟨j, h1, h2, h3, h4⟩ := B.mt.b1 i hi (wB.1 hh)
    rw [h3.2.2]; simp
  have u3 : yR t.nt (fun i => kS t S k i && !xM bf i) = yR t.nt (fun i => kS t S k i && decide (bf i = -1)) := xT fun i hi => by unfold xM; simp
  omega
 rcases hk with rfl | rfl | rfl
 ·exact key 0 b0 B0 (by omega)
 ·exact key 1 b1 B1 (by omega)
 ·exact key 2 b2 B2 (by omega)
def enS (t : Tab) (f : List Int) (S : Nat → Bool) : Bool := decide ((yG t S 0 : Int) ≤ f.getD 0 0) && decide ((yG t S 1 : Int) ≤ f.getD 1 0) && decide ((yG t S 2 : Int) ≤ f.getD 2 0)
theorem zFM {T : Nat → Bool} (h : ∀ i, i < t.nt → S i = T i) : yG t S k = yG t T k := by
 unfold yG
 have : (List.range t.nt).filter (kS t S k) = (List.range t.nt).filter (kS t T k) := List.filter_congr fun i hi => by
  unfold kS; rw [h i (by simpa using hi)]
 rw [this]
theorem enS_congr {T : Nat → Bool} {f : List Int} (h : ∀ i, i < t.nt → S i = T i) : enS t f S = enS t f T := by
 unfold enS; rw [zFM h, zFM h, zFM h]
end
end Go.Proofs.Ytmdopblmkkameaa
