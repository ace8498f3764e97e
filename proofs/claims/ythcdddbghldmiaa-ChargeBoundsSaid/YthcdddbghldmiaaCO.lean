
import Derived.Test.YthcdddbghldmiaaCN
namespace Go.Proofs.Ythcdddbghldmiaa
open Go Go.Lay
set_option linter.unusedVariables false
set_option linter.unusedSimpArgs false
set_option maxRecDepth 20000
section
variable {σ τ : St} {w : Nat} {g : Gar} {W : Wk} {p q pp : Option Addr} {c d cp : Nat} {B : Nat → Nat}
theorem belowB_gar {n l m : Nat} (h1 : ∀ a, p = some a → a.block < n) (h2 : ∀ a, q = some a → a.block < n) : belowB RD n (.agg ⟨[.slice p l c, .slice q m d]⟩) = true := by
 cases p with
 | none => cases q with
  | none => rfl
  | some b => show (true && (Nat.blt b.block n && true)) = true; rw [(blt_iff _ _).2 (h2 b rfl)]; rfl
 | some a => cases q with
  | none => show (Nat.blt a.block n && (true && true)) = true; rw [(blt_iff _ _).2 (h1 a rfl)]; rfl
  | some b => show (Nat.blt a.block n && (Nat.blt b.block n && true)) = true; rw [(blt_iff _ _).2 (h1 a rfl), (blt_iff _ _).2 (h2 b rfl)]; rfl
theorem best_c (hg : GarP σ p g.ns q g.nb g) (hv : Valid g) : ∃ w pp cp B W b σ', CallsA Try.prog 51 [.agg ⟨garL p g.ns c q g.nb d⟩] σ (.tuple ⟨[.pointer (some ⟨w, 0, none⟩), .bool b]⟩) σ' ∧ New σ σ' ∧ σ.next ≤ w ∧ WkAt σ' w g W p c q d pp cp B ∧
  (b = true → Good g W ∧ ∀ i, i < g.nb → sumN g.ns (cell W.plan i) = needI g i) ∧ (b = false → ∃ P, 0 < lackF g P) := by
 have hns := hv.ns; have hnb := hv.nb
 have N1 : New σ.re (σ.re.row (garL p g.ns c q g.nb d) 2) := New.row _ _ _
 obtain ⟨w, pp, cp, B, σ2, c1, c2, c3, c4, c5⟩ := begin_c (c := c) (d := d) (hg.le ((le0 σ).trans N1.le)) hv
 have N2 : New σ.re σ2 := N1.trans c2
 have hn1 : (σ.re.row (garL p g.ns c q g.nb d) 2).next = σ.next + 1 := by simp
 have o2 : Own σ2 σ.re.next (garL p g.ns c q g.nb d) 2 := (own_new _ _ _).le c2.le
 have hwl := c3.own.lt
 let St0 : St → Wk → Prop := fun τ W => New σ.re τ ∧ σ2.next ≤ τ.next ∧ WkAt τ w g W p c q d pp cp B
 have hS : ∀ b, (b = w ∨ ∃ i, i < g.nb ∧ b = B i) → σ.re.next ≤ b := by
  rintro b (rfl | ⟨i, hi, rfl⟩)
  ·show σ.next ≤ _; omega
  ·have := c5 i hi; show σ.next ≤ _; omega
 suffices key : RunsQ Try.prog 51 [.agg ⟨garL p g.ns c q g.nb d⟩] σ.re fun v s => New σ.re s ∧ ∃ W b, v = .tuple ⟨[.pointer (some ⟨w, 0, none⟩), .bool b]⟩ ∧ WkAt s w g W p c q d pp cp B ∧ (b = true → Good g W ∧ ∀ i, i < g.nb → sumN g.ns (cell W.plan i) = needI g i) ∧ (b = false → ∃ P, 0 < lackF g P) by
  obtain ⟨v, s, h1, h2, W, b, rfl, h3, h4⟩ := RunsQ.new (Q := fun v s => ∃ W b, v = .tuple ⟨[.pointer (some ⟨w, 0, none⟩), .bool b]⟩ ∧ WkAt s w g W p c q d pp cp B ∧ (b = true → Good g W ∧ ∀ i, i < g.nb → sumN g.ns (cell W.plan i) = needI g i) ∧ (b = false → ∃ P, 0 < lackF g P)) key
   (by rintro v s s' ⟨W, b, rfl, h3, h4⟩ hle; exact ⟨W, b, rfl, h3.le hle, h4⟩) (by rintro v s hr ⟨W, b, rfl, h3, h4⟩; exact Bool.noConfusion (show false = true from hr))
  exact ⟨w, pp, cp, B, W, b, s, h1, h2, by omega, h3, h4⟩
 refine best_ra (P0 := fun t τ => ∃ W, St0 τ W ∧ (t = true → Good g W ∧ ∀ i, i < g.nb → sumN g.ns (cell W.plan i) = needI g i) ∧ (t = false → ∃ P, 0 < lackF g P)) c1 (o2.ld rfl agg33 (k := 1) rfl) ?_ (by
  rintro t τ ⟨W, ⟨f1, f2, f3⟩, f4⟩; exact best_t1x0a ⟨f1, W, t, rfl, f3, f4⟩)
 refine best_loop1 (Inv := fun k t i τ => t = true ∧ ∃ j : Nat, i = j ∧ j + k = g.nb ∧ ∃ W, St0 τ W ∧ Good g W ∧ (∀ i, i < j → sumN g.ns (cell W.plan i) = needI g i) ∧ ∀ i, i < g.nb → j ≤ i → sumN g.ns (cell W.plan i) = 0) ?_ g.nb true 0 σ2
  ⟨rfl, 0, rfl, by omega, W0 g, ⟨N2, Nat.le_refl _, c3⟩, good_W0 hv, fun i hi => by omega, fun i _ _ => sumN_zero (fun s _ => cell_W0)⟩
 rintro k t i τ ⟨rfl, j, rfl, hk, W, ⟨f1, f2, f3⟩, f4, f5, f6⟩
 by_cases hj : j < g.nb
 rotate_left
 ·exact best_s1b ⟨W, ⟨f1, f2, f3⟩, fun _ => ⟨f4, fun i hi => f5 i (by omega)⟩, fun h => by cases h⟩
 obtain ⟨a, ea, b, hb, ldb⟩ := slv_at (hg.bu.le ((le0 σ).trans f1.le)) hj
 subst ea
 have hneed := needI_eq hb
 have hbb := hv.b hb
 have hnd : 0 ≤ needZ b ∧ needZ b ≤ 1000 := by
  have := busB_iff hbb
  unfold needZ
  omega
 obtain ⟨τ2, hτ2⟩ : ∃ τ2, τ2 = (τ.row (ints9 0 0 0 0 0 0 0 0 0) 9).own τ.next (busL b) 9 := ⟨_, rfl⟩
 have n2 : New τ τ2 := by rw [hτ2]; exact (New.row _ _ _).own (Nat.le_refl _)
 have hc := need_c (σ := τ2) hbb
 refine best_s1a (P0 := fun t τ => t = false ∧ ∃ W, St0 τ W ∧ ∃ P, 0 < lackF g P)
  (P2 := fun t τ => t = true ∧ ∃ W, St0 τ W ∧ Good g W ∧ (∀ i, i < j + 1 → sumN g.ns (cell W.plan i) = needI g i) ∧ ∀ i, i < g.nb → j + 1 ≤ i → sumN g.ns (cell W.plan i) = 0) ldb (by rw [hτ2] at hc; exact hc) ?_ ?_ ?_
 rotate_left
 ·rintro t τ' ⟨rfl, W', h1, h2⟩
  exact best_t2x0a ⟨W', h1, (fun h => by cases h), fun _ => h2⟩
 ·rintro t τ' ⟨rfl, W', h1, h2, h3, h4⟩
  exact best_t2x2a ⟨k - 1, by omega, rfl, j + 1, by omega, by omega, W', h1, h2, h3, h4⟩
 have hs0 : St0 τ2 W := ⟨f1.trans n2, Nat.le_trans f2 n2.nx, f3.le n2.le⟩
 have base : best_L2 ⟨w, 0, none⟩ (j : Int) a g.nb d true (needZ b) τ2 (fun t τ => t = false ∧ ∃ W, St0 τ W ∧ ∃ P, 0 < lackF g P)
   (fun t τ => t = true ∧ ∃ W, St0 τ W ∧ Good g W ∧ (∀ i, i < j + 1 → sumN g.ns (cell W.plan i) = needI g i) ∧ ∀ i, i < g.nb → j + 1 ≤ i → sumN g.ns (cell W.plan i) = 0) := by
  refine best_loop2 (Inv := fun k' t n τ => t = true ∧ 0 ≤ n ∧ n ≤ needZ b ∧ n.toNat ≤ k' ∧ ∃ W, St0 τ W ∧ Good g W ∧ sumN g.ns (cell W.plan j) = needZ b - n ∧ (∀ i, i < j → sumN g.ns (cell W.plan i) = needI g i) ∧ ∀ i, i < g.nb → j + 1 ≤ i → sumN g.ns (cell W.plan i) = 0) ?_ (needZ b).toNat true (needZ b) τ2
   ⟨rfl, hnd.1, Int.le_refl _, Nat.le_refl _, W, hs0, f4, by rw [f6 j hj (Nat.le_refl _)]; omega, f5, fun i hi h => f6 i hi (by omega)⟩
  rintro k' t n τ' ⟨rfl, h0, h1, h2, W', ⟨e1, e2, e3⟩, h4, h5, h6, h7⟩
  by_cases hn : 0 < n
  rotate_left
  ·refine best_s2c ⟨rfl, W', ⟨e1, e2, e3⟩, h4, fun i hi => ?_, h7⟩
   by_cases e : i = j
   ·subst e; omega
   ·exact h6 i (by omega)
  obtain ⟨r, τ3, W'', g1, g2, g3, g4⟩ := give_c e3 h4 hv hj (most := n) ⟨hn, by omega⟩
  have hS3 : St0 τ3 W'' := ⟨e1.of_only g2 hS, Nat.le_trans e2 g2.next, g3⟩
  rcases g4 with ⟨rfl, rfl, price, i1, i2, i3⟩ | ⟨i1, i2, i3, i4, i5⟩
  ·refine best_s2a g1 ⟨rfl, _, hS3, _, cut_lack h4.feas i1 i2 hj i3 (fun i hi => ?_) (by omega)⟩
   have := needI_nn (g := g) i
   rcases Nat.lt_trichotomy i j with e | e | e
   ·rw [h6 i e]; exact Int.le_refl _
   ·subst e; omega
   ·rw [h7 i hi (by omega)]; omega
  ·refine best_s2b g1 ⟨(n - r).toNat, by omega, rfl, by omega, by omega, Nat.le_refl _, W'', hS3, i3, by rw [i4]; omega, fun i hi => ?_, fun i hi h => ?_⟩
   ·rw [i5 i (by omega) (by omega)]; exact h6 i hi
   ·rw [i5 i hi (by omega)]; exact h7 i hi h
 rw [hτ2] at base; exact base
end
end Go.Proofs.Ythcdddbghldmiaa
