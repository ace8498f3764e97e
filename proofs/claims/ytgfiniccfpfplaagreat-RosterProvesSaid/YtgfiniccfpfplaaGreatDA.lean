
import Derived.Test.YtgfiniccfpfplaaGreatSB
namespace Go.Proofs.YtgfiniccfpfplaaGreat
open Go Go.Lay
open Tryz renaming prog → Pg
set_option linter.unusedVariables false
set_option maxRecDepth 20000
section
variable {σ : St}
theorem zCT {n : Nat} {cs : List Value} (h : WT Pg σ (n + 1) 3 cs) : ∃ i, cs = [xE i] := by
 unfold WT at h
 simp only [Tryz.underlying3] at h
 obtain ⟨i, h, _⟩ := h
 exact ⟨i, h⟩
theorem zVH {n : Nat} {t e : TypeId} {cs : List Value} {k : Nat} (hu : Pg.underlying t = some (.slice e)) (hk : Pg.cellsOf e = k) (h : WT Pg σ (n + 1) t cs) :
  ∃ p len cap rs, cs = [.slice p len cap] ∧ len ≤ maxLen ∧ SlP σ k p len rs ∧ rs.length = len * k ∧ ∀ i, i < len → WT Pg σ n e ((rs.drop (i * k)).take k) := by
 unfold WT at h
 simp only [hu, hk] at h
 rcases h with rfl | ⟨b, len, cap, rs, rfl, h1, h2, h3, h4, h5, h6⟩
 ·exact ⟨none, 0, 0, [], rfl, by decide, SlP.nil _ _, by simp, fun i hi => by omega⟩
 ·refine ⟨_, len, cap, rs, rfl, h1, ⟨h3, ?_, h5⟩, h3, h6⟩
  simp only [yP, h4, yD, uG, Nat.zero_add, List.drop_zero, List.take_length]
  show (bif Nat.ble rs.length rs.length then some rs else none) = some rs
  rw [show Nat.ble rs.length rs.length = true from by simp]; rfl
theorem yFK {α : Type} {k : Nat} {Q : List Value → Prop} {f : α → List Value} (hq : ∀ cs, Q cs → ∃ x, cs = f x) : ∀ (len : Nat) (rs : List Value), rs.length = len * k → (∀ i, i < len → Q ((rs.drop (i * k)).take k)) → ∃ xs : List α, xs.length = len ∧ rs = xs.flatMap f
 | 0, rs, hl, _ => ⟨[], rfl, by simpa using hl⟩
 | len + 1, rs, hl, h => by
  obtain ⟨x, hx⟩ := hq _ (h 0 (by omega))
  obtain ⟨xs, h1, h2⟩ := yFK (k := k) hq len (rs.drop k) (by simp [hl, Nat.add_mul]) (fun i hi => by
   have := h (i + 1) (by omega)
   rwa [Nat.add_mul, Nat.one_mul, Nat.add_comm (i * k), ← List.drop_drop] at this)
  refine ⟨x :: xs, by simp [h1], ?_⟩
  simp only [List.flatMap_cons, ← h2, ← hx]
  simp
theorem yDC {α : Type} (f : α → List Value) (xs : List α) : zBZ (xs.map fun x => .agg ⟨f x⟩) = xs.flatMap f := by
 induction xs with
 | nil => rfl
 | cons x xs ih => rw [List.map_cons, List.flatMap_cons, ← ih]; simp [zBZ, Value.cells]
theorem flat_one (xs : List Int) : zBZ (xs.map xE) = xs.flatMap fun x => [xE x] := by
 induction xs with
 | nil => rfl
 | cons x xs ih => rw [List.map_cons, List.flatMap_cons, ← ih]; rfl
theorem yNO {n : Nat} {t e : TypeId} {p : Option Addr} {l c k : Nat} (hu : Pg.underlying t = some (.slice e)) (hk : Pg.cellsOf e = k) (h : WT Pg σ (n + 1) t [.slice p l c]) : zSN σ k p l c := by
 unfold WT at h
 simp only [hu, hk] at h
 rcases h with h | ⟨b, len, cap, rs, h1, h2, h3, h4, h5, h6, h7⟩
 ·obtain ⟨rfl, rfl, rfl⟩ : p = none ∧ l = 0 ∧ c = 0 := by simpa using h
  exact .inl ⟨rfl, rfl, rfl⟩
 ·obtain ⟨rfl, rfl, rfl⟩ : p = some ⟨b, 0, none⟩ ∧ l = len ∧ c = cap := by simpa using h1
  exact .inr ⟨b, rs, 1, true, rfl, by rw [← zSE h3.2]; exact h3.1, h3.2, h5, h4, h6⟩
theorem zUR {n : Nat} {cs : List Value} (h : WT Pg σ (n + 2) 26 cs) : ∃ p l c xs, cs = [.slice p l c] ∧ yU σ p l xs ∧ zSN σ 1 p l c := by
 obtain ⟨p, l, c, rs, e1, _, s1, l1, w1⟩ := zVH Tryz.underlying26 (k := 1) (by kernel_rfl) h
 subst e1
 have ha := yNO Tryz.underlying26 (k := 1) (by kernel_rfl) h
 obtain ⟨xs, n1, rfl⟩ := yFK (f := fun x : Int => [xE x]) (fun cs h => zCT h) l rs l1 w1
 refine ⟨p, l, c, xs, rfl, ⟨by rw [flat_one]; exact s1, by simpa using n1, fun v hv => ?_⟩, ha⟩
 obtain ⟨x, _, rfl⟩ := List.mem_map.1 hv
 exact zQX x
theorem wt_dty {n : Nat} {cs : List Value} (h : WT Pg σ (n + 3) 92 cs) : ∃ x : Dty, cs = zF x.day x.on x.lo x.hi x.route := by
 unfold WT at h
 simp only [Tryz.underlying92] at h
 obtain ⟨hl, h⟩ := h
 have hl : cs.length = 5 := hl.trans (by kernel_rfl)
 obtain ⟨c1, c2, c3, c4, c5, rfl⟩ : ∃ c1 c2 c3 c4 c5, cs = [c1, c2, c3, c4, c5] := by
  match cs, hl with
  | [c1, c2, c3, c4, c5], _ => exact ⟨_, _, _, _, _, rfl⟩
 have k3 : Pg.cellsOf 3 = 1 := by kernel_rfl
 have k90 : Pg.cellsOf 90 = 2 := by kernel_rfl
 simp only [List.mem_cons, List.not_mem_nil, or_false, forall_eq_or_imp, forall_eq, k3, k90] at h
 obtain ⟨⟨_, h1⟩, ⟨_, h2⟩, ⟨_, h3⟩, ⟨_, h5⟩⟩ := h
 obtain ⟨x1, h1⟩ := zCT h1
 obtain ⟨x2, h2⟩ := zCT h2
 obtain ⟨x5, h5⟩ := zCT h5
 unfold WT at h3
 simp only [Tryz.underlying90] at h3
 obtain ⟨_, h3⟩ := h3
 simp only [List.mem_cons, List.not_mem_nil, or_false, forall_eq_or_imp, forall_eq, k3] at h3
 obtain ⟨⟨_, h3⟩, ⟨_, h4⟩⟩ := h3
 obtain ⟨x3, h3⟩ := zCT h3
 obtain ⟨x4, h4⟩ := zCT h4
 obtain rfl : c1 = xE x1 := by simpa using h1
 obtain rfl : c2 = xE x2 := by simpa using h2
 obtain rfl : c3 = xE x3 := by simpa using h3
 obtain rfl : c4 = xE x4 := by simpa using h4
 obtain rfl : c5 = xE x5 := by simpa using h5
 exact ⟨⟨x1, x2, x3, x4, x5⟩, rfl⟩
theorem wt_dtys {n : Nat} {cs : List Value} (h : WT Pg σ (n + 4) 22 cs) : ∃ p l c xs, cs = [.slice p l c] ∧ yNM σ 92 p l xs ∧ zSN σ 5 p l c := by
 obtain ⟨p, l, c, rs, e1, _, s1, l1, w1⟩ := zVH Tryz.underlying22 (k := 5) (by kernel_rfl) h
 subst e1
 have ha := yNO Tryz.underlying22 (k := 5) (by kernel_rfl) h
 obtain ⟨xs, n1, rfl⟩ := yFK (f := fun x : Dty => zF x.day x.on x.lo x.hi x.route) (fun cs h => wt_dty h) l rs l1 w1
 refine ⟨p, l, c, xs, rfl, ⟨?_, by simpa using n1, fun v hv => ?_⟩, ha⟩
 ·rw [yDC fun x : Dty => zF x.day x.on x.lo x.hi x.route]; exact s1
 ·obtain ⟨x, _, rfl⟩ := List.mem_map.1 hv
  exact .inr ⟨agg92, zHL, _, rfl, rfl⟩
def DrvA (σ : St) (v : Value) (x : Drv) : Prop := ∃ p l c q m d r n e, v = .agg ⟨zG p l c q m d r n e x.off x.row x.used⟩ ∧ (yU σ p l x.knows ∧ zSN σ 1 p l c) ∧ (yU σ q m x.leave ∧ zSN σ 1 q m d) ∧ yU σ r n x.wish
theorem DrvA.v {v : Value} {x : Drv} (h : DrvA σ v x) : zUP σ v x := by
 obtain ⟨p, l, c, q, m, d, r, n, e, h1, h2, h3, h4⟩ := h
 exact ⟨p, l, c, q, m, d, r, n, e, h1, h2.1, h3.1, h4⟩
theorem wt_drv {n : Nat} {cs : List Value} (h : WT Pg σ (n + 3) 76 cs) : ∃ (x : Drv) (p q r : Option Addr) (l c m d j e : Nat), cs = zG p l c q m d r j e x.off x.row x.used ∧ (yU σ p l x.knows ∧ zSN σ 1 p l c) ∧ (yU σ q m x.leave ∧ zSN σ 1 q m d) ∧ yU σ r j x.wish := by
 unfold WT at h
 simp only [Tryz.underlying76] at h
 obtain ⟨hl, h⟩ := h
 have hl : cs.length = 6 := hl.trans (by kernel_rfl)
 obtain ⟨c1, c2, c3, c4, c5, c6, rfl⟩ : ∃ c1 c2 c3 c4 c5 c6, cs = [c1, c2, c3, c4, c5, c6] := by
  match cs, hl with
  | [c1, c2, c3, c4, c5, c6], _ => exact ⟨_, _, _, _, _, _, rfl⟩
 have k3 : Pg.cellsOf 3 = 1 := by kernel_rfl
 have k26 : Pg.cellsOf 26 = 1 := by kernel_rfl
 simp only [List.mem_cons, List.not_mem_nil, or_false, forall_eq_or_imp, forall_eq, k3, k26] at h
 obtain ⟨⟨_, h1⟩, ⟨_, h2⟩, ⟨_, h3⟩, ⟨_, h4⟩, ⟨_, h5⟩, ⟨_, h6⟩⟩ := h
 obtain ⟨p1, l1, e1, x1, h1, i1, a1⟩ := zUR h1
 obtain ⟨p2, l2, e2, x2, h2, i2, a2⟩ := zUR h2
 obtain ⟨p3, l3, e3, x3, h3, i3, _⟩ := zUR h3
 obtain ⟨x4, h4⟩ := zCT h4
 obtain ⟨x5, h5⟩ := zCT h5
 obtain ⟨x6, h6⟩ := zCT h6
 obtain rfl : c1 = .slice p1 l1 e1 := by simpa using h1
 obtain rfl : c2 = .slice p2 l2 e2 := by simpa using h2
 obtain rfl : c3 = .slice p3 l3 e3 := by simpa using h3
 obtain rfl : c4 = xE x4 := by simpa using h4
 obtain rfl : c5 = xE x5 := by simpa using h5
 obtain rfl : c6 = xE x6 := by simpa using h6
 exact ⟨⟨x1, x2, x3, x4, x5, x6⟩, p1, p2, p3, l1, e1, l2, e2, l3, e3, rfl, ⟨i1, a1⟩, ⟨i2, a2⟩, i3⟩
structure DrvsA (σ : St) (p : Option Addr) (l c : Nat) (xs : List Drv) : Prop where
 vs : ∃ vs : List Value, SlV Pg σ 76 6 p l vs ∧ xs.length = l ∧ ∀ (i : Nat) (x : Drv), xs[i]? = some x → ∃ v, vs[i]? = some v ∧ DrvA σ v x
 arg : zSN σ 6 p l c
theorem DrvsA.p {p : Option Addr} {l c : Nat} {xs : List Drv} (h : DrvsA σ p l c xs) : zUH σ 76 p l xs := by
 obtain ⟨vs, h1, h2, h3⟩ := h.vs
 exact ⟨vs, h1, h2, fun i x hx => by obtain ⟨v, g1, g2⟩ := h3 i x hx; exact ⟨v, g1, g2.v⟩⟩
theorem wt_drvs {n : Nat} {cs : List Value} (h : WT Pg σ (n + 4) 23 cs) : ∃ p l c xs, cs = [.slice p l c] ∧ DrvsA σ p l c xs := by
 obtain ⟨p, l, c, rs, e1, _, s1, l1, w1⟩ := zVH Tryz.underlying23 (k := 6) (by kernel_rfl) h
 subst e1
 have ha := yNO Tryz.underlying23 (k := 6) (by kernel_rfl) h
 obtain ⟨xs, n1, rfl⟩ := yFK (f := fun x : {x : List Value × Drv // ∃ p q r l c m d j e, x.1 = zG p l c q m d r j e x.2.off x.2.row x.2.used ∧ (yU σ p l x.2.knows ∧ zSN σ 1 p l c) ∧ (yU σ q m x.2.leave ∧ zSN σ 1 q m d) ∧ yU σ r j x.2.wish} => x.1.1) (fun cs h => by
  obtain ⟨x, p, q, r, l, c, m, d, j, e, h1, h2⟩ := wt_drv h
  exact ⟨⟨⟨cs, x⟩, p, q, r, l, c, m, d, j, e, h1, h2⟩, rfl⟩) l rs l1 w1
 refine ⟨p, l, c, xs.map fun x => x.1.2, rfl, ⟨⟨xs.map fun x => .agg ⟨x.1.1⟩, ⟨?_, by simpa using n1, fun v hv => ?_⟩, by simpa using n1, fun i x hx => ?_⟩, ha⟩⟩
 ·have : zBZ (xs.map fun x => Value.agg ⟨x.1.1⟩) = xs.flatMap fun x => x.1.1 := yDC (fun x : {x : List Value × Drv // ∃ p q r l c m d j e, x.1 = zG p l c q m d r j e x.2.off x.2.row x.2.used ∧ (yU σ p l x.2.knows ∧ zSN σ 1 p l c) ∧ (yU σ q m x.2.leave ∧ zSN σ 1 q m d) ∧ yU σ r j x.2.wish} => x.1.1) xs
  rw [this]; exact s1
 ·obtain ⟨x, _, rfl⟩ := List.mem_map.1 hv
  obtain ⟨p, q, r, l, c, m, d, j, e, h1, _⟩ := x.2
  exact .inr ⟨yDX, uT, _, rfl, by rw [h1]; rfl⟩
 ·rw [List.getElem?_map] at hx
  cases hy : xs[i]? with
  | none => rw [hy] at hx; cases hx
  | some y =>
   rw [hy] at hx
   obtain rfl : y.1.2 = x := by simpa using hx
   obtain ⟨p, q, r, l, c, m, d, j, e, h1, h2⟩ := y.2
   exact ⟨.agg ⟨y.1.1⟩, by rw [List.getElem?_map, hy]; rfl, p, l, c, q, m, d, r, j, e, by rw [h1], h2⟩
theorem wt_week {n : Nat} {cs : List Value} (h : WT Pg σ (n + 5) 25 cs) : ∃ (w : Wk) (p q : Option Addr) (l c m d : Nat), cs = wkc w.days p l c q m d w.rest w.run w.hours ∧ WkP σ 92 76 w p l q m ∧ zSN σ 5 p l c ∧ DrvsA σ q m d w.drivers := by
 unfold WT at h
 simp only [Tryz.underlying25] at h
 obtain ⟨hl, h⟩ := h
 have hl : cs.length = 6 := hl.trans (by kernel_rfl)
 obtain ⟨c1, c2, c3, c4, c5, c6, rfl⟩ : ∃ c1 c2 c3 c4 c5 c6, cs = [c1, c2, c3, c4, c5, c6] := by
  match cs, hl with
  | [c1, c2, c3, c4, c5, c6], _ => exact ⟨_, _, _, _, _, _, rfl⟩
 have k3 : Pg.cellsOf 3 = 1 := by kernel_rfl
 have k22 : Pg.cellsOf 22 = 1 := by kernel_rfl
 have k23 : Pg.cellsOf 23 = 1 := by kernel_rfl
 simp only [List.mem_cons, List.not_mem_nil, or_false, forall_eq_or_imp, forall_eq, k3, k22, k23] at h
 obtain ⟨⟨_, h1⟩, ⟨_, h2⟩, ⟨_, h3⟩, ⟨_, h4⟩, ⟨_, h5⟩, ⟨_, h6⟩⟩ := h
 obtain ⟨x1, h1⟩ := zCT h1
 obtain ⟨p, l, c, xs, h2, i2, a2⟩ := wt_dtys h2
 obtain ⟨q, m, d, ys, h3, i3⟩ := wt_drvs h3
 obtain ⟨x4, h4⟩ := zCT h4
 obtain ⟨x5, h5⟩ := zCT h5
 obtain ⟨x6, h6⟩ := zCT h6
 obtain rfl : c1 = xE x1 := by simpa using h1
 obtain rfl : c2 = .slice p l c := by simpa using h2
 obtain rfl : c3 = .slice q m d := by simpa using h3
 obtain rfl : c4 = xE x4 := by simpa using h4
 obtain rfl : c5 = xE x5 := by simpa using h5
 obtain rfl : c6 = xE x6 := by simpa using h6
 exact ⟨⟨x1, xs, ys, x4, x5, x6⟩, p, q, l, c, m, d, rfl, ⟨i2, i3.p⟩, a2, i3⟩
theorem yVQ {ι : Inj} {av v : Value} (h : VR ι av v) (hv : ∀ cs, v ≠ .agg cs) : ∀ cs, av ≠ .agg cs := by
 rintro cs rfl
 cases h with
 | atom h => simp [zBH] at h
 | agg _ _ => exact hv _ rfl
theorem sl_not {W : World} {t e : TypeId} {v : Value} (hu : Pg.underlying t = some (.slice e)) (h : Value.okWide Pg W .any 0 t v) : ∀ cs, v ≠ .agg cs := by
 rintro cs rfl
 unfold Value.okWide at h
 rw [hu] at h
 simp [Cell.okWide, Cell.ok, hu] at h
theorem int_not {W : World} {t : TypeId} {k : IntKind} {v : Value} (hu : Pg.underlying t = some (.int k)) (h : Value.okWide Pg W .any 0 t v) : ∀ cs, v ≠ .agg cs := by
 rintro cs rfl
 unfold Value.okWide at h
 rw [hu] at h
 simp [Cell.okWide, Cell.ok, hu] at h
theorem yMW {v : Value} {p : Option Addr} {l c : Nat} (h : v.cells.toList = [.slice p l c]) (hn : ∀ cs, v ≠ .agg cs) : v = .slice p l c := by
 cases v with
 | agg cs => exact absurd rfl (hn cs)
 | _ => first | (simp [Value.cells] at h; done) | simpa [Value.cells] using h
theorem cells_int {v : Value} {k : IntKind} {x : Int} (h : v.cells.toList = [.int k x]) (hn : ∀ cs, v ≠ .agg cs) : v = .int k x := by
 cases v with
 | agg cs => exact absurd rfl (hn cs)
 | _ => first | (simp [Value.cells] at h; done) | simpa [Value.cells] using h
end
end Go.Proofs.YtgfiniccfpfplaaGreat
