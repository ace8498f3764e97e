/- Contracts: the least and the greatest; what a bus needs, by both; where it is. -/
import Derived.Test.YthcdddbghldmiaaC3
namespace Go.Proofs.Ythcdddbghldmiaa
open Go Go.Lay
set_option linter.unusedVariables false
set_option linter.unusedSimpArgs false
set_option maxRecDepth 20000
section
variable {σ : St}
theorem max_see {a b : Int} {σ : St} : seeOp Try.prog (evL [.int .i64 a, .int .i64 b]) σ (.call { callee := .builtin .max, args := ⟨tmpsTo 2⟩, argTypes := ⟨[3, 3]⟩ }) = some (.int .i64 (max a b)) := by
  have e : pureVal Try.prog (Builtin.max_ ⟨[3, 3]⟩ 0 ⟨[.int .i64 a, .int .i64 b]⟩) = some (.int .i64 (max a b)) := by
    rw [show max a b = if a < b then b else a by split <;> omega]
    simp only [Builtin.max_, List.foldlM, Builtin.max2]
    rfl
  have e2 : seeOp Try.prog (evL [.int .i64 a, .int .i64 b]) σ (.call { callee := .builtin .max, args := ⟨tmpsTo 2⟩, argTypes := ⟨[3, 3]⟩ }) =
      match ((pureVal Try.prog (Builtin.max_ ⟨[3, 3]⟩ 0 ⟨[.int .i64 a, .int .i64 b]⟩)).filter (rigidB RD)) with | some v => some v | none => lookOp Try.prog (evL [.int .i64 a, .int .i64 b]) σ (.call { callee := .builtin .max, args := ⟨tmpsTo 2⟩, argTypes := ⟨[3, 3]⟩ }) := rfl
  rw [e2, e]; rfl
theorem min_see {a b : Int} {σ : St} : seeOp Try.prog (evL [.int .i64 a, .int .i64 b]) σ (.call { callee := .builtin .min, args := ⟨tmpsTo 2⟩, argTypes := ⟨[3, 3]⟩ }) = some (.int .i64 (min a b)) := by
  have e : pureVal Try.prog (Builtin.min_ ⟨[3, 3]⟩ 0 ⟨[.int .i64 a, .int .i64 b]⟩) = some (.int .i64 (min a b)) := by
    rw [show min a b = if b < a then b else a by split <;> omega]
    simp only [Builtin.min_, List.foldlM, Builtin.min2]
    rfl
  have e2 : seeOp Try.prog (evL [.int .i64 a, .int .i64 b]) σ (.call { callee := .builtin .min, args := ⟨tmpsTo 2⟩, argTypes := ⟨[3, 3]⟩ }) =
      match ((pureVal Try.prog (Builtin.min_ ⟨[3, 3]⟩ 0 ⟨[.int .i64 a, .int .i64 b]⟩)).filter (rigidB RD)) with | some v => some v | none => lookOp Try.prog (evL [.int .i64 a, .int .i64 b]) σ (.call { callee := .builtin .min, args := ⟨tmpsTo 2⟩, argTypes := ⟨[3, 3]⟩ }) := rfl
  rw [e2, e]; rfl

theorem slv_ints {p : Option Addr} {len i : Nat} {xs : List Int} (h : SlV Try.prog σ 3 1 p len (xs.map intV)) (hi : i < len) : ∃ a, p = some a ∧ ∃ x, xs[i]? = some x ∧ loadA Try.prog σ 3 (aadd a (Int.toNat (i : Int) * 1)) = some (.int .i64 x) := by
  obtain ⟨a, rfl, _⟩ := h.some hi
  have hl : xs.length = len := by have := h.2.1; simpa using this
  refine ⟨a, rfl, xs[i]'(by omega), by simp, h.at rfl (v := intV (xs[i]'(by omega))) (by simp)⟩

theorem smax_c {p : Option Addr} {len cap : Nat} {x : Int} {xs : List Int} (h : SlV Try.prog σ 3 1 p len ((x :: xs).map intV)) (hlen : len ≤ 1073741824) : CallsA Try.prog 87 [.slice p len cap] σ (.int .i64 (xs.foldl max x)) σ := by
  have hl : xs.length + 1 = len := by have := h.2.1; simpa using this
  obtain ⟨a, rfl, _⟩ := h.some (i := 0) (by omega)
  have h := h.re
  obtain ⟨e, fr', σ', ⟨N1, hloop⟩, he, hσ, hfr⟩ := loop_inv (P := Try.prog) (R := runA Try.prog) (rd := none) (c := smax_c1)
    (Inv := fun k fr τ => τ = σ.re ∧ ∃ (i3_1 i4_1 : Int) (g12_1 g13_1 g14_1 g15_1 g16_1 g17_1 g18_1 g19_1 g20_1 g21_1 g22_1 g23_1 : Value), fr = smax_fr1 a len cap x i3_1 i4_1 g12_1 g13_1 g14_1 g15_1 g16_1 g17_1 g18_1 g19_1 g20_1 g21_1 g22_1 g23_1 ∧ ∃ i : Nat, i4_1 = i ∧ i + k = len ∧ ((x :: xs).drop i).foldl max i3_1 = xs.foldl max x)
    (Q := fun e fr τ => e = .exit 0 ∧ τ = σ.re ∧ ∃ (i4_1 : Int) (g12_1 g13_1 g14_1 g15_1 g16_1 g17_1 g18_1 g19_1 g20_1 g21_1 g22_1 g23_1 : Value), fr = smax_fr1 a len cap x (xs.foldl max x) i4_1 g12_1 g13_1 g14_1 g15_1 g16_1 g17_1 g18_1 g19_1 g20_1 g21_1 g22_1 g23_1)
    (fun k fr τ hi => by
      obtain ⟨rfl, i3_1, i4_1, g12_1, g13_1, g14_1, g15_1, g16_1, g17_1, g18_1, g19_1, g20_1, g21_1, g22_1, g23_1, rfl, i, rfl, hk, hm⟩ := hi
      cases k with
      | zero =>
        rw [List.drop_of_length_le (by simp; omega)] at hm
        simp only [List.foldl_nil] at hm
        subst hm
        refine .out (.exit 0) _ _ (by simp) ⟨0, fun N _ => ⟨_, smax_b1b.mpr ⟨ltI_ff (by omega), rfl, rfl, rfl⟩⟩⟩ ⟨rfl, rfl, _, _, _, _, _, _, _, _, _, _, _, _, _, rfl⟩
      | succ k =>
        obtain ⟨a', e1, y, hy, hld⟩ := slv_ints h (i := i) (by omega)
        cases e1
        have hd : (x :: xs).drop i = y :: (x :: xs).drop (i + 1) := by
          obtain ⟨h1, h2⟩ := List.getElem?_eq_some_iff.1 hy
          rw [List.drop_eq_getElem_cons h1, h2]
        rw [hd, List.foldl_cons] at hm
        refine .next _ _ k (by omega) ⟨0, fun N _ => ⟨_, smax_b1a.mpr ⟨ltI_tt (by omega), ⟨by omega, by omega⟩, hld, max_see, wrap64 (n := (i : Int) + 1) (by omega) (by omega), rfl, rfl, rfl⟩⟩⟩ ⟨rfl, _, _, _, _, _, _, _, _, _, _, _, _, _, _, rfl, i + 1, by omega, by omega, hm⟩)
    (len - 1) _ σ.re ⟨rfl, _, _, _, _, _, _, _, _, _, _, _, _, _, _, rfl, 1, rfl, by omega, by rw [List.drop_succ_cons, List.drop_zero]⟩
  obtain ⟨i4_1, g12_1, g13_1, g14_1, g15_1, g16_1, g17_1, g18_1, g19_1, g20_1, g21_1, g22_1, g23_1, rfl⟩ := hfr
  subst he; subst hσ
  obtain ⟨a', e1, y, hy, hld⟩ := slv_ints h (i := 0) (by omega)
  cases e1
  simp at hy; subst hy
  have hld0 : loadA Try.prog σ.re 3 a = some (.int .i64 x) := by simpa [aadd] using hld
  exact pure_c (runs_of ⟨N1, fun N hN => ⟨_, smax_w0.mpr ⟨ltI_ff (by omega), ⟨by omega, by omega⟩, hld0, hloop N N hN hN, rfl, rfl⟩⟩⟩) (Nat.le_refl _) rfl
theorem smin_c {p : Option Addr} {len cap : Nat} {x : Int} {xs : List Int} (h : SlV Try.prog σ 3 1 p len ((x :: xs).map intV)) (hlen : len ≤ 1073741824) : CallsA Try.prog 83 [.slice p len cap] σ (.int .i64 (xs.foldl min x)) σ := by
  have hl : xs.length + 1 = len := by have := h.2.1; simpa using this
  obtain ⟨a, rfl, _⟩ := h.some (i := 0) (by omega)
  have h := h.re
  obtain ⟨e, fr', σ', ⟨N1, hloop⟩, he, hσ, hfr⟩ := loop_inv (P := Try.prog) (R := runA Try.prog) (rd := none) (c := smin_c1)
    (Inv := fun k fr τ => τ = σ.re ∧ ∃ (i3_1 i4_1 : Int) (g12_1 g13_1 g14_1 g15_1 g16_1 g17_1 g18_1 g19_1 g20_1 g21_1 g22_1 g23_1 : Value), fr = smin_fr1 a len cap x i3_1 i4_1 g12_1 g13_1 g14_1 g15_1 g16_1 g17_1 g18_1 g19_1 g20_1 g21_1 g22_1 g23_1 ∧ ∃ i : Nat, i4_1 = i ∧ i + k = len ∧ ((x :: xs).drop i).foldl min i3_1 = xs.foldl min x)
    (Q := fun e fr τ => e = .exit 0 ∧ τ = σ.re ∧ ∃ (i4_1 : Int) (g12_1 g13_1 g14_1 g15_1 g16_1 g17_1 g18_1 g19_1 g20_1 g21_1 g22_1 g23_1 : Value), fr = smin_fr1 a len cap x (xs.foldl min x) i4_1 g12_1 g13_1 g14_1 g15_1 g16_1 g17_1 g18_1 g19_1 g20_1 g21_1 g22_1 g23_1)
    (fun k fr τ hi => by
      obtain ⟨rfl, i3_1, i4_1, g12_1, g13_1, g14_1, g15_1, g16_1, g17_1, g18_1, g19_1, g20_1, g21_1, g22_1, g23_1, rfl, i, rfl, hk, hm⟩ := hi
      cases k with
      | zero =>
        rw [List.drop_of_length_le (by simp; omega)] at hm
        simp only [List.foldl_nil] at hm
        subst hm
        refine .out (.exit 0) _ _ (by simp) ⟨0, fun N _ => ⟨_, smin_b1b.mpr ⟨ltI_ff (by omega), rfl, rfl, rfl⟩⟩⟩ ⟨rfl, rfl, _, _, _, _, _, _, _, _, _, _, _, _, _, rfl⟩
      | succ k =>
        obtain ⟨a', e1, y, hy, hld⟩ := slv_ints h (i := i) (by omega)
        cases e1
        have hd : (x :: xs).drop i = y :: (x :: xs).drop (i + 1) := by
          obtain ⟨h1, h2⟩ := List.getElem?_eq_some_iff.1 hy
          rw [List.drop_eq_getElem_cons h1, h2]
        rw [hd, List.foldl_cons] at hm
        refine .next _ _ k (by omega) ⟨0, fun N _ => ⟨_, smin_b1a.mpr ⟨ltI_tt (by omega), ⟨by omega, by omega⟩, hld, min_see, wrap64 (n := (i : Int) + 1) (by omega) (by omega), rfl, rfl, rfl⟩⟩⟩ ⟨rfl, _, _, _, _, _, _, _, _, _, _, _, _, _, _, rfl, i + 1, by omega, by omega, hm⟩)
    (len - 1) _ σ.re ⟨rfl, _, _, _, _, _, _, _, _, _, _, _, _, _, _, rfl, 1, rfl, by omega, by rw [List.drop_succ_cons, List.drop_zero]⟩
  obtain ⟨i4_1, g12_1, g13_1, g14_1, g15_1, g16_1, g17_1, g18_1, g19_1, g20_1, g21_1, g22_1, g23_1, rfl⟩ := hfr
  subst he; subst hσ
  obtain ⟨a', e1, y, hy, hld⟩ := slv_ints h (i := 0) (by omega)
  cases e1
  simp at hy; subst hy
  have hld0 : loadA Try.prog σ.re 3 a = some (.int .i64 x) := by simpa [aadd] using hld
  exact pure_c (runs_of ⟨N1, fun N hN => ⟨_, smin_w0.mpr ⟨ltI_ff (by omega), ⟨by omega, by omega⟩, hld0, hloop N N hN hN, rfl, rfl⟩⟩⟩) (Nat.le_refl _) rfl

theorem greater_c {p : Option Addr} {len cap : Nat} {x : Int} {xs : List Int} (h : SlV Try.prog σ 3 1 p len ((x :: xs).map intV)) (hlen : len ≤ 1073741824) : CallsA Try.prog 70 [.slice p len cap] σ (.int .i64 (xs.foldl max x)) σ := by
  obtain ⟨N1, c1⟩ := smax_c (σ := σ.re) (cap := cap) h.re hlen
  exact pure_c (runs_of ⟨N1, fun N hN => ⟨_, greater_w0.mpr ⟨c1 N hN, rfl, rfl⟩⟩⟩) (Nat.le_refl _) rfl
theorem lesser_c {p : Option Addr} {len cap : Nat} {x : Int} {xs : List Int} (h : SlV Try.prog σ 3 1 p len ((x :: xs).map intV)) (hlen : len ≤ 1073741824) : CallsA Try.prog 62 [.slice p len cap] σ (.int .i64 (xs.foldl min x)) σ := by
  obtain ⟨N1, c1⟩ := smin_c (σ := σ.re) (cap := cap) h.re hlen
  exact pure_c (runs_of ⟨N1, fun N hN => ⟨_, lesser_w0.mpr ⟨c1 N hN, rfl, rfl⟩⟩⟩) (Nat.le_refl _) rfl
/-- A slice that was written down: two numbers. -/
theorem slv_two (a b : Int) : SlV Try.prog (σ.row [.int .i64 a, .int .i64 b] 1) 3 1 (some ⟨σ.next, 0, none⟩) 2 ([a, b].map intV) :=
  ⟨(row_new σ [.int .i64 a, .int .i64 b] 1).sl rfl, rfl, fun v hv => by
    simp at hv; rcases hv with rfl | rfl <;> exact elOk_int agg3 _ _⟩
theorem greater2_c {a b : Int} : CallsA Try.prog 70 [.slice (some ⟨σ.next, 0, none⟩) 2 2] (σ.row [.int .i64 a, .int .i64 b] 1) (.int .i64 (max a b)) (σ.row [.int .i64 a, .int .i64 b] 1) :=
  greater_c (xs := [b]) (slv_two a b) (by omega)
theorem lesser2_c {a b : Int} : CallsA Try.prog 62 [.slice (some ⟨σ.next, 0, none⟩) 2 2] (σ.row [.int .i64 a, .int .i64 b] 1) (.int .i64 (min a b)) (σ.row [.int .i64 a, .int .i64 b] 1) :=
  lesser_c (xs := [b]) (slv_two a b) (by omega)
theorem need_c {b : Bus} (h : busB b = true) : CallsA Try.prog 58 [busV b] σ (.int .i64 (needZ b)) σ := by
  have hb := busB_iff h
  obtain ⟨N1, c1⟩ := greater2_c (σ := σ.re.row (busL b) 9) (a := 0) (b := b.floor + b.uhi - b.hlo)
  exact pure_c (runs_of ⟨N1, fun N hN => ⟨_, need_w0p (wrap64 (n := b.floor + b.uhi) (by omega) (by omega)) (wrap64 (n := b.floor + b.uhi - b.hlo) (by omega) (by omega)) (c1 N hN) ⟨rfl, rfl⟩⟩⟩) (Nat.le_refl _) rfl
theorem rNeed_c {b : Bus} (h : busB b = true) : CallsA Try.prog 30 [busV b] σ (.int .i64 (needZ b)) σ := by
  have hb := busB_iff h
  exact pure_c (runs_of ⟨0, fun N hN => ⟨_, rNeed_w0p (wrap64 (n := b.floor + b.uhi) (by omega) (by omega)) (wrap64 (n := b.floor + b.uhi - b.hlo) (by omega) (by omega)) max_see ⟨rfl, rfl⟩⟩⟩) (Nat.le_refl _) rfl
theorem busThere_c {b : Bus} {s : Int} (h : busB b = true) : CallsA Try.prog 81 [busV b, .int .i64 s] σ (.bool (thereB b s)) σ := by
  have hb := busB_iff h
  obtain ⟨N1, c1⟩ := within_c (n := s) (lo := b.fr) (hi := b.to - 1) (σ := σ.re.row (busL b) 9)
  have e : inB s b.fr (b.to - 1) = thereB b s := by
    simp only [inB, thereB]
    congr 1
    exact decide_eq_decide.2 (by omega)
  rw [e] at c1
  exact pure_c (runs_of ⟨N1, fun N hN => ⟨_, busThere_w0p (wrap64 (n := b.to - 1) (by omega) (by omega)) (c1 N hN) ⟨rfl, rfl⟩⟩⟩) (Nat.le_refl _) rfl
theorem rThere_c {b : Bus} {s : Int} : CallsA Try.prog 57 [busV b, .int .i64 s] σ (.bool (thereB b s)) σ := by
  by_cases h1 : b.fr ≤ s
  · by_cases h2 : s < b.to
    · rw [show thereB b s = true by simp [thereB, h1, h2]]
      exact pure_c (runs_of ⟨0, fun N _ => ⟨_, rThere_w0p (leI_tt h1) (ltI_tt h2) ⟨rfl, rfl⟩⟩⟩) (Nat.le_refl _) rfl
    · rw [show thereB b s = false by simp [thereB, h1, h2]]
      exact pure_c (runs_of ⟨0, fun N _ => ⟨_, rThere_w1p (leI_tt h1) (ltI_ff h2) ⟨rfl, rfl⟩⟩⟩) (Nat.le_refl _) rfl
  · rw [show thereB b s = false by simp [thereB, h1]]
    exact pure_c (runs_of ⟨0, fun N _ => ⟨_, rThere_w2p (leI_ff h1) ⟨rfl, rfl⟩⟩⟩) (Nat.le_refl _) rfl
end
end Go.Proofs.Ythcdddbghldmiaa
