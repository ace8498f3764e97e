/- Contracts: what the buses of a garage need; the error of the reference; few slots and buses. -/
import Derived.Test.YthcdddbghldmiaaC4
import Derived.Test.YthcdddbghldmiaaP2
namespace Go.Proofs.Ythcdddbghldmiaa
open Go Go.Lay
set_option linter.unusedVariables false
set_option linter.unusedSimpArgs false
set_option maxRecDepth 20000
section
variable {σ : St}
theorem appT_ints : AppT Try.prog 59 59 3 1 := appT_of (by kernel_rfl)
theorem slv_agg {t n len i : Nat} {p : Option Addr} {α : Type} {xs : List α} {f : α → Value} (h : SlV Try.prog σ t n p len (xs.map f)) (hi : i < len) : ∃ a, p = some a ∧ ∃ x, xs[i]? = some x ∧ loadA Try.prog σ t (aadd a (Int.toNat (i : Int) * n)) = some (f x) := by
  obtain ⟨a, rfl, _⟩ := h.some hi
  have hl : xs.length = len := by have := h.2.1; simpa using this
  exact ⟨a, rfl, xs[i]'(by omega), by simp, h.at rfl (by rw [List.getElem?_map, List.getElem?_eq_getElem (by omega)]; rfl)⟩
theorem take_snoc {α : Type} {xs : List α} {i : Nat} {x : α} (h : xs[i]? = some x) : xs.take (i + 1) = xs.take i ++ [x] := by
  obtain ⟨h1, h2⟩ := List.getElem?_eq_some_iff.1 h
  rw [List.take_succ_eq_append_getElem h1, h2]

theorem needs_bad {p q : Option Addr} {l c m d : Nat} {g : Gar} (h : GarP σ p l q m g) (hz : checkZ g ≠ 0) : CallsA Try.prog 29 [.agg ⟨garL p l c q m d⟩] σ (.tuple ⟨[.slice none 0 0, .int .i64 (checkZ g)]⟩) σ := by
  obtain ⟨N1, c1⟩ := check_c (σ := σ.re.row (garL p l c q m d) 2) (c := c) (d := d) (h.le ((le0 σ).trans (Le.row _ _ _)))
  exact pure_c (runs_of ⟨N1, fun N hN => ⟨_, needs_w0p (c1 N hN) (neqI_tt hz) ⟨rfl, rfl⟩⟩⟩) (Nat.le_refl _) rfl

theorem needs_good {p q : Option Addr} {l c m d : Nat} {g : Gar} (h : GarP σ p l q m g) (hz : checkZ g = 0) :
    ∃ q' d' σ', CallsA Try.prog 29 [.agg ⟨garL p l c q m d⟩] σ (.tuple ⟨[.slice q' m d', .int .i64 0]⟩) σ' ∧ New σ σ' ∧ SlV Try.prog σ' 3 1 q' m ((g.buses.map needZ).map intV) := by
  have hok := check_zero hz
  have hm := h.len2
  have hle : Le σ (σ.re.row (garL p l c q m d) 2) := (le0 σ).trans (Le.row _ _ _)
  obtain ⟨N1, c1⟩ := check_c (σ := σ.re.row (garL p l c q m d) 2) (c := c) (d := d) (h.le hle)
  rw [hz] at c1
  let n0 := (σ.re.row (garL p l c q m d) 2).next
  have hk0 : Keep n0 (σ.re.row (garL p l c q m d) 2) (σ.re.row (garL p l c q m d) 2) := Keep.refl _ _
  obtain ⟨e, fr', σ', ⟨N2, hloop⟩, he, hq⟩ := loop_inv (P := Try.prog) (R := runA Try.prog) (rd := none) (c := needs_c1)
    (Inv := fun k fr τ => ∃ (p5_1 : Option Addr) (l5_1 c5_1 : Nat) (g7_1 : Value) (i16_1 : Int) (g17_1 g18_1 g19_1 g20_1 g21_1 g22_1 g23_1 g24_1 g25_1 : Value), fr = needs_fr1 p l c q m d σ.next 0 p5_1 l5_1 c5_1 g7_1 i16_1 g17_1 g18_1 g19_1 g20_1 g21_1 g22_1 g23_1 g24_1 g25_1 ∧ ∃ i : Nat, i16_1 = i ∧ i + k = m ∧ i = l5_1 ∧ Keep n0 (σ.re.row (garL p l c q m d) 2) τ ∧ App τ n0 1 (.slice p5_1 l5_1 c5_1) i (flat (((g.buses.take i).map needZ).map intV)))
    (Q := fun e fr τ => e = .exit 0 ∧ ∃ (p5_1 : Option Addr) (l5_1 c5_1 : Nat) (g7_1 : Value) (i16_1 : Int) (g17_1 g18_1 g19_1 g20_1 g21_1 g22_1 g23_1 g24_1 g25_1 : Value), fr = needs_fr1 p l c q m d σ.next 0 p5_1 l5_1 c5_1 g7_1 i16_1 g17_1 g18_1 g19_1 g20_1 g21_1 g22_1 g23_1 g24_1 g25_1 ∧ l5_1 = m ∧ Keep n0 (σ.re.row (garL p l c q m d) 2) τ ∧ App τ n0 1 (.slice p5_1 l5_1 c5_1) m (flat ((g.buses.map needZ).map intV)))
    (fun k fr τ hi => by
      obtain ⟨p5_1, l5_1, c5_1, g7_1, i16_1, g17_1, g18_1, g19_1, g20_1, g21_1, g22_1, g23_1, g24_1, g25_1, rfl, i, rfl, hk, rfl, hkp, happ⟩ := hi
      cases k with
      | zero =>
        have hi : i = m := by omega
        subst hi
        rw [List.take_of_length_le (by omega)] at happ
        exact .out (.exit 0) _ _ (by simp) ⟨0, fun N _ => ⟨_, needs_b1b.mpr ⟨ltI_ff (by omega), rfl, rfl, rfl⟩⟩⟩ ⟨rfl, _, _, _, _, _, _, _, _, _, _, _, _, _, _, rfl, rfl, hkp, happ⟩
      | succ k =>
        have hb : SlV Try.prog τ 97 9 q m (g.buses.map busV) := slv_keepN (h.bu.le hle) hkp (fun a e => Nat.lt_of_lt_of_le (slv_lt (h.bu.le (le0 σ)) a e) (by simp [n0]))
        obtain ⟨a, rfl, b, hbi, hld⟩ := slv_agg hb (i := i) (by omega)
        have hbv := hok.2.2.2 b (List.mem_of_getElem? hbi)
        let τ1 := ((τ.row (ints9 0 0 0 0 0 0 0 0 0) 9).own τ.next (busL b) 9).row [.int .i64 (needZ b)] 1
        have hl1 : Le τ ((τ.row (ints9 0 0 0 0 0 0 0 0 0) 9).own τ.next (busL b) 9) := (Le.row _ _ _).own (Nat.le_refl _)
        have hn : n0 ≤ τ.next := hkp.next
        have hk1 : Keep n0 τ τ1 := ((Keep.row hn _ _).trans (Keep.own (by omega) _ _)).trans (Keep.row (by simp; omega) _ _)
        obtain ⟨N3, c3⟩ := need_c (σ := (τ.row (ints9 0 0 0 0 0 0 0 0 0) 9).own τ.next (busL b) 9) hbv
        obtain ⟨p', c', τ2, g1, g2, g3⟩ := app_step (m := 1) (k := 1) appT_ints (happ.keep (hl1.trans (Le.row _ [.int .i64 (needZ b)] 1))) (row_new _ [.int .i64 (needZ b)] 1) (by simp) (by omega) (by omega) rfl (by simp; omega)
        refine .next _ _ k (by omega) ⟨N3, fun N hN => ⟨_, needs_b1ap (ltI_tt (by omega)) ⟨by omega, by omega⟩ hld (c3 N hN) g1 (wrap64 (n := (i : Int) + 1) (by omega) (by omega)) ⟨rfl, rfl, rfl⟩⟩⟩
          ⟨_, _, _, _, _, _, _, _, _, _, _, _, _, _, rfl, i + 1, by omega, by omega, rfl, (hkp.trans hk1).trans g3, ?_⟩
        rw [take_snoc hbi, List.map_append, List.map_append, flat_append]
        exact g2)
    m _ (σ.re.row (garL p l c q m d) 2) ⟨_, _, _, _, _, _, _, _, _, _, _, _, _, _, rfl, 0, rfl, by omega, rfl, Keep.refl _ _, by simpa [flat] using App.nil⟩
  obtain ⟨p5_1, l5_1, c5_1, g7_1, i16_1, g17_1, g18_1, g19_1, g20_1, g21_1, g22_1, g23_1, g24_1, g25_1, rfl, rfl, hkp, happ⟩ := hq
  subst he
  have hsl : SlV Try.prog σ' 3 1 p5_1 l5_1 ((g.buses.map needZ).map intV) := happ.slv (by simp; omega) (fun v hv => by
    obtain ⟨x, _, rfl⟩ := List.mem_map.1 hv
    exact elOk_int agg3 _ _)
  have hnew : New σ.re σ' := (New.row _ _ _).trans (New.of_keep hkp)
  obtain ⟨v, σ'', k1, k2, q', d', rfl, k3⟩ := new_c (σ := σ) (Q := fun v s => ∃ q' d', v = .tuple ⟨[.slice q' l5_1 d', .int .i64 0]⟩ ∧ SlV Try.prog s 3 1 q' l5_1 ((g.buses.map needZ).map intV))
    (runs_of ⟨N1 + N2, fun N hN => ⟨_, needs_w1p (c1 N (by omega)) (neqI_ff rfl) (hloop N N (by omega) (by omega)) ⟨rfl, rfl⟩⟩⟩) hnew ⟨_, _, rfl, hsl⟩
    (fun s s' ⟨q', d', e, hs⟩ hl => ⟨q', d', e, hs.le hl⟩) (fun hr => by
      cases p5_1 with
      | none => exact ⟨none, _, rfl, slv_none hsl⟩
      | some a => simp [rigidB, atomB, RD] at hr)
  exact ⟨q', d', σ'', k1, k2, k3⟩
end
end Go.Proofs.Ythcdddbghldmiaa
