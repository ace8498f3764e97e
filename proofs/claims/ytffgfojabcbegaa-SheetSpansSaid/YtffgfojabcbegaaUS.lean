
import Derived.Test.YtffgfojabcbegaaUR
namespace Go.Proofs.Ytffgfojabcbegaa
open Go Go.Lay
set_option linter.unusedVariables false
set_option linter.unusedSimpArgs false
set_option maxRecDepth 20000
section
variable {σ : St}
theorem rLog_run {p : Option Addr} {l c : Nat} {xs : List Rec} (h : RecsP σ 59 p l xs) (hl : l ≤ 1000000) (hc : Cons xs) : RunsQ Try.prog 21 [.slice p l c] σ.re fun v s => New σ.re s ∧ ∃ p' c', v = .slice p' (logL xs).length c' ∧ Gr Try.prog s σ.next 59 6 p' (logL xs).length c' ((logL xs).map recV) := by
 have hlen := h.len
 have h0 : RecsP σ.re 59 p l xs := SlV.le h (le0 σ)
 refine (rLog_ra (P0 := fun p' l' c' τ => l' = (logL xs).length ∧ New σ.re τ ∧ Gr Try.prog τ σ.next 59 6 p' l' c' ((logL xs).map recV))
  (rLog_loop1 (Inv := fun k p' l' c' i τ => ∃ (s : Nat) (out : List Rec), i = s ∧ s + k = l ∧ l' = out.length ∧ New σ.re τ ∧ Gr Try.prog τ σ.next 59 6 p' l' c' (out.map recV) ∧ Srt out ∧ (∀ y, y ∈ out ↔ y ∈ xs.take s) ∧ out.length ≤ s) ?_ l none 0 0 0 σ.re ⟨0, [], rfl, by omega, rfl, New.refl _, .nil, .nil, by simp, by simp⟩) ?_)
 rotate_left
 ·rintro p' l' c' τ ⟨rfl, hN, hg⟩
  exact rLog_t1x0a ⟨hN, p', c', rfl, hg⟩
 rintro k p' l' c' i τ ⟨s, out, rfl, hk, rfl, hN, hg, hs, hm, ho⟩
 by_cases hsl : s < l
 rotate_left
 ·rw [List.take_of_length_le (by omega)] at hm
  have e := logL_eq hc hs hm
  subst e
  exact rLog_s1b ⟨rfl, hN, hg⟩ (by omega)
 have hp := SlV.le h0 hN.le
 obtain ⟨a, rfl, x, hx, ld⟩ := slv_at hp hsl
 refine rLog_s1a (P2 := fun t τ' => τ' = τ ∧ t = decide (x ∈ out))
  (rLog_loop2 (Inv := fun k t i τ' => ∃ s' : Nat, i = s' ∧ s' + k = out.length ∧ τ' = τ ∧ t = decide (x ∈ out.take s')) ?_ out.length false 0 τ ⟨0, rfl, by omega, rfl, by simp⟩) ?_ (by omega)
 ·rintro k' t i' τ' ⟨s', rfl, hk', rfl, ht⟩
  by_cases hs' : s' < out.length
  rotate_left
  ·rw [List.take_of_length_le (by omega)] at ht
   exact rLog_s2d ⟨rfl, ht⟩ (by omega)
  obtain ⟨a', rfl, y, hy, ldy⟩ := slv_at hg.slv hs'
  have e := take_snoc hy
  cases t with
  | true => exact rLog_s2a ⟨k' - 1, by omega, s' + 1, by omega, by omega, rfl, by rw [e]; have := of_decide_eq_true ht.symm; simp [this]⟩ (by omega)
  | false =>
   have hn := of_decide_eq_false ht.symm
   have q := eql59 (x := y) (y := x) (o1 := .tmp 25) (o2 := .tmp 29)
   by_cases hyx : y = x
   ·rw [decide_eq_true hyx] at q
    exact rLog_s2b ldy ld q ⟨k' - 1, by omega, s' + 1, by omega, by omega, rfl, by rw [e]; simp [hyx]⟩ (by omega) (by omega) (by omega)
   ·rw [decide_eq_false hyx] at q
    exact rLog_s2c ldy ld q ⟨k' - 1, by omega, s' + 1, by omega, by omega, rfl, by rw [e]; simp [hn]; exact fun e => hyx e.symm⟩ (by omega) (by omega) (by omega)
 ·rintro t τ' ⟨rfl, rfl⟩
  have hxx := List.mem_of_getElem? hx
  by_cases hi : x ∈ out
  ·rw [decide_eq_true hi]
   refine rLog_t2x2a ⟨k - 1, by omega, s + 1, out, by omega, by omega, rfl, hN, hg, hs, fun y => ?_, by omega⟩
   rw [take_snoc hx, List.mem_append, List.mem_singleton, hm]
   exact ⟨.inl, fun h => h.elim id fun e => by rw [e]; exact (hm x).1 hi⟩
  ·rw [decide_eq_false hi]
   obtain ⟨p4, c4, τ4, g1, g2, g3, g4, g5⟩ := grow (σ0 := σ.re) (recV x) appT_ref hg hN (New.refl _) (elOk_ref _) (by omega) (e := rfl) (hc := rfl)
   have g2 : Gr Try.prog τ4 σ.next 59 6 p4 (out.length + 1) c4 ((out ++ [x]).map recV) := by rw [List.map_append]; exact g2
   have down := rLog_down (la := a) (l := l) (lc := c) (i4 := (s : Int)) g3 (Nat.le_refl _) g2 hs (fun y hy e => hi (by
    have hy' : y ∈ xs := List.mem_of_mem_take ((hm y).1 hy)
    have := hc.key hxx hy' e
    rw [this]; exact hy)) (by omega)
   refine rLog_t2x2b ld g1 down (fun τ5 ⟨n5, out', k1, k2, k3, k4⟩ => ?_) (by omega)
   refine rLog_t3x4a ⟨k - 1, by omega, s + 1, out', by omega, by omega, k4.symm, n5, k1, k2, fun y => ?_, by omega⟩
   rw [k3, take_snoc hx, List.mem_append, List.mem_singleton, hm]
theorem rLog_c {p : Option Addr} {l c : Nat} {xs : List Rec} (h : RecsP σ 59 p l xs) (hl : l ≤ 1000000) (hc : Cons xs) : ∃ p' c' σ', CallsA Try.prog 21 [.slice p l c] σ (.slice p' (logL xs).length c') σ' ∧ New σ σ' ∧ RecsP σ' 59 p' (logL xs).length (logL xs) ∧ ∀ b, AtP p' b → σ.next ≤ b :=
 RunsQ.newSl ((rLog_run h hl hc).mono fun v s ⟨hN, p', c', e, hg⟩ => ⟨hN, p', c', e, hg.slv, fun b hb => (hg.bd hb).1⟩)
end
end Go.Proofs.Ytffgfojabcbegaa
