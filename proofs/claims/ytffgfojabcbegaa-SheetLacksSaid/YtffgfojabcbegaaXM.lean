import Derived.Test.YtffgfojabcbegaaUR
import Derived.Test.YtffgfojabcbegaaTy

namespace Go.Proofs.Ytffgfojabcbegaa
open Go Go.Lay
set_option linter.unusedVariables false
set_option linter.unusedSimpArgs false
set_option maxRecDepth 20000
section
variable {σ : St}
theorem rLog_c {p : Option Addr} {l c : Nat} {xs : List Rec} (h : yP σ 59 p l xs) (hl : l ≤ 1000000) (hc : zEM xs) : ∃ p' c' σ', zE Try.prog 21 [.slice p l c] σ (.slice p' (zAK xs).length c') σ' ∧ New σ σ' ∧ yP σ' 59 p' (zAK xs).length (zAK xs) ∧ ∀ b, AtP p' b → σ.next ≤ b := by
 have hlen := h.len
 have h0 : yP σ.re 59 p l xs := SlV.le h (le0 σ)
 refine zM.newSl (rLog_ra (P0 := fun p' l' c' τ => l' = (zAK xs).length ∧ New σ.re τ ∧ Gr Try.prog τ σ.next 59 6 p' l' c' ((zAK xs).map yM))
  (rLog_loop1 (Inv := fun k p' l' c' i τ => ∃ (s : Nat) (out : List Rec), i = s ∧ s + k = l ∧ l' = out.length ∧ New σ.re τ ∧ Gr Try.prog τ σ.next 59 6 p' l' c' (out.map yM) ∧ Srt out ∧ (∀ y, y ∈ out ↔ y ∈ xs.take s) ∧ out.length ≤ s) ?_ l none 0 0 0 σ.re ⟨0, [], rfl, by omega, rfl, New.refl _, .nil, .nil, by simp, by simp⟩) ?_)
 rotate_left
 ·rintro p' l' c' τ ⟨rfl, hN, hg⟩
  exact rLog_t1x0a ⟨hN, p', c', rfl, hg.slv, fun b hb => (hg.bd hb).1⟩
 rintro k p' l' c' i τ ⟨s, out, rfl, hk, rfl, hN, hg, hs, hm, ho⟩
 by_cases hsl : s < l
 rotate_left
 ·rw [List.take_of_length_le (by omega)] at hm
  have e := logL_eq hc hs hm
  subst e
  exact rLog_s1b ⟨rfl, hN, hg⟩ (by omega)
 have hp := SlV.le h0 hN.le
 obtain ⟨a, rfl, x, hx, ld⟩ := zAN hp hsl
 refine rLog_s1a (P2 := fun t τ' => τ' = τ ∧ t = decide (x ∈ out))
  (rLog_loop2 (Inv := fun k t i τ' => ∃ s' : Nat, i = s' ∧ s' + k = out.length ∧ τ' = τ ∧ t = decide (x ∈ out.take s')) ?_ out.length false 0 τ ⟨0, rfl, by omega, rfl, by simp⟩) ?_ (by omega)
 ·rintro k' t i' τ' ⟨s', rfl, hk', rfl, ht⟩
  by_cases hs' : s' < out.length
  rotate_left
  ·rw [List.take_of_length_le (by omega)] at ht
   exact rLog_s2d ⟨rfl, ht⟩ (by omega)
  obtain ⟨a', rfl, y, hy, ldy⟩ := zAN hg.slv hs'
  have e := xO hy
  cases t with
  | true => exact rLog_s2a ⟨k' - 1, by omega, s' + 1, by omega, by omega, rfl, by rw [e]; have := of_decide_eq_true ht.symm; simp [this]⟩ (by omega)
  | false =>
   have hn := of_decide_eq_false ht.symm
   have q := eql59 (x := y) (y := x) (o1 := .tmp 25) (o2 := .tmp 29)
   by_cases hyx : y = x
   ·rw [decide_eq_true hyx] at q
    exact rLog_s2b ldy ld q ⟨k' - 1, by omega, s' + 1, by omega, by omega, rfl, by rw [e]; simp [hyx]⟩ (by omega) (by omega) (by omega)
   ·rw [decide_eq_false hyx] at q
    exact rLog_s2c ldy ld q ⟨k' - 1, by omega, s' + 1, by omega, by omega, rfl, by rw [e]; simp [hn]; exact fun e => hyx e.symm⟩ (by omega) (by omega) (by omega)
 ·rintro t τ' ⟨rfl, rfl⟩
  have hxx := List.mem_of_getElem? hx
  by_cases hi : x ∈ out
  ·rw [decide_eq_true hi]
   refine rLog_t2x2a ⟨k - 1, by omega, s + 1, out, by omega, by omega, rfl, hN, hg, hs, fun y => ?_, by omega⟩
   rw [xO hx, List.mem_append, List.mem_singleton, hm]
   exact ⟨.inl, fun h => h.elim id fun e => by rw [e]; exact (hm x).1 hi⟩
  ·rw [decide_eq_false hi]
   obtain ⟨p4, c4, τ4, g1, g2, g3, g4, g5⟩ := grow (σ0 := σ.re) (yM x) appT_ref hg hN (New.refl _) (elOk_ref _) (by omega) (e := rfl) (hc := rfl)
   have g2 : Gr Try.prog τ4 σ.next 59 6 p4 (out.length + 1) c4 ((out ++ [x]).map yM) := by rw [List.map_append]; exact g2
   have down := rLog_down (la := a) (l := l) (lc := c) (i4 := (s : Int)) g3 (Nat.le_refl _) g2 hs (fun y hy e => hi (by
    have hy' : y ∈ xs := List.mem_of_mem_take ((hm y).1 hy)
    have := hc.key hxx hy' e
    rw [this]; exact hy)) (by omega)
   refine rLog_t2x2b ld g1 down (fun τ5 ⟨n5, out', k1, k2, k3, k4⟩ => ?_) (by omega)
   refine rLog_t3x4a ⟨k - 1, by omega, s + 1, out', by omega, by omega, k4.symm, n5, k1, k2, fun y => ?_, by omega⟩
   rw [k3, xO hx, List.mem_append, List.mem_singleton, hm]
end
end Go.Proofs.Ytffgfojabcbegaa

namespace Go.Proofs.Ytffgfojabcbegaa
open Go Go.Lay
open Try renaming prog → Pg
set_option linter.unusedVariables false
set_option maxRecDepth 20000
variable {l q1 q3 q6 q9 q11 : Option Addr} {l_l l_c l1 c1 l3 c3 l6 c6 l9 c9 l11 c11 : Nat} {σ σ2 σ5 σ7 σ10 σ13 : St} {Q : Value → St → Prop} {n4 n8 : Int}
theorem lLacks_ra (nx : Q (.bool true) σ) (u1 : 65 < ((l_l : Nat) : Int) := by omega) : TopQ Pg 12 4 [.slice l l_l l_c] σ Q :=
 topQ_of [.g, .g, .g, .b true, .c (.bool true) σ, .g] (kc (by kernel_rfl) (ai (zN u1) (ai (topE : zGD (topR Pg 12) (.func 12) [] σ (.bool true) σ) nx)))
theorem lLacks_rb (h1 : zE Pg 14 [.slice l l_l l_c] σ (.slice q1 l1 c1) σ2) (h2 : zE Pg 18 [.slice q1 l1 c1] σ2 (.tuple ⟨[.slice q3 l3 c3, iV n4]⟩) σ5) (h3 : zE Pg 16 [.slice l l_l l_c] σ5 (.slice q6 l6 c6) σ7) (h4 : zE Pg 19 [.slice q6 l6 c6] σ7 (iV n8) σ7) (h5 : zE Pg 21 [.slice l l_l l_c] σ7 (.slice q9 l9 c9) σ10) (h6 : zE Pg 20 [.slice q9 l9 c9] σ10 (.tuple ⟨[.slice q11 l11 c11, .bool true]⟩) σ13) (h7 : zE Pg 22 [.slice q3 l3 c3, .slice q11 l11 c11] σ13 (.bool true) σ13) (nx : Q (.bool true) σ13) (u1 : ¬ 65 < ((l_l : Nat) : Int) := by omega) (u2 : n8 = 0 := by omega) (u3 : n4 = 0 := by omega) : TopQ Pg 12 4 [.slice l l_l l_c] σ Q :=
 topQ_of [.g, .g, .g, .b false, .g, .c (.slice q1 l1 c1) σ2, .c (.tuple ⟨[.slice q3 l3 c3, iV n4]⟩) σ5, .g, .g, .g, .g, .g, .g, .c (.slice q6 l6 c6) σ7, .c (iV n8) σ7, .g, .g, .g, .b true, .g, .g, .c (.slice q9 l9 c9) σ10, .c (.tuple ⟨[.slice q11 l11 c11, .bool true]⟩) σ13, .g, .g, .g, .g, .g, .g, .g, .g, .b false, .g, .b true, .g, .g, .g, .c (.bool true) σ13, .g, .g, .c (.bool true) σ13, .g, .g] (kc (by kernel_rfl) (ai (zV u1) (ai (zE.top (aw := 12) h1) (ai (zE.top (aw := 12) h2) (ai (zE.top (aw := 12) h3) (ai (zE.top (aw := 12) h4) (ai (yN u2) (ai (zE.top (aw := 12) h5) (ai (zE.top (aw := 12) h6) (ai (yX u2) (ai (yN u3) (ai (zE.top (aw := 12) h7) (ai (topE : zGD (topR Pg 12) (.func 12) [] σ13 (.bool true) σ13) nx)))))))))))))
theorem lLacks_re (h1 : zE Pg 14 [.slice l l_l l_c] σ (.slice q1 l1 c1) σ2) (h2 : zE Pg 18 [.slice q1 l1 c1] σ2 (.tuple ⟨[.slice q3 l3 c3, iV n4]⟩) σ5) (h3 : zE Pg 16 [.slice l l_l l_c] σ5 (.slice q6 l6 c6) σ7) (h4 : zE Pg 19 [.slice q6 l6 c6] σ7 (iV n8) σ7) (h5 : zE Pg 21 [.slice l l_l l_c] σ7 (.slice q9 l9 c9) σ10) (h6 : zE Pg 20 [.slice q9 l9 c9] σ10 (.tuple ⟨[.slice q11 l11 c11, .bool false]⟩) σ13) (nx : Q (.bool true) σ13) (u1 : ¬ 65 < ((l_l : Nat) : Int) := by omega) (u2 : n8 = 0 := by omega) (u3 : n4 = 9 := by omega) (u4 : ((l3 : Nat) : Int) = 0 := by omega) : TopQ Pg 12 4 [.slice l l_l l_c] σ Q :=
 topQ_of [.g, .g, .g, .b false, .g, .c (.slice q1 l1 c1) σ2, .c (.tuple ⟨[.slice q3 l3 c3, iV n4]⟩) σ5, .g, .g, .g, .g, .g, .g, .c (.slice q6 l6 c6) σ7, .c (iV n8) σ7, .g, .g, .g, .b true, .g, .g, .c (.slice q9 l9 c9) σ10, .c (.tuple ⟨[.slice q11 l11 c11, .bool false]⟩) σ13, .g, .g, .g, .g, .g, .g, .g, .g, .g, .g, .g, .g, .b true, .g, .g, .g, .b true, .g, .g, .c (.bool true) σ13, .g, .g] (kc (by kernel_rfl) (ai (zV u1) (ai (zE.top (aw := 12) h1) (ai (zE.top (aw := 12) h2) (ai (zE.top (aw := 12) h3) (ai (zE.top (aw := 12) h4) (ai (yN u2) (ai (zE.top (aw := 12) h5) (ai (zE.top (aw := 12) h6) (ai (yN u3) (ai (yN u4) (ai (topE : zGD (topR Pg 12) (.func 12) [] σ13 (.bool true) σ13) nx))))))))))))
theorem lLacks_rh (h1 : zE Pg 14 [.slice l l_l l_c] σ (.slice q1 l1 c1) σ2) (h2 : zE Pg 18 [.slice q1 l1 c1] σ2 (.tuple ⟨[.slice q3 l3 c3, iV n4]⟩) σ5) (h3 : zE Pg 16 [.slice l l_l l_c] σ5 (.slice q6 l6 c6) σ7) (h4 : zE Pg 19 [.slice q6 l6 c6] σ7 (iV n8) σ7) (nx : Q (.bool true) σ7) (u1 : ¬ 65 < ((l_l : Nat) : Int) := by omega) (u2 : ¬ n8 = 0 := by omega) (u3 : n4 = n8 := by omega) (u4 : ((l3 : Nat) : Int) = 0 := by omega) : TopQ Pg 12 4 [.slice l l_l l_c] σ Q :=
 topQ_of [.g, .g, .g, .b false, .g, .c (.slice q1 l1 c1) σ2, .c (.tuple ⟨[.slice q3 l3 c3, iV n4]⟩) σ5, .g, .g, .g, .g, .g, .g, .c (.slice q6 l6 c6) σ7, .c (iV n8) σ7, .g, .g, .g, .b false, .g, .b true, .g, .g, .b true, .g, .g, .g, .b true, .g, .g, .c (.bool true) σ7, .g, .g] (kc (by kernel_rfl) (ai (zV u1) (ai (zE.top (aw := 12) h1) (ai (zE.top (aw := 12) h2) (ai (zE.top (aw := 12) h3) (ai (zE.top (aw := 12) h4) (ai (yL u2) (ai (zBJ u2) (ai (yN u3) (ai (yN u4) (ai (topE : zGD (topR Pg 12) (.func 12) [] σ7 (.bool true) σ7) nx)))))))))))
end Go.Proofs.Ytffgfojabcbegaa
