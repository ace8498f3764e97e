import Derived.Test.YtffgfojabcbegaaUP
import Derived.Test.YtffgfojabcbegaaXI

namespace Go.Proofs.Ytffgfojabcbegaa
open Go Go.Lay
set_option linter.unusedVariables false
set_option linter.unusedSimpArgs false
set_option maxRecDepth 20000
section
variable {σ τ : St}
theorem gr_st {n0 c l : Nat} {p : Option Addr} {L : List Rec} (h : Gr Try.prog τ n0 59 6 p l c (L.map yP)) {i : Nat} (x : Rec) (hi : i < L.length) :
  ∃ a τ', p = some a ∧ zL Try.prog (evL [.pointer (some (zJ a (i * 6))), yP x]) τ (.store 59 (.tmp 0) (.tmp 1)) = some (undef, τ') ∧ Gr Try.prog τ' n0 59 6 p l c ((L.set i x).map yP) ∧ Only (AtP p) τ τ' := by
 have hL := h.len_eq
 have ha := h.app
 rw [zDV] at ha
 obtain ⟨cs, hcs⟩ : ∃ cs, cs = L.flatMap yH := ⟨_, rfl⟩
 have hcl : cs.length = L.length * 6 := by rw [hcs, zDK]
 have hLl : L.length = l := by simpa using hL
 rw [← hcs] at ha
 cases ha with
 | nil => omega
 | more h1 h2 h3 h4 h5 h6 h7 =>
  rename_i b s0 nx sp log
  subst h2
  have hw : xM τ ⟨b, 0 + i * 6, sp⟩ (yH x) = some (τ.put b (.cells ((L.set i x).flatMap yH) 6 [(sp.getD 0, cs.length)] nx false)) := by
   have e6 : (yH x).length = 6 := rfl
   have hc : (Nat.beq (sp.getD 0) (sp.getD 0) && Nat.ble (0 + i * 6 + 6) cs.length && !false && (yH x).all cellB) = true := by
    rw [Nat.beq_refl, (zR _ _).2 (show 0 + i * 6 + 6 ≤ cs.length by omega)]; rfl
   unfold xM
   simp only [h1, yA, e6, hc, cond_true, zDA, St.write_eq]
   have e : cs.take (0 + i * 6) ++ (yH x ++ cs.drop (0 + i * 6 + 6)) = (L.set i x).flatMap yH := by
    rw [Nat.zero_add, hcs]
    exact zTS L i x hi
   rw [e]
  refine ⟨⟨b, 0, sp⟩, τ.put b (.cells ((L.set i x).flatMap yH) 6 [(sp.getD 0, cs.length)] nx false), rfl, ?_, ⟨?_, by simp [hLl], ?_⟩, Only.put (.inr ⟨_, rfl, rfl⟩)⟩
  ·have e0 : zL Try.prog (evL [.pointer (some (zJ ⟨b, 0, sp⟩ (i * 6))), yP x]) τ (.store 59 (.tmp 0) (.tmp 1)) = (xM τ ⟨b, 0 + i * 6, sp⟩ (yH x)).map fun σ' => (undef, σ') := by
    have e1 : ∀ l : List Value, evL l (.tmp 0) = l.getD 0 undef := fun _ => rfl
    have e2 : ∀ l : List Value, evL l (.tmp 1) = l.getD 1 undef := fun _ => rfl
    have e3 : xI Try.prog 59 = some 6 := xP
    unfold zL
    simp only [e1, e2, List.getD_cons_zero, List.getD_cons_succ, zFR, e3]
    rfl
   rw [e0, hw]; rfl
  ·rw [zDV]
   have e2 : ((L.set i x).flatMap yH).length = cs.length := by rw [zDK, hcl]; simp
   refine .more (log := []) (nx := nx) (s := sp.getD 0) ?_ rfl h3 h4 (by rw [e2]; omega) h6 h7
   rw [St.put_get, if_pos rfl, e2]
  ·intro v hv
   obtain ⟨y, _, rfl⟩ := List.mem_map.1 hv
   exact zIO y
theorem swap_l {A B : List Rec} {x y : Rec} : ((A ++ y :: x :: B).set (A.length + 1) y).set A.length x = A ++ x :: y :: B := by
 simp [List.set_append]
end
end Go.Proofs.Ytffgfojabcbegaa

namespace Go.Proofs.Ytffgfojabcbegaa
open Go Go.Lay
set_option linter.unusedVariables false
set_option linter.unusedSimpArgs false
set_option maxRecDepth 20000
section
variable {σ τ : St}
theorem mem_mid {A B : List Rec} {x y : Rec} : y ∈ A ++ x :: B ↔ y ∈ A ++ B ∨ y = x := by
 rw [List.mem_append, List.mem_cons, List.mem_append]
 constructor
 ·rintro (h | h | h)
  ·exact .inl (.inl h)
  ·exact .inr h
  ·exact .inl (.inr h)
 ·rintro ((h | h) | h)
  ·exact .inl h
  ·exact .inr (.inr h)
  ·exact .inr (.inl h)
theorem ySV {σ0 : St} {n0 c l lc : Nat} {la : Addr} {p : Option Addr} {i4 : Int} {out : List Rec} {x : Rec} (hN : New σ0 τ) (hn : σ0.next ≤ n0) (hg : Gr Try.prog τ n0 59 6 p (out.length + 1) c ((out ++ [x]).map yP)) (hs : Srt out) (hx : ∀ y ∈ out, ¬ zGT x y) (hl : out.length ≤ 1000000) :
  yBL la l lc p (out.length + 1) c i4 (((out.length + 1 : Nat) : Int) - 1) τ fun τ' => New σ0 τ' ∧ ∃ out', Gr Try.prog τ' n0 59 6 p (out.length + 1) c (out'.map yP) ∧ Srt out' ∧ (∀ y, y ∈ out' ↔ y ∈ out ∨ y = x) ∧ out'.length = out.length + 1 := by
 refine yKO (Inv := fun k i τ' => ∃ A B : List Rec, i = A.length ∧ k = A.length ∧ out = A ++ B ∧ New σ0 τ' ∧ Gr Try.prog τ' n0 59 6 p (out.length + 1) c ((A ++ x :: B).map yP) ∧ ∀ y ∈ B, xJ x y) ?_ out.length _ τ ⟨out, [], by omega, rfl, by simp, hN, hg, by simp⟩
 rintro k i τ' ⟨A, B, rfl, rfl, rfl, hN', hg', hB⟩
 have hlen : (A ++ B).length = A.length + B.length := List.length_append
 have done : (∀ y ∈ A, xJ y x) → New σ0 τ' ∧ ∃ out', Gr Try.prog τ' n0 59 6 p ((A ++ B).length + 1) c (out'.map yP) ∧ Srt out' ∧ (∀ y, y ∈ out' ↔ y ∈ A ++ B ∨ y = x) ∧ out'.length = (A ++ B).length + 1 := fun hA => by
  refine ⟨hN', A ++ x :: B, hg', ?_, fun y => mem_mid, by simp; omega⟩
  have h1 := List.pairwise_append.1 hs
  refine List.pairwise_append.2 ⟨h1.1, List.pairwise_cons.2 ⟨hB, h1.2.1⟩, fun a ha b hb => ?_⟩
  rcases List.mem_cons.1 hb with e | e
  ·rw [e]; exact hA a ha
  ·exact h1.2.2 a ha b e
 rcases List.eq_nil_or_concat A with rfl | ⟨A', y, rfl⟩
 ·exact yXU (done (by simp)) (by simp)
 simp only [List.concat_eq_append] at *
 have e0 : (A' ++ [y]) ++ x :: B = A' ++ y :: x :: B := by simp
 have hlA : (A' ++ [y]).length = A'.length + 1 := by simp
 rw [e0] at hg'
 have i1 : ((A' ++ y :: x :: B).map yP)[A'.length + 1]? = some (yP x) := by simp
 have i0 : ((A' ++ y :: x :: B).map yP)[A'.length]? = some (yP y) := by simp
 have hL : (A' ++ y :: x :: B).length = A'.length + 2 + B.length := by simp; omega
 obtain ⟨a, τ1, hp, w1, g1, o1⟩ := gr_st hg' (i := A'.length + 1) y (by omega)
 obtain ⟨a', τ2, hp', w2, g2, o2⟩ := gr_st g1 (i := A'.length) x (by simp)
 rw [hp] at hp'; cases hp'
 subst hp
 rw [swap_l] at g2
 have hb := hg'.bd ⟨a, rfl, rfl⟩
 have N1 : New σ0 τ1 := hN'.of_only o1 (fun b hb => by have := (hg'.bd hb).1; omega)
 have N2 : New σ0 τ2 := N1.of_only o2 (fun b hb => by have := (g1.bd hb).1; omega)
 have sl := hg'.slv
 have hy : y ∈ (A' ++ [y]) ++ B := by simp
 have hne : ¬ zGT x y := hx y hy
 have t1 : Int.toNat (((A' ++ [y]).length : Nat) : Int) = A'.length + 1 := by rw [hlA]; omega
 have t0 : Int.toNat ((((A' ++ [y]).length : Nat) : Int) - 1) = A'.length := by rw [hlA]; omega
 have f1 := fun k v h => zGO (t' := 3) (i := A'.length + 1) (k := k) (x := v) sl i1 h zP
 have f0 := fun k v h => zGO (t' := 3) (i := A'.length) (k := k) (x := v) sl i0 h zP
 have l1 : zD Try.prog τ' 59 (zJ a ((A'.length + 1) * 6)) = some (yP x) := by simpa using sl.at (i := A'.length + 1) rfl i1
 have l0 : zD Try.prog τ' 59 (zJ a (A'.length * 6)) = some (yP y) := by simpa using sl.at (i := A'.length) rfl i0
 rw [Int.toNat_natCast] at f1 f0
 have next : xJ x y → ∃ k', k' < (A' ++ [y]).length ∧ ∃ A_1 B_1 : List Rec, (((A' ++ [y]).length : Nat) : Int) - 1 = A_1.length ∧ k' = A_1.length ∧ (A' ++ [y]) ++ B = A_1 ++ B_1 ∧ New σ0 τ2 ∧ Gr Try.prog τ2 n0 59 6 (some a) (((A' ++ [y]) ++ B).length + 1) c ((A_1 ++ x :: B_1).map yP) ∧ ∀ y ∈ B_1, xJ x y := fun hk =>
  ⟨A'.length, by omega, A', y :: B, by omega, rfl, by simp, N2, g2, fun z hz => by
   rcases List.mem_cons.1 hz with e | e
   ·rw [e]; exact hk
   ·exact hB z e⟩
 have stop : ¬ xJ x y → ∀ z ∈ A' ++ [y], xJ z x := fun hk z hz => by
  have hyx : xJ y x := by
   rcases yDG x y with h | h | h
   ·exact absurd h hk
   ·exact absurd h hne
   ·exact h
  rcases List.mem_append.1 hz with h | h
  ·have h1 := (List.pairwise_append.1 hs).1
   exact ((List.pairwise_append.1 h1).2.2 z h y (by simp)).trans hyx
  ·rw [List.mem_singleton.1 h]; exact hyx
 by_cases c1 : x.m < y.m
 ·exact yXY (by rw [t1]; exact f1 0 _ rfl) (by rw [t0]; exact f0 0 _ rfl) (by rw [t0]; exact l0) (by rw [t1]; exact l1) (by rw [t1]; exact w1) (by rw [t0]; exact w2) (next (.inl c1)) (by omega) (by omega) (by omega) (by omega) c1
 by_cases c2 : x.m = y.m
 ·by_cases c3 : x.s < y.s
  ·exact yXX (by rw [t1]; exact f1 0 _ rfl) (by rw [t0]; exact f0 0 _ rfl) (by rw [t1]; exact f1 1 _ rfl) (by rw [t0]; exact f0 1 _ rfl) (by rw [t0]; exact l0) (by rw [t1]; exact l1) (by rw [t1]; exact w1) (by rw [t0]; exact w2) (next (.inr ⟨c2, c3⟩)) (by omega) (by omega) (by omega) (by omega) c1 c2 c3
  ·exact yXW (by rw [t1]; exact f1 0 _ rfl) (by rw [t0]; exact f0 0 _ rfl) (by rw [t1]; exact f1 1 _ rfl) (by rw [t0]; exact f0 1 _ rfl) (done (stop (by unfold xJ; omega))) (by omega) (by omega) (by omega) (by omega) c1 c2 c3
 ·exact yXV (by rw [t1]; exact f1 0 _ rfl) (by rw [t0]; exact f0 0 _ rfl) (done (stop (by unfold xJ; omega))) (by omega) (by omega) (by omega) (by omega) c1 c2
end
end Go.Proofs.Ytffgfojabcbegaa

namespace Go.Proofs.Ytffgfojabcbegaa
open Go Go.Lay
set_option linter.unusedVariables false
set_option linter.unusedSimpArgs false
set_option maxRecDepth 20000
section
variable {σ : St}
theorem yYF {p : Option Addr} {l c : Nat} {xs : List Rec} (h : xB σ 59 p l xs) (hl : l ≤ 1000000) (hc : zBO xs) : zO Try.prog 21 [.slice p l c] σ.re fun v s => New σ.re s ∧ ∃ p' c', v = .slice p' (vZ xs).length c' ∧ Gr Try.prog s σ.next 59 6 p' (vZ xs).length c' ((vZ xs).map yP) := by
 have hlen := h.len
 have h0 : xB σ.re 59 p l xs := SlV.le h (le0 σ)
 refine (rLog_ra (P0 := fun p' l' c' τ => l' = (vZ xs).length ∧ New σ.re τ ∧ Gr Try.prog τ σ.next 59 6 p' l' c' ((vZ xs).map yP))
  (yKQ (Inv := fun k p' l' c' i τ => ∃ (s : Nat) (out : List Rec), i = s ∧ s + k = l ∧ l' = out.length ∧ New σ.re τ ∧ Gr Try.prog τ σ.next 59 6 p' l' c' (out.map yP) ∧ Srt out ∧ (∀ y, y ∈ out ↔ y ∈ xs.take s) ∧ out.length ≤ s) ?_ l none 0 0 0 σ.re ⟨0, [], rfl, by omega, rfl, New.refl _, .nil, .nil, by simp, by simp⟩) ?_)
 rotate_left
 ·rintro p' l' c' τ ⟨rfl, hN, hg⟩
  exact yKN ⟨hN, p', c', rfl, hg⟩
 rintro k p' l' c' i τ ⟨s, out, rfl, hk, rfl, hN, hg, hs, hm, ho⟩
 by_cases hsl : s < l
 rotate_left
 ·rw [List.take_of_length_le (by omega)] at hm
  have e := yDE hc hs hm
  subst e
  exact yYD ⟨rfl, hN, hg⟩ (by omega)
 have hp := SlV.le h0 hN.le
 obtain ⟨a, rfl, x, hx, ld⟩ := zCG hp hsl
 refine yYE (P2 := fun t τ' => τ' = τ ∧ t = decide (x ∈ out))
  (yKP (Inv := fun k t i τ' => ∃ s' : Nat, i = s' ∧ s' + k = out.length ∧ τ' = τ ∧ t = decide (x ∈ out.take s')) ?_ out.length false 0 τ ⟨0, rfl, by omega, rfl, by simp⟩) ?_ (by omega)
 ·rintro k' t i' τ' ⟨s', rfl, hk', rfl, ht⟩
  by_cases hs' : s' < out.length
  rotate_left
  ·rw [List.take_of_length_le (by omega)] at ht
   exact yXZ ⟨rfl, ht⟩ (by omega)
  obtain ⟨a', rfl, y, hy, ldy⟩ := zCG hg.slv hs'
  have e := wD hy
  cases t with
  | true => exact yYC ⟨k' - 1, by omega, s' + 1, by omega, by omega, rfl, by rw [e]; have := of_decide_eq_true ht.symm; simp [this]⟩ (by omega)
  | false =>
   have hn := of_decide_eq_false ht.symm
   have q := eql59 (x := y) (y := x) (o1 := .tmp 25) (o2 := .tmp 29)
   by_cases hyx : y = x
   ·rw [decide_eq_true hyx] at q
    exact yYB ldy ld q ⟨k' - 1, by omega, s' + 1, by omega, by omega, rfl, by rw [e]; simp [hyx]⟩ (by omega) (by omega) (by omega)
   ·rw [decide_eq_false hyx] at q
    exact yYA ldy ld q ⟨k' - 1, by omega, s' + 1, by omega, by omega, rfl, by rw [e]; simp [hn]; exact fun e => hyx e.symm⟩ (by omega) (by omega) (by omega)
 ·rintro t τ' ⟨rfl, rfl⟩
  have hxx := List.mem_of_getElem? hx
  by_cases hi : x ∈ out
  ·rw [decide_eq_true hi]
   refine yKM ⟨k - 1, by omega, s + 1, out, by omega, by omega, rfl, hN, hg, hs, fun y => ?_, by omega⟩
   rw [wD hx, List.mem_append, List.mem_singleton, hm]
   exact ⟨.inl, fun h => h.elim id fun e => by rw [e]; exact (hm x).1 hi⟩
  ·rw [decide_eq_false hi]
   obtain ⟨p4, c4, τ4, g1, g2, g3, g4, g5⟩ := grow (σ0 := σ.re) (yP x) zWS hg hN (New.refl _) (zIO _) (by omega) (e := rfl) (hc := rfl)
   have g2 : Gr Try.prog τ4 σ.next 59 6 p4 (out.length + 1) c4 ((out ++ [x]).map yP) := by rw [List.map_append]; exact g2
   have down := ySV (la := a) (l := l) (lc := c) (i4 := (s : Int)) g3 (Nat.le_refl _) g2 hs (fun y hy e => hi (by
    have hy' : y ∈ xs := List.mem_of_mem_take ((hm y).1 hy)
    have := hc.key hxx hy' e
    rw [this]; exact hy)) (by omega)
   refine yKL ld g1 down (fun τ5 ⟨n5, out', k1, k2, k3, k4⟩ => ?_) (by omega)
   refine yKK ⟨k - 1, by omega, s + 1, out', by omega, by omega, k4.symm, n5, k1, k2, fun y => ?_, by omega⟩
   rw [k3, wD hx, List.mem_append, List.mem_singleton, hm]
end
end Go.Proofs.Ytffgfojabcbegaa
