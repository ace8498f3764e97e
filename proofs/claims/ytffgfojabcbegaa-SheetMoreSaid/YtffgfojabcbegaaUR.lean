import Derived.Test.YtffgfojabcbegaaUP
import Derived.Test.YtffgfojabcbegaaXI

namespace Go.Proofs.Ytffgfojabcbegaa
open Go Go.Lay
set_option linter.unusedVariables false
set_option linter.unusedSimpArgs false
set_option maxRecDepth 20000
section
variable {σ τ : St}
theorem gr_st {n0 c l : Nat} {p : Option Addr} {L : List Rec} (h : Gr Try.prog τ n0 59 6 p l c (L.map yH)) {i : Nat} (x : Rec) (hi : i < L.length) :
  ∃ a τ', p = some a ∧ zL Try.prog (evL [.pointer (some (zG a (i * 6))), yH x]) τ (.store 59 (.tmp 0) (.tmp 1)) = some (undef, τ') ∧ Gr Try.prog τ' n0 59 6 p l c ((L.set i x).map yH) ∧ Only (AtP p) τ τ' := by
 have hL := h.len_eq
 have ha := h.app
 rw [zAN] at ha
 obtain ⟨cs, hcs⟩ : ∃ cs, cs = L.flatMap yI := ⟨_, rfl⟩
 have hcl : cs.length = L.length * 6 := by rw [hcs, zBG]
 have hLl : L.length = l := by simpa using hL
 rw [← hcs] at ha
 cases ha with
 | nil => omega
 | more h1 h2 h3 h4 h5 h6 h7 =>
  rename_i b s0 nx sp log
  subst h2
  have hw : xJ τ ⟨b, 0 + i * 6, sp⟩ (yI x) = some (τ.put b (.cells ((L.set i x).flatMap yI) 6 [(sp.getD 0, cs.length)] nx false)) := by
   have e6 : (yI x).length = 6 := rfl
   have hc : (Nat.beq (sp.getD 0) (sp.getD 0) && Nat.ble (0 + i * 6 + 6) cs.length && !false && (yI x).all cellB) = true := by
    rw [Nat.beq_refl, (zO _ _).2 (show 0 + i * 6 + 6 ≤ cs.length by omega)]; rfl
   unfold xJ
   simp only [h1, zW, e6, hc, cond_true, zEH, St.write_eq]
   have e : cs.take (0 + i * 6) ++ (yI x ++ cs.drop (0 + i * 6 + 6)) = (L.set i x).flatMap yI := by
    rw [Nat.zero_add, hcs]
    exact zTF L i x hi
   rw [e]
  refine ⟨⟨b, 0, sp⟩, τ.put b (.cells ((L.set i x).flatMap yI) 6 [(sp.getD 0, cs.length)] nx false), rfl, ?_, ⟨?_, by simp [hLl], ?_⟩, Only.put (.inr ⟨_, rfl, rfl⟩)⟩
  ·have e0 : zL Try.prog (evL [.pointer (some (zG ⟨b, 0, sp⟩ (i * 6))), yH x]) τ (.store 59 (.tmp 0) (.tmp 1)) = (xJ τ ⟨b, 0 + i * 6, sp⟩ (yI x)).map fun σ' => (undef, σ') := by
    have e1 : ∀ l : List Value, evL l (.tmp 0) = l.getD 0 undef := fun _ => rfl
    have e2 : ∀ l : List Value, evL l (.tmp 1) = l.getD 1 undef := fun _ => rfl
    have e3 : xC Try.prog 59 = some 6 := zBO
    unfold zL
    simp only [e1, e2, List.getD_cons_zero, List.getD_cons_succ, zFI, e3]
    rfl
   rw [e0, hw]; rfl
  ·rw [zAN]
   have e2 : ((L.set i x).flatMap yI).length = cs.length := by rw [zBG, hcl]; simp
   refine .more (log := []) (nx := nx) (s := sp.getD 0) ?_ rfl h3 h4 (by rw [e2]; omega) h6 h7
   rw [St.put_get, if_pos rfl, e2]
  ·intro v hv
   obtain ⟨y, _, rfl⟩ := List.mem_map.1 hv
   exact zIC y
theorem swap_l {A B : List Rec} {x y : Rec} : ((A ++ y :: x :: B).set (A.length + 1) y).set A.length x = A ++ x :: y :: B := by
 simp [List.set_append]
end
end Go.Proofs.Ytffgfojabcbegaa

namespace Go.Proofs.Ytffgfojabcbegaa
open Go Go.Lay
set_option linter.unusedVariables false
set_option linter.unusedSimpArgs false
set_option maxRecDepth 20000
section
variable {σ τ : St}
theorem mem_mid {A B : List Rec} {x y : Rec} : y ∈ A ++ x :: B ↔ y ∈ A ++ B ∨ y = x := by
 rw [List.mem_append, List.mem_cons, List.mem_append]
 constructor
 ·rintro (h | h | h)
  ·exact .inl (.inl h)
  ·exact .inr h
  ·exact .inl (.inr h)
 ·rintro ((h | h) | h)
  ·exact .inl h
  ·exact .inr (.inr h)
  ·exact .inr (.inl h)
theorem yRT {σ0 : St} {n0 c l lc : Nat} {la : Addr} {p : Option Addr} {i4 : Int} {out : List Rec} {x : Rec} (hN : New σ0 τ) (hn : σ0.next ≤ n0) (hg : Gr Try.prog τ n0 59 6 p (out.length + 1) c ((out ++ [x]).map yH)) (hs : Srt out) (hx : ∀ y ∈ out, ¬ zGK x y) (hl : out.length ≤ 1000000) :
  yAX la l lc p (out.length + 1) c i4 (((out.length + 1 : Nat) : Int) - 1) τ fun τ' => New σ0 τ' ∧ ∃ out', Gr Try.prog τ' n0 59 6 p (out.length + 1) c (out'.map yH) ∧ Srt out' ∧ (∀ y, y ∈ out' ↔ y ∈ out ∨ y = x) ∧ out'.length = out.length + 1 := by
 refine yKC (Inv := fun k i τ' => ∃ A B : List Rec, i = A.length ∧ k = A.length ∧ out = A ++ B ∧ New σ0 τ' ∧ Gr Try.prog τ' n0 59 6 p (out.length + 1) c ((A ++ x :: B).map yH) ∧ ∀ y ∈ B, xB x y) ?_ out.length _ τ ⟨out, [], by omega, rfl, by simp, hN, hg, by simp⟩
 rintro k i τ' ⟨A, B, rfl, rfl, rfl, hN', hg', hB⟩
 have hlen : (A ++ B).length = A.length + B.length := List.length_append
 have done : (∀ y ∈ A, xB y x) → New σ0 τ' ∧ ∃ out', Gr Try.prog τ' n0 59 6 p ((A ++ B).length + 1) c (out'.map yH) ∧ Srt out' ∧ (∀ y, y ∈ out' ↔ y ∈ A ++ B ∨ y = x) ∧ out'.length = (A ++ B).length + 1 := fun hA => by
  refine ⟨hN', A ++ x :: B, hg', ?_, fun y => mem_mid, by simp; omega⟩
  have h1 := List.pairwise_append.1 hs
  refine List.pairwise_append.2 ⟨h1.1, List.pairwise_cons.2 ⟨hB, h1.2.1⟩, fun a ha b hb => ?_⟩
  rcases List.mem_cons.1 hb with e | e
  ·rw [e]; exact hA a ha
  ·exact h1.2.2 a ha b e
 rcases List.eq_nil_or_concat A with rfl | ⟨A', y, rfl⟩
 ·exact yXB (done (by simp)) (by simp)
 simp only [List.concat_eq_append] at *
 have e0 : (A' ++ [y]) ++ x :: B = A' ++ y :: x :: B := by simp
 have hlA : (A' ++ [y]).length = A'.length + 1 := by simp
 rw [e0] at hg'
 have i1 : ((A' ++ y :: x :: B).map yH)[A'.length + 1]? = some (yH x) := by simp
 have i0 : ((A' ++ y :: x :: B).map yH)[A'.length]? = some (yH y) := by simp
 have hL : (A' ++ y :: x :: B).length = A'.length + 2 + B.length := by simp; omega
 obtain ⟨a, τ1, hp, w1, g1, o1⟩ := gr_st hg' (i := A'.length + 1) y (by omega)
 obtain ⟨a', τ2, hp', w2, g2, o2⟩ := gr_st g1 (i := A'.length) x (by simp)
 rw [hp] at hp'; cases hp'
 subst hp
 rw [swap_l] at g2
 have hb := hg'.bd ⟨a, rfl, rfl⟩
 have N1 : New σ0 τ1 := hN'.of_only o1 (fun b hb => by have := (hg'.bd hb).1; omega)
 have N2 : New σ0 τ2 := N1.of_only o2 (fun b hb => by have := (g1.bd hb).1; omega)
 have sl := hg'.slv
 have hy : y ∈ (A' ++ [y]) ++ B := by simp
 have hne : ¬ zGK x y := hx y hy
 have t1 : Int.toNat (((A' ++ [y]).length : Nat) : Int) = A'.length + 1 := by rw [hlA]; omega
 have t0 : Int.toNat ((((A' ++ [y]).length : Nat) : Int) - 1) = A'.length := by rw [hlA]; omega
 have f1 := fun k v h => uK (t' := 3) (i := A'.length + 1) (k := k) (x := v) sl i1 h zN
 have f0 := fun k v h => uK (t' := 3) (i := A'.length) (k := k) (x := v) sl i0 h zN
 have l1 : zC Try.prog τ' 59 (zG a ((A'.length + 1) * 6)) = some (yH x) := by simpa using sl.at (i := A'.length + 1) rfl i1
 have l0 : zC Try.prog τ' 59 (zG a (A'.length * 6)) = some (yH y) := by simpa using sl.at (i := A'.length) rfl i0
 rw [Int.toNat_natCast] at f1 f0
 have next : xB x y → ∃ k', k' < (A' ++ [y]).length ∧ ∃ A_1 B_1 : List Rec, (((A' ++ [y]).length : Nat) : Int) - 1 = A_1.length ∧ k' = A_1.length ∧ (A' ++ [y]) ++ B = A_1 ++ B_1 ∧ New σ0 τ2 ∧ Gr Try.prog τ2 n0 59 6 (some a) (((A' ++ [y]) ++ B).length + 1) c ((A_1 ++ x :: B_1).map yH) ∧ ∀ y ∈ B_1, xB x y := fun hk =>
  ⟨A'.length, by omega, A', y :: B, by omega, rfl, by simp, N2, g2, fun z hz => by
   rcases List.mem_cons.1 hz with e | e
   ·rw [e]; exact hk
   ·exact hB z e⟩
 have stop : ¬ xB x y → ∀ z ∈ A' ++ [y], xB z x := fun hk z hz => by
  have hyx : xB y x := by
   rcases yCR x y with h | h | h
   ·exact absurd h hk
   ·exact absurd h hne
   ·exact h
  rcases List.mem_append.1 hz with h | h
  ·have h1 := (List.pairwise_append.1 hs).1
   exact ((List.pairwise_append.1 h1).2.2 z h y (by simp)).trans hyx
  ·rw [List.mem_singleton.1 h]; exact hyx
 by_cases c1 : x.m < y.m
 ·exact yXF (by rw [t1]; exact f1 0 _ rfl) (by rw [t0]; exact f0 0 _ rfl) (by rw [t0]; exact l0) (by rw [t1]; exact l1) (by rw [t1]; exact w1) (by rw [t0]; exact w2) (next (.inl c1)) (by omega) (by omega) (by omega) (by omega) c1
 by_cases c2 : x.m = y.m
 ·by_cases c3 : x.s < y.s
  ·exact yXE (by rw [t1]; exact f1 0 _ rfl) (by rw [t0]; exact f0 0 _ rfl) (by rw [t1]; exact f1 1 _ rfl) (by rw [t0]; exact f0 1 _ rfl) (by rw [t0]; exact l0) (by rw [t1]; exact l1) (by rw [t1]; exact w1) (by rw [t0]; exact w2) (next (.inr ⟨c2, c3⟩)) (by omega) (by omega) (by omega) (by omega) c1 c2 c3
  ·exact yXD (by rw [t1]; exact f1 0 _ rfl) (by rw [t0]; exact f0 0 _ rfl) (by rw [t1]; exact f1 1 _ rfl) (by rw [t0]; exact f0 1 _ rfl) (done (stop (by unfold xB; omega))) (by omega) (by omega) (by omega) (by omega) c1 c2 c3
 ·exact yXC (by rw [t1]; exact f1 0 _ rfl) (by rw [t0]; exact f0 0 _ rfl) (done (stop (by unfold xB; omega))) (by omega) (by omega) (by omega) (by omega) c1 c2
end
end Go.Proofs.Ytffgfojabcbegaa
