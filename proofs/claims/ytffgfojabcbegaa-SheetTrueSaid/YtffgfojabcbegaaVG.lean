import Derived.Test.YtffgfojabcbegaaUR
import Derived.Test.YtffgfojabcbegaaUN
import Derived.Test.YtffgfojabcbegaaPB
import Derived.Test.YtffgfojabcbegaaTy
import Derived.Test.YtffgfojabcbegaaSE
import Derived.Test.YtffgfojabcbegaaLayD

namespace Go.Proofs.Ytffgfojabcbegaa
open Go Go.Lay
set_option linter.unusedVariables false
set_option linter.unusedSimpArgs false
set_option maxRecDepth 20000
section
variable {σ : St}
theorem rLog_run {p : Option Addr} {l c : Nat} {xs : List Rec} (h : yZ σ 59 p l xs) (hl : l ≤ 1000000) (hc : vJ xs) : zJ Try.prog 21 [.slice p l c] σ.re fun v s => New σ.re s ∧ ∃ p' c', v = .slice p' (xJ xs).length c' ∧ Gr Try.prog s σ.next 59 6 p' (xJ xs).length c' ((xJ xs).map yI) := by
 have hlen := h.len
 have h0 : yZ σ.re 59 p l xs := SlV.le h (le0 σ)
 refine (rLog_ra (P0 := fun p' l' c' τ => l' = (xJ xs).length ∧ New σ.re τ ∧ Gr Try.prog τ σ.next 59 6 p' l' c' ((xJ xs).map yI))
  (rLog_loop1 (Inv := fun k p' l' c' i τ => ∃ (s : Nat) (out : List Rec), i = s ∧ s + k = l ∧ l' = out.length ∧ New σ.re τ ∧ Gr Try.prog τ σ.next 59 6 p' l' c' (out.map yI) ∧ Srt out ∧ (∀ y, y ∈ out ↔ y ∈ xs.take s) ∧ out.length ≤ s) ?_ l none 0 0 0 σ.re ⟨0, [], rfl, by omega, rfl, New.refl _, .nil, .nil, by simp, by simp⟩) ?_)
 rotate_left
 ·rintro p' l' c' τ ⟨rfl, hN, hg⟩
  exact rLog_t1x0a ⟨hN, p', c', rfl, hg⟩
 rintro k p' l' c' i τ ⟨s, out, rfl, hk, rfl, hN, hg, hs, hm, ho⟩
 by_cases hsl : s < l
 rotate_left
 ·rw [List.take_of_length_le (by omega)] at hm
  have e := logL_eq hc hs hm
  subst e
  exact rLog_s1b ⟨rfl, hN, hg⟩ (by omega)
 have hp := SlV.le h0 hN.le
 obtain ⟨a, rfl, x, hx, ld⟩ := zBZ hp hsl
 refine rLog_s1a (P2 := fun t τ' => τ' = τ ∧ t = decide (x ∈ out))
  (rLog_loop2 (Inv := fun k t i τ' => ∃ s' : Nat, i = s' ∧ s' + k = out.length ∧ τ' = τ ∧ t = decide (x ∈ out.take s')) ?_ out.length false 0 τ ⟨0, rfl, by omega, rfl, by simp⟩) ?_ (by omega)
 ·rintro k' t i' τ' ⟨s', rfl, hk', rfl, ht⟩
  by_cases hs' : s' < out.length
  rotate_left
  ·rw [List.take_of_length_le (by omega)] at ht
   exact rLog_s2d ⟨rfl, ht⟩ (by omega)
  obtain ⟨a', rfl, y, hy, ldy⟩ := zBZ hg.slv hs'
  have e := xL hy
  cases t with
  | true => exact rLog_s2a ⟨k' - 1, by omega, s' + 1, by omega, by omega, rfl, by rw [e]; have := of_decide_eq_true ht.symm; simp [this]⟩ (by omega)
  | false =>
   have hn := of_decide_eq_false ht.symm
   have q := eql59 (x := y) (y := x) (o1 := .tmp 25) (o2 := .tmp 29)
   by_cases hyx : y = x
   ·rw [decide_eq_true hyx] at q
    exact rLog_s2b ldy ld q ⟨k' - 1, by omega, s' + 1, by omega, by omega, rfl, by rw [e]; simp [hyx]⟩ (by omega) (by omega) (by omega)
   ·rw [decide_eq_false hyx] at q
    exact rLog_s2c ldy ld q ⟨k' - 1, by omega, s' + 1, by omega, by omega, rfl, by rw [e]; simp [hn]; exact fun e => hyx e.symm⟩ (by omega) (by omega) (by omega)
 ·rintro t τ' ⟨rfl, rfl⟩
  have hxx := List.mem_of_getElem? hx
  by_cases hi : x ∈ out
  ·rw [decide_eq_true hi]
   refine rLog_t2x2a ⟨k - 1, by omega, s + 1, out, by omega, by omega, rfl, hN, hg, hs, fun y => ?_, by omega⟩
   rw [xL hx, List.mem_append, List.mem_singleton, hm]
   exact ⟨.inl, fun h => h.elim id fun e => by rw [e]; exact (hm x).1 hi⟩
  ·rw [decide_eq_false hi]
   obtain ⟨p4, c4, τ4, g1, g2, g3, g4, g5⟩ := grow (σ0 := σ.re) (yI x) appT_ref hg hN (New.refl _) (zKD _) (by omega) (e := rfl) (hc := rfl)
   have g2 : Gr Try.prog τ4 σ.next 59 6 p4 (out.length + 1) c4 ((out ++ [x]).map yI) := by rw [List.map_append]; exact g2
   have down := rLog_down (la := a) (l := l) (lc := c) (i4 := (s : Int)) g3 (Nat.le_refl _) g2 hs (fun y hy e => hi (by
    have hy' : y ∈ xs := List.mem_of_mem_take ((hm y).1 hy)
    have := hc.key hxx hy' e
    rw [this]; exact hy)) (by omega)
   refine rLog_t2x2b ld g1 down (fun τ5 ⟨n5, out', k1, k2, k3, k4⟩ => ?_) (by omega)
   refine rLog_t3x4a ⟨k - 1, by omega, s + 1, out', by omega, by omega, k4.symm, n5, k1, k2, fun y => ?_, by omega⟩
   rw [k3, xL hx, List.mem_append, List.mem_singleton, hm]
end
end Go.Proofs.Ytffgfojabcbegaa

namespace Go.Proofs.Ytffgfojabcbegaa
open Go Go.Lay
set_option linter.unusedVariables false
set_option linter.unusedSimpArgs false
set_option maxRecDepth 20000
def Bd (x : Rec) : Prop := (0 ≤ x.s ∧ x.s ≤ 10000000) ∧ (0 ≤ x.a ∧ x.a ≤ 10000000) ∧ (0 ≤ x.b ∧ x.b ≤ 10000000)
theorem bd_right {x : Rec} (h : zZ x = true) : Bd x := by
 have := zEY h
 unfold Bd; omega
section
variable {σ : St}
end
end Go.Proofs.Ytffgfojabcbegaa

namespace Go.Proofs.Ytffgfojabcbegaa
open Go Go.Lay
set_option linter.unusedVariables false
set_option linter.unusedSimpArgs false
set_option maxRecDepth 20000
structure SameY (n0 : Nat) (Y : Nat → Prop) (z z' : St) : Prop where
 next : z.next ≤ z'.next
 get : ∀ y, y < z.next → ¬ Y y → (∀ tm ps a b st pend db, xV z.heap y ≠ some (.loop tm ps a b st pend db)) → xV z'.heap y = xV z.heap y
 old : ∀ y, y < n0 → xV z'.heap y = xV z.heap y
abbrev Same (n0 : Nat) (z z' : St) : Prop := SameY n0 (fun _ => False) z z'
end Go.Proofs.Ytffgfojabcbegaa

namespace Go.Proofs.Ytffgfojabcbegaa
open Go Go.Lay
set_option linter.unusedVariables false
set_option linter.unusedSimpArgs false
set_option maxRecDepth 20000
section
variable {σ : St}
theorem zAA.single {ts te b : Nat} {p : Option Addr} {l c : Nat} {xs : List Rec} (ha : zCJ Try.prog ts = some false) (o : Own σ b [.slice p l c] 1) (h : yZ σ te p l xs) : zAA σ ts te (some ⟨b, 0, none⟩) 1 [xs] := by
 have hl := h.len
 refine ⟨[.slice p l c], ⟨⟨rfl, o.rw⟩, rfl, ?_⟩, rfl, ?_⟩
 ·intro v hv
  simp at hv
  subst hv
  exact .inl ⟨ha, rfl, rfl⟩
 ·intro i r hi
  rcases i with _ | i
  ·cases hi; exact ⟨p, c, by rw [hl]; rfl, by rw [hl]; exact h⟩
  ·simp at hi
theorem faultZ_one {xs : List Rec} : xD [xs] = if 60 < xs.length then 3 else if xs.all zZ then 0 else 1 := by
 unfold xD
 by_cases h : xs.length ≤ 60
 ·cases h2 : xs.all zZ <;> simp [h, h2, show ¬ 60 < xs.length by omega]
 ·simp [h, show 60 < xs.length by omega]
end
end Go.Proofs.Ytffgfojabcbegaa

namespace Go.Proofs.Ytffgfojabcbegaa
open Go Go.Lay
set_option linter.unusedVariables false
set_option linter.unusedSimpArgs false
set_option maxRecDepth 20000
theorem ins_len {x : Rec} : ∀ {l : List Rec}, (insR x l).length = l.length + 1
 | [] => rfl
 | y :: ys => by
  unfold insR
  split
  ·rfl
  ·rw [List.length_cons, ins_len]; rfl
theorem fold_len : ∀ {l o : List Rec}, (l.foldl step o).length ≤ o.length + l.length
 | [], o => Nat.le_refl _
 | x :: xs, o => by
  rw [List.foldl_cons]
  have h := fold_len (l := xs) (o := step o x)
  have h2 : (step o x).length ≤ o.length + 1 := by
   unfold step
   split
   ·omega
   ·rw [ins_len]; exact Nat.le_refl _
  rw [List.length_cons]; omega
theorem logL_len {l : List Rec} : (xJ l).length ≤ l.length := by
 have := fold_len (l := l) (o := [])
 unfold xJ; simpa using this
section
variable {σ : St}
end
end Go.Proofs.Ytffgfojabcbegaa
