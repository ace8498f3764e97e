import Derived.Test.YtffgfojabcbegaaUR
import Derived.Test.YtffgfojabcbegaaUN
import Derived.Test.YtffgfojabcbegaaPB
import Derived.Test.YtffgfojabcbegaaTy
import Derived.Test.YtffgfojabcbegaaSE
import Derived.Test.YtffgfojabcbegaaLayD

namespace Go.Proofs.Ytffgfojabcbegaa
open Go Go.Lay
set_option linter.unusedVariables false
set_option linter.unusedSimpArgs false
set_option maxRecDepth 20000
section
variable {σ : St}
theorem yXM {p : Option Addr} {l c : Nat} {xs : List Rec} (h : yZ σ 59 p l xs) (hl : l ≤ 1000000) (hc : vD xs) : zK Try.prog 21 [.slice p l c] σ.re fun v s => New σ.re s ∧ ∃ p' c', v = .slice p' (xM xs).length c' ∧ Gr Try.prog s σ.next 59 6 p' (xM xs).length c' ((xM xs).map yH) := by
 have hlen := h.len
 have h0 : yZ σ.re 59 p l xs := SlV.le h (le0 σ)
 refine (rLog_ra (P0 := fun p' l' c' τ => l' = (xM xs).length ∧ New σ.re τ ∧ Gr Try.prog τ σ.next 59 6 p' l' c' ((xM xs).map yH))
  (yKE (Inv := fun k p' l' c' i τ => ∃ (s : Nat) (out : List Rec), i = s ∧ s + k = l ∧ l' = out.length ∧ New σ.re τ ∧ Gr Try.prog τ σ.next 59 6 p' l' c' (out.map yH) ∧ Srt out ∧ (∀ y, y ∈ out ↔ y ∈ xs.take s) ∧ out.length ≤ s) ?_ l none 0 0 0 σ.re ⟨0, [], rfl, by omega, rfl, New.refl _, .nil, .nil, by simp, by simp⟩) ?_)
 rotate_left
 ·rintro p' l' c' τ ⟨rfl, hN, hg⟩
  exact yKB ⟨hN, p', c', rfl, hg⟩
 rintro k p' l' c' i τ ⟨s, out, rfl, hk, rfl, hN, hg, hs, hm, ho⟩
 by_cases hsl : s < l
 rotate_left
 ·rw [List.take_of_length_le (by omega)] at hm
  have e := yCP hc hs hm
  subst e
  exact yXK ⟨rfl, hN, hg⟩ (by omega)
 have hp := SlV.le h0 hN.le
 obtain ⟨a, rfl, x, hx, ld⟩ := zAO hp hsl
 refine yXL (P2 := fun t τ' => τ' = τ ∧ t = decide (x ∈ out))
  (yKD (Inv := fun k t i τ' => ∃ s' : Nat, i = s' ∧ s' + k = out.length ∧ τ' = τ ∧ t = decide (x ∈ out.take s')) ?_ out.length false 0 τ ⟨0, rfl, by omega, rfl, by simp⟩) ?_ (by omega)
 ·rintro k' t i' τ' ⟨s', rfl, hk', rfl, ht⟩
  by_cases hs' : s' < out.length
  rotate_left
  ·rw [List.take_of_length_le (by omega)] at ht
   exact yXG ⟨rfl, ht⟩ (by omega)
  obtain ⟨a', rfl, y, hy, ldy⟩ := zAO hg.slv hs'
  have e := xP hy
  cases t with
  | true => exact yXJ ⟨k' - 1, by omega, s' + 1, by omega, by omega, rfl, by rw [e]; have := of_decide_eq_true ht.symm; simp [this]⟩ (by omega)
  | false =>
   have hn := of_decide_eq_false ht.symm
   have q := eql59 (x := y) (y := x) (o1 := .tmp 25) (o2 := .tmp 29)
   by_cases hyx : y = x
   ·rw [decide_eq_true hyx] at q
    exact yXI ldy ld q ⟨k' - 1, by omega, s' + 1, by omega, by omega, rfl, by rw [e]; simp [hyx]⟩ (by omega) (by omega) (by omega)
   ·rw [decide_eq_false hyx] at q
    exact yXH ldy ld q ⟨k' - 1, by omega, s' + 1, by omega, by omega, rfl, by rw [e]; simp [hn]; exact fun e => hyx e.symm⟩ (by omega) (by omega) (by omega)
 ·rintro t τ' ⟨rfl, rfl⟩
  have hxx := List.mem_of_getElem? hx
  by_cases hi : x ∈ out
  ·rw [decide_eq_true hi]
   refine yKA ⟨k - 1, by omega, s + 1, out, by omega, by omega, rfl, hN, hg, hs, fun y => ?_, by omega⟩
   rw [xP hx, List.mem_append, List.mem_singleton, hm]
   exact ⟨.inl, fun h => h.elim id fun e => by rw [e]; exact (hm x).1 hi⟩
  ·rw [decide_eq_false hi]
   obtain ⟨p4, c4, τ4, g1, g2, g3, g4, g5⟩ := grow (σ0 := σ.re) (yH x) zWC hg hN (New.refl _) (zIC _) (by omega) (e := rfl) (hc := rfl)
   have g2 : Gr Try.prog τ4 σ.next 59 6 p4 (out.length + 1) c4 ((out ++ [x]).map yH) := by rw [List.map_append]; exact g2
   have down := yRT (la := a) (l := l) (lc := c) (i4 := (s : Int)) g3 (Nat.le_refl _) g2 hs (fun y hy e => hi (by
    have hy' : y ∈ xs := List.mem_of_mem_take ((hm y).1 hy)
    have := hc.key hxx hy' e
    rw [this]; exact hy)) (by omega)
   refine yJZ ld g1 down (fun τ5 ⟨n5, out', k1, k2, k3, k4⟩ => ?_) (by omega)
   refine yJY ⟨k - 1, by omega, s + 1, out', by omega, by omega, k4.symm, n5, k1, k2, fun y => ?_, by omega⟩
   rw [k3, xP hx, List.mem_append, List.mem_singleton, hm]
end
end Go.Proofs.Ytffgfojabcbegaa

namespace Go.Proofs.Ytffgfojabcbegaa
open Go Go.Lay
set_option linter.unusedVariables false
set_option linter.unusedSimpArgs false
set_option maxRecDepth 20000
def Bd (x : Rec) : Prop := (0 ≤ x.s ∧ x.s ≤ 10000000) ∧ (0 ≤ x.a ∧ x.a ≤ 10000000) ∧ (0 ≤ x.b ∧ x.b ≤ 10000000)
theorem bd_right {x : Rec} (h : yA x = true) : Bd x := by
 have := zFN h
 unfold Bd; omega
section
variable {σ : St}
end
end Go.Proofs.Ytffgfojabcbegaa

namespace Go.Proofs.Ytffgfojabcbegaa
open Go Go.Lay
set_option linter.unusedVariables false
set_option linter.unusedSimpArgs false
set_option maxRecDepth 20000
structure SameY (n0 : Nat) (Y : Nat → Prop) (z z' : St) : Prop where
 next : z.next ≤ z'.next
 get : ∀ y, y < z.next → ¬ Y y → (∀ tm ps a b st pend db, xZ z.heap y ≠ some (.loop tm ps a b st pend db)) → xZ z'.heap y = xZ z.heap y
 old : ∀ y, y < n0 → xZ z'.heap y = xZ z.heap y
abbrev Same (n0 : Nat) (z z' : St) : Prop := SameY n0 (fun _ => False) z z'
end Go.Proofs.Ytffgfojabcbegaa

namespace Go.Proofs.Ytffgfojabcbegaa
open Go Go.Lay
set_option linter.unusedVariables false
set_option linter.unusedSimpArgs false
set_option maxRecDepth 20000
section
variable {σ : St}
theorem zAJ.single {ts te b : Nat} {p : Option Addr} {l c : Nat} {xs : List Rec} (ha : zCN Try.prog ts = some false) (o : Own σ b [.slice p l c] 1) (h : yZ σ te p l xs) : zAJ σ ts te (some ⟨b, 0, none⟩) 1 [xs] := by
 have hl := h.len
 refine ⟨[.slice p l c], ⟨⟨rfl, o.rw⟩, rfl, ?_⟩, rfl, ?_⟩
 ·intro v hv
  simp at hv
  subst hv
  exact .inl ⟨ha, rfl, rfl⟩
 ·intro i r hi
  rcases i with _ | i
  ·cases hi; exact ⟨p, c, by rw [hl]; rfl, by rw [hl]; exact h⟩
  ·simp at hi
theorem yNA {xs : List Rec} : xG [xs] = if 60 < xs.length then 3 else if xs.all yA then 0 else 1 := by
 unfold xG
 by_cases h : xs.length ≤ 60
 ·cases h2 : xs.all yA <;> simp [h, h2, show ¬ 60 < xs.length by omega]
 ·simp [h, show 60 < xs.length by omega]
end
end Go.Proofs.Ytffgfojabcbegaa

namespace Go.Proofs.Ytffgfojabcbegaa
open Go Go.Lay
set_option linter.unusedVariables false
set_option linter.unusedSimpArgs false
set_option maxRecDepth 20000
theorem yPZ {x : Rec} : ∀ {l : List Rec}, (zXC x l).length = l.length + 1
 | [] => rfl
 | y :: ys => by
  unfold zXC
  split
  ·rfl
  ·rw [List.length_cons, yPZ]; rfl
theorem yHK : ∀ {l o : List Rec}, (l.foldl step o).length ≤ o.length + l.length
 | [], o => Nat.le_refl _
 | x :: xs, o => by
  rw [List.foldl_cons]
  have h := yHK (l := xs) (o := step o x)
  have h2 : (step o x).length ≤ o.length + 1 := by
   unfold step
   split
   ·omega
   ·rw [yPZ]; exact Nat.le_refl _
  rw [List.length_cons]; omega
theorem zUJ {l : List Rec} : (xM l).length ≤ l.length := by
 have := yHK (l := l) (o := [])
 unfold xM; simpa using this
section
variable {σ : St}
end
end Go.Proofs.Ytffgfojabcbegaa
