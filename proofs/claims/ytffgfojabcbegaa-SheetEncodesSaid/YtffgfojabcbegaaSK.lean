
import Derived.Test.YtffgfojabcbegaaSJ
namespace Go.Proofs.Ytffgfojabcbegaa
open Go Go.Lay
set_option linter.unusedVariables false
set_option linter.unusedSimpArgs false
set_option maxRecDepth 20000
section
variable {σ : St}
theorem rFrame_c {x : Rec} (h : rightB x = true) : ∃ p c σ', CallsA Try.prog 41 [recV x] σ (.slice p (frameB x).length c) σ' ∧ New σ σ' ∧ BytesP σ' p (frameB x).length (frameB x) ∧ ∀ b, AtP p b → σ.next ≤ b := by
 have hcl := content_len h
 obtain ⟨p1, c1, σ2, k1, n1, b1, f1⟩ := rContent_c (σ := (σ.re.row (recL x) 6).row [byV 126] 1) h
 have N1 : New σ.re ((σ.re.row (recL x) 6).row [byV 126] 1) := (New.row _ _ _).row'
 have o1 : Own ((σ.re.row (recL x) 6).row [byV 126] 1) (σ.next + 1) [byV 126] 1 := own_new _ _ _
 have a1 : AxB σ2 σ.next (some ⟨σ.next + 1, 0, none⟩) 1 1 [126] := Ax.lit (o1.le n1.le) rfl (ex_small (by omega)) (Nat.le_succ _)
 refine RunsQ.newSl (rFrame_ra k1 (P0 := fun p l c τ => l = (frameB x).length ∧ New σ.re τ ∧ AxB τ σ.next p l c (frameB x))
  (rFrame_loop1 (Inv := fun k p l c i τ => ∃ s : Nat, i = s ∧ s + k = (contentB x).length ∧ l = (126 :: ((contentB x).take s).flatMap escB).length ∧ New σ.re τ ∧ BytesP τ p1 (contentB x).length (contentB x) ∧ (∀ b, AtP p1 b → ¬ AtP p b) ∧ AxB τ σ.next p l c (126 :: ((contentB x).take s).flatMap escB)) ?_ (contentB x).length _ _ _ 0 σ2 ⟨0, rfl, by omega, rfl, N1.trans n1, b1, fun b hb hb2 => ?_, a1⟩) ?_)
 rotate_left
 ·obtain ⟨a, e, rfl⟩ := hb2
  cases e
  have h3 : σ.next + 2 ≤ σ.next + 1 := f1 _ hb
  omega
 ·rintro p l c τ ⟨rfl, hN, ha⟩
  exact rFrame_t1x0a ⟨hN, p, c, rfl, ha.bytes, fun b hb => (ha.bd b hb).1⟩
 rintro k p l c i τ ⟨s, rfl, hk, rfl, hN, hb1, hne, ha⟩
 by_cases hs : s < (contentB x).length
 rotate_left
 ·rw [List.take_of_length_le (by omega)] at ha ⊢
  exact rFrame_s1d ⟨rfl, hN, ha⟩ (by omega)
 obtain ⟨a, rfl, z, hz, ld⟩ := slv_at hb1 hs
 have hl55 := frameTo_len h s
 have e1 : ∀ w, escB z = w → 126 :: ((contentB x).take (s + 1)).flatMap escB = (126 :: ((contentB x).take s).flatMap escB) ++ w := by
  rintro w rfl
  rw [take_snoc hz, List.flatMap_append]; simp
 have key : ∀ w : List Int, escB z = w → w.length ≤ 2 → ∃ p' c' τ', appendA Try.prog 24 24 (.slice p (126 :: ((contentB x).take s).flatMap escB).length c) (.slice (some ⟨τ.next, 0, none⟩) w.length w.length) (τ.row (w.map byV) 1) = some (.slice p' (126 :: ((contentB x).take (s + 1)).flatMap escB).length c', τ') ∧
   ∃ k', k' < k ∧ ∃ s' : Nat, ((s : Int) + 1) = s' ∧ s' + k' = (contentB x).length ∧ (126 :: ((contentB x).take (s + 1)).flatMap escB).length = (126 :: ((contentB x).take s').flatMap escB).length ∧ New σ.re τ' ∧ BytesP τ' (some a) (contentB x).length (contentB x) ∧ (∀ b, AtP (some a) b → ¬ AtP p' b) ∧ AxB τ' σ.next p' (126 :: ((contentB x).take (s + 1)).flatMap escB).length c' (126 :: ((contentB x).take s').flatMap escB) := by
  intro w hw hwl
  have nr : New τ (τ.row (w.map byV) 1) := New.row _ _ _
  obtain ⟨p', c', τ', g1, g2, g3, g4⟩ := AxB.push (d := w.length) (ha.le nr.le) (row_bytes τ w) (by omega) (by have : σ.next ≤ τ.next := hN.nx; have := nr.le.next; omega)
  rw [e1 w hw]
  refine ⟨p', c', τ', g1, k - 1, by omega, s + 1, by omega, by omega, by rw [e1 w hw], (hN.row').of_only g3 (fun b hb => (ha.bd b hb).1), ?_, ?_, by rw [e1 w hw]; exact g2⟩
  ·exact g3.slv' (SlV.le hb1 nr.le) (fun a' e hb => by cases e; exact hne _ ⟨a, rfl, rfl⟩ hb)
  ·intro b hb hb'
   rcases g4 b hb' with g | g
   ·exact hne b hb g
   ·have h1 := slv_lt hb1 a rfl
    obtain ⟨a', e, rfl⟩ := hb
    cases e
    have : (τ.row (w.map byV) 1).next = τ.next + 1 := rfl
    omega
 by_cases z1 : z = 125
 ·subst z1
  obtain ⟨p', c', τ', g1, g2⟩ := key [125, 93] rfl (by simp)
  exact rFrame_s1a ld g1 g2 (by omega)
 by_cases z2 : z = 126
 ·subst z2
  obtain ⟨p', c', τ', g1, g2⟩ := key [125, 94] rfl (by simp)
  exact rFrame_s1b ld g1 g2 (by omega)
 ·obtain ⟨p', c', τ', g1, g2⟩ := key [z] (by simp [escB, z1, z2]) (by simp)
  exact rFrame_s1c ld g1 g2 (by omega)
theorem rFile_c {p : Option Addr} {l c : Nat} {xs : List Rec} (h : RecsP σ 59 p l xs) (hl : l ≤ 60) (hall : xs.all rightB = true) : ∃ p' c' σ', CallsA Try.prog 17 [.slice p l c] σ (.slice p' (fileB xs).length c') σ' ∧ New σ σ' ∧ BytesP σ' p' (fileB xs).length (fileB xs) ∧ ∀ b, AtP p' b → σ.next ≤ b := by
 have hlen := h.len
 refine RunsQ.newSl (rFile_ra (P0 := fun p l c τ => l = (fileB xs).length ∧ New σ.re τ ∧ AxB τ σ.next p l c (fileB xs)) (rFile_loop1 (Inv := fun k q m d i τ => ∃ s : Nat, i = s ∧ s + k = l ∧ m = ((xs.take s).flatMap frameB).length ∧ New σ.re τ ∧ AxB τ σ.next q m d ((xs.take s).flatMap frameB)) ?_ l none 0 0 0 σ.re ⟨0, rfl, by omega, rfl, New.refl _, AxB.nil⟩) (by
  rintro q m d τ ⟨rfl, hN, hp⟩
  exact rFile_t1x0a ⟨hN, q, d, rfl, hp.bytes, fun b hb => (hp.bd b hb).1⟩))
 rintro k q m d i τ ⟨s, rfl, hk, rfl, hN, hp⟩
 by_cases hs : s < l
 rotate_left
 ·rw [List.take_of_length_le (by omega)] at hp ⊢
  exact rFile_s1b ⟨rfl, hN, hp⟩ (by omega)
 obtain ⟨a, rfl, x, hx, ld⟩ := slv_at ((SlV.le h (le0 σ)).le hN.le) hs
 have hxr := List.all_eq_true.1 hall x (List.mem_of_getElem? hx)
 have hf := frame_len hxr
 have hto := fileTo_len hall s
 obtain ⟨p2, c2, τ2, k2, n2, b2, _⟩ := rFrame_c (σ := τ) hxr
 obtain ⟨p', c', τ3, g1, g2, g3, g4⟩ := AxB.push (d := c2) (hp.le n2.le) b2 (by omega) (by have : σ.next ≤ τ.next := hN.nx; have := n2.le.next; omega)
 have e : (xs.take (s + 1)).flatMap frameB = (xs.take s).flatMap frameB ++ frameB x := by rw [take_snoc hx, List.flatMap_append]; simp
 exact rFile_s1a ld k2 g1 ⟨k - 1, by omega, s + 1, by omega, by omega, by rw [e], (hN.trans n2).of_only g3 (fun b hb => (hp.bd b hb).1), by rw [e]; exact g2⟩ (by omega)
end
end Go.Proofs.Ytffgfojabcbegaa
