
import Derived.Test.YtffgfojabcbegaaSH
namespace Go.Proofs.Ytffgfojabcbegaa
open Go Go.Lay
set_option linter.unusedVariables false
set_option linter.unusedSimpArgs false
set_option maxRecDepth 20000
section
variable {σ : St}
theorem RowsP.single {ts te b : Nat} {p : Option Addr} {l c : Nat} {xs : List Rec} (ha : aggT Try.prog ts = some false) (o : Own σ b [.slice p l c] 1) (h : RecsP σ te p l xs) : RowsP σ ts te (some ⟨b, 0, none⟩) 1 [xs] := by
 have hl := h.len
 refine ⟨[.slice p l c], ⟨⟨rfl, o.rw⟩, rfl, ?_⟩, rfl, ?_⟩
 ·intro v hv
  simp at hv
  subst hv
  exact .inl ⟨ha, rfl, rfl⟩
 ·intro i r hi
  rcases i with _ | i
  ·cases hi; exact ⟨p, c, by rw [hl]; rfl, by rw [hl]; exact h⟩
  ·simp at hi
theorem faultZ_one {xs : List Rec} : faultZ [xs] = if 60 < xs.length then 3 else if xs.all rightB then 0 else 1 := by
 unfold faultZ
 by_cases h : xs.length ≤ 60
 ·cases h2 : xs.all rightB <;> simp [h, h2, show ¬ 60 < xs.length by omega]
 ·simp [h, show 60 < xs.length by omega]
theorem fileTo_len {l : List Rec} (h : l.all rightB = true) : ∀ s, ((l.take s).flatMap frameB).length ≤ 55 * s := by
 intro s
 induction s with
 | zero => simp
 | succ s ih =>
  by_cases hs : s < l.length
  ·have hx : l[s]? = some l[s] := by simp [hs]
   have := frame_len (List.all_eq_true.1 h _ (List.mem_of_getElem? hx))
   rw [take_snoc hx, List.flatMap_append, List.length_append]
   simp only [List.flatMap_cons, List.flatMap_nil, List.append_nil]
   omega
  ·rw [List.take_of_length_le (by omega)] at ih ⊢
   omega
theorem Encode_c {p : Option Addr} {l c : Nat} {xs : List Rec} (h : RecsP σ 79 p l xs) (hl : l ≤ 1073741824) (hb : ∀ x ∈ xs, Byte x) :
  (faultZ [xs] ≠ 0 ∧ CallsA Try.prog 13 [.slice p l c] σ (.tuple ⟨[.slice none 0 0, iV (faultZ [xs])]⟩) σ) ∨
  (faultZ [xs] = 0 ∧ ∃ q d σ', CallsA Try.prog 13 [.slice p l c] σ (.tuple ⟨[.slice q (fileB xs).length d, iV 0]⟩) σ' ∧ New σ σ' ∧ BytesP σ' q (fileB xs).length (fileB xs)) := by
 have hlen := h.len
 have N1 : New σ.re (σ.re.row [.slice p l c] 1) := New.row _ _ _
 have o1 : Own (σ.re.row [.slice p l c] 1) σ.next [.slice p l c] 1 := own_new _ _ _
 have h1 : RecsP (σ.re.row [.slice p l c] 1) 79 p l xs := SlV.le (SlV.le h (le0 σ)) N1.le
 have k1 := checked_c (c := 1) (RowsP.single agg28 o1 h1) (by omega) (by intro r hr; simp at hr; subst hr; exact ⟨by omega, hb⟩)
 by_cases hz : faultZ [xs] = 0
 rotate_left
 ·exact .inl ⟨hz, (Encode_ra k1 ⟨rfl, N1.lw⟩ hz).pure⟩
 right
 have hz' := hz
 rw [faultZ_one] at hz
 have h60 : xs.length ≤ 60 := by
  by_cases e : 60 < xs.length
  ·rw [if_pos e] at hz; cases hz
  ·omega
 have hall : xs.all rightB = true := by
  rw [if_neg (by omega)] at hz
  cases e : xs.all rightB with
  | true => rfl
  | false => rw [e] at hz; cases hz
 refine ⟨hz', ?_⟩
 suffices hmain : RunsQ Try.prog 13 [.slice p l c] σ.re fun v s => New σ.re s ∧ ∃ q d, v = .tuple ⟨[.slice q (fileB xs).length d, iV 0]⟩ ∧ BytesP s q (fileB xs).length (fileB xs) by
  obtain ⟨v, σ', g1, g2, q, d, rfl, g3⟩ := RunsQ.new hmain (by rintro v s s' ⟨q, d, rfl, g⟩ hle; exact ⟨q, d, rfl, SlV.le g hle⟩) (by
   rintro v s hr ⟨q, d, rfl, g⟩
   refine ⟨q, d, rfl, ?_⟩
   cases q with
   | none => exact slv_none g
   | some a => exact Bool.noConfusion (show false = true from hr))
  exact ⟨q, d, σ', g1, g2, g3⟩
 refine Encode_rb k1 (P0 := fun p l c τ => l = (fileB xs).length ∧ New σ.re τ ∧ BytesP τ p l (fileB xs)) (Encode_loop1 (Inv := fun k q m d i τ => ∃ s : Nat, i = s ∧ s + k = l ∧ m = ((xs.take s).flatMap frameB).length ∧ New σ.re τ ∧ BytesP τ q m ((xs.take s).flatMap frameB)) ?_ l none 0 0 0 _ ⟨0, rfl, by omega, rfl, N1, ⟨⟨rfl, rfl⟩, rfl, by simp⟩⟩) (by
  rintro q m d τ ⟨rfl, hN, hp⟩
  exact Encode_t1x0a ⟨hN, q, d, rfl, hp⟩) (by omega)
 rintro k q m d i τ ⟨s, rfl, hk, rfl, hN, hp⟩
 by_cases hs : s < l
 rotate_left
 ·rw [List.take_of_length_le (by omega)] at hp ⊢
  exact Encode_s1b ⟨rfl, hN, hp⟩ (by omega)
 obtain ⟨a, rfl, x, hx, ld⟩ := slv_at ((SlV.le h (le0 σ)).le hN.le) hs
 have hxr := List.all_eq_true.1 hall x (List.mem_of_getElem? hx)
 have hf := frame_len hxr
 have hto := fileTo_len hall s
 have N2 : New τ ((τ.row (rcd 0 0 0 0 0 0) 6).own τ.next (recL x) 6) := (New.row _ _ _).own (Nat.le_refl _)
 obtain ⟨p2, c2, τ2, k2, n2, b2, _⟩ := frame_c (σ := (τ.row (rcd 0 0 0 0 0 0) 6).own τ.next (recL x) 6) hxr
 obtain ⟨p3, c3, τ3, k3, n3, b3, _⟩ := join2 (c := d) (d := c2) ((SlV.le hp N2.le).le n2.le) b2 (by omega)
 have e : (xs.take (s + 1)).flatMap frameB = (xs.take s).flatMap frameB ++ frameB x := by rw [take_snoc hx, List.flatMap_append]; simp
 exact Encode_s1a ld k2 k3 ⟨k - 1, by omega, s + 1, by omega, by omega, by rw [e], (((hN.trans N2).trans n2).row').trans n3, by rw [e]; exact b3⟩ (by omega)
end
end Go.Proofs.Ytffgfojabcbegaa
