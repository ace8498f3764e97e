import Derived.Test.YtffgfojabcbegaaUL
import Derived.Test.YtffgfojabcbegaaXC

namespace Go.Proofs.Ytffgfojabcbegaa
open Go Go.Lay
set_option linter.unusedVariables false
set_option linter.unusedSimpArgs false
set_option maxRecDepth 20000
open Go.Sort (swp PermIn SortedIn Below SWO)
theorem zQG {rs : List (List Rec)} (h : xV rs = 0) : rs.length ≤ 6 ∧ (∀ r ∈ rs, r.length ≤ 60) ∧ ∀ r ∈ rs, ∀ x ∈ r, yL x = true := by
 unfold xV at h
 by_cases h6 : 6 < rs.length
 ·rw [if_pos h6] at h; cases h
 rw [if_neg h6] at h
 cases e1 : rs.all fun r => decide (r.length ≤ 60) with
 | false => rw [e1] at h; cases h
 | true =>
 rw [e1] at h
 cases e2 : rs.all fun r => r.all yL with
 | false => rw [e2] at h; cases h
 | true =>
  refine ⟨by omega, fun r hr => by simpa using List.all_eq_true.1 e1 r hr, fun r hr x hx => ?_⟩
  exact List.all_eq_true.1 (List.all_eq_true.1 e2 r hr) x hx
theorem flat_le {rs : List (List Rec)} (h : ∀ r ∈ rs, r.length ≤ 60) : rs.flatten.length ≤ 60 * rs.length := by
 induction rs with
 | nil => simp
 | cons r rs ih =>
  have h1 := h r List.mem_cons_self
  have h2 := ih (fun x hx => h x (List.mem_cons_of_mem _ hx))
  rw [List.flatten_cons, List.length_append, List.length_cons]
  omega
theorem gr_nil {τ : St} {n0 c l : Nat} {p : Option Addr} (h : Gr Try.prog τ n0 79 6 p l c []) : p = none ∧ l = 0 := by
 have ha := h.app
 have hl := h.len_eq
 have hl : l = 0 := by simpa using hl.symm
 subst hl
 generalize hcs : zAS ([] : List Value) = cs at ha
 cases ha with
 | nil => exact ⟨rfl, rfl⟩
 | more _ _ _ _ _ h6 _ => omega
section
variable {σ : St}
theorem yZO {p : Option Addr} {l c : Nat} {rs : List (List Rec)} (h : zAT σ 28 79 p l rs) (hl : l ≤ 1073741824) (hb : ∀ r ∈ rs, r.length ≤ 1073741824 ∧ ∀ x ∈ r, zXO x) :
  (xV rs ≠ 0 ∧ zG Try.prog 42 [.slice p l c] σ (.tuple ⟨[.slice none 0 0, iV (xV rs)]⟩) σ) ∨
  (xV rs = 0 ∧ ¬ zBO rs.flatten ∧ zG Try.prog 42 [.slice p l c] σ (.tuple ⟨[.slice none 0 0, iV 6]⟩) σ) ∨
  (xV rs = 0 ∧ zBO rs.flatten ∧ ∃ q d σ', zG Try.prog 42 [.slice p l c] σ (.tuple ⟨[.slice q (vZ rs.flatten).length d, iV 0]⟩) σ' ∧ New σ σ' ∧ xB σ' 79 q (vZ rs.flatten).length (vZ rs.flatten)) := by
 have h0 := h.le (le0 σ)
 have k1 := yVV (c := c) h0 hl hb
 by_cases hz : xV rs = 0
 rotate_left
 ·exact .inl ⟨hz, (yUF k1 ⟨rfl, Nat.le_refl _⟩ hz).pure⟩
 right
 obtain ⟨z1, z2, z3⟩ := zQG hz
 have hfl := flat_le z2
 have hright : ∀ x ∈ rs.flatten, yL x = true := fun x hx => by
  obtain ⟨r, hr, hxr⟩ := List.mem_flatten.1 hx
  exact z3 r hr x hxr
 suffices hmain : zO Try.prog 42 [.slice p l c] σ.re fun v s => New σ.re s ∧ ((v = .tuple ⟨[.slice none 0 0, iV 6]⟩ ∧ ¬ zBO rs.flatten) ∨ (zBO rs.flatten ∧ ∃ q d, v = .tuple ⟨[.slice q (vZ rs.flatten).length d, iV 0]⟩ ∧ xB s 79 q (vZ rs.flatten).length (vZ rs.flatten))) by
  obtain ⟨v, τ, hN, hNew, ⟨rfl, hc⟩ | ⟨hc, q, d, rfl, hq⟩⟩ := hmain
  ·exact .inl ⟨hz, hc, zO.pure ⟨_, τ, hN, rfl, hNew.lw⟩⟩
  ·obtain ⟨v, σ', g1, g2, q', d', rfl, g3⟩ := zO.new (P := Try.prog) (f := 42) (args := [.slice p l c]) (σ := σ) (Q := fun v s => ∃ q d, v = .tuple ⟨[.slice q (vZ rs.flatten).length d, iV 0]⟩ ∧ xB s 79 q (vZ rs.flatten).length (vZ rs.flatten)) ⟨_, τ, hN, hNew, q, d, rfl, hq⟩ (by rintro v s s' ⟨q, d, rfl, g⟩ hle; exact ⟨q, d, rfl, SlV.le g hle⟩) (by
    rintro v s hr ⟨q, d, rfl, g⟩
    refine ⟨q, d, rfl, ?_⟩
    cases q with
    | none => exact zKN g
    | some a => exact Bool.noConfusion (show false = true from hr))
   exact .inr ⟨hz, hc, q', d', σ', g1, g2, g3⟩
 have N1 : New σ.re (σ.re.add (.map [])) := New.add _ _
 obtain ⟨q2, c2, σ3, k2, n2, r2, f2⟩ := concR_c (c := c) (h0.le N1.le) hl (by omega)
 have N3 := N1.trans n2
 have hM : zGM Try.prog σ3 σ.next keyV yP (zKC []) := (zGM.new σ.re).le n2.le
 have hn3 : σ.next + 1 ≤ σ3.next := n2.nx
 have hL1 := yCY (c := c2) r2 N3 hM (Nat.le_refl _) (fun b hb e => by have h3 : σ.next + 1 ≤ b := f2 b hb; omega) (by omega)
 refine yUE k1 k2 hL1 (fun p' l' c' e τ ⟨e1, e2, e3, e4, hN, hc⟩ => by subst e1 e2 e3 e4; exact yCU ⟨hN, .inl ⟨rfl, hc⟩⟩) ?_ hz
 rintro p' l' c' τ ⟨out, rfl, m1⟩
 have fin : ∀ (L : List Rec) (p'' : Option Addr) (c'' : Nat) (τ' : St), (∀ x, x ∈ L ↔ x ∈ rs.flatten) → Srt L → New σ.re τ' → xB τ' 79 p'' L.length L → L.length = out.length → zG Try.prog 62 [.slice p'' out.length c'', .func (.func 63) ⟨[]⟩ ⟨[]⟩] τ (.tuple ⟨[]⟩) τ' → p'' = p' → c'' = c' →
   zLC σ.re.next q2 rs.flatten.length c2 p' out.length c' τ (fun v s => New σ.re s ∧ ((v = .tuple ⟨[.slice none 0 0, iV 6]⟩ ∧ ¬ zBO rs.flatten) ∨ (zBO rs.flatten ∧ ∃ q d, v = .tuple ⟨[.slice q (vZ rs.flatten).length d, iV 0]⟩ ∧ xB s 79 q (vZ rs.flatten).length (vZ rs.flatten)))) := by
  intro L p'' c'' τ' hmem hsrt hN hR hlen hcall e1 e2
  subst e1 e2
  have hLl : L.length ≤ 1000000 := by
   have := m1.len
   omega
  have hL2 := zXF (c := c'') hR hN hsrt hLl
  rw [hlen] at hL2 hR
  refine yCV hcall hL2 (fun p' l' c' e τ ⟨e1, e2, e3, e4, hN, hc⟩ => by subst e1 e2 e3 e4; exact yCS ⟨hN, .inl ⟨rfl, fun h => hc (h.mem fun x hx => (hmem x).1 hx)⟩⟩) (fun τ ⟨hN, hr, hc⟩ => ?_)
  have hcf : zBO rs.flatten := hc.mem fun x hx => (hmem x).2 hx
  have he : L = vZ rs.flatten := yDE hcf hsrt hmem
  rw [← hlen, he] at hr
  refine yCT ⟨hN, .inr ⟨hcf, p'', c'', ?_, hr⟩⟩
  rw [← hlen, he]
 by_cases h0e : out = []
 ·subst h0e
  obtain ⟨hpn, _⟩ := gr_nil m1.gr
  subst hpn
  exact fin [] none c' τ (fun x => by rw [m1.sub]) .nil m1.new ⟨⟨rfl, rfl⟩, rfl, by simp⟩ rfl yRZ rfl rfl
 ·obtain ⟨b, s, hp, hbn, hdt⟩ := dt_of_gr m1.gr h0e
  subst hp
  have hol := m1.len
  have hvV : wB (fun x => yL x = true) out.toArray := by
   intro i hi
   have hi' : i < out.length := by simpa using hi
   rw [getElem!_pos out.toArray i hi]
   exact hright _ ((m1.sub _).1 (by simp))
  obtain ⟨d', s1, s2, τ', k5, o5, dt5, _⟩ := sortF_c (c := c') swo_key cmp_key hdt hvV (by simp; omega)
  have hsz : out.toArray.size = out.length := by simp
  have hun : out.toArray.toList.Pairwise fun x y => ¬ zGT x y := by simpa using m1.un
  obtain ⟨hsrt, hperm⟩ := zXC s1 s2 hun
  have hR := yKI dt5
  have hlen : d'.toList.length = out.length := by rw [hperm.length_eq]
  have hds : d'.size = d'.toList.length := by simp
  rw [hds] at hR
  rw [hsz] at k5
  refine fin d'.toList (some ⟨b, 0, s⟩) c' τ' (fun x => ?_) hsrt (m1.new.of_only o5 (fun x hx => ?_)) hR hlen k5 rfl rfl
  ·rw [hperm.mem_iff, ← m1.sub]
  ·have : σ.next ≤ σ3.next := N3.nx
   show σ.next ≤ x; omega
end
end Go.Proofs.Ytffgfojabcbegaa

namespace Go.Proofs.Ytffgfojabcbegaa
open Go Go.Lay
set_option linter.unusedVariables false
set_option linter.unusedSimpArgs false
set_option maxRecDepth 20000
def zIP (l : List Rec) : Bool := l.all fun x => l.all fun y => !wS x y
theorem zDZ {l : List Rec} : zIP l = true ↔ zBO l := by
 unfold zIP zBO
 simp
section
variable {σ : St}
theorem ySY {x y : Rec} : zG Try.prog 66 [yP x, yP y] σ (.bool (wS x y)) σ := by
 have N : New σ.re ((σ.re.row (yH x) 6).row (yH y) 6) := (New.row _ _ _).row'
 have e := eql59 (x := x) (y := y) (o1 := .tmp 5) (o2 := .tmp 6)
 by_cases hxy : x = y
 ·rw [decide_eq_true hxy] at e
  have : wS x y = false := by rw [hxy]; exact zPE
  rw [this]
  exact (yLG e ⟨rfl, N.lw⟩).pure
 rw [decide_eq_false hxy] at e
 have hn : ∀ b : Bool, (wS x y = true ↔ b = true) → wS x y = b := fun b h => by rw [Bool.eq_iff_iff]; exact h
 by_cases hm : x.m = y.m
 rotate_left
 ·rw [hn false (by rw [vE]; simp [hm])]
  exact (yLF e ⟨rfl, N.lw⟩ hm).pure
 by_cases hs : x.s = y.s
 ·rw [hn true (by rw [vE]; simp [hm, hs, hxy])]
  exact (yLE e ⟨rfl, N.lw⟩ hm hs).pure
 by_cases hs1 : y.s < x.s
 ·by_cases ht : x.t < y.t
  ·rw [hn true (by rw [vE]; simp [hm, hs1, ht, hxy])]
   exact (yLD e ⟨rfl, N.lw⟩ hm hs hs1 ht).pure
  ·rw [hn false (by rw [vE]; simp [hm]; intro _; omega)]
   exact (yLC e ⟨rfl, N.lw⟩ hm hs hs1 ht (by omega)).pure
 ·by_cases ht : y.t < x.t
  ·rw [hn true (by rw [vE]; refine ⟨fun _ => rfl, fun _ => ⟨hxy, hm, .inr (.inr ⟨by omega, ht⟩)⟩⟩)]
   exact (yLB e ⟨rfl, N.lw⟩ hm hs hs1 (by omega) ht).pure
  ·rw [hn false (by rw [vE]; simp [hm]; intro _; omega)]
   exact (yLA e ⟨rfl, N.lw⟩ hm hs hs1 (by omega) ht).pure
theorem yKZ {p : Option Addr} {l c : Nat} {xs : List Rec} (h : xB σ 59 p l xs) (hl : l ≤ 1073741824) : zG Try.prog 45 [.slice p l c] σ (.bool (!zIP xs)) σ := by
 have hlen := h.len
 have h0 : xB σ.re 59 p l xs := SlV.le h (le0 σ)
 have bad : ∀ {x y : Rec}, x ∈ xs → y ∈ xs → wS x y = true → zIP xs = false := fun hx hy e => by
  cases hc : zIP xs with
  | false => rfl
  | true => rw [zDZ.1 hc _ hx _ hy] at e; cases e
 refine zO.pure (yFH (P0 := fun τ => τ = σ.re ∧ ∀ (i j : Nat) (x y : Rec), j < i → i < l → xs[i]? = some x → xs[j]? = some y → wS x y = false) (Pr := fun b τ => τ = σ.re ∧ b = true ∧ zIP xs = false)
  (zTZ (Inv := fun k i τ => ∃ s : Nat, i = s ∧ s + k = l ∧ τ = σ.re ∧ ∀ (i j : Nat) (x y : Rec), j < i → i < s → xs[i]? = some x → xs[j]? = some y → wS x y = false) ?_ l 0 σ.re ⟨0, rfl, by omega, rfl, by omega⟩)
  (fun τ h => zTX ⟨?_, by rw [h.1]; exact Nat.le_refl _⟩) (fun b τ h => zTW ⟨by rw [h.2.1, h.2.2]; rfl, by rw [h.1]; exact Nat.le_refl _⟩))
 rotate_left
 ·have : zIP xs = true := zDZ.2 fun x hx y hy => by
   obtain ⟨i, hi, rfl⟩ := List.mem_iff_getElem.1 hx
   obtain ⟨j, hj, rfl⟩ := List.mem_iff_getElem.1 hy
   rcases Nat.lt_trichotomy i j with e | e | e
   ·rw [yDR]
    exact h.2 j i _ _ e (by omega) (by simp [hj]) (by simp [hi])
   ·subst e; exact zPE
   ·exact h.2 i j _ _ e (by omega) (by simp [hi]) (by simp [hj])
  rw [this]; rfl
 rintro k i τ ⟨s, rfl, hk, rfl, ha⟩
 by_cases hs : s < l
 rotate_left
 ·exact yBZ ⟨rfl, fun i j x y h1 h2 => ha i j x y h1 (by omega)⟩ (by omega)
 obtain ⟨a, rfl, x, hx, ld⟩ := zCG h0 hs
 refine yCA (Pr := fun b τ => τ = σ.re ∧ b = true ∧ zIP xs = false) (P2 := fun τ => τ = σ.re ∧ ∀ (j : Nat) (y : Rec), j < s → xs[j]? = some y → wS x y = false)
  (zTY (Inv := fun k i τ => ∃ s' : Nat, i = s' ∧ s' + k = s ∧ τ = σ.re ∧ ∀ (j : Nat) (y : Rec), j < s' → xs[j]? = some y → wS x y = false) ?_ s 0 σ.re ⟨0, rfl, by omega, rfl, by omega⟩)
  (fun b τ h => zTU h) (fun τ h => zTV ⟨k - 1, by omega, s + 1, by omega, by omega, h.1, fun i j x' y h1 h2 h3 h4 => ?_⟩) (by omega)
 rotate_left
 ·by_cases e : i = s
  ·subst e
   rw [hx] at h3; cases h3
   exact h.2 j y h1 h4
  ·exact ha i j x' y h1 (by omega) h3 h4
 rintro k' i' τ ⟨s', rfl, hk', rfl, ha'⟩
 by_cases hs' : s' < s
 rotate_left
 ·exact yBW ⟨rfl, fun j y h1 => ha' j y (by omega)⟩ (by omega)
 obtain ⟨a', ea, y, hy, ldy⟩ := zCG h0 (show s' < l by omega)
 cases ea
 have c := ySY (σ := σ.re) (x := x) (y := y)
 cases hc : wS x y with
 | true =>
  rw [hc] at c
  exact yBY ld ldy c ⟨rfl, rfl, bad (List.mem_of_getElem? hx) (List.mem_of_getElem? hy) hc⟩ (by omega) (by omega) (by omega)
 | false =>
  rw [hc] at c
  refine yBX ld ldy c ⟨k' - 1, by omega, s' + 1, by omega, by omega, rfl, fun j z h1 h2 => ?_⟩ (by omega) (by omega) (by omega)
  by_cases e : j = s'
  ·subst e
   rw [hy] at h2; cases h2
   exact hc
  ·exact ha' j z (by omega) h2
end
end Go.Proofs.Ytffgfojabcbegaa
