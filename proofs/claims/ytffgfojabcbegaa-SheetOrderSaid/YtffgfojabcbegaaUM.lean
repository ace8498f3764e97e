
import Derived.Test.YtffgfojabcbegaaUL
namespace Go.Proofs.Ytffgfojabcbegaa
open Go Go.Lay
set_option linter.unusedVariables false
set_option linter.unusedSimpArgs false
set_option maxRecDepth 20000
open Go.Sort (swp PermIn SortedIn Below SWO)
theorem zMN {rs : List (List Rec)} (h : yS rs = 0) : rs.length ≤ 6 ∧ (∀ r ∈ rs, r.length ≤ 60) ∧ ∀ r ∈ rs, ∀ x ∈ r, yD x = true := by
 unfold yS at h
 by_cases h6 : 6 < rs.length
 ·rw [if_pos h6] at h; cases h
 rw [if_neg h6] at h
 cases e1 : rs.all fun r => decide (r.length ≤ 60) with
 | false => rw [e1] at h; cases h
 | true =>
 rw [e1] at h
 cases e2 : rs.all fun r => r.all yD with
 | false => rw [e2] at h; cases h
 | true =>
  refine ⟨by omega, fun r hr => by simpa using List.all_eq_true.1 e1 r hr, fun r hr x hx => ?_⟩
  exact List.all_eq_true.1 (List.all_eq_true.1 e2 r hr) x hx
theorem flat_le {rs : List (List Rec)} (h : ∀ r ∈ rs, r.length ≤ 60) : rs.flatten.length ≤ 60 * rs.length := by
 induction rs with
 | nil => simp
 | cons r rs ih =>
  have h1 := h r List.mem_cons_self
  have h2 := ih (fun x hx => h x (List.mem_cons_of_mem _ hx))
  rw [List.flatten_cons, List.length_append, List.length_cons]
  omega
theorem gr_nil {τ : St} {n0 c l : Nat} {p : Option Addr} (h : Gr Try.prog τ n0 79 6 p l c []) : p = none ∧ l = 0 := by
 have ha := h.app
 have hl := h.len_eq
 have hl : l = 0 := by simpa using hl.symm
 subst hl
 generalize hcs : xH ([] : List Value) = cs at ha
 cases ha with
 | nil => exact ⟨rfl, rfl⟩
 | more _ _ _ _ _ h6 _ => omega
section
variable {σ : St}
theorem zUR {p : Option Addr} {l c : Nat} {rs : List (List Rec)} (h : vT σ 28 79 p l rs) (hl : l ≤ 1073741824) (hb : ∀ r ∈ rs, r.length ≤ 1073741824 ∧ ∀ x ∈ r, zSM x) :
  (yS rs ≠ 0 ∧ zD Try.prog 42 [.slice p l c] σ (.tuple ⟨[.slice none 0 0, iV (yS rs)]⟩) σ) ∨
  (yS rs = 0 ∧ ¬ zAQ rs.flatten ∧ zD Try.prog 42 [.slice p l c] σ (.tuple ⟨[.slice none 0 0, iV 6]⟩) σ) ∨
  (yS rs = 0 ∧ zAQ rs.flatten ∧ ∃ q d σ', zD Try.prog 42 [.slice p l c] σ (.tuple ⟨[.slice q (xU rs.flatten).length d, iV 0]⟩) σ' ∧ New σ σ' ∧ yK σ' 79 q (xU rs.flatten).length (xU rs.flatten)) := by
 have h0 := h.le (le0 σ)
 have k1 := yUP (c := c) h0 hl hb
 by_cases hz : yS rs = 0
 rotate_left
 ·exact .inl ⟨hz, (yTP k1 ⟨rfl, Nat.le_refl _⟩ hz).pure⟩
 right
 obtain ⟨z1, z2, z3⟩ := zMN hz
 have hfl := flat_le z2
 have hright : ∀ x ∈ rs.flatten, yD x = true := fun x hx => by
  obtain ⟨r, hr, hxr⟩ := List.mem_flatten.1 hx
  exact z3 r hr x hxr
 suffices hmain : zJ Try.prog 42 [.slice p l c] σ.re fun v s => New σ.re s ∧ ((v = .tuple ⟨[.slice none 0 0, iV 6]⟩ ∧ ¬ zAQ rs.flatten) ∨ (zAQ rs.flatten ∧ ∃ q d, v = .tuple ⟨[.slice q (xU rs.flatten).length d, iV 0]⟩ ∧ yK s 79 q (xU rs.flatten).length (xU rs.flatten))) by
  obtain ⟨v, τ, hN, hNew, ⟨rfl, hc⟩ | ⟨hc, q, d, rfl, hq⟩⟩ := hmain
  ·exact .inl ⟨hz, hc, zJ.pure ⟨_, τ, hN, rfl, hNew.lw⟩⟩
  ·obtain ⟨v, σ', g1, g2, q', d', rfl, g3⟩ := zJ.new (P := Try.prog) (f := 42) (args := [.slice p l c]) (σ := σ) (Q := fun v s => ∃ q d, v = .tuple ⟨[.slice q (xU rs.flatten).length d, iV 0]⟩ ∧ yK s 79 q (xU rs.flatten).length (xU rs.flatten)) ⟨_, τ, hN, hNew, q, d, rfl, hq⟩ (by rintro v s s' ⟨q, d, rfl, g⟩ hle; exact ⟨q, d, rfl, SlV.le g hle⟩) (by
    rintro v s hr ⟨q, d, rfl, g⟩
    refine ⟨q, d, rfl, ?_⟩
    cases q with
    | none => exact zHE g
    | some a => exact Bool.noConfusion (show false = true from hr))
   exact .inr ⟨hz, hc, q', d', σ', g1, g2, g3⟩
 have N1 : New σ.re (σ.re.add (.map [])) := New.add _ _
 obtain ⟨q2, c2, σ3, k2, n2, r2, f2⟩ := concR_c (c := c) (h0.le N1.le) hl (by omega)
 have N3 := N1.trans n2
 have hM : zGL Try.prog σ3 σ.next yYO yO (zJU []) := (zGL.new σ.re).le n2.le
 have hn3 : σ.next + 1 ≤ σ3.next := n2.nx
 have hL1 := yCL (c := c2) r2 N3 hM (Nat.le_refl _) (fun b hb e => by have h3 : σ.next + 1 ≤ b := f2 b hb; omega) (by omega)
 refine yTO k1 k2 hL1 (fun p' l' c' e τ ⟨e1, e2, e3, e4, hN, hc⟩ => by subst e1 e2 e3 e4; exact yCH ⟨hN, .inl ⟨rfl, hc⟩⟩) ?_ hz
 rintro p' l' c' τ ⟨out, rfl, m1⟩
 have fin : ∀ (L : List Rec) (p'' : Option Addr) (c'' : Nat) (τ' : St), (∀ x, x ∈ L ↔ x ∈ rs.flatten) → Srt L → New σ.re τ' → yK τ' 79 p'' L.length L → L.length = out.length → zD Try.prog 62 [.slice p'' out.length c'', .func (.func 63) ⟨[]⟩ ⟨[]⟩] τ (.tuple ⟨[]⟩) τ' → p'' = p' → c'' = c' →
   zKU σ.re.next q2 rs.flatten.length c2 p' out.length c' τ (fun v s => New σ.re s ∧ ((v = .tuple ⟨[.slice none 0 0, iV 6]⟩ ∧ ¬ zAQ rs.flatten) ∨ (zAQ rs.flatten ∧ ∃ q d, v = .tuple ⟨[.slice q (xU rs.flatten).length d, iV 0]⟩ ∧ yK s 79 q (xU rs.flatten).length (xU rs.flatten)))) := by
  intro L p'' c'' τ' hmem hsrt hN hR hlen hcall e1 e2
  subst e1 e2
  have hLl : L.length ≤ 1000000 := by
   have := m1.len
   omega
  have hL2 := zXC (c := c'') hR hN hsrt hLl
  rw [hlen] at hL2 hR
  refine yCI hcall hL2 (fun p' l' c' e τ ⟨e1, e2, e3, e4, hN, hc⟩ => by subst e1 e2 e3 e4; exact yCF ⟨hN, .inl ⟨rfl, fun h => hc (h.mem fun x hx => (hmem x).1 hx)⟩⟩) (fun τ ⟨hN, hr, hc⟩ => ?_)
  have hcf : zAQ rs.flatten := hc.mem fun x hx => (hmem x).2 hx
  have he : L = xU rs.flatten := logL_eq hcf hsrt hmem
  rw [← hlen, he] at hr
  refine yCG ⟨hN, .inr ⟨hcf, p'', c'', ?_, hr⟩⟩
  rw [← hlen, he]
 by_cases h0e : out = []
 ·subst h0e
  obtain ⟨hpn, _⟩ := gr_nil m1.gr
  subst hpn
  exact fin [] none c' τ (fun x => by rw [m1.sub]) .nil m1.new ⟨⟨rfl, rfl⟩, rfl, by simp⟩ rfl yRI rfl rfl
 ·obtain ⟨b, s, hp, hbn, hdt⟩ := dt_of_gr m1.gr h0e
  subst hp
  have hol := m1.len
  have hvV : xQ (fun x => yD x = true) out.toArray := by
   intro i hi
   have hi' : i < out.length := by simpa using hi
   rw [getElem!_pos out.toArray i hi]
   exact hright _ ((m1.sub _).1 (by simp))
  obtain ⟨d', s1, s2, τ', k5, o5, dt5, _⟩ := sortF_c (c := c') swo_key cmp_key hdt hvV (by simp; omega)
  have hsz : out.toArray.size = out.length := by simp
  have hun : out.toArray.toList.Pairwise fun x y => ¬ zJT x y := by simpa using m1.un
  obtain ⟨hsrt, hperm⟩ := zWZ s1 s2 hun
  have hR := yKE dt5
  have hlen : d'.toList.length = out.length := by rw [hperm.length_eq]
  have hds : d'.size = d'.toList.length := by simp
  rw [hds] at hR
  rw [hsz] at k5
  refine fin d'.toList (some ⟨b, 0, s⟩) c' τ' (fun x => ?_) hsrt (m1.new.of_only o5 (fun x hx => ?_)) hR hlen k5 rfl rfl
  ·rw [hperm.mem_iff, ← m1.sub]
  ·have : σ.next ≤ σ3.next := N3.nx
   show σ.next ≤ x; omega
end
end Go.Proofs.Ytffgfojabcbegaa
