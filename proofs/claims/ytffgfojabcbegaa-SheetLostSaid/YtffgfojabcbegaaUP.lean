import Derived.Test.YtffgfojabcbegaaUN

namespace Go.Proofs.Ytffgfojabcbegaa
open Go Go.Lay
set_option linter.unusedVariables false
set_option linter.unusedSimpArgs false
set_option maxRecDepth 20000
section
variable {σ : St}
theorem rAll_c {p : Option Addr} {l c : Nat} {rs : List (List Rec)} (h : zAT σ 31 59 p l rs) (hl : l ≤ 1073741824) (hN : rs.flatten.length ≤ 1073741824) :
  ∃ p' c' σ', zG Try.prog 30 [.slice p l c] σ (.slice p' rs.flatten.length c') σ' ∧ New σ σ' ∧ xB σ' 59 p' rs.flatten.length rs.flatten ∧ ∀ b, AtP p' b → σ.next ≤ b := by
 have hlen := h.len
 have h0 := h.le (le0 σ)
 have hsum : ∀ s : Nat, ((rs.take s).flatten).length ≤ rs.flatten.length := fun s => by
  have e : rs.flatten.length = ((rs.take s).flatten).length + ((rs.drop s).flatten).length := by rw [← List.length_append, ← List.flatten_append, List.take_append_drop]
  omega
 refine zO.newSl (rAll_ra (P0 := fun p' l' c' τ => l' = rs.flatten.length ∧ New σ.re τ ∧ Ap τ σ.next 6 p' l' c' (zAS (rs.flatten.map yP))) (yLI (Inv := fun k p' l' c' i τ => ∃ s : Nat, i = s ∧ s + k = l ∧ l' = ((rs.take s).flatten).length ∧ New σ.re τ ∧ Ap τ σ.next 6 p' l' c' (zAS (((rs.take s).flatten).map yP))) ?_ l none 0 0 0 σ.re ⟨0, rfl, by omega, by simp, New.refl _, .inl .nil⟩) ?_)
 ·rintro k p' l' c' i τ ⟨s, rfl, hk, rfl, hNw, hb⟩
  by_cases hs : s < l
  rotate_left
  ·rw [List.take_of_length_le (by omega)] at hb ⊢
   exact yYI ⟨rfl, hNw, hb⟩ (by omega)
  obtain ⟨a, rfl, r, q, d, hr, ld, hq⟩ := (h0.le hNw.le).row hs
  have e1 : ((rs.take (s + 1)).flatten).length = ((rs.take s).flatten).length + r.length := by rw [wD hr]; simp
  have := hsum (s + 1)
  obtain ⟨p2, c2, τ2, g1, g2, g3, g4⟩ := hb.append (P := Try.prog) (k := d) zWS hq.1 (by omega) (yHY (fun _ => rfl) r) hNw.nx
  have N2 : New σ.re τ2 := hNw.of_only g3 (fun b hbb => by obtain ⟨a', e, rfl⟩ := hbb; exact (hb.bd a' e).1)
  refine yYJ (ld _ (Le.refl _)) g1 ⟨k - 1, by omega, s + 1, by omega, by omega, by rw [e1], N2, ?_⟩ (by omega)
  rw [wD hr, List.flatten_append, List.map_append, zGU]
  simpa using g2
 ·rintro p' l' c' τ ⟨rfl, hNw, hb⟩
  exact yLH ⟨hNw, p', c', rfl, hb.slv (List.length_map _) (by intro v hv; obtain ⟨x, _, rfl⟩ := List.mem_map.1 hv; exact zIO x), fun b hbb => by obtain ⟨a', e, rfl⟩ := hbb; exact (hb.bd a' e).1⟩
def zEV (rs : List (List Rec)) : Int := if xV rs = 0 then (if zIP rs.flatten = true then 0 else 6) else xV rs
theorem fault_c {p : Option Addr} {l c : Nat} {rs : List (List Rec)} (h : zAT σ 31 59 p l rs) (hl : l ≤ 1073741824) (hr : ∀ r ∈ rs, r.length ≤ 1073741824) (hN : rs.flatten.length ≤ 1073741824) : zG Try.prog 19 [.slice p l c] σ (iV (zEV rs)) σ := by
 have h0 := h.le (le0 σ)
 have k1 := yYH (c := c) h0 hl hr
 by_cases hz : xV rs = 0
 rotate_left
 ·have e : zEV rs = xV rs := by unfold zEV; rw [if_neg hz]
  rw [e]
  exact (fault_ra k1 ⟨rfl, Nat.le_refl _⟩ hz).pure
 rw [hz] at k1
 obtain ⟨q, d, τ, k2, n2, r2, _⟩ := rAll_c (c := c) h0 hl hN
 have k3 := yKZ (c := d) r2 hN
 cases hc : zIP rs.flatten with
 | true =>
  have e : zEV rs = 0 := by unfold zEV; rw [if_pos hz, if_pos hc]
  rw [e]
  rw [hc] at k3
  exact (fault_rc k1 k2 k3 ⟨rfl, n2.lw⟩ rfl).pure
 | false =>
  have e : zEV rs = 6 := by unfold zEV; rw [if_pos hz, if_neg (by simp [hc])]
  rw [e]
  rw [hc] at k3
  exact (fault_rb k1 k2 k3 ⟨rfl, n2.lw⟩ rfl).pure
end
end Go.Proofs.Ytffgfojabcbegaa

namespace Go.Proofs.Ytffgfojabcbegaa
open Go Go.Lay
set_option linter.unusedVariables false
set_option linter.unusedSimpArgs false
set_option maxRecDepth 20000
section
variable {σ : St}
theorem yWF : AppT Try.prog 76 76 28 1 := zMW (by kernel_rfl)
theorem elOk_row (q : Option Addr) (l c : Nat) : zMZ Try.prog 28 1 (.slice q l c) := .inl ⟨by kernel_rfl, rfl, rfl⟩
theorem zH {p : Option Addr} {l c : Nat} {rs : List (List Rec)} (h : zAT σ 31 59 p l rs) (hl : l ≤ 1073741823) (hr : ∀ r ∈ rs, r.length ≤ 1073741823) :
  ∃ p' c' σ', zG Try.prog 32 [.slice p l c] σ (.slice p' l c') σ' ∧ New σ σ' ∧ zAT σ' 28 79 p' l rs := by
 have hlen := h.len
 have h0 := h.le (le0 σ)
 have key : zO Try.prog 32 [.slice p l c] σ.re fun v s => New σ.re s ∧ ∃ q d, v = .slice q l d ∧ zAT s 28 79 q l rs := by
  refine yZU (P0 := fun p' l' c' τ => l' = l ∧ New σ.re τ ∧ zAT τ 28 79 p' l rs)
   (yGW (Inv := fun k p' l' c' i τ => ∃ s : Nat, i = s ∧ s + k = l ∧ l' = s ∧ New σ.re τ ∧ ∃ vs : List Value, Gr Try.prog τ σ.next 28 1 p' s c' vs ∧ ∀ (i : Nat) (r : List Rec), (rs.take s)[i]? = some r → ∃ q c, vs[i]? = some (Value.slice q r.length c) ∧ xB τ 79 q r.length r ∧ ∀ b, AtP q b → ¬ AtP p' b) ?_ l none 0 0 0 σ.re ⟨0, rfl, by omega, rfl, New.refl _, [], .nil, by simp⟩)
   ?_
  ·rintro k p' l' c' i τ ⟨s, rfl, hk, rfl, hNw, vs, hg, hv⟩
   by_cases hs : l' < l
   rotate_left
   ·have : l' = l := by omega
    subst this
    rw [List.take_of_length_le (by omega)] at hv
    exact yUI ⟨rfl, hNw, vs, hg.slv, hlen, fun i r hi => by obtain ⟨q, c, a1, a2, _⟩ := hv i r hi; exact ⟨q, c, a1, a2⟩⟩ (by omega)
   obtain ⟨a, rfl, r, q, d, hr', ld, hq⟩ := (h0.le hNw.le).row hs
   obtain ⟨q2, d2, τ2, k2, n2, r2, b2⟩ := zQM (c := d) hq (hr r (List.mem_of_getElem? hr'))
   obtain ⟨p4, c4, τ4, g1, g2, g3, g4, g5⟩ := grow (σ0 := σ.re) (.slice q2 r.length d2) yWF hg hNw n2 (elOk_row _ _ _) (by omega) (e := rfl) (hc := rfl)
   have far : ∀ b, AtP q2 b → ¬ AtP p' b := fun b hb hb' => by
    have := (hg.bd hb').2
    have := b2 b hb
    omega
   have far4 : ∀ (q : Option Addr), (∀ b, AtP q b → ¬ AtP p' b) → (∀ b, AtP q b → b < τ2.next) → ∀ b, AtP q b → ¬ AtP p4 b := fun q h1 h2 b hb hb' => by
    rcases g5 b hb' with h3 | h3
    ·exact h1 b hb h3
    ·have := h2 b hb; omega
   have keep : ∀ (q : Option Addr) (r : List Rec), xB τ2 79 q r.length r → (∀ b, AtP q b → ¬ AtP p' b) → xB τ4 79 q r.length r := fun q r hR hf => by
    exact g4.slv' (SlV.le hR (Le.row _ _ _)) (fun a e => hf _ ⟨a, e, rfl⟩)
   have low : ∀ (q : Option Addr) (r : List Rec), xB τ2 79 q r.length r → ∀ b, AtP q b → b < τ2.next := fun q r hR b hb => by
    obtain ⟨a, e, rfl⟩ := hb
    exact zTH hR a e
   have g2 : Gr Try.prog τ4 σ.next 28 1 p4 (l' + 1) c4 (vs ++ [Value.slice q2 r.length d2]) := g2
   refine yUJ (ld _ (Le.refl _)) k2 g1 ⟨k - 1, by omega, l' + 1, by omega, by omega, rfl, g3, vs ++ [Value.slice q2 r.length d2], g2, fun i x hi => ?_⟩ (by omega)
   rw [wD hr'] at hi
   have hvl : vs.length = l' := hg.len_eq
   have htl : (rs.take l').length = l' := by simp; omega
   by_cases e : i < l'
   ·rw [List.getElem?_append_left (by omega)] at hi
    obtain ⟨q, c, a1, a2, a3⟩ := hv i x hi
    refine ⟨q, c, by rw [List.getElem?_append_left (by omega)]; exact a1, keep q x (SlV.le a2 n2.le) a3, far4 q a3 (low q x (SlV.le a2 n2.le))⟩
   ·rw [List.getElem?_append_right (by omega), htl] at hi
    have e2 : i - l' = 0 := by
     rcases Nat.eq_zero_or_pos (i - l') with e | e
     ·exact e
     ·rw [List.getElem?_eq_none (by simp; omega)] at hi; cases hi
    rw [e2] at hi
    cases hi
    refine ⟨q2, d2, by rw [List.getElem?_append_right (by omega), hvl, e2]; rfl, keep q2 r r2 far, far4 q2 far (low q2 r r2)⟩
  ·rintro p' l' c' τ ⟨rfl, hNw, hR⟩
   exact yGV ⟨hNw, p', c', rfl, hR⟩
 obtain ⟨v, σ', g1, g2, q', d', rfl, g3⟩ := zO.new (P := Try.prog) (f := 32) (args := [.slice p l c]) (σ := σ) (Q := fun v s => ∃ q d, v = .slice q l d ∧ zAT s 28 79 q l rs) key (by rintro v s s' ⟨q, d, rfl, g⟩ hle; exact ⟨q, d, rfl, g.le hle⟩) (by
  rintro v s hr ⟨q, d, rfl, g⟩
  refine ⟨q, d, rfl, ?_⟩
  cases q with
  | none =>
   obtain ⟨vs, k1, k2, k3⟩ := g
   have e0 : l = 0 := by
    rcases Nat.eq_zero_or_pos l with e | e
    ·exact e
    ·obtain ⟨a, ea, _⟩ := k1.some (i := 0) e; cases ea
   have : rs = [] := List.eq_nil_of_length_eq_zero (by omega)
   subst this
   exact ⟨vs, zKN k1, k2, by simp⟩
  | some a => exact Bool.noConfusion (show false = true from hr))
 exact ⟨q', d', σ', g1, g2, g3⟩
end
end Go.Proofs.Ytffgfojabcbegaa
