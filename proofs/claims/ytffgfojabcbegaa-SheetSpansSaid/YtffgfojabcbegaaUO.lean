
import Derived.Test.YtffgfojabcbegaaUN
namespace Go.Proofs.Ytffgfojabcbegaa
open Go Go.Lay
set_option linter.unusedVariables false
set_option linter.unusedSimpArgs false
set_option maxRecDepth 20000
section
variable {σ : St}
theorem rAll_c {p : Option Addr} {l c : Nat} {rs : List (List Rec)} (h : RowsP σ 31 59 p l rs) (hl : l ≤ 1073741824) (hN : rs.flatten.length ≤ 1073741824) :
  ∃ p' c' σ', CallsA Try.prog 30 [.slice p l c] σ (.slice p' rs.flatten.length c') σ' ∧ New σ σ' ∧ RecsP σ' 59 p' rs.flatten.length rs.flatten ∧ ∀ b, AtP p' b → σ.next ≤ b := by
 have hlen := h.len
 have h0 := h.le (le0 σ)
 have hsum : ∀ s : Nat, ((rs.take s).flatten).length ≤ rs.flatten.length := fun s => by
  have e : rs.flatten.length = ((rs.take s).flatten).length + ((rs.drop s).flatten).length := by rw [← List.length_append, ← List.flatten_append, List.take_append_drop]
  omega
 refine RunsQ.newSl (rAll_ra (P0 := fun p' l' c' τ => l' = rs.flatten.length ∧ New σ.re τ ∧ Ap τ σ.next 6 p' l' c' (flat (rs.flatten.map recV))) (rAll_loop1 (Inv := fun k p' l' c' i τ => ∃ s : Nat, i = s ∧ s + k = l ∧ l' = ((rs.take s).flatten).length ∧ New σ.re τ ∧ Ap τ σ.next 6 p' l' c' (flat (((rs.take s).flatten).map recV))) ?_ l none 0 0 0 σ.re ⟨0, rfl, by omega, by simp, New.refl _, .inl .nil⟩) ?_)
 ·rintro k p' l' c' i τ ⟨s, rfl, hk, rfl, hNw, hb⟩
  by_cases hs : s < l
  rotate_left
  ·rw [List.take_of_length_le (by omega)] at hb ⊢
   exact rAll_s1b ⟨rfl, hNw, hb⟩ (by omega)
  obtain ⟨a, rfl, r, q, d, hr, ld, hq⟩ := (h0.le hNw.le).row hs
  have e1 : ((rs.take (s + 1)).flatten).length = ((rs.take s).flatten).length + r.length := by rw [take_snoc hr]; simp
  have := hsum (s + 1)
  obtain ⟨p2, c2, τ2, g1, g2, g3, g4⟩ := hb.append (P := Try.prog) (k := d) appT_ref hq.1 (by omega) (flat_all (fun _ => rfl) r) hNw.nx
  have N2 : New σ.re τ2 := hNw.of_only g3 (fun b hbb => by obtain ⟨a', e, rfl⟩ := hbb; exact (hb.bd a' e).1)
  refine rAll_s1a (ld _ (Le.refl _)) g1 ⟨k - 1, by omega, s + 1, by omega, by omega, by rw [e1], N2, ?_⟩ (by omega)
  rw [take_snoc hr, List.flatten_append, List.map_append, flat_append]
  simpa using g2
 ·rintro p' l' c' τ ⟨rfl, hNw, hb⟩
  exact rAll_t1x0a ⟨hNw, p', c', rfl, hb.slv (List.length_map _) (by intro v hv; obtain ⟨x, _, rfl⟩ := List.mem_map.1 hv; exact elOk_ref x), fun b hbb => by obtain ⟨a', e, rfl⟩ := hbb; exact (hb.bd a' e).1⟩
def codeZ (rs : List (List Rec)) : Int := if faultZ rs = 0 then (if consB rs.flatten = true then 0 else 6) else faultZ rs
theorem fault_c {p : Option Addr} {l c : Nat} {rs : List (List Rec)} (h : RowsP σ 31 59 p l rs) (hl : l ≤ 1073741824) (hr : ∀ r ∈ rs, r.length ≤ 1073741824) (hN : rs.flatten.length ≤ 1073741824) : CallsA Try.prog 19 [.slice p l c] σ (iV (codeZ rs)) σ := by
 have h0 := h.le (le0 σ)
 have k1 := rFault_c (c := c) h0 hl hr
 by_cases hz : faultZ rs = 0
 rotate_left
 ·have e : codeZ rs = faultZ rs := by unfold codeZ; rw [if_neg hz]
  rw [e]
  exact (fault_ra k1 ⟨rfl, Nat.le_refl _⟩ hz).pure
 rw [hz] at k1
 obtain ⟨q, d, τ, k2, n2, r2, _⟩ := rAll_c (c := c) h0 hl hN
 have k3 := rContras_c (c := d) r2 hN
 cases hc : consB rs.flatten with
 | true =>
  have e : codeZ rs = 0 := by unfold codeZ; rw [if_pos hz, if_pos hc]
  rw [e]
  rw [hc] at k3
  exact (fault_rc k1 k2 k3 ⟨rfl, n2.lw⟩ rfl).pure
 | false =>
  have e : codeZ rs = 6 := by unfold codeZ; rw [if_pos hz, if_neg (by simp [hc])]
  rw [e]
  rw [hc] at k3
  exact (fault_rb k1 k2 k3 ⟨rfl, n2.lw⟩ rfl).pure
end
end Go.Proofs.Ytffgfojabcbegaa
