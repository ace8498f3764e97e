
import Derived.Test.YtffgfojabcbegaaUS
import Derived.Test.YtffgfojabcbegaaXJ
namespace Go.Proofs.Ytffgfojabcbegaa
open Go Go.Lay
set_option linter.unusedVariables false
set_option linter.unusedSimpArgs false
set_option maxRecDepth 20000
section
variable {σ : St}
theorem lMerges_top {p : Option Addr} {l c : Nat} {rs : List (List Rec)} (h : RowsP σ 31 59 p l rs) (hb : ∀ r ∈ rs, ∀ x ∈ r, Byte x) : TopQ Try.prog 12 10 [.slice p l c] σ fun v _ => v = .bool true := by
 have hlen := h.len
 obtain ⟨b, k0, ht⟩ := Thin_c (c := c) h
 cases b with
 | false => exact lMerges_rk k0 rfl
 | true =>
 obtain ⟨h8, h65⟩ := ht rfl
 have hr : ∀ r ∈ rs, r.length ≤ 1073741823 := fun r hr => by have := h65 r hr; omega
 have hr' : ∀ r ∈ rs, r.length ≤ 1073741824 := fun r hr => by have := h65 r hr; omega
 have hfl : rs.flatten.length ≤ 1000 := by
  have key : ∀ rs : List (List Rec), (∀ r ∈ rs, r.length ≤ 65) → rs.flatten.length ≤ 65 * rs.length := by
   intro rs
   induction rs with
   | nil => simp
   | cons r rs ih =>
    intro h
    have h1 := h r List.mem_cons_self
    have h2 := ih (fun x hx => h x (List.mem_cons_of_mem _ hx))
    rw [List.flatten_cons, List.length_append, List.length_cons]
    omega
  have := key rs h65
  omega
 obtain ⟨q2, c2, σ3, k1, n1, r1, _⟩ := rAll_c (c := c) h (by omega) (by omega)
 by_cases h150 : 150 < rs.flatten.length
 ·exact lMerges_ra k0 k1 rfl (by omega)
 have h3 := h.le n1.le
 obtain ⟨q4, c4, σ5, k2, n2, r2⟩ := lists_c (c := c) h3 (by omega) hr
 have h5 := h3.le n2.le
 rcases Merge_c (c := c4) r2 (by omega) (fun r hr2 => ⟨hr' r hr2, hb r hr2⟩) with ⟨hz, k3⟩ | ⟨hz, q6, c6, σ8, k3, n3, r3⟩
 ·have k4 := fault_c (c := c) h5 (by omega) hr' (by omega)
  by_cases hcz : codeZ rs = 0
  ·have hcf : faultZ rs = 0 ∧ consB rs.flatten = true := by
    unfold codeZ at hcz
    by_cases e : faultZ rs = 0
    ·refine ⟨e, ?_⟩
     rw [if_pos e] at hcz
     cases e2 : consB rs.flatten with
     | true => rfl
     | false => rw [e2] at hcz; cases hcz
    ·rw [if_neg e] at hcz; exact absurd hcz e
   have hmz : mergeZ rs = if 60 < (logL rs.flatten).length then 3 else 0 := by unfold mergeZ; rw [if_pos hcf.1, if_pos hcf.2]
   have h60 : 60 < (logL rs.flatten).length := by
    by_cases e : 60 < (logL rs.flatten).length
    ·exact e
    ·rw [if_neg e] at hmz; exact absurd hmz hz
   rw [if_pos h60] at hmz
   rw [hmz] at k3
   rw [hcz] at k4
   obtain ⟨q10, c10, σ11, k5, n5, r5, _⟩ := rAll_c (c := c) h5 (by omega) (by omega)
   obtain ⟨q12, c12, σ13, k6, n6, r6, _⟩ := rLog_c (c := c10) r5 (by omega) (consB_iff.1 hcf.2)
   exact lMerges_rb k0 k1 k2 k3 k4 k5 k6 rfl (by omega) rfl (by omega) rfl (by omega)
  ·have e : mergeZ rs = codeZ rs := by
    unfold mergeZ codeZ at *
    by_cases e : faultZ rs = 0
    ·rw [if_pos e] at hcz ⊢
     rw [if_pos e]
     cases e2 : consB rs.flatten with
     | true => rw [e2] at hcz; exact absurd rfl hcz
     | false => rfl
    ·rw [if_neg e, if_neg e]
   exact lMerges_rh k0 k1 k2 k3 k4 rfl (by omega) hcz e rfl
 ·have hcf : faultZ rs = 0 ∧ consB rs.flatten = true ∧ ¬ 60 < (logL rs.flatten).length := by
   unfold mergeZ at hz
   by_cases e : faultZ rs = 0
   ·rw [if_pos e] at hz
    cases e2 : consB rs.flatten with
    | true =>
     rw [e2, if_pos rfl] at hz
     refine ⟨e, rfl, fun e3 => ?_⟩
     rw [if_pos e3] at hz; cases hz
    | false => rw [e2] at hz; cases hz
   ·rw [if_neg e] at hz; exact absurd hz e
  have hcz : codeZ rs = 0 := by unfold codeZ; rw [if_pos hcf.1, if_pos hcf.2.1]
  have h8' := h5.le n3.le
  have k4 := fault_c (c := c) h8' (by omega) hr' (by omega)
  rw [hcz] at k4
  obtain ⟨q10, c10, σ11, k5, n5, r5, _⟩ := rAll_c (c := c) h8' (by omega) (by omega)
  obtain ⟨q12, c12, σ13, k6, n6, r6, _⟩ := rLog_c (c := c10) r5 (by omega) (consB_iff.1 hcf.2.1)
  have k7 := same_c (c := c6) (d := c12) ((SlV.le r3 n5.le).le n6.le) r6 (by omega)
  rw [decide_eq_true rfl] at k7
  exact lMerges_re k0 k1 k2 k3 k4 k5 k6 k7 rfl (by omega) rfl (by omega) rfl
end
end Go.Proofs.Ytffgfojabcbegaa
