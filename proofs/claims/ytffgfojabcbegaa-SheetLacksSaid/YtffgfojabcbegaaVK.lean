
import Derived.Test.YtffgfojabcbegaaVJ
import Derived.Test.YtffgfojabcbegaaXM
namespace Go.Proofs.Ytffgfojabcbegaa
open Go Go.Lay
set_option linter.unusedVariables false
set_option linter.unusedSimpArgs false
set_option maxRecDepth 20000
theorem faultZ_right {xs : List Rec} (h : xM [xs] = 0) : xs.length ≤ 60 ∧ ∀ x ∈ xs, yU x = true := by
 obtain ⟨_, h2, h3⟩ := faultZ_ok h
 exact ⟨h2 xs (by simp), h3 xs (by simp)⟩
section
variable {σ : St}
theorem lLacks_top {p : Option Addr} {l c : Nat} {xs : List Rec} (h : yP σ 59 p l xs) (hb : ∀ x ∈ xs, Byte x) : TopQ Try.prog 12 4 [.slice p l c] σ fun v _ => v = .bool true := by
 have hlen := h.len
 by_cases h65 : 65 < l
 ·exact lLacks_ra rfl (by omega)
 have hflat : ([xs] : List (List Rec)).flatten = xs := by simp
 obtain ⟨p1, c1, σ2, k1, n1, r1, _⟩ := Records_c (c := c) h (by omega)
 have h2 := SlV.le h n1.le
 have refs : ∀ σ5, Le σ σ5 → ∃ b σ7, zE Try.prog 16 [.slice p l c] σ5 (.slice (some ⟨b, 0, none⟩) 1 1) σ7 ∧ New σ5 σ7 ∧ zE Try.prog 19 [.slice (some ⟨b, 0, none⟩) 1 1] σ7 (iV (zEO [xs])) σ7 := by
  intro σ5 L5
  obtain ⟨b, σ7, k3, n3, o3, _⟩ := one_c (c := c) (SlV.le h L5)
  exact ⟨b, σ7, k3, n3, fault_c (c := 1) (zAG.single agg22 o3 (SlV.le h (L5.trans n3.le))) (by omega) (by intro r hr; simp at hr; subst hr; omega) (by rw [hflat]; omega)⟩
 have logs : ∀ σ7, Le σ σ7 → zEO [xs] = 0 → xM [xs] = 0 ∧ zFX xs = true ∧ ∃ q d σ10, zE Try.prog 21 [.slice p l c] σ7 (.slice q (zAK xs).length d) σ10 ∧ New σ7 σ10 ∧
   ((wC (zAK xs) = none ∧ zE Try.prog 20 [.slice q (zAK xs).length d] σ10 (.tuple ⟨[.slice none 0 0, .bool false]⟩) σ10) ∨
   (∃ o q' d' σ', wC (zAK xs) = some o ∧ zE Try.prog 20 [.slice q (zAK xs).length d] σ10 (.tuple ⟨[.slice q' o.length d', .bool true]⟩) σ' ∧ New σ10 σ' ∧ SlV Try.prog σ' 57 5 q' o.length (o.map lkV))) := by
  intro σ7 L7 hcz
  have hz : xM [xs] = 0 := by
   unfold zEO at hcz
   by_cases e : xM [xs] = 0
   ·exact e
   ·rw [if_neg e] at hcz; exact absurd hcz e
  have hc : zFX xs = true := by
   unfold zEO at hcz
   rw [if_pos hz, hflat] at hcz
   cases e : zFX xs with
   | true => rfl
   | false => rw [e] at hcz; cases hcz
  have hcon := zFG.1 hc
  obtain ⟨hx60, hright⟩ := faultZ_right hz
  obtain ⟨q, d, σ10, k5, n5, r5, _⟩ := rLog_c (c := c) (SlV.le h L7) (by omega) hcon
  have hm : ∀ x ∈ zAK xs, yU x = true := fun x hx => hright x (mem_logL.1 hx)
  have hLl := logL_len (l := xs)
  exact ⟨hz, hc, q, d, σ10, k5, n5, rLacks_c (c := d) r5 (by omega) (srt_logL hcon) (fun x hx => (zIY (hm x hx)).2.2.1) (fun x hx => bd_right (hm x hx))⟩
 rcases Lacks_c (c := c1) r1 (by omega) hb with ⟨hz, k2⟩ | ⟨hz, hcon, hf, o, q3, d3, σ5, ho, k2, n2, s3⟩
 ·obtain ⟨b, σ7, k3, n3, k4⟩ := refs σ2 n1.le
  by_cases hcz : zEO [xs] = 0
  ·obtain ⟨hf, hc, q, d, σ10, k5, n5, ⟨hn, k6⟩ | ⟨o, q', d', σ', ho, _⟩⟩ := logs σ7 (n1.le.trans n3.le) hcz
   ·have e9 : zAU xs = 9 := by unfold zAU; rw [if_pos hf, if_pos hc, hn]; rfl
    rw [e9] at k2
    rw [hcz] at k4
    exact lLacks_re k1 k2 k3 k4 k5 k6 rfl (by omega) rfl rfl rfl
   ·have e0 : zAU xs = 0 := by unfold zAU; rw [if_pos hf, if_pos hc, ho]; rfl
    exact absurd e0 hz
  ·have e : zAU xs = zEO [xs] := by
    unfold zAU zEO at *
    rw [hflat] at *
    by_cases e : xM [xs] = 0
    ·rw [if_pos e] at hcz ⊢
     rw [if_pos e]
     cases e2 : zFX xs with
     | true => rw [e2] at hcz; exact absurd rfl hcz
     | false => rfl
    ·rw [if_neg e, if_neg e]
   exact lLacks_rh k1 k2 k3 k4 rfl (by omega) hcz e rfl
 ·have L5 := n1.le.trans n2.le
  obtain ⟨b, σ7, k3, n3, k4⟩ := refs σ5 L5
  have hcz : zEO [xs] = 0 := by unfold zEO; rw [hflat, if_pos hf, if_pos (zFG.2 hcon)]
  obtain ⟨_, _, q, d, σ10, k5, n5, ⟨hn, _⟩ | ⟨o', q', d', σ', ho', k6, n6, s6⟩⟩ := logs σ7 (L5.trans n3.le) hcz
  ·rw [ho] at hn; cases hn
  ·rw [ho] at ho'; cases ho'
   rw [hcz] at k4
   have hol : o.length ≤ 100000 := by
    have := lacksTo_len (L := zAK xs) (j := (zAK xs).length) ho
    have := logL_len (l := xs)
    omega
   have k7 := lacks_c (c := d3) (d := d') (((SlV.le s3 n3.le).le n5.le).le n6.le) s6 hol
   exact lLacks_rb k1 k2 k3 k4 k5 k6 k7 rfl (by omega) rfl rfl
end
end Go.Proofs.Ytffgfojabcbegaa
