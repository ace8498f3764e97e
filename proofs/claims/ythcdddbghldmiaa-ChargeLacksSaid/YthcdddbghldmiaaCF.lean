
import Derived.Test.YthcdddbghldmiaaCC
import Derived.Test.YthcdddbghldmiaaPA
import Derived.Test.YthcdddbghldmiaaPE
import Derived.Test.YthcdddbghldmiaaXC
namespace Go.Proofs.Ythcdddbghldmiaa
open Go Go.Lay
set_option linter.unusedVariables false
set_option linter.unusedSimpArgs false
set_option maxRecDepth 20000
def Nd.b : Nd → Int
 | .bus i => i
 | _ => -1
section
variable {σ : St}
theorem stay_c {p q : Option Addr} {l c m d : Nat} {b : Bus} : ∃ a1 a2 σ', CallsA Try.prog 61 [.agg ⟨garL p l c q m d⟩, busV b] σ (.func (.func 82) ⟨[]⟩ ⟨[.pointer (some ⟨a1, 0, none⟩), .pointer (some ⟨a2, 0, none⟩)]⟩) σ' ∧ New σ σ' ∧ Row σ' ⟨a1, 0, none⟩ (busL b) ∧ Row σ' ⟨a2, 0, none⟩ (garL p l c q m d) := by
 obtain ⟨v, σ', h1, h2, a1, a2, rfl, h3, h4⟩ := RunsQ.new (σ := σ) (Q := fun v s => ∃ a1 a2, v = .func (.func 82) ⟨[]⟩ ⟨[.pointer (some ⟨a1, 0, none⟩), .pointer (some ⟨a2, 0, none⟩)]⟩ ∧ Row s ⟨a1, 0, none⟩ (busL b) ∧ Row s ⟨a2, 0, none⟩ (garL p l c q m d))
  (stay_ra ⟨(New.row _ _ _).row', _, _, rfl, row_new (σ.re.row (garL p l c q m d) 2) (busL b) 9, (row_new σ.re (garL p l c q m d) 2).row⟩)
  (by rintro v s s' ⟨a1, a2, rfl, q1, q2⟩ hle; exact ⟨a1, a2, rfl, q1.le hle, q2.le hle⟩) (by rintro v s hr ⟨a1, a2, rfl, _⟩; exact Bool.noConfusion (show false = true from hr))
 exact ⟨a1, a2, σ', h1, h2, h3, h4⟩
theorem stay1_run {p q : Option Addr} {l c m d lo a1 a2 : Nat} {b : Bus} (hvb : busB b = true) (r1 : Row σ ⟨a1, 0, none⟩ (busL b)) (r2 : Row σ ⟨a2, 0, none⟩ (garL p l c q m d)) (hl : l ≤ 100000) {J : Nat → St → Prop} (h0 : J 0 σ)
  (hJ : ∀ s τ, s < l → J s τ → if thereB b (s : Int) then ∃ τ', CallsY Try.prog lo [iV (s : Int)] τ (.bool true) τ' ∧ J (s + 1) τ' else J (s + 1) τ) :
  RunsQ Try.prog 82 [.func (.yield lo) ⟨[]⟩ ⟨[]⟩, .pointer (some ⟨a1, 0, none⟩), .pointer (some ⟨a2, 0, none⟩)] σ fun v s => v = .tuple ⟨[]⟩ ∧ J l s := by
 refine stay1_ra (Pr := fun _ => False) (P0 := fun τ => J l τ) (by simpa [aadd] using r1.loadN (t := 97) agg97 size97 (k := 0) rfl rfl (by simp)) (by simpa [aadd] using r2.load1 (t := 32) agg32 (k := 0) rfl)
  (stay1_loop1 (Inv := fun k i τ => ∃ s : Nat, i = s ∧ s + k = l ∧ J s τ) (Qr := fun _ => False) (Q0 := fun τ => J l τ) ?_ l 0 σ ⟨0, rfl, by omega, h0⟩) (fun _ h => h.elim) (fun τ h => stay1_t1x0a ⟨rfl, h⟩)
 rintro k i τ ⟨s, rfl, hk, hj⟩
 by_cases hs : s < l
 rotate_left
 ·have : s = l := by omega
  subst this
  exact stay1_s1d hj
 have ct := busThere_c (σ := τ) (s := (s : Int)) hvb
 have h := hJ s τ hs hj
 cases ht : thereB b (s : Int) with
 | true =>
  rw [ht] at ct h
  obtain ⟨τ', h1, h2⟩ := h
  exact stay1_s1a ct h1 ⟨k - 1, by omega, s + 1, by omega, by omega, h2⟩
 | false =>
  rw [ht] at ct h
  exact stay1_s1c ct ⟨k - 1, by omega, s + 1, by omega, by omega, h⟩
end
end Go.Proofs.Ythcdddbghldmiaa
