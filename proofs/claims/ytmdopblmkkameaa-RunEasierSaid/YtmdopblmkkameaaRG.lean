
import Derived.Test.YtmdopblmkkameaaRF
import Derived.Test.YtmdopblmkkameaaTy
namespace Go.Proofs.Ytmdopblmkkameaa
open Go Go.Lay
set_option linter.unusedVariables false
set_option linter.unusedSimpArgs false
set_option maxRecDepth 20000
section
variable {σ : St} {t : Tab} {pe pt : Option Addr} {le ce lt ct : Nat}
theorem Follows_c (h : TabP σ pe le pt lt t) (hle : le ≤ 1073741824) (hlt : lt ≤ 100000) (hr : ∀ r ∈ t.empty, r.length ≤ 1073741824) :
  ∃ p l c e σ', CallsA Try.prog 32 [.agg ⟨tabL t pe le ce pt lt ct⟩] σ (.tuple ⟨[.slice p l c, iV e]⟩) σ' ∧ New σ σ' ∧ ((checkZ t ≠ 0 ∧ e = checkZ t ∧ l = 0) ∨ (checkZ t = 0 ∧ e = 0 ∧ l = lt ∧ RowsF σ' σ.next p lt (folR t lt))) := by
 suffices hmain : RunsQ Try.prog 32 [.agg ⟨tabL t pe le ce pt lt ct⟩] σ.re fun v s => New σ.re s ∧ ∃ p l c e, v = .tuple ⟨[.slice p l c, iV e]⟩ ∧ ((checkZ t ≠ 0 ∧ e = checkZ t ∧ l = 0) ∨ (checkZ t = 0 ∧ (∃ q, p = some q) ∧ e = 0 ∧ l = lt ∧ RowsF s σ.next p lt (folR t lt))) by
  obtain ⟨v, σ', h1, h2, p, l, c, e, rfl, h3⟩ := RunsQ.new hmain
   (by rintro v s s' ⟨p, l, c, e, rfl, q1⟩ hle; exact ⟨p, l, c, e, rfl, q1.imp id (fun q => ⟨q.1, q.2.1, q.2.2.1, q.2.2.2.1, q.2.2.2.2.le hle⟩)⟩)
   (by
    rintro v s hr ⟨p, l, c, e, rfl, q1⟩
    refine ⟨p, l, c, e, rfl, q1.imp id fun q => ?_⟩
    obtain ⟨_, ⟨q, rfl⟩, _⟩ := q
    exact Bool.noConfusion (show false = true from hr))
  exact ⟨p, l, c, e, σ', h1, h2, h3.imp id (fun q => ⟨q.1, q.2.2⟩)⟩
 have n1 : New σ.re (σ.re.row (tabL t pe le ce pt lt ct) 4) := New.row _ _ _
 have h1 : TabP (σ.re.row (tabL t pe le ce pt lt ct) 4) pe le pt lt t := (h.le' (le0 σ)).le' n1.le
 have ck := check_c (ce := ce) (ct := ct) h1 hle (by omega) hr
 by_cases hz : checkZ t = 0
 ·obtain ⟨p, c, σ', c1, c2, c3, q, rfl⟩ := follows_c (ce := ce) (ct := ct) h1 (valid_of hz) hlt
  rw [hz] at ck
  exact Follows_rb ck c1 ⟨n1.trans c2, _, _, _, _, rfl, .inr ⟨hz, ⟨_, rfl⟩, rfl, rfl, by
   obtain ⟨vs, a1, a2, a3, a4⟩ := c3
   exact ⟨vs, a1, a2, fun b hb => by have := a3 b hb; simp at this; omega, fun i r hi => by
    obtain ⟨q', c', g1, g2, g3⟩ := a4 i r hi
    exact ⟨q', c', g1, g2, fun b hb => by have := g3 b hb; simp at this; omega⟩⟩⟩⟩
 ·exact Follows_ra ck ⟨n1, _, _, _, _, rfl, .inl ⟨hz, rfl, rfl⟩⟩ hz
theorem folR_get {i n : Nat} (h : i < n) : (folR t n)[i]? = some (natI (folL t i n)) := by simp [folR, h]
end
end Go.Proofs.Ytmdopblmkkameaa
