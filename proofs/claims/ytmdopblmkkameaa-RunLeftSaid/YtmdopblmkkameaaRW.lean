
import Derived.Test.YtmdopblmkkameaaRK
import Derived.Test.YtmdopblmkkameaaRD
namespace Go.Proofs.Ytmdopblmkkameaa
open Go Go.Lay
set_option linter.unusedVariables false
set_option linter.unusedSimpArgs false
set_option maxRecDepth 20000
theorem app_st {P : Program} {σ : St} {n0 len c i : Nat} {a : Addr} {cs : List Value} {t : TypeId} {v : Value} (h : App σ n0 1 (.slice (some a) len c) len cs) (hv : v.cells.toList = [v]) (hs : yV P t = some 1) (hc : cellB v = true) (hi : i < len) :
  ∃ τ, zR P (evL [.pointer (some (zK a (Int.toNat (i : Int) * 1))), v]) σ (.store t (.tmp 0) (.tmp 1)) = some (undef, τ) ∧ App τ n0 1 (.slice (some a) len c) len (cs.set i v) ∧ Only (· = a.block) σ τ := by
 cases h with
 | @more b s nx _ _ sp log hb hsp h0 hlt hl hp hsn =>
  have e : zK (⟨b, 0, sp⟩ : Addr) (Int.toNat (i : Int) * 1) = ⟨b, i, sp⟩ := by rw [Int.toNat_natCast, Nat.mul_one]; simp [zK]
  rw [e]
  have hcs : cs.take i ++ ([v] ++ cs.drop (i + 1)) = cs.set i v := by rw [List.set_eq_take_append_cons_drop, if_pos (by omega)]; rfl
  have hw : vI σ ⟨b, i, sp⟩ [v] = some (σ.put b (.cells (cs.set i v) 1 [(s, cs.length)] nx false)) := by
   have h2 : (Nat.beq s (yC ⟨b, i, sp⟩) && Nat.ble (i + 1) cs.length && !false && [v].all cellB) = true := by
    have h3 : Nat.beq s (yC ⟨b, i, sp⟩) = true := by unfold yC; simp only [hsp]; exact Nat.beq_refl _
    have h4 : Nat.ble (i + 1) cs.length = true := (zS _ _).2 (by omega)
    rw [h3, h4]; simp [hc]
   unfold vI
   simp only [hb, h2, cond_true, zFA, St.write_eq, List.length_singleton, hcs]
  refine ⟨σ.put b (.cells (cs.set i v) 1 [(s, cs.length)] nx false), ?_, .more (s := s) (log := []) (nx := nx) (by rw [St.put_get, if_pos rfl]; simp) hsp h0 hlt (by simp; omega) hp hsn, Only.put (.inr rfl)⟩
  have h1 : Nat.beq v.cells.toList.length 1 = true := by rw [hv]; rfl
  have : zEM P σ t ⟨b, i, sp⟩ v = some (σ.put b (.cells (cs.set i v) 1 [(s, cs.length)] nx false)) := by
   unfold zEM
   rw [hv] at h1 ⊢
   simp only [hs, h1, cond_true, hw]
  show (zEM P σ t ⟨b, i, sp⟩ v).map _ = _
  rw [this]; rfl
theorem app_i {z : St} {n1 c : Nat} {p : Option Addr} {r : List Int} (h : App z n1 1 (.slice p r.length c) r.length (r.map xK)) : yZ z p r.length r := by
 refine App.slv (vs := r.map xK) (by rw [zGV]; exact h) (by simp) ?_
 rintro v hv
 obtain ⟨x, _, rfl⟩ := List.mem_map.1 hv
 exact zCH x
section
variable {σ : St}
theorem list_a {p : Option Addr} {l c : Nat} {xs : List Int} (h : yZ σ p l xs) (hl : l ≤ 1073741824) :
  ∃ p' c' σ', zD Try.prog 27 [.slice p l c] σ (.slice p' l c') σ' ∧ New σ σ' ∧ App σ' σ.next 1 (.slice p' l c') l (xs.map xK) := by
 have hc : (wL (xs.map xK)).all cellB = true := by rw [zGU xs .i64]; simp [List.all_eq_true]; intro a _; rfl
 obtain ⟨p', c', σ', h1, h2, h3⟩ := append_copy (k := c) zDE h.re.1 hl hc
 have hmain : zN Try.prog 27 [.slice p l c] σ.re fun v s => New σ.re s ∧ ∃ p' c', v = .slice p' l c' ∧ App s σ.next 1 (.slice p' l c') l (xs.map xK) :=
  list_ra h1 ⟨New.of_keep h3, p', c', rfl, by rw [zGV] at h2; exact h2⟩
 obtain ⟨v, σ'', k1, k2, p'', c'', rfl, k3⟩ := zN.new hmain (by rintro v s s' ⟨p', c', rfl, q⟩ hle; exact ⟨p', c', rfl, q.keep hle⟩) (by
  rintro v s hr ⟨p', c', rfl, q⟩
  refine ⟨p', c', rfl, ?_⟩
  generalize hv : Value.slice p' l c' = w at q hr
  generalize xs.map xK = ys at q ⊢
  cases q with
  | nil => exact .nil
  | more _ _ _ _ _ _ _ => exact Bool.noConfusion (show false = true from hr))
 exact ⟨p'', c'', σ'', k1, k2, k3⟩
end
end Go.Proofs.Ytmdopblmkkameaa
