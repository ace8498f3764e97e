
import Derived.Test.YtmdopblmkkameaaRK
import Derived.Test.YtmdopblmkkameaaRD
namespace Go.Proofs.Ytmdopblmkkameaa
open Go Go.Lay
set_option linter.unusedVariables false
set_option linter.unusedSimpArgs false
set_option maxRecDepth 20000
theorem app_mono {σ : St} {n0 n1 n len : Nat} {v : Value} {cs : List Value} (h : App σ n1 n v len cs) (k : n0 ≤ n1) : App σ n0 n v len cs := by
 cases h with
 | nil => exact .nil
 | more h hs hb hlt hl hp hsn => exact .more h hs (Nat.le_trans k hb) hlt hl hp hsn
def RowA (τ : St) (n0 : Nat) (p : Option Addr) (l c : Nat) (rs : List (List Int)) : Prop := rs.length = l ∧ ∃ vs, Gr Try.prog τ n0 41 1 p l c vs ∧ (∀ (j : Nat) (r : List Int), rs[j]? = some r → ∃ q d, vs[j]? = some (Value.slice q r.length d) ∧ App τ n0 1 (.slice q r.length d) r.length (r.map intV) ∧ ∀ b, AtP q b → ¬ AtP p b) ∧
 ∀ (i j : Nat) q l1 d q' l2 d', i ≠ j → vs[i]? = some (Value.slice q l1 d) → vs[j]? = some (Value.slice q' l2 d') → ∀ b, AtP q b → ¬ AtP q' b
theorem RowA.nil {τ : St} {n0 : Nat} : RowA τ n0 none 0 0 [] := ⟨rfl, [], Gr.nil, fun j r h => by simp at h, fun i j q l1 d q' l2 d' _ h => by simp at h⟩
theorem RowA.leT {τ τ' : St} {n0 l c : Nat} {p : Option Addr} {rs : List (List Int)} (h : RowA τ n0 p l c rs) (k : Le τ τ') : RowA τ' n0 p l c rs := by
 obtain ⟨h1, vs, h2, h3, h4⟩ := h
 exact ⟨h1, vs, h2.le k, fun j r hr => by obtain ⟨q, d, g1, g2, g3⟩ := h3 j r hr; exact ⟨q, d, g1, g2.keep k, g3⟩, h4⟩
theorem app_i {z : St} {n1 c : Nat} {p : Option Addr} {r : List Int} (h : App z n1 1 (.slice p r.length c) r.length (r.map intV)) : IntsP z p r.length r := by
 refine App.slv (vs := r.map intV) (by rw [flat_intV]; exact h) (by simp) ?_
 rintro v hv
 obtain ⟨x, _, rfl⟩ := List.mem_map.1 hv
 exact elOk_int x
theorem RowA.p {τ : St} {n0 l c : Nat} {p : Option Addr} {rs : List (List Int)} (h : RowA τ n0 p l c rs) : RowsP τ p l rs := by
 obtain ⟨h1, vs, h2, h3, h4⟩ := h
 exact ⟨vs, h2.slv, h1, fun j r hr => by obtain ⟨q, d, g1, g2, g3⟩ := h3 j r hr; exact ⟨q, d, g1, app_i g2⟩⟩
theorem RowA.push {σ τ τ1 : St} {l c d : Nat} {p q : Option Addr} {rs : List (List Int)} {r : List Int} (h : RowA τ σ.next p l c rs) (hN : New σ τ) (n1 : New τ τ1) (s1 : App τ1 τ.next 1 (.slice q r.length d) r.length (r.map intV)) (hl : l ≤ 100000) :
  ∃ p4 c4 τ2, appendA Try.prog 22 22 (.slice p l c) (.slice (some ⟨τ1.next, 0, none⟩) 1 1) (τ1.row [.slice q r.length d] 1) = some (.slice p4 (l + 1) c4, τ2) ∧ RowA τ2 σ.next p4 (l + 1) c4 (rs ++ [r]) ∧ New σ τ2 := by
 obtain ⟨h0, vs, hg, hrow, hdis⟩ := h
 obtain ⟨p4, c4, τ2, g1, g2, g3, g4, g5⟩ := grow (.slice q r.length d) appT_rows hg hN n1 (elOk_row _ _ _) (by omega)
 have hvl := hg.len_eq
 have lr := Le.row τ1 [Value.slice q r.length d] 1
 have hqb : ∀ b, AtP q b → τ.next ≤ b ∧ b < τ1.next := by
  rintro b ⟨a, rfl, rfl⟩; exact ⟨s1.ge a rfl, s1.lt a rfl⟩
 have hq4 : ∀ b, AtP q b → ¬ AtP p4 b := fun b hb h4 => by
  have := hqb b hb
  rcases g5 b h4 with h5 | h5
  ·have := (hg.bd h5).2; omega
  ·omega
 have hnp : ∀ b, AtP q b → ¬ AtP p b := fun b hb h5 => by have := hqb b hb; have := (hg.bd h5).2; omega
 have hold : ∀ (j : Nat) q2 l2 d2, vs[j]? = some (Value.slice q2 l2 d2) → ∀ b, AtP q2 b → b < τ.next := by
  intro j q2 l2 d2 hv b hb
  have hj : j < rs.length := by have := (List.getElem?_eq_some_iff.1 hv).1; omega
  obtain ⟨q3, d3, e1, e2, e3⟩ := hrow j rs[j] (List.getElem?_eq_getElem hj)
  rw [hv] at e1
  cases e1
  obtain ⟨a, rfl, rfl⟩ := hb
  exact e2.lt a rfl
 refine ⟨p4, c4, τ2, g1, ⟨by simp [h0], _, g2, fun j x hx => ?_, ?_⟩, g3⟩
 ·by_cases hjl : j = l
  ·subst hjl
   rw [List.getElem?_append_right (by omega), h0] at hx
   simp at hx; subst hx
   refine ⟨q, d, by rw [List.getElem?_append_right (by omega)]; simp [hvl], app_mono (g4.app' (s1.keep lr) (by rintro a l' c' e hs; cases e; exact hnp _ ⟨a, rfl, rfl⟩ hs)) hN.nx, hq4⟩
  ·have hj : j < l := by
    have := (List.getElem?_eq_some_iff.1 hx).1
    simp [h0] at this; omega
   rw [List.getElem?_append_left (by omega)] at hx
   obtain ⟨q2, d2, e1, e2, e3⟩ := hrow j x hx
   refine ⟨q2, d2, by rw [List.getElem?_append_left (by omega)]; exact e1, g4.app' ((e2.keep n1.le).keep lr) (by rintro a l' c' e hs; cases e; exact e3 _ ⟨a, rfl, rfl⟩ hs), fun b hb h4 => ?_⟩
   rcases g5 b h4 with h5 | h5
   ·exact e3 b hb h5
   ·have := hold j _ _ _ e1 b hb; have := n1.nx; omega
 ·intro i j qi li di qj lj dj hij hi hj b hbi hbj
  have key : ∀ (j : Nat) q2 l2 d2, (vs ++ [Value.slice q r.length d])[j]? = some (Value.slice q2 l2 d2) → (j < l ∧ vs[j]? = some (Value.slice q2 l2 d2)) ∨ (j = l ∧ q2 = q) := by
   intro j q2 l2 d2 hv
   by_cases hj : j < l
   ·rw [List.getElem?_append_left (by omega)] at hv; exact .inl ⟨hj, hv⟩
   ·have hj2 := (List.getElem?_eq_some_iff.1 hv).1
    simp at hj2
    have : j = l := by omega
    subst this
    rw [List.getElem?_append_right (by omega)] at hv
    simp [hvl] at hv
    exact .inr ⟨rfl, hv.1.symm⟩
  rcases key i _ _ _ hi with ⟨a1, a2⟩ | ⟨a1, rfl⟩
  ·rcases key j _ _ _ hj with ⟨b1, b2⟩ | ⟨b1, rfl⟩
   ·exact hdis i j _ _ _ _ _ _ hij a2 b2 b hbi hbj
   ·have := hold i _ _ _ a2 b hbi; have := hqb b hbj; omega
  ·rcases key j _ _ _ hj with ⟨b1, b2⟩ | ⟨b1, rfl⟩
   ·have := hold j _ _ _ b2 b hbj; have := hqb b hbi; omega
   ·omega
section
variable {σ : St}
theorem list_a {p : Option Addr} {l c : Nat} {xs : List Int} (h : IntsP σ p l xs) (hl : l ≤ 1073741824) :
  ∃ p' c' σ', CallsA Try.prog 27 [.slice p l c] σ (.slice p' l c') σ' ∧ New σ σ' ∧ App σ' σ.next 1 (.slice p' l c') l (xs.map intV) := by
 have hc : (flat (xs.map intV)).all cellB = true := by rw [flat_ints xs .i64]; simp [List.all_eq_true]; intro a _; rfl
 obtain ⟨p', c', σ', h1, h2, h3⟩ := append_copy (k := c) appT_ints h.re.1 hl hc
 have hmain : RunsQ Try.prog 27 [.slice p l c] σ.re fun v s => New σ.re s ∧ ∃ p' c', v = .slice p' l c' ∧ App s σ.next 1 (.slice p' l c') l (xs.map intV) :=
  list_ra h1 ⟨New.of_keep h3, p', c', rfl, by rw [flat_intV] at h2; exact h2⟩
 obtain ⟨v, σ'', k1, k2, p'', c'', rfl, k3⟩ := RunsQ.new hmain (by rintro v s s' ⟨p', c', rfl, q⟩ hle; exact ⟨p', c', rfl, q.keep hle⟩) (by
  rintro v s hr ⟨p', c', rfl, q⟩
  refine ⟨p', c', rfl, ?_⟩
  generalize hv : Value.slice p' l c' = w at q hr
  generalize xs.map intV = ys at q ⊢
  cases q with
  | nil => exact .nil
  | more _ _ _ _ _ _ _ => exact Bool.noConfusion (show false = true from hr))
 exact ⟨p'', c'', σ'', k1, k2, k3⟩
theorem rowsA_c {p : Option Addr} {l c : Nat} {rs : List (List Int)} (h : RowsP σ p l rs) (hl : l ≤ 100000) (hr : ∀ r ∈ rs, r.length ≤ 1073741824) :
  ∃ p' c' σ', CallsA Try.prog 21 [.slice p l c] σ (.slice p' l c') σ' ∧ New σ σ' ∧ RowA σ' σ.next p' l c' rs := by
 have hlen := h.len
 have hr0 : RowsP σ.re p l rs := h.le (le0 σ)
 have key : RunsQ Try.prog 21 [.slice p l c] σ.re fun v s => New σ.re s ∧ ∃ p' c', v = .slice p' l c' ∧ RowA s σ.next p' l c' rs := by
  refine rows_ra (rows_loop1 (Inv := fun k p3 l3 c3 i4 τ => New σ.re τ ∧ ∃ i : Nat, i4 = i ∧ i + k = l ∧ l3 = i ∧ RowA τ σ.next p3 i c3 (rs.take i))
   (Q0 := fun p3 l3 c3 τ => New σ.re τ ∧ l3 = l ∧ RowA τ σ.next p3 l c3 rs) ?_ l none 0 0 0 σ.re ⟨New.refl _, 0, rfl, by omega, rfl, RowA.nil⟩) ?_
  ·rintro k p3 l3 c3 i4 τ ⟨hN, i, rfl, hk, rfl, hg⟩
   by_cases hi : l3 < l
   ·obtain ⟨a, rfl, r, q, d, hri, hld', hq⟩ := (hr0.le hN.le).row hi; have hld := hld' _ (Le.refl _)
    obtain ⟨q', d', τ1, c1, n1, s1⟩ := list_a (c := d) hq (hr r (List.mem_of_getElem? hri))
    obtain ⟨p4, c4, τ2, g1, g2, g3⟩ := RowA.push (σ := σ.re) hg hN n1 s1 (by omega)
    exact rows_s1a hld c1 g1 ⟨k - 1, by omega, g3, l3 + 1, by omega, by omega, rfl, by rw [take_snoc hri]; exact g2⟩
   ·have : l3 = l := by omega
    subst this
    rw [List.take_of_length_le (by omega)] at hg
    exact rows_s1b ⟨hN, rfl, hg⟩
  ·rintro p3 l3 c3 τ ⟨hN, rfl, hR⟩
   exact rows_t1x0a ⟨hN, p3, c3, rfl, hR⟩
 obtain ⟨v, σ', h1, h2, p', c', rfl, h3⟩ := RunsQ.new key (by rintro v s s' ⟨p', c', rfl, g⟩ hle; exact ⟨p', c', rfl, g.leT hle⟩) (by
  rintro v s hv ⟨p', c', rfl, g⟩
  cases p' with
  | none =>
   obtain ⟨g0, vs, g1, g2, g3⟩ := g
   have hl0 : l = 0 := by have := g1.nil_len; have := g1.len_eq; simp_all
   subst hl0
   have : rs = [] := by simpa using g0
   subst this
   have hc0 : c' = 0 := by
    have := g1.app
    generalize hw : Value.slice none 0 c' = w at this
    generalize flat vs = fv at this
    cases this with
    | nil => cases hw; rfl
    | more _ _ _ _ _ _ _ => cases hw
   subst hc0
   exact ⟨none, 0, rfl, RowA.nil⟩
  | some a => exact Bool.noConfusion (show false = true from hv))
 exact ⟨p', c', σ', h1, h2, h3⟩
end
end Go.Proofs.Ytmdopblmkkameaa
