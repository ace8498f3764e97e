import Derived.Test.YtmdopblmkkameaaPM
import Derived.Test.YtmdopblmkkameaaRJ
import Derived.Test.YtmdopblmkkameaaTy

namespace Go.Proofs.Ytmdopblmkkameaa
set_option linter.unusedVariables false
def ch (nx : Nat → Int) : Nat → Nat → List Nat
 | 0, _ => []
 | f + 1, k => k :: if nx k = -1 then [] else ch nx f (nx k).toNat
section
variable {n : Nat} {nx bf : Nat → Int} {rk : Nat → Nat} {E : Nat → Nat → Prop}
def cq (nx : Nat → Int) (rk : Nat → Nat) (k : Nat) : List Nat := ch nx (rk k + 1) k
def blk (n : Nat) (nx bf : Nat → Int) (rk : Nat → Nat) : List (List Nat) := ((List.range n).filter fun i => decide (bf i = -1)).map (cq nx rk)
theorem zJO {P : Nat → Bool} : ∀ {n : Nat}, ((List.range n).filter P).length = yZ n P
 | 0 => rfl
 | n + 1 => by
  rw [List.range_succ, List.filter_append, List.length_append, zJO]
  show _ = yZ n P + (P n).toNat
  cases h : P n <;> simp [h, List.filter]
end
end Go.Proofs.Ytmdopblmkkameaa

namespace Go.Proofs.Ytmdopblmkkameaa
open Go Go.Lay
set_option linter.unusedVariables false
set_option linter.unusedSimpArgs false
set_option maxRecDepth 20000
def RowG (τ : St) (n0 : Nat) (p : Option Addr) (l c : Nat) (rs : List (List Int)) : Prop := rs.length = l ∧ ∃ vs, Gr Try.prog τ n0 41 1 p l c vs ∧ ∀ (j : Nat) (r : List Int), rs[j]? = some r → ∃ q d, vs[j]? = some (Value.slice q r.length d) ∧ yU τ q r.length r ∧ ∀ b, AtP q b → ¬ AtP p b ∧ n0 ≤ b
theorem RowG.push {σ τ τ1 : St} {l c d : Nat} {p q : Option Addr} {rs : List (List Int)} {r : List Int} (h : RowG τ σ.next p l c rs) (hN : New σ τ) (n1 : New τ τ1) (s1 : yU τ1 q r.length r) (f1 : ∀ b, AtP q b → τ.next ≤ b) (hl : l ≤ 100000) :
  ∃ p4 c4 τ2, xD Try.prog 22 22 (.slice p l c) (.slice (some ⟨τ1.next, 0, none⟩) 1 1) (τ1.row [.slice q r.length d] 1) = some (.slice p4 (l + 1) c4, τ2) ∧ RowG τ2 σ.next p4 (l + 1) c4 (rs ++ [r]) ∧ New σ τ2 ∧ Only (AtP p) (τ1.row [.slice q r.length d] 1) τ2 := by
 obtain ⟨h0, vs, hg, hrow⟩ := h
 obtain ⟨p4, c4, τ2, g1, g2, g3, g4, g5⟩ := grow (.slice q r.length d) appT_rows hg hN n1 (elOk_row _ _ _) (by omega)
 have s2 : yU τ2 q r.length r := g4.slv' s1.row (fun a e hb => by
  have := f1 a.block ⟨a, e, rfl⟩; have := (hg.bd hb).2; omega)
 refine ⟨p4, c4, τ2, g1, ⟨by simp [h0], _, g2, fun j x hx => ?_⟩, g3, g4⟩
 have hvl := hg.len_eq
 by_cases hjl : j = l
 ·subst hjl
  rw [List.getElem?_append_right (by omega), h0] at hx
  simp at hx; subst hx
  refine ⟨q, d, by rw [List.getElem?_append_right (by omega)]; simp [hvl], s2, fun b hb => ⟨fun h4 => ?_, by have := f1 b hb; have := hN.nx; omega⟩⟩
  have hb1 := f1 b hb
  have hb2 : b < τ1.next := by obtain ⟨a, e, rfl⟩ := hb; exact uI s1 a e
  rcases g5 b h4 with h5 | h5
  ·have := (hg.bd h5).2; omega
  ·omega
 ·have hj : j < l := by
   have := (List.getElem?_eq_some_iff.1 hx).1
   simp [h0] at this; omega
  rw [List.getElem?_append_left (by omega)] at hx
  obtain ⟨q2, d2, e1, e2, e3⟩ := hrow j x hx
  have e4 : ∀ b, AtP q2 b → b < τ.next := fun b hb => by obtain ⟨a, e, rfl⟩ := hb; exact uI e2 a e
  refine ⟨q2, d2, by rw [List.getElem?_append_left (by omega)]; exact e1, g4.slv' ((e2.le n1.le).row) (fun a e hb => (e3 a.block ⟨a, e, rfl⟩).1 hb), fun b hb => ⟨fun h4 => ?_, (e3 b hb).2⟩⟩
  rcases g5 b h4 with h5 | h5
  ·exact (e3 b hb).1 h5
  ·have := e4 b hb; have := n1.nx; omega
theorem RowG.rowsF {τ : St} {n0 l c : Nat} {p : Option Addr} {rs : List (List Int)} (h : RowG τ n0 p l c rs) : zCM τ n0 p l rs := by
 obtain ⟨h0, vs, hg, hrow⟩ := h
 exact ⟨vs, hg.slv, h0, fun b hb => (hg.bd hb).1, fun j r hj => by obtain ⟨q, d, e1, e2, e3⟩ := hrow j r hj; exact ⟨q, d, e1, e2, fun b hb => (e3 b hb).2⟩⟩
theorem zCM.mono {σ : St} {n0 n1 l : Nat} {p : Option Addr} {rs : List (List Int)} (h : zCM σ n1 p l rs) (k : n0 ≤ n1) : zCM σ n0 p l rs := by
 obtain ⟨vs, g1, g2, g3, g4⟩ := h
 exact ⟨vs, g1, g2, fun b hb => Nat.le_trans k (g3 b hb), fun i r hi => by obtain ⟨q, c, e1, e2, e3⟩ := g4 i r hi; exact ⟨q, c, e1, e2, fun b hb => Nat.le_trans k (e3 b hb)⟩⟩
section
variable {σ : St} {t : Tab} {pe pt : Option Addr} {le ce lt ct : Nat}
end
end Go.Proofs.Ytmdopblmkkameaa
