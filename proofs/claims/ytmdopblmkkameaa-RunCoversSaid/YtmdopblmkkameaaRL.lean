
import Derived.Test.YtmdopblmkkameaaRK
import Derived.Test.YtmdopblmkkameaaRP
import Derived.Test.YtmdopblmkkameaaXH
namespace Go.Proofs.Ytmdopblmkkameaa
open Go Go.Lay
set_option linter.unusedVariables false
set_option linter.unusedSimpArgs false
set_option maxRecDepth 20000
section
variable {σ : St} {t : Tab} {pe pt : Option Addr} {le ce lt ct : Nat}
def kindB (t : Tab) (kind : Int) (i : Nat) : Bool := decide (kind < 0) || (match t.trips[i]? with | some x => decide (x.kind = kind) | none => false)
def aB (t : Tab) (kind : Int) (ws : List Int) (i : Nat) : Bool := kindB t kind i && ws.all fun w => decide (w ≠ (i : Int))
def zGD (t : Tab) (kind : Int) (ws : List Int) (n : Nat) : List Nat := (List.range n).filter (aB t kind ws)
theorem rAll_c {kind : Int} {pw : Option Addr} {lw cw : Nat} {ws : List Int} (h : RefP σ pe le pt lt t) (hw : yU σ pw lw ws) (hlt : lt ≤ 100000) (hlw : lw ≤ 100000) :
  ∃ p l c σ', zD Try.prog 25 [.agg ⟨yB t pe le ce pt lt ct⟩, iV kind, .slice pw lw cw] σ (.slice p l c) σ' ∧ New σ σ' ∧ yU σ' p l (vH (zGD t kind ws lt)) ∧ ∀ b, AtP p b → σ.next ≤ b := by
 have hnt : t.nt = lt := h.len
 suffices hmain : zN Try.prog 25 [.agg ⟨yB t pe le ce pt lt ct⟩, iV kind, .slice pw lw cw] σ.re fun v s => New σ.re s ∧ ∃ p c, v = .slice p (zGD t kind ws lt).length c ∧ yU s p (zGD t kind ws lt).length (vH (zGD t kind ws lt)) ∧ ∀ b, AtP p b → σ.next ≤ b by
  obtain ⟨p, c, σ', h1, h2, h3, h4⟩ := zN.newSl hmain
  exact ⟨p, _, c, σ', h1, h2, h3, h4⟩
 obtain ⟨σ1, hσ1⟩ : ∃ σ1, σ1 = σ.re.row (yB t pe le ce pt lt ct) 4 := ⟨_, rfl⟩
 have n1 : New σ.re σ1 := by rw [hσ1]; exact New.row _ _ _
 have ot : Own σ1 σ.next (yB t pe le ce pt lt ct) 4 := by rw [hσ1]; exact zC _ _ _
 have R1 : RefP σ1 pe le pt lt t := (h.le' (le0 σ)).le' n1.le
 have W1 : yU σ1 pw lw ws := SlV.le (SlV.le hw (le0 σ)) n1.le
 have hwl := hw.len
 refine rAll_ra (P0 := fun p l c τ => New σ1 τ ∧ l = (zGD t kind ws lt).length ∧ Gr Try.prog τ σ1.next 3 1 p l c ((vH (zGD t kind ws lt)).map wM)) (by
  rw [← hσ1]
  refine rAll_loop1 (Inv := fun k p l c i τ => ∃ s : Nat, i = s ∧ s + k = lt ∧ New σ1 τ ∧ Gr Try.prog τ σ1.next 3 1 p l c ((vH ((List.range s).filter (aB t kind ws))).map wM)) ?_ lt none 0 0 0 σ1 ⟨0, rfl, by omega, New.refl _, Gr.nil⟩
  rintro k p l c i τ ⟨s, rfl, hk, hN, hg⟩
  have hL : Le σ1 τ := hN.le
  have ld : zB Try.prog τ 23 ⟨σ.re.next, 3, none⟩ = some (.slice pt lt ct) := (ot.le hL).ldI (i := 3) wE rfl
  by_cases hs : s < lt
  rotate_left
  ·have : s = lt := by omega
   subst this
   refine rAll_s1d ld ⟨hN, ?_, hg⟩ (by omega)
   have := hg.len_eq
   rw [← this]; simp [vH, zGD]
  have hll : l ≤ s := by
   have h1 := hg.len_eq
   have h2 := List.length_filter_le (aB t kind ws) (List.range s)
   simp [vH] at h1 h2; omega
  obtain ⟨a, rfl, x, hx, ldx⟩ := vP (R1.le' hL).tr hs
  have hx' : (t.trips.map vB)[s]? = some (vB x) := by rw [List.getElem?_map, hx]; rfl
  have ldk : zB Try.prog τ 3 (zH a ((Int.toNat (s : Int) * 6) + 5)) = some (iV x.kind) := by
   have := slv_fld (t' := 3) (R1.le' hL).tr (vs := t.trips.map vB) (i := s) (k := 5) (cs := zA x.fr x.to x.st x.least x.most x.kind) hx' rfl yD
   simpa using this
  have inner : ∀ b0 : Bool, b0 = kindB t kind s → rAll_L2 kind pw lw cw σ.re.next p l c (s : Int) b0 0 τ (fun b τ' => τ' = τ ∧ b = aB t kind ws s) := by
   intro b0 hb0
   refine rAll_loop2 (Inv := fun m b j τ' => ∃ q : Nat, j = q ∧ q + m = lw ∧ τ' = τ ∧ b = (b0 && (ws.take q).all fun w => decide (w ≠ (s : Int)))) ?_ lw b0 0 τ ⟨0, rfl, by omega, rfl, by simp⟩
   rintro m b j τ' ⟨q, rfl, hm, rfl, rfl⟩
   by_cases hq : q < lw
   rotate_left
   ·have : q = lw := by omega
    subst this
    refine rAll_s2d ⟨rfl, ?_⟩ (by omega)
    rw [List.take_of_length_le (by omega), hb0]; rfl
   obtain ⟨wa, rfl, w, hwq, ldw⟩ := vP (SlV.le W1 hL) hq
   have e1 : (ws.take (q + 1)).all (fun w => decide (w ≠ (s : Int))) = ((ws.take q).all (fun w => decide (w ≠ (s : Int))) && decide (w ≠ (s : Int))) := by rw [uS hwq]; simp
   cases hb : (b0 && (ws.take q).all fun w => decide (w ≠ (s : Int))) with
   | false => exact rAll_s2c ⟨m - 1, by omega, q + 1, by omega, by omega, rfl, by rw [e1, ← Bool.and_assoc, hb]; rfl⟩ (by omega) (by omega)
   | true =>
    by_cases hw2 : w = (s : Int)
    ·exact rAll_s2b ldw ⟨m - 1, by omega, q + 1, by omega, by omega, rfl, by rw [e1, ← Bool.and_assoc, hb, hw2]; simp⟩ (by omega) (by omega) hw2 (by omega)
    ·exact rAll_s2a ldw ⟨m - 1, by omega, q + 1, by omega, by omega, rfl, by rw [e1, ← Bool.and_assoc, hb]; simp [hw2]⟩ (by omega) (by omega) hw2 (by omega)
  have tail : ∀ b τ', (τ' = τ ∧ b = aB t kind ws s) → zEK kind pw lw cw σ.re.next p l c (s : Int) b τ' (fun p' l' c' i' σ' => ∃ k', k' < k ∧ ∃ s : Nat, i' = s ∧ s + k' = lt ∧ New σ1 σ' ∧ Gr Try.prog σ' σ1.next 3 1 p' l' c' ((vH ((List.range s).filter (aB t kind ws))).map wM)) (fun p l c τ => New σ1 τ ∧ l = (zGD t kind ws lt).length ∧ Gr Try.prog τ σ1.next 3 1 p l c ((vH (zGD t kind ws lt)).map wM)) := by
   rintro b τ' ⟨rfl, rfl⟩
   cases hb : aB t kind ws s with
   | false => exact rAll_t2x2b ⟨k - 1, by omega, s + 1, by omega, by omega, hN, by rw [zDG, hb]; simpa using hg⟩ (by omega)
   | true =>
    obtain ⟨p4, c4, τ2, g1, g2, g3, g4, g5⟩ := grow (wM (s : Int)) appT_ints hg hN (New.refl τ') (zHA _) (by omega)
    refine rAll_t2x2a g1 ⟨k - 1, by omega, s + 1, by omega, by omega, g3, by rw [zDG, hb]; simpa [vH] using g2⟩ (by omega)
  have hkB : kindB t kind s = (decide (kind < 0) || decide (x.kind = kind)) := by unfold kindB; rw [hx]
  by_cases hk0 : kind < 0
  ·exact rAll_s1a ld (inner true (by rw [hkB, decide_eq_true hk0]; rfl)) tail (by omega) hk0
  ·by_cases hk1 : x.kind = kind
   ·exact rAll_s1b ld ldk (inner true (by rw [hkB, decide_eq_true hk1]; simp)) tail (by omega) hk0 (by omega) hk1
   ·exact rAll_s1c ld ldk (inner false (by rw [hkB, decide_eq_false hk1, decide_eq_false hk0]; rfl)) tail (by omega) hk0 (by omega) hk1) ?_
 rintro p l c τ ⟨hN, hl, hg⟩
 subst hl
 refine rAll_t1x0a ⟨n1.trans hN, p, c, rfl, hg.slv, fun b hb => Nat.le_trans n1.nx (hg.bd hb).1⟩
end
end Go.Proofs.Ytmdopblmkkameaa
