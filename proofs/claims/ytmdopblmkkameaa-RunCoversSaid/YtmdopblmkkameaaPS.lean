
import Derived.Test.YtmdopblmkkameaaRP
namespace Go.Proofs.Ytmdopblmkkameaa
set_option linter.unusedVariables false
def zED (c : Nat → Bool) (f : Nat → Nat) : List Nat → Nat → Nat
 | [], a => a
 | k :: ks, a => zED c f ks (if c k = true then min a (f k) else a)
theorem minF_le {c : Nat → Bool} {f : Nat → Nat} : ∀ (l : List Nat) (a : Nat), zED c f l a ≤ a ∧ ∀ k ∈ l, c k = true → zED c f l a ≤ f k
 | [], a => ⟨Nat.le_refl _, fun k hk => by simp at hk⟩
 | k :: ks, a => by
  obtain ⟨h1, h2⟩ := minF_le ks (if c k = true then min a (f k) else a)
  have e : zED c f (k :: ks) a = zED c f ks (if c k = true then min a (f k) else a) := rfl
  rw [e]
  refine ⟨Nat.le_trans h1 (by split <;> omega), fun k' hk' hc => ?_⟩
  rcases List.mem_cons.1 hk' with rfl | hk'
  ·rw [if_pos hc] at h1 ⊢; omega
  ·exact h2 k' hk' hc
theorem minF_at {c : Nat → Bool} {f : Nat → Nat} : ∀ (l : List Nat) (a : Nat), zED c f l a = a ∨ ∃ k ∈ l, c k = true ∧ zED c f l a = f k
 | [], a => .inl rfl
 | k :: ks, a => by
  have e : zED c f (k :: ks) a = zED c f ks (if c k = true then min a (f k) else a) := rfl
  rw [e]
  rcases minF_at ks (if c k = true then min a (f k) else a) with h | ⟨k', h1, h2, h3⟩
  ·rw [h]
   by_cases hc : c k = true
   ·rw [if_pos hc]
    by_cases hl : a ≤ f k
    ·left; omega
    ·exact .inr ⟨k, List.mem_cons_self, hc, by omega⟩
   ·rw [if_neg hc]; exact .inl rfl
  ·exact .inr ⟨k', List.mem_cons_of_mem _ h1, h2, h3⟩
theorem minF_append {c : Nat → Bool} {f : Nat → Nat} : ∀ (l l' : List Nat) (a : Nat), zED c f (l ++ l') a = zED c f l' (zED c f l a)
 | [], l', a => rfl
 | k :: ks, l', a => minF_append ks l' _
def vR (E : Nat → Nat → Bool) (ls : List Nat) : List Nat → (Nat → Bool) → Nat
 | [], _ => 0
 | i :: rest, tk => zED (fun k => !tk k && E i k) (fun k => vR E ls rest (vI tk k)) ls (1 + vR E ls rest tk)
theorem fewN_le {E : Nat → Nat → Bool} {ls : List Nat} : ∀ (rest : List Nat) (tk : Nat → Bool), vR E ls rest tk ≤ rest.length
 | [], _ => Nat.le_refl _
 | i :: rest, tk => by
  have h := (minF_le (c := fun k => !tk k && E i k) (f := fun k => vR E ls rest (vI tk k)) ls (1 + vR E ls rest tk)).1
  have := fewN_le (E := E) (ls := ls) rest tk
  show zED _ _ _ _ ≤ _
  simp; omega
def FwE (E : Nat → Nat → Bool) (ls rest : List Nat) (tk : Nat → Bool) (x y : Nat) : Prop := E x y = true ∧ x ∈ rest ∧ y ∈ ls ∧ tk y = false
section
variable {n : Nat} {E : Nat → Nat → Bool} {ls : List Nat}
theorem fewN_all : ∀ (rest : List Nat) (tk : Nat → Bool) (nx bf : Nat → Int), rest.Nodup → (∀ x ∈ rest, x < n) → Mt n (FwE E ls rest tk) nx bf → vR E ls rest tk + yZ n (uM bf) ≤ rest.length
 | [], tk, nx, bf, _, _, h => by
  have : yZ n (uM bf) = 0 := cntN_zero fun k hk => by
   cases hb : uM bf k with
   | false => rfl
   | true =>
    obtain ⟨i, _, _, g, _⟩ := h.b1 k hk (xU.1 hb)
    have := g.2.1; simp at this
  rw [this]; show 0 + 0 ≤ 0; omega
 | i :: rest, tk, nx, bf, hnd, hlt, h => by
  obtain ⟨hni, hnd'⟩ := List.nodup_cons.1 hnd
  have hin := hlt i List.mem_cons_self
  have hlt' : ∀ x ∈ rest, x < n := fun x hx => hlt x (List.mem_cons_of_mem _ hx)
  obtain ⟨m1, m2⟩ := minF_le (c := fun k => !tk k && E i k) (f := fun k => vR E ls rest (vI tk k)) ls (1 + vR E ls rest tk)
  have e : vR E ls (i :: rest) tk = zED (fun k => !tk k && E i k) (fun k => vR E ls rest (vI tk k)) ls (1 + vR E ls rest tk) := rfl
  rw [← e] at m1 m2
  by_cases hi : nx i = -1
  ·have h' : Mt n (FwE E ls rest tk) nx bf := ⟨fun k hk hb => by
    obtain ⟨j, g1, g2, g3, g4⟩ := h.b1 k hk hb
    refine ⟨j, g1, g2, ⟨g3.1, ?_, g3.2.2⟩, g4⟩
    rcases List.mem_cons.1 g3.2.1 with rfl | hj
    ·omega
    ·exact hj, h.n1⟩
   have := fewN_all rest tk nx bf hnd' hlt' h'
   simp; omega
  ·obtain ⟨k, g1, g2, g3⟩ := h.n1 i hin hi
   obtain ⟨i', x1, x2, x3, x4⟩ := h.b1 k g1 (by omega)
   have : i' = i := by omega
   subst this
   have h' : Mt n (FwE E ls rest (vI tk k)) (zIW nx i' (-1)) (zIW bf k (-1)) := by
    refine ⟨fun k' hk' hb => ?_, fun j hj hb => ?_⟩
    ·by_cases ek : k' = k
     ·subst ek; rw [xH] at hb; exact absurd rfl hb
     ·rw [yV ek] at hb ⊢
      obtain ⟨j, y1, y2, y3, y4⟩ := h.b1 k' hk' hb
      have hji : j ≠ i' := by rintro rfl; omega
      refine ⟨j, y1, y2, ⟨y3.1, ?_, y3.2.2.1, by rw [zCI ek]; exact y3.2.2.2⟩, by rw [yV hji]; exact y4⟩
      rcases List.mem_cons.1 y3.2.1 with rfl | hj
      ·exact absurd rfl hji
      ·exact hj
    ·by_cases ej : j = i'
     ·subst ej; rw [xH] at hb; exact absurd rfl hb
     ·rw [yV ej] at hb ⊢
      obtain ⟨k', y1, y2, y3⟩ := h.n1 j hj hb
      have hkk : k' ≠ k := by rintro rfl; omega
      exact ⟨k', y1, y2, by rw [yV hkk]; exact y3⟩
   have ih := fewN_all rest (vI tk k) _ _ hnd' hlt' h'
   have h2 := m2 k x3.2.2.1 (by rw [x3.2.2.2, x3.1]; rfl)
   have hc := zDK (m := n) (Q := uM bf) g1 (xU.2 (by omega))
   have hc2 : yZ n (fun j => uM bf j && !Nat.beq j k) = yZ n (uM (zIW bf k (-1))) := zDL fun j _ => by
    by_cases ej : j = k
    ·subst ej; simp [uM]
    ·have hb : Nat.beq j k = false := by rw [Bool.eq_false_iff]; intro h'; exact ej (Nat.eq_of_beq_eq_true h')
     unfold uM
     rw [yV ej, hb]; simp
   simp; omega
theorem fewN_some : ∀ (rest : List Nat) (tk : Nat → Bool), rest.Nodup → (∀ x ∈ rest, x < n) → (∀ x ∈ ls, x < n) → ∃ nx bf, Mt n (FwE E ls rest tk) nx bf ∧ vR E ls rest tk + yZ n (uM bf) = rest.length
 | [], tk, _, _, _ => ⟨fun _ => -1, fun _ => -1, ⟨fun k _ h => absurd rfl h, fun i _ h => absurd rfl h⟩, by
  rw [cntN_zero (fun k _ => by simp [uM])]; rfl⟩
 | i :: rest, tk, hnd, hlt, hls => by
  obtain ⟨hni, hnd'⟩ := List.nodup_cons.1 hnd
  have hin := hlt i List.mem_cons_self
  have hlt' : ∀ x ∈ rest, x < n := fun x hx => hlt x (List.mem_cons_of_mem _ hx)
  have e : vR E ls (i :: rest) tk = zED (fun k => !tk k && E i k) (fun k => vR E ls rest (vI tk k)) ls (1 + vR E ls rest tk) := rfl
  rcases minF_at (c := fun k => !tk k && E i k) (f := fun k => vR E ls rest (vI tk k)) ls (1 + vR E ls rest tk) with h | ⟨k, hk, hc, h⟩
  ·obtain ⟨nx, bf, g1, g2⟩ := fewN_some rest tk hnd' hlt' hls
   refine ⟨nx, bf, ⟨fun k hk hb => ?_, g1.n1⟩, by rw [e, h]; simp; omega⟩
   obtain ⟨j, y1, y2, y3, y4⟩ := g1.b1 k hk hb
   exact ⟨j, y1, y2, ⟨y3.1, List.mem_cons_of_mem _ y3.2.1, y3.2.2⟩, y4⟩
  ·obtain ⟨nx, bf, g1, g2⟩ := fewN_some rest (vI tk k) hnd' hlt' hls
   simp only [Bool.and_eq_true, Bool.not_eq_true'] at hc
   have hkn := hls k hk
   have hbk : bf k = -1 := by
    by_cases hb : bf k = -1
    ·exact hb
    ·obtain ⟨j, y1, y2, y3, y4⟩ := g1.b1 k hkn hb
     have := y3.2.2.2; rw [zAJ] at this; cases this
   have hni' : nx i = -1 := by
    by_cases hb : nx i = -1
    ·exact hb
    ·obtain ⟨k', y1, y2, y3⟩ := g1.n1 i hin hb
     obtain ⟨j, z1, z2, z3, z4⟩ := g1.b1 k' y1 (by omega)
     have : j = i := by omega
     subst this
     exact absurd z3.2.1 hni
   refine ⟨zIW nx i k, zIW bf k i, ⟨fun k' hk' hb => ?_, fun j hj hb => ?_⟩, ?_⟩
   ·by_cases ek : k' = k
    ·subst ek
     exact ⟨i, hin, xH, ⟨hc.2, List.mem_cons_self, hk, hc.1⟩, xH⟩
    ·rw [yV ek] at hb ⊢
     obtain ⟨j, y1, y2, y3, y4⟩ := g1.b1 k' hk' hb
     have hji : j ≠ i := by rintro rfl; exact hni y3.2.1
     have ht := y3.2.2.2
     rw [zCI ek] at ht
     exact ⟨j, y1, y2, ⟨y3.1, List.mem_cons_of_mem _ y3.2.1, y3.2.2.1, ht⟩, by rw [yV hji]; exact y4⟩
   ·by_cases ej : j = i
    ·subst ej
     exact ⟨k, hkn, xH, xH⟩
    ·rw [yV ej] at hb ⊢
     obtain ⟨k', y1, y2, y3⟩ := g1.n1 j hj hb
     have hkk : k' ≠ k := by rintro rfl; omega
     exact ⟨k', y1, y2, by rw [yV hkk]; exact y3⟩
   ·have hc' := zDK (m := n) (Q := uM (zIW bf k i)) hkn (xU.2 (by rw [xH]; omega))
    have hc2 : yZ n (fun j => uM (zIW bf k i) j && !Nat.beq j k) = yZ n (uM bf) := zDL fun j _ => by
     by_cases ej : j = k
     ·subst ej; simp [uM, hbk]
     ·have hb : Nat.beq j k = false := by rw [Bool.eq_false_iff]; intro h'; exact ej (Nat.eq_of_beq_eq_true h')
      unfold uM
      rw [yV ej, hb]; simp
    rw [e, h]
    simp; omega
theorem fewN_eq {m : Nat} {F : Nat → Nat → Prop} (hnd : ls.Nodup) (hlt : ∀ x ∈ ls, x < n) (h : IsMax n F m) (hF : ∀ x y, F x y ↔ E x y = true ∧ x ∈ ls ∧ y ∈ ls) : vR E ls ls (fun _ => false) = ls.length - m := by
 have eF : F = FwE E ls ls fun _ => false := by
  funext x y; exact propext ((hF x y).trans ⟨fun ⟨a, b, c⟩ => ⟨a, b, c, rfl⟩, fun ⟨a, b, c, _⟩ => ⟨a, b, c⟩⟩)
 rw [eF] at h
 obtain ⟨nx, bf, g1, g2⟩ := h.at_
 have h1 := fewN_all ls (fun _ => false) nx bf hnd hlt g1
 obtain ⟨nx', bf', g3, g4⟩ := fewN_some (n := n) (E := E) ls (fun _ => false) hnd hlt hlt
 have h2 := h.le nx' bf' g3
 omega
end
end Go.Proofs.Ytmdopblmkkameaa
