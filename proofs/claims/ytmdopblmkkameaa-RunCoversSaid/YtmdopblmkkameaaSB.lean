
import Derived.Test.YtmdopblmkkameaaRP
namespace Go.Proofs.Ytmdopblmkkameaa
set_option linter.unusedVariables false
structure WQ (n : Nat) (E : Nat → Nat → Prop) (bf : Nat → Int) (D : Nat → Prop) (i : Nat) (se ta se' ta' : Nat → Bool) : Prop where
 s1 : ∀ j, se j = true → se' j = true
 si : se' i = true
 t1 : ∀ k, ta k = true → ta' k = true
 cl : ∀ j, j < n → se' j = true → se j = false → j ≠ i → ∀ k, k < n → E j k → ta' k = true
 ci : ∀ k, k < n → D k → E i k → ta' k = true
 bk : ∀ k, k < n → ta' k = true → ta k = false → ∀ j : Nat, bf k = j → se' j = true
 sub : ∀ L T, Dead n E bf L T → L i → (∀ j, j < n → se' j = true → se j = false → L j) ∧ ∀ k, k < n → ta' k = true → ta k = false → T k
section
variable {n : Nat} {E : Nat → Nat → Prop} {bf : Nat → Int} {D D' : Nat → Prop} {i : Nat} {se ta se' ta' se2 ta2 : Nat → Bool}
theorem WQ.start : WQ n E bf (fun _ => False) i se ta (vI se i) ta := by
 refine ⟨fun j h => uT h, zAJ, fun _ h => h, fun j hj h1 h2 hne => ?_, fun _ _ h => h.elim, fun k _ h1 h2 => ?_, fun L T _ hL => ⟨fun j hj h1 h2 => ?_, fun k _ h1 h2 => ?_⟩⟩
 ·rw [zCI hne, h2] at h1; cases h1
 ·rw [h1] at h2; cases h2
 ·by_cases e : j = i
  ·subst e; exact hL
  ·rw [zCI e, h2] at h1; cases h1
 ·rw [h1] at h2; cases h2
theorem WQ.skip (h : WQ n E bf D i se ta se' ta') (hD : ∀ k, D' k → D k ∨ ta' k = true) : WQ n E bf D' i se ta se' ta' :=
 ⟨h.s1, h.si, h.t1, h.cl, fun k hk hd he => (hD k hd).elim (fun h1 => h.ci k hk h1 he) id, h.bk, h.sub⟩
theorem WQ.take (h : WQ n E bf D i se ta se' ta') (hi : i < n) {k : Nat} (hk : k < n) (he : E i k) (hb : ∀ j : Nat, bf k = j → se' j = true) : WQ n E bf (fun x => D x ∨ x = k) i se ta se' (vI ta' k) := by
 refine ⟨h.s1, h.si, fun x hx => uT (h.t1 x hx), fun j hj h1 h2 hne x hx hE => uT (h.cl j hj h1 h2 hne x hx hE), fun x hx hd hE => ?_, fun x hx h1 h2 j hj => ?_, fun L T hd hL => ⟨(h.sub L T hd hL).1, fun x hx h1 h2 => ?_⟩⟩
 ·rcases hd with hd | rfl
  ·exact uT (h.ci x hx hd hE)
  ·exact zAJ
 ·by_cases e : x = k
  ·subst e; exact hb j hj
  ·rw [zCI e] at h1; exact h.bk x hx h1 h2 j hj
 ·by_cases e : x = k
  ·subst e; exact hd.out i x hi hx hL he
  ·rw [zCI e] at h1; exact (h.sub L T hd hL).2 x hx h1 h2
theorem WQ.go (h : WQ n E bf D i se ta se' ta') (hi : i < n) {k j : Nat} (hk : k < n) (hj : j < n) (he : E i k) (hb : bf k = j) (hs : se' j = false) (ht : ta' k = false) (q : WQ n E bf (fun _ => True) j se' (vI ta' k) se2 ta2) : WQ n E bf (fun x => D x ∨ x = k) i se ta se2 ta2 := by
 have m2 : ∀ x, ta' x = true → ta2 x = true := fun x hx => q.t1 x (uT hx)
 refine ⟨fun x hx => q.s1 x (h.s1 x hx), q.s1 i h.si, fun x hx => m2 x (h.t1 x hx), fun x hx h1 h2 hne y hy hE => ?_, fun x hx hd hE => ?_, fun x hx h1 h2 y hy => ?_, fun L T hd hL => ?_⟩
 ·cases hx' : se' x with
  | true => exact m2 y (h.cl x hx hx' h2 hne y hy hE)
  | false =>
   by_cases e : x = j
   ·subst e; exact q.ci y hy trivial hE
   ·exact q.cl x hx h1 hx' e y hy hE
 ·rcases hd with hd | rfl
  ·exact m2 x (h.ci x hx hd hE)
  ·exact q.t1 x zAJ
 ·by_cases e : x = k
  ·subst e
   have : y = j := by omega
   subst this; exact q.si
  ·cases hx' : ta' x with
   | true => exact q.s1 y (h.bk x hx hx' h2 y hy)
   | false => exact q.bk x hx h1 (by rw [zCI e]; exact hx') y hy
 ·have hT : T k := hd.out i k hi hk hL he
  have hLj : L j := by
   obtain ⟨j', g1, g2, g3⟩ := hd.back k hk hT
   have : j' = j := by omega
   subst this; exact g3
  obtain ⟨q1, q2⟩ := q.sub L T hd hLj
  obtain ⟨h1, h2⟩ := h.sub L T hd hL
  refine ⟨fun x hx g1 g2 => ?_, fun x hx g1 g2 => ?_⟩
  ·cases hx' : se' x with
   | true => exact h1 x hx hx' g2
   | false => exact q1 x hx g1 hx'
  ·by_cases e : x = k
   ·subst e; exact hT
   ·cases hx' : ta' x with
    | true => exact h2 x hx hx' g2
    | false => exact q2 x hx g1 (by rw [zCI e]; exact hx')
structure WAll (n : Nat) (E : Nat → Nat → Prop) (nx bf : Nat → Int) (m : Nat) (se ta : Nat → Bool) : Prop where
 st : ∀ i, i < m → i < n → nx i = -1 → se i = true
 cl : ∀ j, j < n → se j = true → ∀ k, k < n → E j k → ta k = true
 bk : ∀ k, k < n → ta k = true → ∀ j : Nat, bf k = j → se j = true
 sub : ∀ L T, Dead n E bf L T → (∀ j, j < n → nx j = -1 → L j) → (∀ j, j < n → se j = true → L j) ∧ ∀ k, k < n → ta k = true → T k
theorem WAll.start {nx : Nat → Int} : WAll n E nx bf 0 (fun _ => false) (fun _ => false) :=
 ⟨fun i h => absurd h (Nat.not_lt_zero _), fun j _ h => Bool.noConfusion h, fun k _ h => Bool.noConfusion h, fun L T _ _ => ⟨fun j _ h => Bool.noConfusion h, fun k _ h => Bool.noConfusion h⟩⟩
theorem WAll.skip {nx : Nat → Int} {m : Nat} (h : WAll n E nx bf m se ta) (hs : nx m ≠ -1 ∨ se m = true) : WAll n E nx bf (m + 1) se ta :=
 ⟨fun i hi hn hx => by
  by_cases e : i = m
  ·subst e; exact hs.elim (fun h => absurd hx h) id
  ·exact h.st i (by omega) hn hx, h.cl, h.bk, h.sub⟩
theorem WAll.step {nx : Nat → Int} {m : Nat} (h : WAll n E nx bf m se ta) (hm : m < n) (hx : nx m = -1) (hs : se m = false) (q : WQ n E bf (fun _ => True) m se ta se' ta') : WAll n E nx bf (m + 1) se' ta' := by
 refine ⟨fun i hi hn hx => ?_, fun j hj h1 k hk hE => ?_, fun k hk h1 j hj => ?_, fun L T hd hL => ?_⟩
 ·by_cases e : i = m
  ·subst e; exact q.si
  ·exact q.s1 i (h.st i (by omega) hn hx)
 ·cases hj' : se j with
  | true => exact q.t1 k (h.cl j hj hj' k hk hE)
  | false =>
   by_cases e : j = m
   ·subst e; exact q.ci k hk trivial hE
   ·exact q.cl j hj h1 hj' e k hk hE
 ·cases hk' : ta k with
  | true => exact q.s1 j (h.bk k hk hk' j hj)
  | false => exact q.bk k hk h1 hk' j hj
 ·obtain ⟨h1, h2⟩ := h.sub L T hd hL
  obtain ⟨q1, q2⟩ := q.sub L T hd (hL m hm hx)
  refine ⟨fun j hj g => ?_, fun k hk g => ?_⟩
  ·cases hj' : se j with
   | true => exact h1 j hj hj'
   | false => exact q1 j hj g hj'
  ·cases hk' : ta k with
   | true => exact h2 k hk hk'
   | false => exact q2 k hk g hk'
theorem WAll.count {nx : Nat → Int} (h : WAll n E nx bf n se ta) (hM : Mt n E nx bf) (hB : ∃ L T, Dead n E bf L T ∧ ∀ j, j < n → nx j = -1 → L j) : yZ n (fun i => !se i) + yZ n ta = yZ n (uM bf) := by
 obtain ⟨L, T, hd, hL⟩ := hB
 obtain ⟨s1, s2⟩ := h.sub L T hd hL
 have hta : ∀ k, k < n → ta k = true → uM bf k = true := fun k hk ht => by
  obtain ⟨j, g1, g2, g3⟩ := hd.back k hk (s2 k hk ht)
  exact xU.2 (by omega)
 have hsp := zFG (n := n) (P := uM bf) (Q := ta)
 have e1 : yZ n (fun k => uM bf k && ta k) = yZ n ta := zDL fun k hk => by
  cases ht : ta k with
  | true => rw [hta k hk ht]; rfl
  | false => simp
 have l1 : yZ n (fun i => !se i) ≤ yZ n (fun k => uM bf k && !ta k) := by
  refine zDW (f := fun i => (nx i).toNat) (fun i hi hs => ?_) (fun i i' hi hi' hs hs' e => ?_)
  ·have hs : se i = false := by simpa using hs
   have hx : nx i ≠ -1 := fun hx => by rw [h.st i hi hi hx] at hs; cases hs
   obtain ⟨k, g1, g2, g3⟩ := hM.n1 i hi hx
   have e : (nx i).toNat = k := by omega
   rw [e]
   refine ⟨g1, ?_⟩
   have ht : ta k = false := by
    cases ht : ta k with
    | false => rfl
    | true => rw [h.bk k g1 ht i g3] at hs; cases hs
   rw [ht, xU.2 (by omega)]; rfl
  ·have hs : se i = false := by simpa using hs
   have hs' : se i' = false := by simpa using hs'
   have hx : nx i ≠ -1 := fun hx => by rw [h.st i hi hi hx] at hs; cases hs
   have hx' : nx i' ≠ -1 := fun hx => by rw [h.st i' hi' hi' hx] at hs'; cases hs'
   obtain ⟨k, g1, g2, g3⟩ := hM.n1 i hi hx
   obtain ⟨k', g1', g2', g3'⟩ := hM.n1 i' hi' hx'
   have : (nx i).toNat = (nx i').toNat := e
   have : k = k' := by omega
   subst this
   omega
 have l2 : yZ n (fun k => uM bf k && !ta k) ≤ yZ n (fun i => !se i) := by
  refine zDW (f := fun k => (bf k).toNat) (fun k hk hs => ?_) (fun k k' hk hk' hs hs' e => ?_)
  ·simp only [Bool.and_eq_true, Bool.not_eq_true'] at hs
   obtain ⟨i, g1, g2, g3, g4⟩ := hM.b1 k hk (xU.1 hs.1)
   have e : (bf k).toNat = i := by omega
   rw [e]
   refine ⟨g1, ?_⟩
   cases hse : se i with
   | false => rfl
   | true => rw [h.cl i g1 hse k hk g3] at hs; cases hs.2
  ·simp only [Bool.and_eq_true, Bool.not_eq_true'] at hs hs'
   obtain ⟨i, g1, g2, g3, g4⟩ := hM.b1 k hk (xU.1 hs.1)
   obtain ⟨i', g1', g2', g3', g4'⟩ := hM.b1 k' hk' (xU.1 hs'.1)
   have : (bf k).toNat = (bf k').toNat := e
   have : i = i' := by omega
   subst this
   omega
 omega
end
end Go.Proofs.Ytmdopblmkkameaa
