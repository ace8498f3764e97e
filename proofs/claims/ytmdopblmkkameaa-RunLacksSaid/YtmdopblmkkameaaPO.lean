
import Derived.Test.YtmdopblmkkameaaPM
namespace Go.Proofs.Ytmdopblmkkameaa
set_option linter.unusedVariables false
theorem IsMax.mono {n a b : Nat} {E F : Nat → Nat → Prop} (h : IsMax n E a) (k : IsMax n F b) (hE : ∀ i k, i < n → k < n → E i k → F i k) : a ≤ b := by
 obtain ⟨nx, bf, h1, rfl⟩ := h.at_
 exact k.le nx bf ⟨fun k' hk hb => by obtain ⟨i, g1, g2, g3, g4⟩ := h1.b1 k' hk hb; exact ⟨i, g1, g2, hE i k' g1 hk g3, g4⟩, h1.n1⟩
theorem IsMax.split {n a b c : Nat} {E : Nat → Nat → Prop} {Q : Nat → Bool} (hQ : ∀ i k, E i k → Q i = Q k) (h : IsMax n E a) (k1 : IsMax n (fun i k => E i k ∧ Q i = true) b) (k2 : IsMax n (fun i k => E i k ∧ Q i = false) c) : a = b + c := by
 obtain ⟨nx, bf, h1, rfl⟩ := h.at_
 obtain ⟨nx1, bf1, h2, rfl⟩ := k1.at_
 obtain ⟨nx2, bf2, h3, rfl⟩ := k2.at_
 have part : ∀ v : Bool, Mt n (fun i k => E i k ∧ Q i = v) (fun i => if Q i = v then nx i else -1) (fun k => if Q k = v then bf k else -1) := by
  intro v
  refine ⟨fun k hk hb => ?_, fun i hi hb => ?_⟩
  ·by_cases e : Q k = v
   ·simp only [if_pos e] at hb ⊢
    obtain ⟨i, g1, g2, g3, g4⟩ := h1.b1 k hk hb
    have e2 : Q i = v := (hQ i k g3).trans e
    exact ⟨i, g1, g2, ⟨g3, e2⟩, by rw [if_pos e2]; exact g4⟩
   ·simp only [if_neg e] at hb; exact absurd rfl hb
  ·by_cases e : Q i = v
   ·simp only [if_pos e] at hb ⊢
    obtain ⟨k, g1, g2, g3⟩ := h1.n1 i hi hb
    obtain ⟨i', x1, x2, x3, x4⟩ := h1.b1 k g1 (by omega)
    have : i' = i := by omega
    subst this
    have e2 : Q k = v := (hQ i' k x3).symm.trans e
    exact ⟨k, g1, g2, by rw [if_pos e2]; exact g3⟩
   ·simp only [if_neg e] at hb; exact absurd rfl hb
 have s1 := cntN_split (n := n) (P := xP bf) (Q := Q)
 have c1 : yW n (xP fun k => if Q k = true then bf k else -1) = yW n (fun k => xP bf k && Q k) := xY fun k _ => by unfold xP; cases e : Q k <;> simp [e]
 have c2 : yW n (xP fun k => if Q k = false then bf k else -1) = yW n (fun k => xP bf k && !Q k) := xY fun k _ => by unfold xP; cases e : Q k <;> simp [e]
 have l1 := k1.le _ _ (part true)
 have l2 := k2.le _ _ (part false)
 rw [c1] at l1; rw [c2] at l2
 have both : Mt n E (fun i => if Q i = true then nx1 i else nx2 i) (fun k => if Q k = true then bf1 k else bf2 k) := by
  refine ⟨fun k hk hb => ?_, fun i hi hb => ?_⟩
  ·by_cases e : Q k = true
   ·simp only [if_pos e] at hb ⊢
    obtain ⟨i, g1, g2, g3, g4⟩ := h2.b1 k hk hb
    exact ⟨i, g1, g2, g3.1, by rw [if_pos g3.2]; exact g4⟩
   ·simp only [if_neg e] at hb ⊢
    obtain ⟨i, g1, g2, g3, g4⟩ := h3.b1 k hk hb
    exact ⟨i, g1, g2, g3.1, by rw [if_neg (by rw [g3.2]; simp)]; exact g4⟩
  ·by_cases e : Q i = true
   ·simp only [if_pos e] at hb ⊢
    obtain ⟨k, g1, g2, g3⟩ := h2.n1 i hi hb
    obtain ⟨i', x1, x2, x3, x4⟩ := h2.b1 k g1 (by omega)
    exact ⟨k, g1, g2, by rw [if_pos (by rw [← hQ i' k x3.1]; exact x3.2)]; exact g3⟩
   ·simp only [if_neg e] at hb ⊢
    obtain ⟨k, g1, g2, g3⟩ := h3.n1 i hi hb
    obtain ⟨i', x1, x2, x3, x4⟩ := h3.b1 k g1 (by omega)
    exact ⟨k, g1, g2, by rw [if_neg (by rw [← hQ i' k x3.1, x3.2]; simp)]; exact g3⟩
 have l3 := h.le _ _ both
 have s2 := cntN_split (n := n) (P := xP fun k => if Q k = true then bf1 k else bf2 k) (Q := Q)
 have c3 : yW n (fun k => (xP fun k => if Q k = true then bf1 k else bf2 k) k && Q k) = yW n (xP bf1) := xY fun k hk => by
  unfold xP
  cases e : Q k with
  | true => simp [e]
  | false =>
   by_cases hb : bf1 k = -1
   ·simp [hb]
   ·obtain ⟨i, g1, g2, g3, g4⟩ := h2.b1 k hk hb
    have := (hQ i k g3.1).symm.trans g3.2
    rw [e] at this; cases this
 have c4 : yW n (fun k => (xP fun k => if Q k = true then bf1 k else bf2 k) k && !Q k) = yW n (xP bf2) := xY fun k hk => by
  unfold xP
  cases e : Q k with
  | false => simp [e]
  | true =>
   by_cases hb : bf2 k = -1
   ·simp [hb]
   ·obtain ⟨i, g1, g2, g3, g4⟩ := h3.b1 k hk hb
    have := (hQ i k g3.1).symm.trans g3.2
    rw [e] at this; cases this
 omega
end Go.Proofs.Ytmdopblmkkameaa
