
import Derived.Test.YtmdopblmkkameaaPM
namespace Go.Proofs.Ytmdopblmkkameaa
set_option linter.unusedVariables false
open Classical in
theorem Mt.send {n m : Nat} {E F : Nat → Nat → Prop} {nx bf : Nat → Int} {D : Nat → Prop} {f : Nat → Nat} (h : Mt n E nx bf) (hD : ∀ i k, i < n → k < n → E i k → D i ∧ D k) (hm : ∀ i, i < n → D i → f i < m) (hi : ∀ i k, i < n → k < n → D i → D k → f i = f k → i = k) (hE : ∀ i k, i < n → k < n → E i k → F (f i) (f k)) :
  ∃ nx' bf', Mt m F nx' bf' ∧ yR n (xM bf) ≤ yR m (xM bf') := by
 let nx' : Nat → Int := fun y => if e : ∃ i, i < n ∧ D i ∧ f i = y ∧ nx i ≠ -1 then (f (nx e.choose).toNat : Int) else -1
 let bf' : Nat → Int := fun y => if e : ∃ k, k < n ∧ D k ∧ f k = y ∧ bf k ≠ -1 then (f (bf e.choose).toNat : Int) else -1
 have n_at : ∀ i, i < n → D i → nx i ≠ -1 → nx' (f i) = (f (nx i).toNat : Int) := by
  intro i h1 h2 h3
  have e : ∃ i', i' < n ∧ D i' ∧ f i' = f i ∧ nx i' ≠ -1 := ⟨i, h1, h2, rfl, h3⟩
  show (if e : _ then _ else _) = _
  rw [dif_pos e]
  obtain ⟨c1, c2, c3, c4⟩ := e.choose_spec
  have := hi _ _ c1 h1 c2 h2 c3
  rw [this]
 have b_at : ∀ i, i < n → D i → bf i ≠ -1 → bf' (f i) = (f (bf i).toNat : Int) := by
  intro i h1 h2 h3
  have e : ∃ i', i' < n ∧ D i' ∧ f i' = f i ∧ bf i' ≠ -1 := ⟨i, h1, h2, rfl, h3⟩
  show (if e : _ then _ else _) = _
  rw [dif_pos e]
  obtain ⟨c1, c2, c3, c4⟩ := e.choose_spec
  have := hi _ _ c1 h1 c2 h2 c3
  rw [this]
 refine ⟨nx', bf', ⟨fun y hy hb => ?_, fun y hy hb => ?_⟩, ?_⟩
 ·by_cases e : ∃ k, k < n ∧ D k ∧ f k = y ∧ bf k ≠ -1
  ·obtain ⟨k, c1, c2, rfl, c4⟩ := e
   obtain ⟨i, g1, g2, g3, g4⟩ := h.b1 k c1 c4
   obtain ⟨d1, d2⟩ := hD i k g1 c1 g3
   refine ⟨f i, hm i g1 d1, ?_, hE i k g1 c1 g3, ?_⟩
   ·rw [b_at k c1 c2 c4, g2]; simp
   ·rw [n_at i g1 d1 (by omega), g4]; simp
  ·exact absurd (show bf' y = -1 from dif_neg e) hb
 ·by_cases e : ∃ k, k < n ∧ D k ∧ f k = y ∧ nx k ≠ -1
  ·obtain ⟨i, c1, c2, rfl, c4⟩ := e
   obtain ⟨k, g1, g2, g3⟩ := h.n1 i c1 c4
   obtain ⟨i', x1, x2, x3, x4⟩ := h.b1 k g1 (by omega)
   have : i' = i := by omega
   subst this
   obtain ⟨d1, d2⟩ := hD i' k c1 g1 x3
   refine ⟨f k, hm k g1 d2, ?_, ?_⟩
   ·rw [n_at i' c1 d1 c4, g2]; simp
   ·rw [b_at k g1 d2 (by omega), g3]; simp
  ·exact absurd (show nx' y = -1 from dif_neg e) hb
 ·refine zFB (f := f) (fun k hk hP => ?_) (fun k k' hk hk' hP hP' e => ?_)
  ·have hP := wB.1 hP
   obtain ⟨i, g1, g2, g3, g4⟩ := h.b1 k hk hP
   obtain ⟨d1, d2⟩ := hD i k g1 hk g3
   refine ⟨hm k hk d2, wB.2 ?_⟩
   rw [b_at k hk d2 hP]; omega
  ·obtain ⟨i, g1, g2, g3, g4⟩ := h.b1 k hk (wB.1 hP)
   obtain ⟨i', g1', g2', g3', g4'⟩ := h.b1 k' hk' (wB.1 hP')
   exact hi k k' hk hk' (hD i k g1 hk g3).2 (hD i' k' g1' hk' g3').2 e
theorem IsMax.mono {n a b : Nat} {E F : Nat → Nat → Prop} (h : IsMax n E a) (k : IsMax n F b) (hE : ∀ i k, i < n → k < n → E i k → F i k) : a ≤ b := by
 obtain ⟨nx, bf, h1, rfl⟩ := h.at_
 exact k.le nx bf ⟨fun k' hk hb => by obtain ⟨i, g1, g2, g3, g4⟩ := h1.b1 k' hk hb; exact ⟨i, g1, g2, hE i k' g1 hk g3, g4⟩, h1.n1⟩
theorem IsMax.names {n a b : Nat} {E F : Nat → Nat → Prop} {ls : List Nat} (hnd : ls.Nodup) (hlt : ∀ x ∈ ls, x < n) (h : IsMax ls.length E a) (k : IsMax n F b)
  (hE : ∀ i k x y, ls[i]? = some x → ls[k]? = some y → (E i k ↔ F x y)) (hF : ∀ x y, F x y → x ∈ ls ∧ y ∈ ls) : a = b := by
 obtain ⟨nx, bf, h1, rfl⟩ := h.at_
 obtain ⟨nx2, bf2, h2, rfl⟩ := k.at_
 have hg : ∀ i, i < ls.length → ls[i]? = some (ls.getD i 0) := fun i hi => by simp [List.getD, List.getElem?_eq_getElem hi]
 have hinj : ∀ i k, i < ls.length → k < ls.length → ls.getD i 0 = ls.getD k 0 → i = k := by
  intro i k hi hk e
  have h3 := hg i hi; have h4 := hg k hk
  rw [← e] at h4
  have e2 : ls[i] = ls[k] := by
   rw [List.getElem?_eq_getElem hi] at h3; rw [List.getElem?_eq_getElem hk] at h4
   rw [Option.some.inj h3, Option.some.inj h4]
  exact (List.getElem_inj hnd).1 e2
 obtain ⟨nx', bf', g1, g2⟩ := h1.send (m := n) (F := F) (D := fun _ => True) (f := fun i => ls.getD i 0) (fun _ _ _ _ _ => ⟨trivial, trivial⟩) (fun i hi _ => hlt _ (List.mem_of_getElem? (hg i hi))) (fun i k hi hk _ _ e => hinj i k hi hk e) (fun i k hi hk he => (hE i k _ _ (hg i hi) (hg k hk)).1 he)
 have e1 := k.le nx' bf' g1
 have hix : ∀ x, x ∈ ls → ∃ i, i < ls.length ∧ ls[i]? = some x := fun x hx => by
  obtain ⟨i, hi, e⟩ := List.mem_iff_getElem.1 hx
  exact ⟨i, hi, by rw [List.getElem?_eq_getElem hi, e]⟩
 let f : Nat → Nat := fun x => if e : x ∈ ls then (hix x e).choose else 0
 have hf : ∀ x, x ∈ ls → f x < ls.length ∧ ls[f x]? = some x := fun x hx => by
  show (if e : _ then _ else _) < _ ∧ _
  have e : f x = (hix x hx).choose := dif_pos hx
  rw [show (if e : x ∈ ls then (hix x e).choose else 0) = f x from rfl, e]
  exact (hix x hx).choose_spec
 obtain ⟨nx3, bf3, g3, g4⟩ := h2.send (m := ls.length) (F := E) (D := fun x => x ∈ ls) (f := f) (fun i k _ _ he => hF i k he) (fun x _ hx => (hf x hx).1) (fun x y _ _ hx hy e => by
   have h3 := (hf x hx).2; have h4 := (hf y hy).2; rw [e, h4] at h3; exact (Option.some.inj h3).symm) (fun x y hx hy he => by
   obtain ⟨m1, m2⟩ := hF x y he
   exact (hE (f x) (f y) x y (hf x m1).2 (hf y m2).2).2 he)
 have e2 := h.le nx3 bf3 g3
 omega
theorem IsMax.split {n a b c : Nat} {E : Nat → Nat → Prop} {Q : Nat → Bool} (hQ : ∀ i k, E i k → Q i = Q k) (h : IsMax n E a) (k1 : IsMax n (fun i k => E i k ∧ Q i = true) b) (k2 : IsMax n (fun i k => E i k ∧ Q i = false) c) : a = b + c := by
 obtain ⟨nx, bf, h1, rfl⟩ := h.at_
 obtain ⟨nx1, bf1, h2, rfl⟩ := k1.at_
 obtain ⟨nx2, bf2, h3, rfl⟩ := k2.at_
 have part : ∀ v : Bool, Mt n (fun i k => E i k ∧ Q i = v) (fun i => if Q i = v then nx i else -1) (fun k => if Q k = v then bf k else -1) := by
  intro v
  refine ⟨fun k hk hb => ?_, fun i hi hb => ?_⟩
  ·by_cases e : Q k = v
   ·simp only [if_pos e] at hb ⊢
    obtain ⟨i, g1, g2, g3, g4⟩ := h1.b1 k hk hb
    have e2 : Q i = v := (hQ i k g3).trans e
    exact ⟨i, g1, g2, ⟨g3, e2⟩, by rw [if_pos e2]; exact g4⟩
   ·simp only [if_neg e] at hb; exact absurd rfl hb
  ·by_cases e : Q i = v
   ·simp only [if_pos e] at hb ⊢
    obtain ⟨k, g1, g2, g3⟩ := h1.n1 i hi hb
    obtain ⟨i', x1, x2, x3, x4⟩ := h1.b1 k g1 (by omega)
    have : i' = i := by omega
    subst this
    have e2 : Q k = v := (hQ i' k x3).symm.trans e
    exact ⟨k, g1, g2, by rw [if_pos e2]; exact g3⟩
   ·simp only [if_neg e] at hb; exact absurd rfl hb
 have s1 := uR (n := n) (P := xM bf) (Q := Q)
 have c1 : yR n (xM fun k => if Q k = true then bf k else -1) = yR n (fun k => xM bf k && Q k) := xT fun k _ => by unfold xM; cases e : Q k <;> simp [e]
 have c2 : yR n (xM fun k => if Q k = false then bf k else -1) = yR n (fun k => xM bf k && !Q k) := xT fun k _ => by unfold xM; cases e : Q k <;> simp [e]
 have l1 := k1.le _ _ (part true)
 have l2 := k2.le _ _ (part false)
 rw [c1] at l1; rw [c2] at l2
 have both : Mt n E (fun i => if Q i = true then nx1 i else nx2 i) (fun k => if Q k = true then bf1 k else bf2 k) := by
  refine ⟨fun k hk hb => ?_, fun i hi hb => ?_⟩
  ·by_cases e : Q k = true
   ·simp only [if_pos e] at hb ⊢
    obtain ⟨i, g1, g2, g3, g4⟩ := h2.b1 k hk hb
    exact ⟨i, g1, g2, g3.1, by rw [if_pos g3.2]; exact g4⟩
   ·simp only [if_neg e] at hb ⊢
    obtain ⟨i, g1, g2, g3, g4⟩ := h3.b1 k hk hb
    exact ⟨i, g1, g2, g3.1, by rw [if_neg (by rw [g3.2]; simp)]; exact g4⟩
  ·by_cases e : Q i = true
   ·simp only [if_pos e] at hb ⊢
    obtain ⟨k, g1, g2, g3⟩ := h2.n1 i hi hb
    obtain ⟨i', x1, x2, x3, x4⟩ := h2.b1 k g1 (by omega)
    exact ⟨k, g1, g2, by rw [if_pos (by rw [← hQ i' k x3.1]; exact x3.2)]; exact g3⟩
   ·simp only [if_neg e] at hb ⊢
    obtain ⟨k, g1, g2, g3⟩ := h3.n1 i hi hb
    obtain ⟨i', x1, x2, x3, x4⟩ := h3.b1 k g1 (by omega)
    exact ⟨k, g1, g2, by rw [if_neg (by rw [← hQ i' k x3.1, x3.2]; simp)]; exact g3⟩
 have l3 := h.le _ _ both
 have s2 := uR (n := n) (P := xM fun k => if Q k = true then bf1 k else bf2 k) (Q := Q)
 have c3 : yR n (fun k => (xM fun k => if Q k = true then bf1 k else bf2 k) k && Q k) = yR n (xM bf1) := xT fun k hk => by
  unfold xM
  cases e : Q k with
  | true => simp [e]
  | false =>
   by_cases hb : bf1 k = -1
   ·simp [hb]
   ·obtain ⟨i, g1, g2, g3, g4⟩ := h2.b1 k hk hb
    have := (hQ i k g3.1).symm.trans g3.2
    rw [e] at this; cases this
 have c4 : yR n (fun k => (xM fun k => if Q k = true then bf1 k else bf2 k) k && !Q k) = yR n (xM bf2) := xT fun k hk => by
  unfold xM
  cases e : Q k with
  | false => simp [e]
  | true =>
   by_cases hb : bf2 k = -1
   ·simp [hb]
   ·obtain ⟨i, g1, g2, g3, g4⟩ := h3.b1 k hk hb
    have := (hQ i k g3.1).symm.trans g3.2
    rw [e] at this; cases this
 omega
end Go.Proofs.Ytmdopblmkkameaa
