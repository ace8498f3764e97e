
import Derived.Test.YthcdddbghldmiaaPA
namespace Go.Proofs.Ythcdddbghldmiaa
set_option linter.unusedVariables false
inductive Nd where
 | bus (i : Nat)
 | slot (s : Nat)
 | grid
 deriving DecidableEq
structure Wy where
 fr : Nd
 to : Nd
 rest : Int
 pr : Int
def upd {α : Type} (f : Nd → α) (v : Nd) (x : α) : Nd → α := fun w => if w = v then x else f w
theorem upd_same {α : Type} {f : Nd → α} {v : Nd} {x : α} : upd f v x v = x := by simp [upd]
theorem upd_ne {α : Type} {f : Nd → α} {v w : Nd} {x : α} (h : w ≠ v) : upd f v x w = f w := by simp [upd, h]
abbrev By := Nd → Option Wy
inductive Chain (by_ : By) : Nd → Prop
 | base {v : Nd} (h : by_ v = none) : Chain by_ v
 | step {v : Nd} {x : Wy} (h : by_ v = some x) (k : Chain by_ x.fr) : Chain by_ v
def Pot (E : List Wy) (π : Nd → Int) : Prop := ∀ x ∈ E, π x.to ≤ π x.fr + x.pr
structure BInv (E : List Wy) (V : List Nd) (S : Nd → Prop) (π : Nd → Int) (K : Int) (price : Nd → Option Int) (by_ : By) : Prop where
 nd : ∀ v p, price v = some p → v ∈ V ∧ π v - K ≤ p
 st : ∀ v, S v → ∃ p, price v = some p ∧ p ≤ 0
 tree : ∀ v x, by_ v = some x → x ∈ E ∧ x.to = v ∧ ∃ pf pv, price x.fr = some pf ∧ price v = some pv ∧ pf + x.pr ≤ pv
 base : ∀ v p, price v = some p → by_ v = none → p = 0 ∧ S v
 chain : ∀ v p, price v = some p → Chain by_ v
 ub : ∃ keys : List Nd, keys.Nodup ∧ (∀ v, (∃ p, price v = some p) ↔ v ∈ keys) ∧ ∀ v p, price v = some p → p ≤ 1000 * (keys.length : Int)
section
variable {E : List Wy} {V : List Nd} {S : Nd → Prop} {π : Nd → Int} {K : Int} {price : Nd → Option Int} {by_ : By}
theorem BInv.init {s : Nd → Option Int} {keys : List Nd} (hk : keys.Nodup) (hs : ∀ v, s v = if v ∈ keys then some 0 else none) (hS : ∀ v, S v ↔ v ∈ keys) (hV : ∀ v ∈ keys, v ∈ V) (hK : ∀ v ∈ keys, π v ≤ K) : BInv E V S π K s (fun _ => none) := by
 have h0 : ∀ v p, s v = some p → v ∈ keys ∧ p = 0 := by
  intro v p h
  rw [hs v] at h
  by_cases hv : v ∈ keys
  ·rw [if_pos hv] at h; cases h; exact ⟨hv, rfl⟩
  ·rw [if_neg hv] at h; cases h
 refine ⟨fun v p h => ?_, fun v h => ?_, fun v x h => (by cases h), fun v p h _ => ?_, fun v p h => .base rfl, keys, hk, fun v => ?_, fun v p h => ?_⟩
 ·obtain ⟨h1, rfl⟩ := h0 v p h
  exact ⟨hV v h1, by have := hK v h1; omega⟩
 ·exact ⟨0, by rw [hs v, if_pos ((hS v).1 h)], Int.le_refl _⟩
 ·obtain ⟨h1, h2⟩ := h0 v p h
  exact ⟨h2, (hS v).2 h1⟩
 ·constructor
  ·rintro ⟨p, h⟩; exact (h0 v p h).1
  ·intro h; exact ⟨0, by rw [hs v, if_pos h]⟩
 ·obtain ⟨_, rfl⟩ := h0 v p h
  omega
theorem BInv.len (h : BInv E V S π K price by_) : ∃ keys : List Nd, keys.length ≤ V.length ∧ ∀ v p, price v = some p → p ≤ 1000 * (keys.length : Int) := by
 obtain ⟨keys, h1, h2, h3⟩ := h.ub
 exact ⟨keys, h1.length_le_of_subset (fun v hv => by obtain ⟨p, hp⟩ := (h2 v).2 hv; exact (h.nd v p hp).1), h3⟩
theorem BInv.relax (h : BInv E V S π K price by_) (hP : Pot E π) {x : Wy} (hx : x ∈ E) (hpr : x.pr ≤ 1000) (hV : x.to ∈ V) {p : Int} (hp : price x.fr = some p) (hlt : ∀ old, price x.to = some old → p + x.pr < old) :
  BInv E V S π K (upd price x.to (some (p + x.pr))) (upd by_ x.to (some x)) := by
 have hπ := hP x hx
 have hne : x.fr ≠ x.to := by
  intro e
  have := hlt p (by rw [← e]; exact hp)
  rw [← e] at hπ; omega
 have hq := (h.nd x.fr p hp).2
 have hstep : ∀ w y pw, by_ w = some y → price w = some pw → ∃ pf, price y.fr = some pf ∧ pf - π y.fr ≤ pw - π w := by
  intro w y pw hb hw
  obtain ⟨g1, rfl, pf, pv, g3, g4, g5⟩ := h.tree w y hb
  rw [hw] at g4; cases g4
  have := hP y g1
  exact ⟨pf, g3, by omega⟩
 have hgood : ∀ w, Chain by_ w → ∀ pw, price w = some pw → w ≠ x.to → (∀ old, price x.to = some old → pw - π w < old - π x.to) → Chain (upd by_ x.to (some x)) w := by
  intro w hc
  induction hc with
  | @base w hb => intro pw _ hw _; exact .base (by rw [upd_ne hw]; exact hb)
  | @step w y hb _ ih =>
   intro pw hpw hw hl
   obtain ⟨pf, k1, k2⟩ := hstep w y pw hb hpw
   have hl' : ∀ old, price x.to = some old → pf - π y.fr < old - π x.to := fun old ho => by have := hl old ho; omega
   refine .step (x := y) (by rw [upd_ne hw]; exact hb) (ih pf k1 (fun e => ?_) hl')
   have := hl' pf (by rw [← e]; exact k1)
   rw [e] at this; omega
 have hu : Chain (upd by_ x.to (some x)) x.fr := hgood x.fr (h.chain _ _ hp) p hp hne (fun old ho => by have := hlt old ho; omega)
 have hto : Chain (upd by_ x.to (some x)) x.to := .step (x := x) upd_same hu
 have hall : ∀ w, Chain by_ w → Chain (upd by_ x.to (some x)) w := by
  intro w hc
  induction hc with
  | @base w hb =>
   by_cases e : w = x.to
   ·rw [e]; exact hto
   ·exact .base (by rw [upd_ne e]; exact hb)
  | @step w y hb _ ih =>
   by_cases e : w = x.to
   ·rw [e]; exact hto
   ·exact .step (x := y) (by rw [upd_ne e]; exact hb) ih
 refine ⟨fun v q hv => ?_, fun v hv => ?_, fun v y hv => ?_, fun v q hv hb => ?_, fun v q hv => ?_, ?_⟩
 ·by_cases e : v = x.to
  ·subst e; rw [upd_same] at hv; cases hv; exact ⟨hV, by omega⟩
  ·rw [upd_ne e] at hv; exact h.nd v q hv
 ·obtain ⟨q, h1, h2⟩ := h.st v hv
  by_cases e : v = x.to
  ·subst e; exact ⟨_, upd_same, by have := hlt q h1; omega⟩
  ·exact ⟨q, by rw [upd_ne e]; exact h1, h2⟩
 ·by_cases e : v = x.to
  ·subst e; rw [upd_same] at hv; cases hv
   exact ⟨hx, rfl, p, _, by rw [upd_ne hne]; exact hp, upd_same, Int.le_refl _⟩
  ·rw [upd_ne e] at hv
   obtain ⟨g1, g2, pf, pv, g3, g4, g5⟩ := h.tree v y hv
   refine ⟨g1, g2, ?_⟩
   by_cases e2 : y.fr = x.to
   ·exact ⟨p + x.pr, pv, by rw [e2]; exact upd_same, by rw [upd_ne e]; exact g4, by have := hlt pf (by rw [← e2]; exact g3); omega⟩
   ·exact ⟨pf, pv, by rw [upd_ne e2]; exact g3, by rw [upd_ne e]; exact g4, g5⟩
 ·by_cases e : v = x.to
  ·subst e; rw [upd_same] at hb; cases hb
  ·rw [upd_ne e] at hv hb; exact h.base v q hv hb
 ·by_cases e : v = x.to
  ·rw [e]; exact hto
  ·rw [upd_ne e] at hv; exact hall v (h.chain v q hv)
 ·obtain ⟨keys, k1, k2, k3⟩ := h.ub
  cases ho : price x.to with
  | none =>
   have hn : x.to ∉ keys := fun hk => by obtain ⟨q, hq⟩ := (k2 _).2 hk; rw [ho] at hq; cases hq
   refine ⟨x.to :: keys, List.nodup_cons.2 ⟨hn, k1⟩, fun v => ?_, fun v q hv => ?_⟩
   ·by_cases e : v = x.to
    ·subst e; simp [upd_same]
    ·simp only [upd_ne e, List.mem_cons, e, false_or]; exact k2 v
   ·by_cases e : v = x.to
    ·subst e; rw [upd_same] at hv; cases hv
     have := k3 _ _ hp
     simp only [List.length_cons]; omega
    ·rw [upd_ne e] at hv
     have := k3 v q hv
     simp only [List.length_cons]; omega
  | some old =>
   refine ⟨keys, k1, fun v => ?_, fun v q hv => ?_⟩
   ·by_cases e : v = x.to
    ·subst e
     constructor
     ·intro _; exact (k2 _).1 ⟨old, ho⟩
     ·intro _; exact ⟨_, upd_same⟩
    ·simp only [upd_ne e]; exact k2 v
   ·by_cases e : v = x.to
    ·subst e; rw [upd_same] at hv; cases hv
     have := k3 _ _ ho; have := hlt old ho; omega
    ·rw [upd_ne e] at hv; exact k3 v q hv
def meas (V : List Nd) (π : Nd → Int) (K : Int) (B : Nat) (price : Nd → Option Int) : Nat :=
 (V.map fun v => match price v with | none => B | some p => (p - (π v - K)).toNat).sum
theorem sum_lt {f g : Nd → Nat} : ∀ {V : List Nd} {v : Nd}, v ∈ V → (∀ w ∈ V, f w ≤ g w) → f v < g v → (V.map f).sum < (V.map g).sum
 | [], v, h, _, _ => by cases h
 | w :: V, v, h, hle, hlt => by
  simp only [List.map_cons, List.sum_cons]
  have h1 := hle w (by simp)
  have h2 : (V.map f).sum ≤ (V.map g).sum := by
   clear h hlt
   induction V with
   | nil => simp
   | cons a V ih =>
    simp only [List.map_cons, List.sum_cons]
    have := hle a (by simp)
    have := ih (fun w hw => hle w (by simp at hw ⊢; rcases hw with hw | hw; exact .inl hw; exact .inr (.inr hw)))
    omega
  rcases List.mem_cons.1 h with rfl | h
  ·omega
  ·have := sum_lt h (fun w hw => hle w (by simp [hw])) hlt
   omega
theorem meas_lt (h : BInv E V S π K price by_) {B : Nat} (hB : ∀ v ∈ V, ∀ z : Int, z ≤ 1000 * (V.length : Int) + 1000 → (z - (π v - K)).toNat < B) (hP : Pot E π) {x : Wy} (hx : x ∈ E) (hpr : x.pr ≤ 1000) (hV : x.to ∈ V) {p : Int} (hp : price x.fr = some p) (hlt : ∀ old, price x.to = some old → p + x.pr < old) :
  meas V π K B (upd price x.to (some (p + x.pr))) < meas V π K B price := by
 have hπ := hP x hx
 have hq := (h.nd x.fr p hp).2
 have key : (match (upd price x.to (some (p + x.pr))) x.to with | none => B | some p => (p - (π x.to - K)).toNat) < (match price x.to with | none => B | some p => (p - (π x.to - K)).toNat) := by
  rw [upd_same]
  cases ho : price x.to with
  | none =>
   obtain ⟨keys, k1, k2⟩ := h.len
   have := k2 _ _ hp
   exact hB x.to hV (p + x.pr) (by omega)
  | some old =>
   have := hlt old ho
   have := (h.nd _ _ ho).2
   simp only
   omega
 refine sum_lt hV (fun w hw => ?_) key
 by_cases e : w = x.to
 ·subst e; exact Nat.le_of_lt key
 ·rw [upd_ne e]; exact Nat.le_refl _
def Done (E : List Wy) (price : Nd → Option Int) : Prop := ∀ x ∈ E, ∀ p, price x.fr = some p → ∃ q, price x.to = some q ∧ q ≤ p + x.pr
theorem BInv.tight (h : BInv E V S π K price by_) (hd : Done E price) {v : Nd} {x : Wy} (hb : by_ v = some x) : x ∈ E ∧ x.to = v ∧ ∃ pf, price x.fr = some pf ∧ price v = some (pf + x.pr) := by
 obtain ⟨h1, rfl, pf, pv, h3, h4, h5⟩ := h.tree v x hb
 obtain ⟨q, h6, h7⟩ := hd x h1 pf h3
 rw [h4] at h6; cases h6
 exact ⟨h1, rfl, pf, h3, by rw [h4]; congr 1; omega⟩
inductive Pth (by_ : By) : Nd → List Wy → Nd → Prop
 | nil {v : Nd} (h : by_ v = none) : Pth by_ v [] v
 | cons {v s : Nd} {x : Wy} {xs : List Wy} (h : by_ v = some x) (ht : x.to = v) (k : Pth by_ x.fr xs s) : Pth by_ v (x :: xs) s
theorem Pth.det {v s t : Nd} {xs ys : List Wy} (h : Pth by_ v xs s) (k : Pth by_ v ys t) : xs = ys ∧ s = t := by
 induction h generalizing ys t with
 | nil h =>
  cases k with
  | nil _ => exact ⟨rfl, rfl⟩
  | cons h2 _ _ => rw [h] at h2; cases h2
 | cons h ht _ ih =>
  cases k with
  | nil h2 => rw [h] at h2; cases h2
  | cons h2 _ k2 =>
   rw [h] at h2; cases h2
   obtain ⟨e1, e2⟩ := ih k2
   exact ⟨by rw [e1], e2⟩
theorem Pth.sub {v s : Nd} {xs : List Wy} (h : Pth by_ v xs s) : ∀ x ∈ xs, ∃ ys, Pth by_ x.fr ys s ∧ ys.length < xs.length := by
 induction h with
 | nil _ => intro x hx; cases hx
 | @cons v s y ys hy ht k ih =>
  intro x hx
  rcases List.mem_cons.1 hx with rfl | hx
  ·exact ⟨ys, k, by simp⟩
  ·obtain ⟨zs, h1, h2⟩ := ih x hx
   exact ⟨zs, h1, by simp; omega⟩
theorem Pth.fresh {v s : Nd} {xs : List Wy} (h : Pth by_ v xs s) : ∀ x ∈ xs, x.fr ≠ v := by
 intro x hx e
 obtain ⟨ys, h1, h2⟩ := h.sub x hx
 rw [e] at h1
 obtain ⟨e1, _⟩ := h.det h1
 rw [e1] at h2; omega
def outN (v : Nd) (xs : List Wy) : Nat := xs.countP (fun x => decide (x.fr = v))
def inN (v : Nd) (xs : List Wy) : Nat := xs.countP (fun x => decide (x.to = v))
theorem Pth.out_le {v s : Nd} {xs : List Wy} (h : Pth by_ v xs s) (w : Nd) : outN w xs ≤ 1 := by
 induction h with
 | nil _ => simp [outN]
 | @cons v s y ys hy ht k ih =>
  unfold outN at ih ⊢
  rw [List.countP_cons]
  by_cases e : y.fr = w
  ·have : ys.countP (fun x => decide (x.fr = w)) = 0 := by
    rw [List.countP_eq_zero]
    intro x hx
    have := k.fresh x hx
    rw [e] at this
    simpa using this
   rw [this]; simp [e]
  ·simp [e]; exact ih
theorem Pth.flow {v s : Nd} {xs : List Wy} (h : Pth by_ v xs s) (w : Nd) : inN w xs + (if w = s then 1 else 0) = outN w xs + (if w = v then 1 else 0) := by
 induction h with
 | nil _ => simp [inN, outN]
 | @cons v s y ys hy ht k ih =>
  unfold inN outN at ih ⊢
  rw [List.countP_cons, List.countP_cons]
  subst ht
  by_cases e1 : w = y.fr <;> by_cases e2 : w = y.to <;> simp only [e1, e2, eq_comm] at ih ⊢ <;> simp at ih ⊢ <;> (repeat' split) <;> (repeat' split at ih) <;> simp_all <;> omega
theorem Chain.pth {v : Nd} (h : Chain by_ v) (ht : ∀ w x, by_ w = some x → x.to = w) : ∃ xs s, Pth by_ v xs s ∧ by_ s = none := by
 induction h with
 | base h => exact ⟨[], _, .nil h, h⟩
 | step h _ ih =>
  obtain ⟨xs, s, h1, h2⟩ := ih
  exact ⟨_ :: xs, s, .cons h (ht _ _ h) h1, h2⟩
end
end Go.Proofs.Ythcdddbghldmiaa
