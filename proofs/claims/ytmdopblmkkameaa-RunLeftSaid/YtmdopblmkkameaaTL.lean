
import Derived.Test.YtmdopblmkkameaaTK
namespace Go.Proofs.Ytmdopblmkkameaa
open Go Go.Lay
set_option linter.unusedVariables false
set_option linter.unusedSimpArgs false
set_option maxRecDepth 20000
def riN (n : Nat) : Nat → List Nat → Prop
 | _, [] => True
 | m, a :: x => m ≤ a ∧ a < n ∧ riN n (a + 1) x
def lexB : List Nat → List Nat → Bool
 | a :: x, b :: y => if a = b then lexB x y else decide (a < b)
 | _, _ => false
def mns (T : Nat → Bool) (x : List Nat) (j : Nat) : Bool := T j && decide (¬ j ∈ x)
theorem mns_nil {T : Nat → Bool} : mns T [] = T := by funext j; simp [mns]
theorem mns_cons {T : Nat → Bool} {i : Nat} {x : List Nat} : mns (fun j => if j = i then false else T j) x = mns T (i :: x) := by
 funext j
 unfold mns
 by_cases e : j = i
 ·subst e; simp
 ·simp [e]
def LvQ (t : Tab) (f : List Int) (T : Nat → Bool) (from_ more : Nat) (r : Bool) (x : List Nat) : Prop :=
 (r = true → riN t.nt from_ x ∧ x.length = more ∧ enS t f (mns T x) = true ∧ ∀ y, riN t.nt from_ y → y.length = more → enS t f (mns T y) = true → lexB y x = false) ∧
 (r = false → ∀ y, riN t.nt from_ y → y.length = more → enS t f (mns T y) = false)
theorem LvQ.zero {t : Tab} {f : List Int} {T : Nat → Bool} {from_ : Nat} : LvQ t f T from_ 0 (enS t f T) [] := by
 refine ⟨fun h => ⟨trivial, rfl, by rw [mns_nil]; exact h, fun y _ hy _ => ?_⟩, fun h y _ hy => ?_⟩
 ·have : y = [] := by simpa using hy
  subst this; rfl
 ·have : y = [] := by simpa using hy
  subst this; rw [mns_nil]; exact h
theorem LvQ.yes {t : Tab} {f : List Int} {T : Nat → Bool} {from_ more i : Nat} {x : List Nat} (hp : ∀ y, riN t.nt from_ y → y.length = more + 1 → y.head?.getD 0 < i → enS t f (mns T y) = false) (hi : from_ ≤ i) (hn : i < t.nt) (h : LvQ t f (fun j => if j = i then false else T j) (i + 1) more true x) : LvQ t f T from_ (more + 1) true (i :: x) := by
 obtain ⟨h1, h2, h3, h4⟩ := h.1 rfl
 refine ⟨fun _ => ⟨⟨hi, hn, h1⟩, by simp [h2], by rw [← mns_cons]; exact h3, fun y hy hl he => ?_⟩, fun e => by cases e⟩
 cases y with
 | nil => rfl
 | cons a y =>
  unfold lexB
  by_cases e : a = i
  ·subst e
   rw [if_pos rfl]
   exact h4 y hy.2.2 (by simpa using hl) (by rw [mns_cons]; exact he)
  ·rw [if_neg e]
   by_cases h5 : a < i
   ·have := hp (a :: y) hy hl (by simpa using h5)
    rw [he] at this; cases this
   ·exact decide_eq_false h5
theorem mut5 {σ : St} {f : FuncId} {args : List Value} {S : Nat → Prop} {Q : Value → St → Prop} (h : zN Try.prog f args σ.re fun v s => Only S σ.re s ∧ (s.low < σ.next ∨ (zV RD v = true ∧ Q v σ)) ∧ Q v s) (hQ : ∀ v s m, m ≤ s.low → Q v s → Q v ⟨s.heap, s.next, m⟩) : ∃ v σ', zD Try.prog f args σ v σ' ∧ Only S σ σ' ∧ Q v σ' := by
 obtain ⟨v, s, hN, h1, h2, h3⟩ := h
 by_cases hlow : s.low < σ.next
 ·obtain ⟨N0, hN⟩ := hN
  refine ⟨v, ⟨s.heap, s.next, min σ.low s.low⟩, ⟨N0, fun N hl => ?_⟩, h1.lower (m := 0), hQ _ _ _ (Nat.min_le_right _ _) h3⟩
  unfold zAA
  rw [show (⟨σ.heap, σ.next, σ.next⟩ : St) = σ.re from rfl, hN N hl]
  show zAN σ v s = _
  unfold zAN
  have e1 : (Nat.ble σ.next s.low && zV RD v) = false := by
   rw [Bool.and_eq_false_iff]; left
   rw [Bool.eq_false_iff]; intro e; have := (zS _ _).1 e; omega
  have e2 : Nat.ble σ.next s.next = true := (zS _ _).2 h1.next
  rw [e1, cond_false, e2, cond_true, wX, zCI]
 ·rcases h2 with h2 | ⟨hr, h2⟩
  ·exact absurd h2 hlow
  ·exact ⟨v, σ, zN.pure ⟨v, s, hN, rfl, by omega⟩ hr, Only.refl _ _, h2⟩
section
variable {σ : St} {ll lc : Nat}
theorem nil_eq {l c : Nat} : zFJ Try.prog .eql 41 (.tmp 3) (.const (.slice none 0 0)) (.slice none l c) (.slice none 0 0) = some (.bool true) := by kernel_rfl
theorem nil_ne {a : Addr} {l c : Nat} : zFJ Try.prog .eql 41 (.tmp 3) (.const (.slice none 0 0)) (.slice (some a) l c) (.slice none 0 0) = some (.bool false) := by kernel_rfl
theorem clone_s {a : Addr} {ys : List Int} (h : yZ σ (some a) ll ys) (hl : ll ≤ 1073741824) : ∃ p' c' σ', zD Try.prog 61 [.slice (some a) ll lc] σ (.slice p' ll c') σ' ∧ New σ σ' ∧ yZ σ' p' ll ys ∧ ∀ b, AtP p' b → σ.next ≤ b := by
 have hc : (wL (ys.map xK)).all cellB = true := by rw [zGU ys .i64]; simp [List.all_eq_true]; intro a _; rfl
 have o := zC σ.re [] 1
 obtain ⟨p', c', σ', h1, h2, h3, h4⟩ := Ap.append (k := lc) (n0 := σ.re.next) zDE (.inr ⟨σ.re.next, rfl, rfl, rfl, rfl, o, Nat.le_refl _⟩ : Ap (σ.re.row [] 1) σ.re.next 1 (some ⟨σ.re.next, 0, none⟩) 0 0 []) ((SlV.le h ((le0 σ).trans (Le.row _ [] 1))).1) (by omega) hc (by simp)
 rw [Nat.zero_add] at h1 h2
 rw [List.nil_append] at h2
 refine zN.newSl (clone_rb nil_ne h1 ⟨(New.row _ _ _).of_only h3 ?_, p', c', rfl, h2.slv (by simpa using h.2.1) h.2.2, ?_⟩)
 ·rintro b ⟨a, e, rfl⟩; cases e; exact Nat.le_refl _
 ·intro b hb
  rcases h4 b hb with h5 | h5
  ·obtain ⟨a, e, rfl⟩ := h5; cases e; exact Nat.le_refl _
  ·have : (σ.re.row [] 1).next = σ.next + 1 := rfl
   omega
theorem clone_c {p : Option Addr} {ys : List Int} (h : yZ σ p ll ys) (hl : ll ≤ 1073741824) (hn : p = none → ll = 0) : ∃ p' c' σ', zD Try.prog 61 [.slice p ll lc] σ (.slice p' ll c') σ' ∧ New σ σ' ∧ yZ σ' p' ll ys ∧ ∀ b, AtP p' b → σ.next ≤ b := by
 cases p with
 | some a => exact clone_s h hl
 | none =>
  have := hn rfl
  subst this
  have hy : ys = [] := by have := h.len; simpa using this
  subst hy
  refine zN.newSl (clone_ra nil_eq ⟨New.refl _, none, 0, rfl, ⟨SlP.nil _ _, rfl, by simp⟩, fun b hb => (AtP.none hb).elim⟩)
end
end Go.Proofs.Ytmdopblmkkameaa
