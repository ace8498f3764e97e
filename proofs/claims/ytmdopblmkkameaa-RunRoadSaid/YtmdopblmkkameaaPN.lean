
import Derived.Test.YtmdopblmkkameaaPM
namespace Go.Proofs.Ytmdopblmkkameaa
set_option linter.unusedVariables false
def ch (nx : Nat → Int) : Nat → Nat → List Nat
 | 0, _ => []
 | f + 1, k => k :: if nx k = -1 then [] else ch nx f (nx k).toNat
structure Dn (n : Nat) (nx : Nat → Int) (rk : Nat → Nat) : Prop where
 dn : ∀ k, k < n → nx k ≠ -1 → ∃ k' : Nat, k' < n ∧ nx k = k' ∧ rk k' < rk k
section
variable {n : Nat} {nx bf : Nat → Int} {rk : Nat → Nat} {E : Nat → Nat → Prop}
def cq (nx : Nat → Int) (rk : Nat → Nat) (k : Nat) : List Nat := ch nx (rk k + 1) k
theorem ch_stable (h : Dn n nx rk) : ∀ (f k : Nat), k < n → rk k < f → ch nx f k = ch nx (f + 1) k := by
 intro f
 induction f with
 | zero => intro k _ h; omega
 | succ f ih =>
  intro k hk hf
  show k :: _ = k :: _
  congr 1
  by_cases e : nx k = -1
  ·rw [if_pos e, if_pos e]
  ·rw [if_neg e, if_neg e]
   obtain ⟨k', h1, h2, h3⟩ := h.dn k hk e
   rw [h2, Int.toNat_natCast]
   exact ih k' h1 (by omega)
theorem ch_ge (h : Dn n nx rk) (f k : Nat) (hk : k < n) : ∀ d, rk k < f → ch nx (f + d) k = ch nx f k := by
 intro d
 induction d with
 | zero => intro _; rfl
 | succ d ih => intro hf; rw [← ih hf, show f + (d + 1) = (f + d) + 1 from rfl, ← ch_stable h (f + d) k hk (by omega)]
theorem cq_eq (h : Dn n nx rk) {k : Nat} (hk : k < n) : cq nx rk k = k :: if nx k = -1 then [] else cq nx rk (nx k).toNat := by
 unfold cq
 show k :: _ = k :: _
 congr 1
 by_cases e : nx k = -1
 ·rw [if_pos e, if_pos e]
 ·rw [if_neg e, if_neg e]
  obtain ⟨k', h1, h2, h3⟩ := h.dn k hk e
  rw [h2, Int.toNat_natCast]
  have := ch_ge h (rk k' + 1) k' h1 (rk k - (rk k' + 1)) (by omega)
  rw [← this]
  congr 1; omega
theorem cq_last (h : Dn n nx rk) {k : Nat} (hk : k < n) (e : nx k = -1) : cq nx rk k = [k] := by rw [cq_eq h hk, if_pos e]
theorem cq_next (h : Dn n nx rk) {k k' : Nat} (hk : k < n) (e : nx k = k') : cq nx rk k = k :: cq nx rk k' := by rw [cq_eq h hk, if_neg (by omega), e, Int.toNat_natCast]
theorem cq_ind (h : Dn n nx rk) {P : Nat → Prop} (hl : ∀ k, k < n → nx k = -1 → P k) (hn : ∀ k k' : Nat, k < n → k' < n → nx k = k' → rk k' < rk k → P k' → P k) : ∀ k, k < n → P k := by
 intro k
 induction hr : rk k using Nat.strongRecOn generalizing k with
 | ind r ih =>
  intro hk
  by_cases e : nx k = -1
  ·exact hl k hk e
  ·obtain ⟨k', h1, h2, h3⟩ := h.dn k hk e
   exact hn k k' hk h1 h2 h3 (ih _ (by omega) k' rfl h1)
theorem cq_lt (h : Dn n nx rk) : ∀ k, k < n → ∀ x ∈ cq nx rk k, x < n ∧ rk x ≤ rk k := by
 refine cq_ind h (fun k hk e x hx => ?_) (fun k k' hk hk' e hr ih x hx => ?_)
 ·rw [cq_last h hk e] at hx; simp at hx; subst hx; exact ⟨hk, Nat.le_refl _⟩
 ·rw [cq_next h hk e] at hx
  rcases List.mem_cons.1 hx with rfl | hx
  ·exact ⟨hk, Nat.le_refl _⟩
  ·have := ih x hx; exact ⟨this.1, by omega⟩
theorem cq_self (h : Dn n nx rk) {k : Nat} (hk : k < n) : k ∈ cq nx rk k := by rw [cq_eq h hk]; exact List.mem_cons_self
theorem cq_nodup (h : Dn n nx rk) : ∀ k, k < n → (cq nx rk k).Nodup := by
 refine cq_ind h (fun k hk e => ?_) (fun k k' hk hk' e hr ih => ?_)
 ·rw [cq_last h hk e]; simp
 ·rw [cq_next h hk e]
  refine List.nodup_cons.2 ⟨fun hm => ?_, ih⟩
  have := (cq_lt h k' hk' k hm).2; omega
theorem cq_closed (h : Dn n nx rk) : ∀ k, k < n → ∀ x x' : Nat, x ∈ cq nx rk k → nx x = x' → x' ∈ cq nx rk k := by
 refine cq_ind h (fun k hk e x x' hx hx' => ?_) (fun k k' hk hk' e hr ih x x' hx hx' => ?_)
 ·rw [cq_last h hk e] at hx; simp at hx; subst hx; omega
 ·rw [cq_next h hk e] at hx ⊢
  rcases List.mem_cons.1 hx with rfl | hx
  ·have : x' = k' := by omega
   subst this
   exact List.mem_cons_of_mem _ (cq_self h hk')
  ·exact List.mem_cons_of_mem _ (ih x x' hx hx')
theorem cq_pred (h : Dn n nx rk) : ∀ k, k < n → ∀ x ∈ cq nx rk k, x = k ∨ ∃ y ∈ cq nx rk k, nx y = (x : Int) := by
 refine cq_ind h (fun k hk e x hx => ?_) (fun k k' hk hk' e hr ih x hx => ?_)
 ·rw [cq_last h hk e] at hx; simp at hx; exact .inl hx
 ·rw [cq_next h hk e] at hx ⊢
  rcases List.mem_cons.1 hx with rfl | hx
  ·exact .inl rfl
  ·rcases ih x hx with rfl | ⟨y, h1, h2⟩
   ·exact .inr ⟨k, List.mem_cons_self, e⟩
   ·exact .inr ⟨y, List.mem_cons_of_mem _ h1, h2⟩
def blk (n : Nat) (nx bf : Nat → Int) (rk : Nat → Nat) : List (List Nat) := ((List.range n).filter fun i => decide (bf i = -1)).map (cq nx rk)
theorem blk_has (hM : Mt n E nx bf) (h : Dn n nx rk) (R : Nat) (hR : ∀ k, k < n → rk k ≤ R) : ∀ k, k < n → ∃ s, s < n ∧ bf s = -1 ∧ k ∈ cq nx rk s := by
 intro k
 induction hr : R - rk k using Nat.strongRecOn generalizing k with
 | ind r ih =>
  intro hk
  by_cases e : bf k = -1
  ·exact ⟨k, hk, e, cq_self h hk⟩
  ·obtain ⟨i, h1, h2, h3, h4⟩ := hM.b1 k hk e
   obtain ⟨k', h5, h6, h7⟩ := h.dn i h1 (by omega)
   have : k' = k := by omega
   subst this
   have := hR i h1
   obtain ⟨s, g1, g2, g3⟩ := ih (R - rk i) (by omega) i rfl h1
   exact ⟨s, g1, g2, cq_closed h s g1 i k' g3 h4⟩
theorem blk_disj (hM : Mt n E nx bf) (h : Dn n nx rk) (R : Nat) (hR : ∀ k, k < n → rk k ≤ R) {s s' : Nat} (hs : s < n) (hs' : s' < n) (b : bf s = -1) (b' : bf s' = -1) : ∀ x, x ∈ cq nx rk s → x ∈ cq nx rk s' → s = s' := by
 intro x
 induction hr : R - rk x using Nat.strongRecOn generalizing x with
 | ind r ih =>
  intro hx hx'
  have hn : ∀ (y z : Nat), y < n → nx y = (z : Int) → bf z = y := by
   intro y z hy hyz
   obtain ⟨k, h1, h2, h3⟩ := hM.n1 y hy (by omega)
   have : k = z := by omega
   subst this; exact h3
  rcases cq_pred h s hs x hx with rfl | ⟨y, h1, h2⟩
  ·rcases cq_pred h s' hs' x hx' with rfl | ⟨y', h3, h4⟩
   ·rfl
   ·have := hn y' x (cq_lt h s' hs' y' h3).1 h4; omega
  ·rcases cq_pred h s' hs' x hx' with rfl | ⟨y', h3, h4⟩
   ·have := hn y x (cq_lt h s hs y h1).1 h2; omega
   ·have e1 := hn y x (cq_lt h s hs y h1).1 h2
    have e2 := hn y' x (cq_lt h s' hs' y' h3).1 h4
    have : y = y' := by omega
    subst this
    have hy := (cq_lt h s hs y h1).1
    obtain ⟨k', g1, g2, g3⟩ := h.dn y hy (by omega)
    have : k' = x := by omega
    subst this
    have := hR y hy
    exact ih (R - rk y) (by omega) y rfl h1 h3
theorem nodup_flat {L : List (List Nat)} (h1 : ∀ l ∈ L, l.Nodup) (h2 : L.Pairwise fun a b => ∀ x, x ∈ a → ¬ x ∈ b) : L.flatten.Nodup := by
 induction L with
 | nil => simp
 | cons a L ih =>
  rw [List.flatten_cons]
  rw [List.pairwise_cons] at h2
  refine List.nodup_append.2 ⟨h1 a List.mem_cons_self, ih (fun l hl => h1 l (List.mem_cons_of_mem _ hl)) h2.2, ?_⟩
  intro x hx y hy e
  subst e
  obtain ⟨l, hl, hxl⟩ := List.mem_flatten.1 hy
  exact h2.1 l hl x hx hxl
theorem blk_nodup (hM : Mt n E nx bf) (h : Dn n nx rk) (R : Nat) (hR : ∀ k, k < n → rk k ≤ R) : (blk n nx bf rk).flatten.Nodup := by
 refine nodup_flat (fun l hl => ?_) ?_
 ·obtain ⟨s, hs, rfl⟩ := List.mem_map.1 hl
  have := List.mem_filter.1 hs
  exact cq_nodup h s (by simpa using this.1)
 ·unfold blk
  rw [List.pairwise_map]
  have hnd : ((List.range n).filter fun i => decide (bf i = -1)).Nodup := (List.nodup_range).filter _
  refine List.Pairwise.imp_of_mem ?_ hnd
  intro a b ha hb hab x hx hx'
  have ha := List.mem_filter.1 ha; have hb := List.mem_filter.1 hb
  simp at ha hb
  exact hab (blk_disj hM h R hR ha.1 hb.1 ha.2 hb.2 x hx hx')
theorem nodup_len {l : List Nat} (h : l.Nodup) (h1 : ∀ x ∈ l, x < n) (h2 : ∀ x, x < n → x ∈ l) : l.length = n := by
 have e : l.length = (List.range n).length := List.Perm.length_eq ((List.perm_ext_iff_of_nodup h List.nodup_range).2 fun x => ⟨fun hx => by simpa using h1 x hx, fun hx => h2 x (by simpa using hx)⟩)
 simpa using e
theorem blk_len (hM : Mt n E nx bf) (h : Dn n nx rk) (R : Nat) (hR : ∀ k, k < n → rk k ≤ R) : (blk n nx bf rk).flatten.length = n := by
 refine nodup_len (blk_nodup hM h R hR) (fun x hx => ?_) (fun x hx => ?_)
 ·obtain ⟨l, hl, hxl⟩ := List.mem_flatten.1 hx
  obtain ⟨s, hs, rfl⟩ := List.mem_map.1 hl
  have := List.mem_filter.1 hs
  exact (cq_lt h s (by simpa using this.1) x hxl).1
 ·obtain ⟨s, h1, h2, h3⟩ := blk_has hM h R hR x hx
  exact List.mem_flatten.2 ⟨_, List.mem_map.2 ⟨s, List.mem_filter.2 ⟨by simpa using h1, by simpa using h2⟩, rfl⟩, h3⟩
theorem cntN_filter {P : Nat → Bool} : ∀ {n : Nat}, ((List.range n).filter P).length = cntN n P
 | 0 => rfl
 | n + 1 => by
  rw [List.range_succ, List.filter_append, List.length_append, cntN_filter]
  show _ = cntN n P + (P n).toNat
  cases h : P n <;> simp [h, List.filter]
theorem blk_cnt : (blk n nx bf rk).length = n - cntN n (hasB bf) := by
 unfold blk
 rw [List.length_map, cntN_filter]
 have := cntN_not (n := n) (P := hasB bf)
 have e : cntN n (fun k => !hasB bf k) = cntN n (fun i => decide (bf i = -1)) := cntN_congr fun k _ => by unfold hasB; simp
 omega
end
end Go.Proofs.Ytmdopblmkkameaa
