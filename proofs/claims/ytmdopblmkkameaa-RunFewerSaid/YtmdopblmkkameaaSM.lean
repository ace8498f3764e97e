
import Derived.Test.YtmdopblmkkameaaRP
import Derived.Test.YtmdopblmkkameaaSA
namespace Go.Proofs.Ytmdopblmkkameaa
set_option linter.unusedVariables false
set_option linter.unusedSimpArgs false
theorem cntN_one {x : Int} : ∀ {n : Nat}, cntN n (fun i => decide ((i : Int) = x)) ≤ 1
 | 0 => Nat.zero_le _
 | n + 1 => by
  by_cases e : (n : Int) = x
  ·rw [cntN, cntN_zero (fun k hk => decide_eq_false (by omega)), decide_eq_true e]; decide
  ·rw [cntN, decide_eq_false e]; exact cntN_one
theorem cntN_mem {n : Nat} : ∀ (l : List Int), cntN n (fun i => decide ((i : Int) ∈ l)) ≤ l.length
 | [] => by rw [cntN_zero (fun k _ => by simp)]; exact Nat.zero_le _
 | x :: l => by
  rw [cntN_split (Q := fun i => decide ((i : Int) = x))]
  have h1 : cntN n (fun i => decide ((i : Int) ∈ x :: l) && decide ((i : Int) = x)) ≤ 1 := Nat.le_trans (cntN_le fun k _ hp => (Bool.and_eq_true_iff.1 hp).2) cntN_one
  have h2 : cntN n (fun i => decide ((i : Int) ∈ x :: l) && !decide ((i : Int) = x)) ≤ cntN n (fun i => decide ((i : Int) ∈ l)) := cntN_le fun k _ hp => by
   simp only [Bool.and_eq_true, decide_eq_true_eq, Bool.not_eq_true', decide_eq_false_iff_not, List.mem_cons] at hp ⊢
   exact hp.1.resolve_left hp.2
  have h3 := cntN_mem (n := n) l
  rw [List.length_cons]; omega
theorem len_cntN {n : Nat} : ∀ (l : List Int) (A : Nat → Bool), l.Nodup → (∀ x ∈ l, ∃ k : Nat, x = k ∧ k < n ∧ A k = true) → l.length ≤ cntN n A
 | [], _, _, _ => Nat.zero_le _
 | x :: l, A, h, k => by
  obtain ⟨j, rfl, hj, hA⟩ := k x List.mem_cons_self
  rw [cntN_erase hj hA, List.length_cons]
  have := len_cntN l (fun i => A i && !Nat.beq i j) (List.nodup_cons.1 h).2 (fun y hy => by
   obtain ⟨i, rfl, hi, hB⟩ := k y (List.mem_cons_of_mem _ hy)
   refine ⟨i, rfl, hi, ?_⟩
   have hne : i ≠ j := by rintro rfl; exact (List.nodup_cons.1 h).1 hy
   have : Nat.beq i j = false := by rw [Bool.eq_false_iff]; intro e; exact hne (Nat.eq_of_beq_eq_true e)
   simp [hB, this])
  omega
section
variable {t : Tab} {n m : Nat}
theorem cov_max {a b : List Int} (hn : t.nt = n) (h : covB t a b = true) (hm : IsMax n (EdS t fun _ => true) m) : m ≤ a.length + b.length := by
 obtain ⟨nx, bf, h1, rfl⟩ := hm.at_
 unfold covB at h
 simp only [Bool.and_eq_true] at h
 have hc := h.2
 refine Nat.le_trans (h1.cover (A := fun i => decide ((i : Int) ∈ a)) (B := fun k => decide ((k : Int) ∈ b)) fun i k hi hk he => ?_) (Nat.add_le_add (cntN_mem a) (cntN_mem b))
 have h3 := List.all_eq_true.1 hc i (by rw [hn]; simpa using hi)
 have h4 := List.all_eq_true.1 h3 k (by rw [hn]; simpa using hk)
 unfold pairC at h4
 rw [he.1] at h4
 simpa using h4
def cA (A : Nat → Bool) (l : List Int) : Nat := (l.filter fun x => A x.toNat).length
theorem cA_cons {A : Nat → Bool} {x : Int} {l : List Int} : cA A (x :: l) = (A x.toNat).toNat + cA A l := by
 unfold cA
 rw [List.filter_cons]
 cases A x.toNat with
 | true => simp; omega
 | false => simp
theorem cA_append {A : Nat → Bool} {l k : List Int} : cA A (l ++ k) = cA A l + cA A k := by unfold cA; rw [List.filter_append, List.length_append]
variable {A B : Nat → Bool}
def InR (n : Nat) (D : List Int) : Prop := D.Nodup ∧ ∀ x ∈ D, 0 ≤ x ∧ x < (n : Int)
theorem InR.snoc {D : List Int} {x : Int} (h : InR n D) (hn : ¬ x ∈ D) (h1 : 0 ≤ x) (h2 : x < (n : Int)) : InR n (D ++ [x]) :=
 ⟨List.nodup_append.2 ⟨h.1, by simp, fun a ha b hb e => by rw [List.mem_singleton] at hb; subst hb; subst e; exact hn ha⟩, fun y hy => by
  rcases List.mem_append.1 hy with hy | hy
  ·exact h.2 y hy
  ·rw [List.mem_singleton] at hy; subst hy; exact ⟨h1, h2⟩⟩
theorem blkS_some (hn : t.nt = n) (hc : ∀ i k, mayI t i k = true → A i = true ∨ B k = true) : ∀ (b D : List Int) (y : Int) (D' : List Int), InR n D → blkS t D (some y) b = some D' → D' = D ++ b ∧ InR n D' ∧ b.length ≤ cA A (y :: b) + cA B b
 | [], D, y, D', hD, h => by
  simp [blkS] at h; subst h
  exact ⟨by simp, hD, Nat.zero_le _⟩
 | x :: xs, D, y, D', hD, h => by
  unfold blkS at h
  by_cases hx : inB x 0 ((t.nt : Int) - 1) = true ∧ ¬ x ∈ D ∧ mayP t (some y) x = true
  rotate_left
  ·rw [if_neg hx] at h; cases h
  rw [if_pos hx] at h
  obtain ⟨h1, h2, h3⟩ := hx
  have hb := inB_iff.1 h1
  obtain ⟨e1, e2, e3⟩ := blkS_some hn hc xs (D ++ [x]) x D' (hD.snoc h2 hb.1 (by omega)) h
  refine ⟨by rw [e1]; simp, e2, ?_⟩
  have h4 := hc y.toNat x.toNat h3
  rw [cA_cons (A := A) (l := x :: xs), cA_cons (A := B), List.length_cons]
  rcases h4 with h4 | h4
  ·rw [h4]; simp; omega
  ·rw [h4]; simp; omega
theorem blkS_none (hn : t.nt = n) (hc : ∀ i k, mayI t i k = true → A i = true ∨ B k = true) {b D D' : List Int} (hD : InR n D) (h : blkS t D none b = some D') : D' = D ++ b ∧ InR n D' ∧ b.length ≤ 1 + cA A b + cA B b := by
 cases b with
 | nil =>
  simp [blkS] at h; subst h
  exact ⟨by simp, hD, Nat.zero_le _⟩
 | cons x xs =>
  unfold blkS at h
  by_cases hx : inB x 0 ((t.nt : Int) - 1) = true ∧ ¬ x ∈ D ∧ mayP t none x = true
  rotate_left
  ·rw [if_neg hx] at h; cases h
  rw [if_pos hx] at h
  obtain ⟨h1, h2, h3⟩ := hx
  have hb := inB_iff.1 h1
  obtain ⟨e1, e2, e3⟩ := blkS_some hn hc xs (D ++ [x]) x D' (hD.snoc h2 hb.1 (by omega)) h
  refine ⟨by rw [e1]; simp, e2, ?_⟩
  rw [cA_cons (A := B), List.length_cons]; omega
theorem cutS_cov (hn : t.nt = n) (hc : ∀ i k, mayI t i k = true → A i = true ∨ B k = true) : ∀ (bs : List (List Int)) (D D' : List Int), InR n D → cutS t D bs = some D' → InR n D' ∧ D'.length + cA A D + cA B D ≤ D.length + bs.length + cA A D' + cA B D'
 | [], D, D', hD, h => by
  simp [cutS] at h; subst h
  exact ⟨hD, by simp⟩
 | b :: bs, D, D', hD, h => by
  unfold cutS at h
  by_cases hb : b = []
  ·rw [if_pos hb] at h; cases h
  rw [if_neg hb] at h
  cases h1 : blkS t D none b with
  | none => rw [h1] at h; cases h
  | some D1 =>
   rw [h1] at h
   obtain ⟨e1, e2, e3⟩ := blkS_none hn hc hD h1
   obtain ⟨g1, g2⟩ := cutS_cov hn hc bs D1 D' e2 h
   refine ⟨g1, ?_⟩
   rw [e1, List.length_append, cA_append, cA_append] at g2
   rw [List.length_cons]; omega
theorem cA_le {D : List Int} (hD : InR n D) : cA A D ≤ cntN n A := by
 refine len_cntN _ A (hD.1.filter _) fun x hx => ?_
 obtain ⟨h1, h2⟩ := List.mem_filter.1 hx
 obtain ⟨h3, h4⟩ := hD.2 x h1
 exact ⟨x.toNat, by omega, by omega, h2⟩
theorem cut_min {nx bf : Nat → Int} {bs : List (List Int)} (hn : t.nt = n) (h : cutB t bs = true) (Bm : BestTo n (EdS t fun _ => true) (fun _ => true) n nx bf) : n - cntN n (hasB bf) ≤ bs.length := by
 obtain ⟨A, B, h1, h2⟩ := Bm.cover (fun _ _ _ _ _ => rfl)
 unfold cutB at h
 cases hc : cutS t [] bs with
 | none => rw [hc] at h; cases h
 | some D =>
  rw [hc] at h
  have hl : D.length = t.nt := of_decide_eq_true h
  obtain ⟨g1, g2⟩ := cutS_cov (A := A) (B := B) hn (fun i k hm => by
   have := mayI_lt hm
   exact h1 i k (by omega) (by omega) ⟨hm, rfl, rfl⟩) bs [] D ⟨by simp, by simp⟩ hc
  have a1 := cA_le (A := A) g1
  have a2 := cA_le (A := B) g1
  simp only [List.length_nil] at g2
  omega
end
end Go.Proofs.Ytmdopblmkkameaa
