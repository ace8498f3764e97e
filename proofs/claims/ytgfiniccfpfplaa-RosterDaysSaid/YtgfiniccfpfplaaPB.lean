
import Derived.Test.YtgfiniccfpfplaaPA
namespace Go.Proofs.Ytgfiniccfpfplaa
structure Bch where
 kind : Nat
 drv : Nat
 dut : Nat
 deriving DecidableEq, Inhabited
def Bch.lt (a b : Bch) : Prop := a.drv < b.drv ∨ a.drv = b.drv ∧ (a.kind < b.kind ∨ a.kind = b.kind ∧ a.dut < b.dut)
structure Days (w : Wk) (n : Nat) : Prop where
 M : w.M = (n : Int)
 duty : ∀ i, i < w.N.length → 0 ≤ (dty w i).day ∧ (dty w i).day < (n : Int)
structure Ros (w : Wk) (ros : Nat → Int) : Prop where
 ros : ∀ i, i < w.N.length → -1 ≤ ros i ∧ ros i < (w.L.length : Int)
section
variable (w : Wk) (ros tru : Nat → Int)
def zJI (D i : Nat) : List Bch :=
 if ros i = -1 then [] else (List.range 5).filterMap fun q => if holds w q (drv w (ros i).toNat) (dty w i) (xD w ros tru (ros i).toNat D i) then none else some ⟨q, (ros i).toNat, i⟩
def zBW (D j : Nat) : List Bch := (List.range j).flatMap fun i => if (dty w i).day = (D : Int) then zJI w ros tru D i else []
def zAU (D : Nat) : List Bch := (List.range D).flatMap fun d => zBW w ros tru d w.N.length
def zDE (n k : Nat) : List Bch := (List.range k).filterMap fun k => if w.j < (xI w ros tru k n).used then some ⟨5, k, 0⟩ else none
def yIG (n : Nat) : List Bch := zAU w ros tru n ++ zDE w ros tru n w.L.length
def yKA (k q j : Nat) : List Bch := (List.range j).filterMap fun i => if xV w ros tru q k i then some ⟨q, k, i⟩ else none
def zWF (k q : Nat) : List Bch := (List.range q).flatMap fun q => yKA w ros tru k q w.N.length
def yJZ (k : Nat) : List Bch := if xV w ros tru 5 k 0 then [⟨5, k, 0⟩] else []
def zAR (k : Nat) : List Bch := (List.range k).flatMap fun k => zWF w ros tru k 5 ++ yJZ w ros tru k
end
section
variable {w : Wk} {ros tru : Nat → Int}
theorem zII {D i : Nat} {b : Bch} : b ∈ zJI w ros tru D i ↔ ros i ≠ -1 ∧ b.kind < 5 ∧ b.dut = i ∧ b.drv = (ros i).toNat ∧ holds w b.kind (drv w b.drv) (dty w i) (xD w ros tru b.drv D i) = false := by
 unfold zJI
 split
 ·simp_all
 ·rename_i h
  simp only [List.mem_filterMap, List.mem_range]
  constructor
  ·rintro ⟨q, hq, h2⟩
   split at h2
   ·cases h2
   ·rename_i h3
    cases h2
    exact ⟨h, hq, rfl, rfl, by simpa using h3⟩
  ·rintro ⟨_, hk, h2, h3, h4⟩
   refine ⟨b.kind, hk, ?_⟩
   rw [← h3, h4]
   obtain ⟨q, k, j⟩ := b
   simp only at h2 h3 h4 ⊢
   subst h2
   rfl
theorem yNI {D j : Nat} : zBW w ros tru D (j + 1) = zBW w ros tru D j ++ (if (dty w j).day = (D : Int) then zJI w ros tru D j else []) := by
 unfold zBW
 rw [List.range_succ, List.flatMap_append]
 simp
theorem yZR {D : Nat} : zAU w ros tru (D + 1) = zAU w ros tru D ++ zBW w ros tru D w.N.length := by
 unfold zAU
 rw [List.range_succ, List.flatMap_append]
 simp
theorem xEY {n k : Nat} : zDE w ros tru n (k + 1) = zDE w ros tru n k ++ (if w.j < (xI w ros tru k n).used then [⟨5, k, 0⟩] else []) := by
 unfold zDE
 rw [List.range_succ, List.filterMap_append]
 simp only [List.filterMap_cons, List.filterMap_nil]
 split <;> simp_all
theorem yZS {n : Nat} (hd : Days w n) (hr : Ros w ros) {b : Bch} : b ∈ zAU w ros tru n ↔ b.kind < 5 ∧ b.dut < w.N.length ∧ b.drv < w.L.length ∧ xV w ros tru b.kind b.drv b.dut = true := by
 unfold zAU zBW
 simp only [List.mem_flatMap, List.mem_range]
 constructor
 ·rintro ⟨D, hD, i, hi, h⟩
  split at h
  ·rename_i hday
   obtain ⟨h1, h2, h3, h4, h5⟩ := zII.1 h
   have hrr := hr.ros i hi
   have hk : ros i = (b.drv : Int) := by omega
   rw [zYU hi hk hday h2] at h5
   refine ⟨h2, by omega, by omega, ?_⟩
   rw [h3]; simpa using h5
  ·cases h
 ·rintro ⟨h1, h2, h3, h4⟩
  have hday := hd.duty b.dut h2
  have hk : ros b.dut = (b.drv : Int) := by
   unfold xV at h4
   rw [if_neg (by omega)] at h4
   simp only [Bool.and_eq_true, decide_eq_true_eq] at h4
   exact h4.1
  refine ⟨(dty w b.dut).day.toNat, by omega, b.dut, h2, ?_⟩
  have e : (dty w b.dut).day = ((dty w b.dut).day.toNat : Int) := by omega
  rw [if_pos e]
  refine zII.2 ⟨by omega, h1, rfl, by omega, ?_⟩
  rw [zYU h2 hk e h1, h4]; rfl
theorem yXJ {n k : Nat} (hd : Days w n) : (xI w ros tru k n).used = (drv w k).used + (((List.range w.N.length).filter fun i => decide (ros i = (k : Int))).map fun i => tru i - (dty w i).on).sum := by
 have key : ∀ D : Nat, (xI w ros tru k D).used = (drv w k).used + (((List.range w.N.length).filter fun i => decide (ros i = (k : Int)) && decide ((dty w i).day < (D : Int))).map fun i => tru i - (dty w i).on).sum := by
  intro D
  induction D with
  | zero =>
   have : (List.range w.N.length).filter (fun i => decide (ros i = (k : Int)) && decide ((dty w i).day < ((0 : Nat) : Int))) = [] := by
    apply List.filter_eq_nil_iff.2
    intro i hi
    have := hd.duty i (List.mem_range.1 hi)
    simp; omega
   rw [this]; simp [xI, before]
  | succ D ih =>
   have e : (xI w ros tru k (D + 1)).used = (xI w ros tru k D).used + ((onL w ros k D w.N.length).map fun i => tru i - (dty w i).on).sum := by
    show ((onL w ros k D w.N.length).foldl (zBM w tru) (xI w ros tru k D)).used = _
    exact zWP
   rw [e, ih, Int.add_assoc]
   congr 1
   unfold onL
   generalize List.range w.N.length = L
   induction L with
   | nil => rfl
   | cons i L ihL =>
    simp only [List.filter_cons, his]
    by_cases h1 : ros i = (k : Int)
    ·by_cases h2 : (dty w i).day < (D : Int)
     ·have h3 : (dty w i).day < ((D + 1 : Nat) : Int) := by omega
      have h4 : ¬ (dty w i).day = (D : Int) := by omega
      simp only [h1, h2, h3, h4, decide_true, decide_false, Bool.and_true, Bool.true_and, if_true, List.map_cons, List.sum_cons, Bool.false_eq_true, if_false]
      omega
     ·by_cases h4 : (dty w i).day = (D : Int)
      ·have h3 : (dty w i).day < ((D + 1 : Nat) : Int) := by omega
       simp only [h1, h2, h3, h4, decide_true, decide_false, Bool.and_true, Bool.true_and, if_true, List.map_cons, List.sum_cons, Bool.false_eq_true, if_false]
       have h5 : (D : Int) < ((D + 1 : Nat) : Int) := by omega
       simp only [h5, decide_true, if_true, List.map_cons, List.sum_cons, Int.lt_irrefl, decide_false, Bool.false_eq_true, if_false]
       omega
      ·have h3 : ¬ (dty w i).day < ((D + 1 : Nat) : Int) := by omega
       simp only [h1, h2, h3, h4, decide_true, decide_false, Bool.and_true, Bool.true_and, if_true, List.map_cons, List.sum_cons, Bool.false_eq_true, if_false]
       simpa only [his] using ihL
    ·simp only [h1, decide_false, Bool.false_and, Bool.false_eq_true, if_false]
     simpa only [his] using ihL
 rw [key n]
 congr 3
 apply List.filter_congr
 intro i hi
 have := hd.duty i (List.mem_range.1 hi)
 simp [this.2]
theorem yUM {n k : Nat} (hd : Days w n) {b : Bch} : b ∈ zDE w ros tru n k ↔ b.kind = 5 ∧ b.dut = 0 ∧ b.drv < k ∧ xV w ros tru 5 b.drv 0 = true := by
 unfold zDE
 simp only [List.mem_filterMap, List.mem_range]
 have hb : ∀ k, xV w ros tru 5 k 0 = decide (w.j < (xI w ros tru k n).used) := by
  intro k
  rw [yXJ hd]
  unfold xV
  rw [if_pos rfl]
 constructor
 ·rintro ⟨j, hj, h⟩
  split at h
  ·rename_i h2
   cases h
   refine ⟨rfl, rfl, hj, ?_⟩
   rw [hb]; exact decide_eq_true h2
  ·cases h
 ·rintro ⟨h1, h2, h3, h4⟩
  rw [hb] at h4
  refine ⟨b.drv, h3, ?_⟩
  rw [if_pos (of_decide_eq_true h4)]
  obtain ⟨q, k, j⟩ := b
  simp only at h1 h2
  subst h1 h2
  rfl
theorem yIF {n : Nat} (hd : Days w n) (hr : Ros w ros) {b : Bch} : b ∈ yIG w ros tru n ↔ (b.kind < 5 ∧ b.dut < w.N.length ∨ b.kind = 5 ∧ b.dut = 0) ∧ b.drv < w.L.length ∧ xV w ros tru b.kind b.drv b.dut = true := by
 unfold yIG
 rw [List.mem_append, yZS hd hr, yUM hd]
 constructor
 ·rintro (⟨h1, h2, h3, h4⟩ | ⟨h1, h2, h3, h4⟩)
  ·exact ⟨.inl ⟨h1, h2⟩, h3, h4⟩
  ·exact ⟨.inr ⟨h1, h2⟩, h3, by rw [h1, h2]; exact h4⟩
 ·rintro ⟨⟨h1, h2⟩ | ⟨h1, h2⟩, h3, h4⟩
  ·exact .inl ⟨h1, h2, h3, h4⟩
  ·exact .inr ⟨h1, h2, h3, by rw [h1, h2] at h4; exact h4⟩
theorem zLJ {k q j : Nat} {b : Bch} : b ∈ yKA w ros tru k q j ↔ b.kind = q ∧ b.drv = k ∧ b.dut < j ∧ xV w ros tru q k b.dut = true := by
 unfold yKA
 simp only [List.mem_filterMap, List.mem_range]
 constructor
 ·rintro ⟨i, hi, h⟩
  split at h
  ·cases h; exact ⟨rfl, rfl, hi, by assumption⟩
  ·cases h
 ·rintro ⟨h1, h2, h3, h4⟩
  refine ⟨b.dut, h3, ?_⟩
  rw [if_pos h4, ← h1, ← h2]
theorem zFW {k : Nat} {b : Bch} : b ∈ yJZ w ros tru k ↔ b.kind = 5 ∧ b.drv = k ∧ b.dut = 0 ∧ xV w ros tru 5 k 0 = true := by
 unfold yJZ
 split
 ·obtain ⟨q, j, i⟩ := b
  simp_all
 ·simp_all
theorem zFX {k q : Nat} {b : Bch} : b ∈ zWF w ros tru k q ↔ b.kind < q ∧ b.drv = k ∧ b.dut < w.N.length ∧ xV w ros tru b.kind k b.dut = true := by
 unfold zWF
 simp only [List.mem_flatMap, List.mem_range]
 constructor
 ·rintro ⟨p, hp, h⟩
  obtain ⟨h1, h2, h3, h4⟩ := zLJ.1 h
  exact ⟨by omega, h2, h3, by rw [h1]; exact h4⟩
 ·rintro ⟨h1, h2, h3, h4⟩
  exact ⟨b.kind, h1, zLJ.2 ⟨rfl, h2, h3, h4⟩⟩
theorem zLK {k : Nat} {b : Bch} : b ∈ zAR w ros tru k ↔ (b.kind < 5 ∧ b.dut < w.N.length ∨ b.kind = 5 ∧ b.dut = 0) ∧ b.drv < k ∧ xV w ros tru b.kind b.drv b.dut = true := by
 unfold zAR
 simp only [List.mem_flatMap, List.mem_range, List.mem_append]
 constructor
 ·rintro ⟨j, hj, h | h⟩
  ·obtain ⟨h1, h2, h3, h4⟩ := zFX.1 h
   exact ⟨.inl ⟨h1, h3⟩, by omega, by rw [h2]; exact h4⟩
  ·obtain ⟨h1, h2, h3, h4⟩ := zFW.1 h
   exact ⟨.inr ⟨h1, h3⟩, by omega, by rw [h1, h2, h3]; exact h4⟩
 ·rintro ⟨⟨h1, h2⟩ | ⟨h1, h2⟩, h3, h4⟩
  ·exact ⟨b.drv, h3, .inl (zFX.2 ⟨h1, rfl, h2, h4⟩)⟩
  ·exact ⟨b.drv, h3, .inr (zFW.2 ⟨h1, rfl, h2, by rw [h1, h2] at h4; exact h4⟩)⟩
theorem yAK {k : Nat} : (zAR w ros tru k).Pairwise Bch.lt := by
 unfold zAR
 rw [List.pairwise_flatMap]
 constructor
 ·intro j _
  rw [List.pairwise_append]
  refine ⟨?_, ?_, ?_⟩
  ·unfold zWF
   rw [List.pairwise_flatMap]
   constructor
   ·intro q _
    unfold yKA
    rw [List.pairwise_filterMap]
    refine List.pairwise_lt_range.imp ?_
    intro a c h x hx y hy
    split at hx <;> cases hx
    split at hy <;> cases hy
    exact .inr ⟨rfl, .inr ⟨rfl, h⟩⟩
   ·refine List.pairwise_lt_range.imp ?_
    intro a c h x hx y hy
    obtain ⟨h1, h2, _⟩ := zLJ.1 hx
    obtain ⟨h3, h4, _⟩ := zLJ.1 hy
    exact .inr ⟨by omega, .inl (by omega)⟩
  ·unfold yJZ
   split
   ·exact List.pairwise_singleton _ _
   ·exact List.Pairwise.nil
  ·intro x hx y hy
   obtain ⟨h1, h2, _⟩ := zFX.1 hx
   obtain ⟨h3, h4, _⟩ := zFW.1 hy
   exact .inr ⟨by omega, .inl (by omega)⟩
 ·refine List.pairwise_lt_range.imp ?_
  intro a c h x hx y hy
  have h1 : x.drv = a := by
   rcases List.mem_append.1 hx with h | h
   ·exact (zFX.1 h).2.1
   ·exact (zFW.1 h).2.1
  have h2 : y.drv = c := by
   rcases List.mem_append.1 hy with h | h
   ·exact (zFX.1 h).2.1
   ·exact (zFW.1 h).2.1
  exact .inl (by omega)
theorem Bch.lt_irrefl (a : Bch) : ¬ a.lt a := by unfold Bch.lt; omega
theorem Bch.eq_of {a b : Bch} (h : ¬ a.lt b) (h2 : ¬ b.lt a) : a = b := by
 unfold Bch.lt at h h2
 obtain ⟨q, k, j⟩ := a
 obtain ⟨q', k', j'⟩ := b
 simp only at h h2
 have : k = k' := by omega
 subst this
 have : q = q' := by omega
 subst this
 have : j = j' := by omega
 subst this
 rfl
theorem yOR {n : Nat} : (yIG w ros tru n).Nodup := by
 unfold yIG
 show List.Pairwise (· ≠ ·) _
 rw [List.pairwise_append]
 refine ⟨?_, ?_, ?_⟩
 ·unfold zAU zBW
  rw [List.pairwise_flatMap]
  have hm : ∀ {D i : Nat} {x : Bch}, x ∈ (if (dty w i).day = (D : Int) then zJI w ros tru D i else []) → (dty w i).day = (D : Int) ∧ x.dut = i := by
   intro D i x hx
   split at hx
   ·exact ⟨by assumption, (zII.1 hx).2.2.1⟩
   ·cases hx
  constructor
  ·intro D _
   rw [List.pairwise_flatMap]
   constructor
   ·intro i _
    split
    ·unfold zJI
     split
     ·exact List.Pairwise.nil
     ·rw [List.pairwise_filterMap]
      refine List.pairwise_lt_range.imp ?_
      intro a c h x hx y hy
      split at hx <;> cases hx
      split at hy <;> cases hy
      intro e
      injection e with e1 _ _
      omega
    ·exact List.Pairwise.nil
   ·refine List.pairwise_lt_range.imp ?_
    intro a c h x hx y hy e
    have := (hm hx).2; have := (hm hy).2
    subst e; omega
  ·refine List.pairwise_lt_range.imp ?_
   intro a c h x hx y hy e
   obtain ⟨i, _, hi⟩ := List.mem_flatMap.1 hx
   obtain ⟨j, _, hj⟩ := List.mem_flatMap.1 hy
   obtain ⟨h1, h2⟩ := hm hi
   obtain ⟨h3, h4⟩ := hm hj
   subst e
   rw [← h2] at h1; rw [← h4] at h3
   omega
 ·unfold zDE
  rw [List.pairwise_filterMap]
  refine List.pairwise_lt_range.imp ?_
  intro a c h x hx y hy
  split at hx <;> cases hx
  split at hy <;> cases hy
  intro e
  injection e with _ e2 _
  omega
 ·intro x hx y hy e
  subst e
  unfold zAU zBW at hx
  obtain ⟨D, _, hx⟩ := List.mem_flatMap.1 hx
  obtain ⟨i, _, hx⟩ := List.mem_flatMap.1 hx
  split at hx
  ·have := (zII.1 hx).2.1
   unfold zDE at hy
   obtain ⟨k, _, hy⟩ := List.mem_filterMap.1 hy
   split at hy <;> cases hy
   simp only at this; omega
  ·cases hx
theorem yRY {n : Nat} (hd : Days w n) (hr : Ros w ros) {l : List Bch} (hp : l.Perm (yIG w ros tru n)) (hs : l.Pairwise fun a b => ¬ b.lt a) : l = zAR w ros tru w.L.length := by
 have hn : (zAR w ros tru w.L.length).Nodup := yAK.imp fun h e => by subst e; exact Bch.lt_irrefl _ h
 have hp2 : l.Perm (zAR w ros tru w.L.length) := by
  refine hp.trans ?_
  rw [List.perm_ext_iff_of_nodup yOR hn]
  intro b
  rw [yIF hd hr, zLK]
 refine List.Perm.eq_of_pairwise (le := fun a b => ¬ b.lt a) ?_ hs (yAK.imp ?_) hp2
 ·intro a b _ _ h1 h2
  exact Bch.eq_of h2 h1
 ·intro a b h h2
  unfold Bch.lt at h h2
  omega
end
end Go.Proofs.Ytgfiniccfpfplaa
