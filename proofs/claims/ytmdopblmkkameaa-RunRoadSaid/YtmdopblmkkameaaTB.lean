
import Derived.Test.YtmdopblmkkameaaTA
namespace Go.Proofs.Ytmdopblmkkameaa
open Go Go.Lay
set_option linter.unusedVariables false
set_option linter.unusedSimpArgs false
set_option maxRecDepth 20000
def fitI (t : Tab) (ts : List Int) (i : Nat) : Bool := match t.trips[i]?, ts[i]? with | some x, some n => inB n x.least x.most | _, _ => true
def fitsB (t : Tab) (ts : List Int) : Bool := decide (ts.length = t.nt) && (List.range t.nt).all (fitI t ts)
def wt (t : Tab) (ts : List Int) (a b : Int) : Int := match t.trips[a.toNat]?, t.trips[b.toNat]? with | some x, some y => y.st - (x.st + ts.getD a.toNat 0 + t.layover + emp t x.to.toNat y.fr.toNat) | _, _ => 0
def wI (t : Tab) (ts r : List Int) (k : Nat) : List Int := (List.range k).map fun j => wt t ts (r.getD j 0) (r.getD (j + 1) 0)
theorem wI_len {t : Tab} {ts r : List Int} {k : Nat} : (wI t ts r k).length = k := by simp [wI]
theorem wI_step {t : Tab} {ts r : List Int} {k : Nat} : wI t ts r (k + 1) = wI t ts r k ++ [wt t ts (r.getD k 0) (r.getD (k + 1) 0)] := by unfold wI; rw [List.range_succ, List.map_append]; rfl
theorem getD_of {α : Type} {l : List α} {i : Nat} {x d : α} (h : l[i]? = some x) : l.getD i d = x := by rw [List.getD_eq_getElem?_getD, h]; rfl
theorem blkS_in {t : Tab} : ∀ (b D : List Int) (p : Option Int) (D' : List Int), blkS t D p b = some D' → ∀ x ∈ b, inB x 0 ((t.nt : Int) - 1) = true
 | [], _, _, _, _, x, hx => by cases hx
 | y :: ys, D, p, D', h, x, hx => by
  unfold blkS at h
  by_cases hy : inB y 0 ((t.nt : Int) - 1) = true ∧ ¬ y ∈ D ∧ mayP t p y = true
  ·rw [if_pos hy] at h
   rcases List.mem_cons.1 hx with rfl | hx
   ·exact hy.1
   ·exact blkS_in ys _ _ _ h x hx
  ·rw [if_neg hy] at h; cases h
theorem cutS_in {t : Tab} : ∀ (bs : List (List Int)) (D D' : List Int), cutS t D bs = some D' → ∀ b ∈ bs, b ≠ [] ∧ ∀ x ∈ b, inB x 0 ((t.nt : Int) - 1) = true
 | [], _, _, _, b, hb => by cases hb
 | c :: cs, D, D', h, b, hb => by
  unfold cutS at h
  by_cases hc : c = []
  ·rw [if_pos hc] at h; cases h
  rw [if_neg hc] at h
  cases h1 : blkS t D none c with
  | none => rw [h1] at h; cases h
  | some D1 =>
   rw [h1] at h
   rcases List.mem_cons.1 hb with rfl | hb
   ·exact ⟨hc, blkS_in _ _ _ _ h1⟩
   ·exact cutS_in cs _ _ h b hb
theorem cutB_in {t : Tab} {bs : List (List Int)} (h : cutB t bs = true) : ∀ b ∈ bs, b ≠ [] ∧ ∀ x ∈ b, 0 ≤ x ∧ x < (t.nt : Int) := by
 unfold cutB at h
 cases hc : cutS t [] bs with
 | none => rw [hc] at h; cases h
 | some D => exact fun b hb => ⟨(cutS_in bs _ _ hc b hb).1, fun x hx => by have := inB_iff.1 ((cutS_in bs _ _ hc b hb).2 x hx); omega⟩
theorem fits_at {t : Tab} {ts : List Int} (hv : Valid t) (h : fitsB t ts = true) : ts.length = t.nt ∧ ∀ (i : Nat) (n : Int), ts[i]? = some n → 0 ≤ n ∧ n ≤ 100000 := by
 unfold fitsB at h
 simp only [Bool.and_eq_true, decide_eq_true_eq] at h
 refine ⟨h.1, fun i n hn => ?_⟩
 have hi : i < t.nt := by have := (List.getElem?_eq_some_iff.1 hn).1; omega
 have h2 := List.all_eq_true.1 h.2 i (by simpa using hi)
 obtain ⟨x, hx⟩ : ∃ x, t.trips[i]? = some x := ⟨t.trips[i]'hi, by simp⟩
 unfold fitI at h2
 rw [hx, hn] at h2
 have := inB_iff.1 h2
 have := hv.trip hx
 omega
theorem wt_eq {t : Tab} {ts : List Int} {a b : Nat} {x y : Trip} {n : Int} (hx : t.trips[a]? = some x) (hy : t.trips[b]? = some y) (hn : ts[a]? = some n) : wt t ts (a : Int) (b : Int) = y.st - (x.st + n + t.layover + emp t x.to.toNat y.fr.toNat) := by
 unfold wt
 rw [Int.toNat_natCast, Int.toNat_natCast, hx, hy, getD_of hn]
section
variable {σ : St} {t : Tab} {pe pt : Option Addr} {le ce lt ct : Nat}
end
end Go.Proofs.Ytmdopblmkkameaa
