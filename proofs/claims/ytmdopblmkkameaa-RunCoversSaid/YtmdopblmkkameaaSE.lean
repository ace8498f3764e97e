
import Derived.Test.YtmdopblmkkameaaSA
import Derived.Test.YtmdopblmkkameaaSD
namespace Go.Proofs.Ytmdopblmkkameaa
open Go Go.Lay
set_option linter.unusedVariables false
set_option linter.unusedSimpArgs false
theorem risF_ok {n : Nat} : ∀ (l : List Nat), l.Pairwise (· < ·) → (∀ x ∈ l, x < n) → ∀ last : Int, -1 ≤ last → (∀ x ∈ l, last < (x : Int)) → zAD n last (vH l) = true
 | [], _, _, _, _, _ => rfl
 | x :: xs, hp, hn, last, h0, hl => by
  rw [List.pairwise_cons] at hp
  have hx := hn x List.mem_cons_self
  have hx2 := hl x List.mem_cons_self
  show (inB (x : Int) (last + 1) ((n : Int) - 1) && zAD n (x : Int) (vH xs)) = true
  rw [zAM.2 ⟨by omega, by omega⟩, risF_ok xs hp.2 (fun y hy => hn y (List.mem_cons_of_mem _ hy)) (x : Int) (by omega) (fun y hy => by have := hp.1 y hy; omega)]
  rfl
theorem risF_filter {n : Nat} {P : Nat → Bool} : zAD n (-1) (vH ((List.range n).filter P)) = true :=
 risF_ok _ (List.pairwise_lt_range.filter _) (fun x hx => by have := (List.mem_filter.1 hx).1; simpa using this) (-1) (by omega) (fun x hx => by omega)
theorem mem_natF {n k : Nat} {P : Nat → Bool} (hk : k < n) (h : P k = true) : (k : Int) ∈ vH ((List.range n).filter P) :=
 List.mem_map.2 ⟨k, List.mem_filter.2 ⟨by simpa using hk, h⟩, rfl⟩
section
variable {t : Tab} {nx bf : Nat → Int} {se ta : Nat → Bool}
theorem cover_is {n : Nat} (hn : t.nt = n) (wa : WAll n (EdS t fun _ => true) nx bf n se ta) : covB t (vH ((List.range n).filter fun i => !se i)) (vH ((List.range n).filter ta)) = true := by
 unfold covB
 rw [hn, risF_filter, risF_filter]
 refine List.all_eq_true.2 fun i hi => List.all_eq_true.2 fun k hk => ?_
 rw [hn] at hi hk
 have hi : i < n := by simpa using hi
 have hk : k < n := by simpa using hk
 unfold zFP
 cases hm : xL t i k with
 | false => rfl
 | true =>
  cases hs : se i with
  | false => rw [decide_eq_true (mem_natF (P := fun i => !se i) hi (by rw [hs]; rfl))]; simp
  | true => rw [decide_eq_true (mem_natF hk (wa.cl i hi hs k hk ⟨hm, rfl, rfl⟩))]; simp
theorem cover_len {n : Nat} (wa : WAll n (EdS t fun _ => true) nx bf n se ta) (B : BestTo n (EdS t fun _ => true) (fun _ => true) n nx bf) : (vH ((List.range n).filter fun i => !se i)).length + (vH ((List.range n).filter ta)).length = yZ n (uM bf) := by
 rw [zDT, zDT, zJO, zJO]
 refine wa.count B.mt ?_
 obtain ⟨L, T, hd, hL⟩ := B.dead
 exact ⟨L, T, hd, fun j hj hx => hL j hj hj rfl hx⟩
end
end Go.Proofs.Ytmdopblmkkameaa
