
import Derived.Test.YthcdddbghldmiaaPG
import Derived.Test.YthcdddbghldmiaaCW
import Derived.Test.YthcdddbghldmiaaDC
import Derived.Test.YthcdddbghldmiaaDA
import Derived.Test.YthcdddbghldmiaaXF
namespace Go.Lay
open Go
section
variable {P : Program} {σ τ : St}
theorem copy_new {st xt e n m k b : Nat} {q : Option Addr} {xs : List Value} (T : AppT P st xt e n) (o : Own σ b [] n) (hs : SlP σ n q m xs) (hroom : m ≤ 1073741824) (hc : xs.all cellB = true) :
  ∃ p' c' σ', appendA P st xt (.slice (some ⟨b, 0, none⟩) 0 0) (.slice q m k) σ = some (.slice p' m c', σ') ∧ ((m = 0 ∧ σ' = σ ∧ p' = some ⟨b, 0, none⟩) ∨ (0 < m ∧ p' = some ⟨σ.next, 0, none⟩ ∧ σ' = σ.row xs n)) := by
 obtain ⟨xd, hxd, hxi⟩ := T.src
 obtain ⟨ei, z, hei, hz, hby, hrz, hzl⟩ := T.info
 have hsrc : appSrc σ n z xd (.slice q m k) = some (m, xs) := by
  have : srcCells σ n (.slice q m k) = some (m, xs) := by
   cases q with
   | none =>
    obtain ⟨h1, h2⟩ := hs
    have h2 : m = 0 := h2
    subst h2
    have : xs = [] := List.eq_nil_of_length_eq_zero (by omega)
    subst this
    simp [srcCells]
   | some a =>
    have hrd := hs.2.rd
    rw [hs.1] at hrd
    simp [srcCells, hrd]
  unfold appSrc
  cases xd with
  | int _ => cases hxi
  | _ => simp only [this]
 have hcond : (roomy (0 + m) n ei.bytes && xs.all cellB && Nat.beq xs.length (m * n) && rigidB RD z && Nat.beq z.cells.toList.length n) = true := by
  unfold roomy
  rw [(ble_iff _ _).2 (by omega), (ble_iff _ _).2 T.le, (ble_iff _ _).2 hby, hc, hs.1, Nat.beq_refl, hrz, hzl]; rfl
 have hc0 : capLow 0 = 0 := by unfold capLow; have := inex_pos; rw [if_neg (by omega)]
 have hc1 : capExact 0 = true := (capExact_iff 0).2 inex_pos
 rcases Nat.eq_zero_or_pos m with h0 | h0
 ·subst h0
  have hx : xs = [] := List.eq_nil_of_length_eq_zero (by have := hs.1; omega)
  subst hx
  have hlc : Nat.ble (0 + 0) (capLow 0) = true := by rw [hc0]; rfl
  refine ⟨some ⟨b, 0, none⟩, 0, σ, ?_, .inl ⟨rfl, rfl, rfl⟩⟩
  unfold appendA
  simp only [T.el, hxd, hei, hz, hsrc, hcond, cond_true, appRows, hlc]
  simp
 ·have hble : Nat.ble (0 + m) 0 = false := by rw [Bool.eq_false_iff]; intro e; have := (ble_iff _ _).1 e; omega
  have hrd := o.rw.rd
  have hrd : readRow σ ⟨b, 0, none⟩ (0 * n) = some [] := by rw [Nat.zero_mul]; exact hrd
  refine ⟨some ⟨σ.next, 0, none⟩, 0 + m + INEX, σ.add (.cells xs n [(0, xs.length)] 1 false), ?_, .inr ⟨h0, rfl, rfl⟩⟩
  have : appendA P st xt (.slice (some ⟨b, 0, none⟩) 0 0) (.slice q m k) σ = some (.slice (some ⟨σ.next, 0, none⟩) (0 + m) (0 + m + INEX), σ.add (.cells xs n [(0, xs.length)] 1 false)) := by
   unfold appendA
   simp only [T.el, hxd, hei, hz, hsrc, hcond, cond_true, appRows, hc0, hble, cond_false, hc1, hrd, List.nil_append, newRow_eq]
  rw [this, Nat.zero_add]
end
theorem flat_upd {α : Type} {F : α → Value} {n k : Nat} {x x' : α} {v : Value} (hn : ∀ y, (F y).cells.toList.length = n) (hk : k < n)
  (hv : (F x).cells.toList.take k ++ ([v] ++ (F x).cells.toList.drop (k + 1)) = (F x').cells.toList) : ∀ {xs : List α} {i : Nat}, xs[i]? = some x →
  (flat (xs.map F)).take (i * n + k) ++ ([v] ++ (flat (xs.map F)).drop (i * n + k + 1)) = flat ((xs.set i x').map F)
 | [], i, h => by simp at h
 | y :: ys, 0, h => by
  have : y = x := by simpa using h
  subst this
  have hl := hn y
  simp only [flat, List.map_cons, List.flatMap_cons, Nat.zero_mul, Nat.zero_add, List.set_cons_zero]
  rw [List.take_append_of_le_length (by omega), List.drop_append_of_le_length (by omega), ← hv]
  simp [List.append_assoc]
 | y :: ys, i + 1, h => by
  have ih := flat_upd hn hk hv (xs := ys) (i := i) (by simpa using h)
  have hl := hn y
  have e : (i + 1) * n + k = (F y).cells.toList.length + (i * n + k) := by rw [hl, Nat.add_mul, Nat.one_mul]; omega
  simp only [flat, List.map_cons, List.flatMap_cons, List.set_cons_succ] at ih ⊢
  rw [e, Nat.add_assoc, List.take_length_add_append, List.drop_length_add_append, List.append_assoc, ih]
theorem flat_nth {α : Type} {F : α → Value} {n k : Nat} {x : α} {v : Value} (hn : ∀ y, (F y).cells.toList.length = n) (hk : k < n) (hv : (F x).cells.toList[k]? = some v) : ∀ {xs : List α} {i : Nat}, xs[i]? = some x → (flat (xs.map F))[i * n + k]? = some v
 | [], i, h => by simp at h
 | y :: ys, 0, h => by
  have : y = x := by simpa using h
  subst this
  have hl := hn y
  simp only [flat, List.map_cons, List.flatMap_cons, Nat.zero_mul, Nat.zero_add]
  rw [List.getElem?_append_left (by omega)]; exact hv
 | y :: ys, i + 1, h => by
  have ih := flat_nth hn hk hv (xs := ys) (i := i) (by simpa using h)
  have hl := hn y
  have e : (i + 1) * n + k = (F y).cells.toList.length + (i * n + k) := by rw [hl, Nat.add_mul, Nat.one_mul]; omega
  simp only [flat, List.map_cons, List.flatMap_cons] at ih ⊢
  rw [e, List.getElem?_append_right (by omega), Nat.add_sub_cancel_left]
  exact ih
theorem flat_cnt {α : Type} {F : α → Value} {n : Nat} (hn : ∀ y, (F y).cells.toList.length = n) : ∀ {xs : List α}, (flat (xs.map F)).length = xs.length * n
 | [] => by simp [flat]
 | y :: ys => by
  have ih := flat_cnt hn (xs := ys)
  simp only [flat, List.map_cons, List.flatMap_cons, List.length_append, List.length_cons] at ih ⊢
  rw [ih, hn, Nat.add_mul, Nat.one_mul]; omega
def PtA (z : St) {α : Type} (F : α → Value) (n : Nat) (xs : List α) (ps : Option Addr) (b : Nat) (a : Addr) (x : α) : Prop :=
 (∃ i, xs[i]? = some x ∧ a = ⟨b, i * n, none⟩ ∧ Own z b (flat (xs.map F)) n ∧ ps = some ⟨b, 0, none⟩) ∨ (xs = [] ∧ a = ⟨b, 0, none⟩ ∧ Own z b (F x).cells.toList n ∧ ∀ c, ps = some c → c.block ≠ b)
def Upd {α : Type} (xs xs' : List α) (x x' : α) : Prop := xs'.length = xs.length ∧ ∀ (j : Nat) (y' : α), xs'[j]? = some y' → ∃ y, xs[j]? = some y ∧ (y' = y ∨ (y = x ∧ y' = x'))
section
variable {P : Program} {z : St} {α : Type} {F : α → Value} {n b : Nat} {xs : List α} {ps : Option Addr} {a : Addr} {x x' : α}
theorem PtA.ld {k t : Nat} {v : Value} (h : PtA z F n xs ps b a x) (hn : ∀ y, (F y).cells.toList.length = n) (hk : k < n) (hv : (F x).cells.toList[k]? = some v) (ht : aggT P t = some false) : loadA P z t (aadd a k) = some v := by
 rcases h with ⟨i, h1, rfl, h3, h4⟩ | ⟨h1, rfl, h3, _⟩
 ·exact h3.ld rfl ht (flat_nth hn hk hv h1)
 ·show loadA P z t ⟨b, 0 + k, none⟩ = some v
  rw [Nat.zero_add]; exact h3.ld rfl ht hv
theorem PtA.put {k t e len : Nat} {v : Value} (h : PtA z F n xs ps b a x) (hn : ∀ y, (F y).cells.toList.length = n) (hk : k < n) (hv1 : v.cells.toList = [v]) (hcv : cellB v = true) (hs : sizeT P t = some 1)
  (hv : (F x).cells.toList.take k ++ ([v] ++ (F x).cells.toList.drop (k + 1)) = (F x').cells.toList) (he : ∀ y, elOk P e n (F y)) (hps : SlV P z e n ps len (xs.map F)) :
  ∃ z' xs', effOp P (evL [.pointer (some (aadd a k)), v]) z (.store t (.tmp 0) (.tmp 1)) = some (undef, z') ∧ Only (· = b) z z' ∧ Upd xs xs' x x' ∧ SlV P z' e n ps len (xs'.map F) := by
 rcases h with ⟨i, h1, rfl, h3, rfl⟩ | ⟨rfl, rfl, h3, hne⟩
 ·have hi : i < xs.length := (List.getElem?_eq_some_iff.1 h1).1
  have hmul : i * n + n ≤ xs.length * n := by rw [← Nat.succ_mul]; exact Nat.mul_le_mul_right _ hi
  have hl := flat_cnt hn (xs := xs)
  refine ⟨z.own b (flat ((xs.set i x').map F)) n, xs.set i x', h3.store (k := i * n + k) hv1 (by rw [hs]; rfl) (by simp [hcv]) (by rw [hl]; simp; omega) (flat_upd hn hk hv h1), Only.own (.inr rfl), ⟨by simp, fun j y' hj => ?_⟩, ?_⟩
  ·rw [List.getElem?_set] at hj
   split at hj
   ·rename_i e
    subst e
    exact ⟨x, h1, .inr ⟨rfl, by simpa using hj.symm⟩⟩
   ·exact ⟨y', hj, .inl rfl⟩
  ·have hlen : len = xs.length := by have := hps.2.1; simpa using this.symm
   subst hlen
   refine ⟨⟨by rw [flat_cnt hn]; simp, h3.put.rw⟩, by simp, fun v hv => ?_⟩
   obtain ⟨y, _, rfl⟩ := List.mem_map.1 hv
   exact he y
 ·have hlen : len = 0 := by have := hps.2.1; simpa using this.symm
  subst hlen
  have hl := hn x
  have e0 : (aadd (⟨b, 0, none⟩ : Addr) k) = ⟨b, k, none⟩ := by simp [aadd]
  rw [e0]
  refine ⟨z.own b (F x').cells.toList n, [], h3.store (k := k) hv1 (by rw [hs]; rfl) (by simp [hcv]) (by rw [hl]; simp; omega) hv, Only.own (.inr rfl), ⟨rfl, fun j y' hj => by simp at hj⟩, ?_⟩
  exact (Only.own (S := (· = b)) (.inr rfl)).slv' hps (fun c e => hne c e)
end
end Go.Lay
