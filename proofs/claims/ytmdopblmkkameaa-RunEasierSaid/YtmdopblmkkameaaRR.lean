
import Derived.Test.YtmdopblmkkameaaRD
namespace Go.Lay
open Go
section
variable {P : Program} {σ τ : St}
theorem copy_new {st xt e n m k b : Nat} {q : Option Addr} {xs : List Value} (T : AppT P st xt e n) (o : Own σ b [] n) (hs : SlP σ n q m xs) (hroom : m ≤ 1073741824) (hc : xs.all cellB = true) :
  ∃ p' c' σ', appendA P st xt (.slice (some ⟨b, 0, none⟩) 0 0) (.slice q m k) σ = some (.slice p' m c', σ') ∧ ((m = 0 ∧ σ' = σ ∧ p' = some ⟨b, 0, none⟩) ∨ (0 < m ∧ p' = some ⟨σ.next, 0, none⟩ ∧ σ' = σ.row xs n)) := by
 obtain ⟨xd, hxd, hxi⟩ := T.src
 obtain ⟨ei, z, hei, hz, hby, hrz, hzl⟩ := T.info
 have hsrc : appSrc σ n z xd (.slice q m k) = some (m, xs) := by
  have : srcCells σ n (.slice q m k) = some (m, xs) := by
   cases q with
   | none =>
    obtain ⟨h1, h2⟩ := hs
    have h2 : m = 0 := h2
    subst h2
    have : xs = [] := List.eq_nil_of_length_eq_zero (by omega)
    subst this
    simp [srcCells]
   | some a =>
    have hrd := hs.2.rd
    rw [hs.1] at hrd
    simp [srcCells, hrd]
  unfold appSrc
  cases xd with
  | int _ => cases hxi
  | _ => simp only [this]
 have hcond : (roomy (0 + m) n ei.bytes && xs.all cellB && Nat.beq xs.length (m * n) && rigidB RD z && Nat.beq z.cells.toList.length n) = true := by
  unfold roomy
  rw [(ble_iff _ _).2 (by omega), (ble_iff _ _).2 T.le, (ble_iff _ _).2 hby, hc, hs.1, Nat.beq_refl, hrz, hzl]; rfl
 have hc0 : capLow 0 = 0 := by unfold capLow; have := inex_pos; rw [if_neg (by omega)]
 have hc1 : capExact 0 = true := (capExact_iff 0).2 inex_pos
 rcases Nat.eq_zero_or_pos m with h0 | h0
 ·subst h0
  have hx : xs = [] := List.eq_nil_of_length_eq_zero (by have := hs.1; omega)
  subst hx
  have hlc : Nat.ble (0 + 0) (capLow 0) = true := by rw [hc0]; rfl
  refine ⟨some ⟨b, 0, none⟩, 0, σ, ?_, .inl ⟨rfl, rfl, rfl⟩⟩
  unfold appendA
  simp only [T.el, hxd, hei, hz, hsrc, hcond, cond_true, appRows, hlc]
  simp
 ·have hble : Nat.ble (0 + m) 0 = false := by rw [Bool.eq_false_iff]; intro e; have := (ble_iff _ _).1 e; omega
  have hrd := o.rw.rd
  have hrd : readRow σ ⟨b, 0, none⟩ (0 * n) = some [] := by rw [Nat.zero_mul]; exact hrd
  refine ⟨some ⟨σ.next, 0, none⟩, 0 + m + INEX, σ.add (.cells xs n [(0, xs.length)] 1 false), ?_, .inr ⟨h0, rfl, rfl⟩⟩
  have : appendA P st xt (.slice (some ⟨b, 0, none⟩) 0 0) (.slice q m k) σ = some (.slice (some ⟨σ.next, 0, none⟩) (0 + m) (0 + m + INEX), σ.add (.cells xs n [(0, xs.length)] 1 false)) := by
   unfold appendA
   simp only [T.el, hxd, hei, hz, hsrc, hcond, cond_true, appRows, hc0, hble, cond_false, hc1, hrd, List.nil_append, newRow_eq]
  rw [this, Nat.zero_add]
end
theorem flat_upd {α : Type} {F : α → Value} {n k : Nat} {x x' : α} {v : Value} (hn : ∀ y, (F y).cells.toList.length = n) (hk : k < n)
  (hv : (F x).cells.toList.take k ++ ([v] ++ (F x).cells.toList.drop (k + 1)) = (F x').cells.toList) : ∀ {xs : List α} {i : Nat}, xs[i]? = some x →
  (flat (xs.map F)).take (i * n + k) ++ ([v] ++ (flat (xs.map F)).drop (i * n + k + 1)) = flat ((xs.set i x').map F)
 | [], i, h => by simp at h
 | y :: ys, 0, h => by
  have : y = x := by simpa using h
  subst this
  have hl := hn y
  simp only [flat, List.map_cons, List.flatMap_cons, Nat.zero_mul, Nat.zero_add, List.set_cons_zero]
  rw [List.take_append_of_le_length (by omega), List.drop_append_of_le_length (by omega), ← hv]
  simp [List.append_assoc]
 | y :: ys, i + 1, h => by
  have ih := flat_upd hn hk hv (xs := ys) (i := i) (by simpa using h)
  have hl := hn y
  have e : (i + 1) * n + k = (F y).cells.toList.length + (i * n + k) := by rw [hl, Nat.add_mul, Nat.one_mul]; omega
  simp only [flat, List.map_cons, List.flatMap_cons, List.set_cons_succ] at ih ⊢
  rw [e, Nat.add_assoc, List.take_length_add_append, List.drop_length_add_append, List.append_assoc, ih]
theorem flat_nth {α : Type} {F : α → Value} {n k : Nat} {x : α} {v : Value} (hn : ∀ y, (F y).cells.toList.length = n) (hk : k < n) (hv : (F x).cells.toList[k]? = some v) : ∀ {xs : List α} {i : Nat}, xs[i]? = some x → (flat (xs.map F))[i * n + k]? = some v
 | [], i, h => by simp at h
 | y :: ys, 0, h => by
  have : y = x := by simpa using h
  subst this
  have hl := hn y
  simp only [flat, List.map_cons, List.flatMap_cons, Nat.zero_mul, Nat.zero_add]
  rw [List.getElem?_append_left (by omega)]; exact hv
 | y :: ys, i + 1, h => by
  have ih := flat_nth hn hk hv (xs := ys) (i := i) (by simpa using h)
  have hl := hn y
  have e : (i + 1) * n + k = (F y).cells.toList.length + (i * n + k) := by rw [hl, Nat.add_mul, Nat.one_mul]; omega
  simp only [flat, List.map_cons, List.flatMap_cons] at ih ⊢
  rw [e, List.getElem?_append_right (by omega), Nat.add_sub_cancel_left]
  exact ih
theorem flat_cnt {α : Type} {F : α → Value} {n : Nat} (hn : ∀ y, (F y).cells.toList.length = n) : ∀ {xs : List α}, (flat (xs.map F)).length = xs.length * n
 | [] => by simp [flat]
 | y :: ys => by
  have ih := flat_cnt hn (xs := ys)
  simp only [flat, List.map_cons, List.flatMap_cons, List.length_append, List.length_cons] at ih ⊢
  rw [ih, hn, Nat.add_mul, Nat.one_mul]; omega
section
variable {P : Program} {z : St} {α : Type} {F : α → Value} {n b : Nat} {xs : List α} {ps : Option Addr} {a : Addr} {x x' : α}
end
end Go.Lay
