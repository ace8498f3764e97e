
import Derived.Test.YtmdopblmkkameaaRH
namespace Go.Proofs.Ytmdopblmkkameaa
open Go Go.Lay
open Try renaming prog → Pg
set_option linter.unusedVariables false
set_option linter.unusedSimpArgs false
set_option maxRecDepth 20000
structure B12 where
 l : List Bool
 h : l.length = 12
 deriving DecidableEq
def b12V (x : B12) : Value := .agg ⟨x.l.map .bool⟩
def b12 (S : Nat → Bool) : B12 := ⟨(List.range 12).map S, by simp⟩
theorem zHC (S : Nat → Bool) : b12V (b12 S) = .agg ⟨yJ 12 S⟩ := by unfold b12V b12 yJ; simp
theorem b12_inj {S T : Nat → Bool} (h : b12 S = b12 T) : ∀ k, k < 12 → S k = T k := by
 intro k hk
 have e : (b12 S).l[k]? = (b12 T).l[k]? := by rw [h]
 simpa [b12, hk] using e
theorem pv_bit (d : Nat) (a b : Bool) : yN Pg (Op.equalIn (d + 1) 4 (.bool a) (.bool b)) = some (a == b) := by
 unfold Op.equalIn
 rw [wJ, zIX (d := .bool) (by kernel_rfl)]
 rfl
theorem pv_bpart {cs : Array Value} {off : Nat} {v : Value} (hv : cs[off]? = some v) : yN Pg (part 4 cs off) = some v := by
 unfold part
 have : yN Pg (isAgg 4) = some false := by kernel_rfl
 rw [wJ, this]
 simp only [Option.bind_some, Bool.false_eq_true, if_false, hv]
 rfl
theorem pv_bits {d : Nat} {xs ys : Array Value} {f g : Nat → Bool} : ∀ (L : List Nat), (∀ j ∈ L, xs[j]? = some (.bool (f j))) → (∀ j ∈ L, ys[j]? = some (.bool (g j))) →
  yN Pg (forIn L ((none, ()) : Option Bool × Unit) fun i __s => do
    let a ← part 4 xs (i * 1)
    let b ← part 4 ys (i * 1)
    let r ← Op.equalIn (d + 1) 4 a b
    if (!r) = true then pure (ForInStep.done (some false, ())) else pure (ForInStep.yield (none, ()))) = some (if ∀ j ∈ L, f j = g j then (none, ()) else (some false, ()))
 | [], _, _ => by simp; rfl
 | i :: L, hx, hy => by
  have ea : xs[i * 1]? = some (.bool (f i)) := by rw [Nat.mul_one]; exact hx i List.mem_cons_self
  have eb : ys[i * 1]? = some (.bool (g i)) := by rw [Nat.mul_one]; exact hy i List.mem_cons_self
  rw [List.forIn_cons, wJ, wJ, pv_bpart ea]
  simp only [Option.bind_some]
  rw [wJ, pv_bpart eb]
  simp only [Option.bind_some]
  rw [wJ, pv_bit]
  simp only [Option.bind_some]
  by_cases e : f i = g i
  ·rw [e]
   simp only [beq_self_eq_true, Bool.not_true, Bool.false_eq_true, if_false, pv_pure, Option.bind_some]
   rw [pv_bits L (fun j hj => hx j (List.mem_cons_of_mem _ hj)) (fun j hj => hy j (List.mem_cons_of_mem _ hj))]
   by_cases e2 : ∀ j ∈ L, f j = g j
   ·rw [if_pos e2, if_pos (fun j hj => by rcases List.mem_cons.1 hj with rfl | hj; exact e; exact e2 j hj)]
   ·rw [if_neg e2, if_neg (fun h => e2 fun j hj => h j (List.mem_cons_of_mem _ hj))]
  ·have e1 : (f i == g i) = false := by simpa using e
   simp only [e1, Bool.not_false, if_true, pv_pure, Option.bind_some]
   rw [if_neg (fun h => e (h i List.mem_cons_self))]
theorem pv_set (a b : B12) : yN Pg (Op.equal 84 (b12V a) (b12V b)) = some (decide (a = b)) := by
 have ga : ∀ j ∈ List.range' 0 12, (⟨a.l.map Value.bool⟩ : Array Value)[j]? = some (.bool (a.l.getD j false)) := fun j hj => by
  have hj : j < a.l.length := by rw [a.h]; simp at hj; omega
  simp [hj]
 have gb : ∀ j ∈ List.range' 0 12, (⟨b.l.map Value.bool⟩ : Array Value)[j]? = some (.bool (b.l.getD j false)) := fun j hj => by
  have hj : j < b.l.length := by rw [b.h]; simp at hj; omega
  simp [hj]
 have key := pv_bits (d := 9998) (List.range' 0 12) ga gb
 have e : decide (a = b) = decide (∀ j ∈ List.range' 0 12, a.l.getD j false = b.l.getD j false) := by
  refine decide_eq_decide.2 ⟨fun h => by rw [h]; exact fun _ _ => rfl, fun h => ?_⟩
  obtain ⟨l, hl⟩ := a
  obtain ⟨m, hm⟩ := b
  have : l = m := by
   apply List.ext_getElem (by omega)
   intro j h1 h2
   have := h j (by simp; omega)
   simpa [h1, h2] using this
  subst this; rfl
 rw [e]
 show yN Pg (Op.equalIn (9998 + 2) 84 (.agg ⟨a.l.map .bool⟩) (.agg ⟨b.l.map .bool⟩)) = _
 unfold Op.equalIn
 rw [wJ, zIX (d := .array 12 4) (by kernel_rfl)]
 simp only [Option.bind_some]
 have es : yN Pg (sizeOf 4) = some 1 := by kernel_rfl
 rw [wJ, es]
 simp only [Option.bind_some]
 rw [wJ, Std.Legacy.Range.forIn_eq_forIn_range']
 simp only [Std.Legacy.Range.size, Nat.sub_zero, Nat.add_sub_cancel, Nat.div_one]
 rw [key]
 simp only [Option.bind_some]
 by_cases e : ∀ j ∈ List.range' 0 12, a.l.getD j false = b.l.getD j false
 ·rw [if_pos e, decide_eq_true e]; rfl
 ·rw [if_neg e, decide_eq_false e]; rfl
theorem keySet : KeyT Pg 84 b12V := by
 refine ⟨pv_set, fun e a => ?_, fun a => ?_⟩
 ·obtain ⟨l, hl⟩ := a
  have hk : ∀ (e a1 a2 a3 a4 a5 a6 a7 a8 a9 a10 a11 a12 : Bool), zIF Pg e 84 (.agg ⟨[.bool a1, .bool a2, .bool a3, .bool a4, .bool a5, .bool a6, .bool a7, .bool a8, .bool a9, .bool a10, .bool a11, .bool a12]⟩) = true := fun e a1 a2 a3 a4 a5 a6 a7 a8 a9 a10 a11 a12 => by kernel_rfl
  match l, hl with
  | [a1, a2, a3, a4, a5, a6, a7, a8, a9, a10, a11, a12], _ => exact hk e a1 a2 a3 a4 a5 a6 a7 a8 a9 a10 a11 a12
 ·have : ∀ (n : Nat) (l : List Bool), Instr.sameBits (n + 2) (.agg ⟨l.map .bool⟩) (.agg ⟨l.map .bool⟩) = true := fun n l => by
   simp [Instr.sameBits]
   intro x y hxy
   have key : ∀ (m : List Bool), (x, y) ∈ (m.map Value.bool).zip (m.map Value.bool) → ∃ c, x = .bool c ∧ y = .bool c := by
    intro m
    induction m with
    | nil => intro h; cases h
    | cons c m ih =>
     intro h
     simp only [List.map_cons, List.zip_cons_cons, List.mem_cons, Prod.mk.injEq] at h
     rcases h with h | h
     ·exact ⟨c, h.1, h.2⟩
     ·exact ih h
   obtain ⟨c, rfl, rfl⟩ := key l hxy
   simp [Instr.sameBits]
  exact this 9998 a.l
theorem mapS : zDR Pg 94 = some (84, 4) := by kernel_rfl
theorem zero4 : zBF Pg 4 = some (.bool false) := by kernel_rfl
end Go.Proofs.Ytmdopblmkkameaa
