
import Derived.Test.YthcdddbghldmiaaTy
import Derived.KernelRfl
namespace Go.Lay
open Go
section
variable {P : Program}
theorem pv_elems {d : Nat} {e : TypeId} {k : IntKind} (hu : P.underlying e = some (.int k)) {xs ys : Array Value} : ∀ (m i : Nat) (ls bs : List Int), ls.length = m → bs.length = m → (∀ j x, ls[j]? = some x → xs[i + j]? = some (.int .i64 x)) → (∀ j x, bs[j]? = some x → ys[i + j]? = some (.int .i64 x)) →
  pureVal P (forIn (List.range' i m) ((none, ()) : Option Bool × Unit) fun i __s => do
    let a ← part e xs (i * 1)
    let b ← part e ys (i * 1)
    let r ← Op.equalIn (d + 1) e a b
    if (!r) = true then pure (ForInStep.done (some false, ())) else pure (ForInStep.yield (none, ()))) = some (if ls = bs then (none, ()) else (some false, ()))
 | 0, i, ls, bs, ha, hb, _, _ => by
  have h1 : ls = [] := List.eq_nil_of_length_eq_zero ha
  have h2 : bs = [] := List.eq_nil_of_length_eq_zero hb
  subst h1 h2; rfl
 | m + 1, i, [], bs, ha, _, _, _ => by simp at ha
 | m + 1, i, a :: ls, [], _, hb, _, _ => by simp at hb
 | m + 1, i, a :: ls, b :: bs, ha, hb, hx, hy => by
  have ea : xs[i * 1]? = some (.int .i64 a) := by rw [Nat.mul_one]; simpa using hx 0 a rfl
  have eb : ys[i * 1]? = some (.int .i64 b) := by rw [Nat.mul_one]; simpa using hy 0 b rfl
  rw [List.range'_succ, List.forIn_cons, pv_bind, pv_bind, pv_part hu ea]
  simp only [Option.bind_some]
  rw [pv_bind, pv_part hu eb]
  simp only [Option.bind_some]
  rw [pv_bind, pv_equal_int hu]
  simp only [Option.bind_some]
  by_cases e : a = b
  ·subst e
   simp only [beq_self_eq_true, Bool.not_true, Bool.false_eq_true, if_false, pv_pure, Option.bind_some]
   have ih := pv_elems (d := d) hu (xs := xs) (ys := ys) m (i + 1) ls bs (by simpa using ha) (by simpa using hb) (fun j x hj => by have := hx (j + 1) x (by simpa using hj); rwa [show i + (j + 1) = i + 1 + j by omega] at this) (fun j x hj => by have := hy (j + 1) x (by simpa using hj); rwa [show i + (j + 1) = i + 1 + j by omega] at this)
   rw [ih]
   by_cases e2 : ls = bs
   ·rw [if_pos e2, if_pos (by rw [e2])]
   ·rw [if_neg e2, if_neg (by simpa using e2)]
  ·have e1 : (a == b) = false := by simpa using e
   simp only [e1, Bool.not_false, if_true, pv_pure, Option.bind_some]
   rw [if_neg (by intro k; exact e (by cases k; rfl))]
theorem pv_arr {t e n d : Nat} (hu : P.underlying t = some (.array n e)) (he : P.underlying e = some (.int .i64)) (hs : pureVal P (sizeOf e) = some 1) {ls bs : List Int} (ha : ls.length = n) (hb : bs.length = n) :
  pureVal P (Op.equalIn (d + 2) t (.agg ⟨ls.map fun x => .int .i64 x⟩) (.agg ⟨bs.map fun x => .int .i64 x⟩)) = some (decide (ls = bs)) := by
 have key := pv_elems (d := d) he (xs := ⟨ls.map fun x => .int .i64 x⟩) (ys := ⟨bs.map fun x => .int .i64 x⟩) n 0 ls bs ha hb (fun j x hj => by simp [hj]) (fun j x hj => by simp [hj])
 unfold Op.equalIn
 rw [pv_bind, pv_under hu]
 simp only [Option.bind_some]
 rw [pv_bind, hs]
 simp only [Option.bind_some]
 rw [pv_bind, Std.Legacy.Range.forIn_eq_forIn_range']
 simp only [Std.Legacy.Range.size, Nat.sub_zero, Nat.add_sub_cancel, Nat.div_one]
 rw [key]
 simp only [Option.bind_some]
 by_cases e : ls = bs
 ·rw [if_pos e]; simp [e]; rfl
 ·rw [if_neg e]; simp [e]; rfl
end
end Go.Lay
namespace Go.Proofs.Ythcdddbghldmiaa
open Go Go.Lay
open Try renaming prog → Pg
set_option linter.unusedVariables false
set_option maxRecDepth 20000
def K6 := { l : List Int // l.length = 6 }
instance : DecidableEq K6 := fun a b => if h : a.1 = b.1 then isTrue (Subtype.ext h) else isFalse fun e => h (by rw [e])
abbrev iL (xs : List Int) : List Value := xs.map fun x => iV x
def k6V (k : K6) : Value := .agg ⟨iL k.1⟩
theorem six (l : List Int) (h : l.length = 6) : ∃ a b c d e f, l = [a, b, c, d, e, f] := by
 match l, h with
 | [a, b, c, d, e, f], _ => exact ⟨a, b, c, d, e, f, rfl⟩
theorem five (l : List Int) (h : l.length = 5) : ∃ a b c d e, l = [a, b, c, d, e] := by
 match l, h with
 | [a, b, c, d, e], _ => exact ⟨a, b, c, d, e, rfl⟩
theorem mapK : mapOf Pg 41 = some (112, 3) := by kernel_rfl
theorem keyK : KeyT Pg 112 k6V := by
 refine ⟨fun a b => ?_, fun e a => ?_, fun a => ?_⟩
 ·have h := pv_arr (P := Pg) (t := 112) (e := 3) (n := 6) (d := 9998) (by kernel_rfl) (by kernel_rfl) (by kernel_rfl) a.2 b.2
  have e : decide (a = b) = decide (a.1 = b.1) := decide_eq_decide.2 ⟨fun h => by rw [h], fun h => Subtype.ext h⟩
  rw [e]; exact h
 ·obtain ⟨a, ha⟩ := a
  obtain ⟨x1, x2, x3, x4, x5, x6, rfl⟩ := six a ha
  have : ∀ (e : Bool) (x1 x2 x3 x4 x5 x6 : Int), keyOk Pg e 112 (.agg ⟨[iV x1, iV x2, iV x3, iV x4, iV x5, iV x6]⟩) = true := fun e x1 x2 x3 x4 x5 x6 => by kernel_rfl
  exact this _ _ _ _ _ _ _
 ·obtain ⟨a, ha⟩ := a
  obtain ⟨x1, x2, x3, x4, x5, x6, rfl⟩ := six a ha
  have : ∀ (n : Nat) (x1 x2 x3 x4 x5 x6 : Int), Instr.sameBits (n + 2) (.agg ⟨[iV x1, iV x2, iV x3, iV x4, iV x5, iV x6]⟩) (.agg ⟨[iV x1, iV x2, iV x3, iV x4, iV x5, iV x6]⟩) = true := fun n x1 x2 x3 x4 x5 x6 => by simp [Instr.sameBits]
  exact this 9998 _ _ _ _ _ _
theorem arr5_eq {a b : List Int} (ha : a.length = 5) (hb : b.length = 5) {o1 o2 : Operand} : binA Pg .eql 39 o1 o2 (.agg ⟨iL a⟩) (.agg ⟨iL b⟩) = some (.bool (decide (a = b))) := by
 have h : pureVal Pg (Op.equal 39 (.agg ⟨iL a⟩) (.agg ⟨iL b⟩)) = some (decide (a = b)) := pv_arr (P := Pg) (t := 39) (e := 3) (n := 5) (d := 9998) (by kernel_rfl) (by kernel_rfl) (by kernel_rfl) ha hb
 obtain ⟨x1, x2, x3, x4, x5, rfl⟩ := five a ha
 obtain ⟨y1, y2, y3, y4, y5, rfl⟩ := five b hb
 have e : ∀ (x1 x2 x3 x4 x5 y1 y2 y3 y4 y5 : Int), binA Pg .eql 39 o1 o2 (.agg ⟨iL [x1, x2, x3, x4, x5]⟩) (.agg ⟨iL [y1, y2, y3, y4, y5]⟩) = (pureVal Pg (do eqGuard .eql 39 o1 o2 (.agg ⟨iL [x1, x2, x3, x4, x5]⟩) (.agg ⟨iL [y1, y2, y3, y4, y5]⟩); binOp .eql 39 (.agg ⟨iL [x1, x2, x3, x4, x5]⟩) (.agg ⟨iL [y1, y2, y3, y4, y5]⟩))).filter (rigidB RD) := fun _ _ _ _ _ _ _ _ _ _ => by kernel_rfl
 have e1 : ∀ (x1 x2 x3 x4 x5 y1 y2 y3 y4 y5 : Int), pureVal Pg (eqGuard .eql 39 o1 o2 (.agg ⟨iL [x1, x2, x3, x4, x5]⟩) (.agg ⟨iL [y1, y2, y3, y4, y5]⟩)) = some () := fun _ _ _ _ _ _ _ _ _ _ => by kernel_rfl
 have e2 : ∀ x y : List Value, binOp .eql 39 (.agg ⟨x⟩) (.agg ⟨y⟩) = (do let r ← Op.equal 39 (.agg ⟨x⟩) (.agg ⟨y⟩); pure (.bool r)) := fun _ _ => rfl
 rw [e, pv_bind, e1]
 simp only [Option.bind_some]
 rw [e2, pv_bind, h]
 rfl
end Go.Proofs.Ythcdddbghldmiaa
