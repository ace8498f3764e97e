/- The library, part C: the abstract semantics of the code, and its use. -/
import Derived.ChangeArms
import Derived.ReadAgain
import Derived.ChangeBears
import Derived.Below
import Derived.Test.YtffgfojabcbegaaDoorLayB
set_option linter.unusedVariables false
set_option linter.unusedSimpArgs false
/-! Sym: Symbolic execution: what must be shown of a way through a function's code; the kernel works it out. -/
namespace Go.Lay
open Go

/-! ### Frames: what is known of them -/
/-- One way in which a part of the code ends: what is known of the frame, of the marks, and what else holds. -/
structure Alt where
  T : Type
  e : Exit
  l : T → List (Nat × Value)
  ms : T → List Nat
  Q : T → St → Prop

/-- What is answered, operation by operation. -/
inductive Ans
  | g
  | b (t : Bool)
  | n (z : Int)
  | l (v : Value)
  | i
  | v (v : Value)
  | e (v : Value) (σ : St)
  | c (v : Value) (σ : St)
  | lp (e : Exit) (fr : Fr) (σ : St)
  | lf (n : Nat) (l : List (Nat × Value)) (alts : List Alt)
  | rf (n : Nat) (l : List (Nat × Value)) (alts : List (Exit × (St → Prop)))
  | fin (a : Alt) (t : a.T)
  | cut (n : Nat) (l : List (Nat × Value)) (alts : List Alt)
  | die
  | dx (v : Value) (σ : St)

/-- A new row. -/
def St.row (σ : St) (cs : List Value) (esz : Nat) : St := σ.add (.cells cs esz [(0, cs.length)] 1 false)

/-- Operations that go by themselves. -/
def autoOp (P : Program) (ev : Operand → Value) (σ : St) (o : Op) : Option (Value × St) :=
  match o with
  | .alloc t => match zeroT P t with
    | some z => some (.pointer (some ⟨σ.q, 0, none⟩), σ.row z.cells.toList (eszT P t z.cells.toList.length))
    | none => none
  | .box t x => some (.pointer (some ⟨σ.q, 0, none⟩), σ.row (ev x).cells.toList (eszT P t (ev x).cells.toList.length))
  | .buildSlice t len ps =>
    match elemOfSlice P t with
    | some (e, n) => match zeroT P e with
      | some z =>
        bif Nat.ble (len * n) 16777216 && Nat.beq z.cells.toList.length n then
          match fillA (fun i => some (i * n, n)) (zerosA z.cells.toList len) (ps.toList.map fun p => (p.1, ev p.2)) with
          | some cs => some (.slice (some ⟨σ.q, 0, none⟩) len len, σ.row cs n)
          | none => none
        else none
      | none => none
    | none => none
  | .makeMap t none => match mapOf P t with
    | some _ => some (.map (some σ.q), σ.add (.map []))
    | none => none
  | o => match valOp P ev o with
    | some v => some (v, σ)
    | none => none

/-- Operands by a list. -/
def evL (l : List Value) : Operand → Value
  | .tmp i => l.getD i undef
  | _ => undef
/-- The first temporaries. -/
def tmpsTo (n : Nat) : List Operand := (List.range n).map .tmp
/-- An index that is good. -/
def idxOk (i : Int) (len : Nat) : Prop := 0 ≤ i ∧ i < (len : Int)

/-- What must be shown of an operation that looks. -/
def wpSee (P : Program) (f : Tm) (σ : St) (o : Op) (v : Value) : Prop :=
  match o with
  | .slice t x lo hi mx => sliceA P σ t (aeval f x) (lo.map (aeval f)) (hi.map (aeval f)) (mx.map (aeval f)) = some v
  | .lookup t m k ok => lookOp P (evL [aeval f m, aeval f k]) σ (.lookup t (.tmp 0) (.tmp 1) ok) = some v
  | .index t x k => indexA P t (aeval f x) (aeval f k) = some v
  | .binOp op t x y _ => binA P op t x y (aeval f x) (aeval f y) = some v
  | .convert s d x => seeOp P (evL [aeval f x]) σ (.convert s d (.tmp 0)) = some v
  | .call c => seeOp P (evL (c.args.toList.map (aeval f))) σ (.call { c with args := ⟨tmpsTo c.args.toList.length⟩ }) = some v
  | o => seeOp P (aeval f) σ o = some v
/-- What must be shown of an operation that acts. -/
def wpEff (P : Program) (f : Tm) (σ : St) (o : Op) (v : Value) (σ' : St) : Prop :=
  match o with
  | .store t a x => effOp P (evL [aeval f a, aeval f x]) σ (.store t (.tmp 0) (.tmp 1)) = some (v, σ')
  | .mapUpdate t m k x => effOp P (evL [aeval f m, aeval f k, aeval f x]) σ (.mapUpdate t (.tmp 0) (.tmp 1) (.tmp 2)) = some (v, σ')
  | .insert t m k x => effOp P (evL [aeval f m, aeval f k, aeval f x]) σ (.insert t (.tmp 0) (.tmp 1) (.tmp 2)) = some (v, σ')
  | .makeSlice t l c => effOp P (evL [aeval f l, aeval f c]) σ (.makeSlice t (.tmp 0) (.tmp 1)) = some (v, σ')
  | .call c => match c.callee, c.argTypes.toList, c.args.toList.map (aeval f) with
    | .builtin .append, [st, xt], [s, x] => appendA P st xt s x σ = some (v, σ')
    | .value (.func g), _, as => extR P σ (.func g) as = some v ∧ σ' = σ
    | _, _, _ => effOp P (aeval f) σ (.call c) = some (v, σ')
  | o => effOp P (aeval f) σ o = some (v, σ')

/-- What calls do. -/
abbrev CallP := FnRef → List Value → St → Value → St → Prop
/-- One operation, wanted: what must be shown. -/
def wpOp (P : Program) (C : CallP) (f : Tm) (σ : St) (o : Op) : List Ans → (Value → St → List Ans → Prop) → Prop
  | .g :: as, K => match autoOp P (aeval f) σ o with
    | some (v, σ') => K v σ' as
    | none => False
  | .b t :: as, K => match valOp P (aeval f) o with
    | some (.bool e) => e = t ∧ K (.bool t) σ as
    | _ => False
  | .n z :: as, K => match valOp P (aeval f) o with
    | some (.int k e) => e = z ∧ K (.int k z) σ as
    | _ => False
  | .l v :: as, K => match o with
    | .load t x => match aeval f x with
      | .pointer (some a) => loadA P σ t a = some v ∧ K v σ as
      | _ => False
    | _ => False
  | .i :: as, K => match o with
    | .indexAddr t x k => match aeval f k, aeval f x, P.underlying t with
      | .int _ i, .pointer (some a), some (.array len elem) => match sizeT P elem with
        | some n => idxOk i len ∧ K (.pointer (some (aadd a (i.toNat * n)))) σ as
        | none => False
      | .int _ i, .slice (some a) len _, some (.slice elem) => match sizeT P elem with
        | some n => idxOk i len ∧ K (.pointer (some (aadd a (i.toNat * n)))) σ as
        | none => False
      | _, _, _ => False
    | _ => False
  | .v v :: as, K => wpSee P f σ o v ∧ K v σ as
  | .e v σ' :: as, K => wpEff P f σ o v σ' ∧ K v σ' as
  | .c v σ' :: as, K => match o with
    | .call c => match c.callee with
      | .value fx => match refOf (aeval f fx) (c.args.toList.map (aeval f)) with
        | some (r, args) => match extC P fx σ r args with
          | none => C r args σ v σ' ∧ K v σ' as
          | some _ => False
        | none => False
      | _ => False
    | _ => False
  | _, _ => False

section
variable {P : Program} {rec : Rec}

end
end Go.Lay

/-! Sym2: Symbolic execution: sound. -/
namespace Go.Lay
open Go
section
variable {P : Program} {rec : Rec}

/-! ### Functions -/
end
end Go.Lay

/-! Heap: Facts on memory; contracts. -/
namespace Go.Lay
open Go

/-! ### Numbers -/
/-! ### Rows -/
structure Row (σ : St) (a : Addr) (cs : List Value) : Prop where
  rd : readRow σ a cs.length = some cs
  lt : a.block < σ.q
/-- Nothing that was there has been written. -/
structure Le (σ σ' : St) : Prop where
  q : σ.q ≤ σ'.q
  get : ∀ b, b < σ.q → getB σ'.heap b = getB σ.heap b
/-- A state in which a call begins. -/
def St.re (σ : St) : St := ⟨σ.heap, σ.q, σ.q⟩

section
variable {P : Program} {σ σ' : St} {a : Addr} {cs : List Value}
theorem Le.trans {σ₁ σ₂ σ₃ : St} (h : Le σ₁ σ₂) (k : Le σ₂ σ₃) : Le σ₁ σ₃ := ⟨Nat.le_trans h.q k.q, fun b hb => (k.get b (Nat.lt_of_lt_of_le hb h.q)).trans (h.get b hb)⟩
theorem Le.add (σ : St) (y : Blk) : Le σ (σ.add y) := ⟨by simp, fun b hb => by rw [St.add_get, if_neg (Nat.ne_of_lt hb)]⟩
theorem Le.row (σ : St) (cs : List Value) (n : Nat) : Le σ (σ.row cs n) := Le.add _ _
theorem readRow_le (h : Le σ σ') (hb : a.block < σ.q) (n : Nat) : readRow σ' a n = readRow σ a n := by
  unfold readRow; rw [h.get _ hb]
theorem Row.le (h : Row σ a cs) (l : Le σ σ') : Row σ' a cs := ⟨by rw [readRow_le l h.lt]; exact h.rd, Nat.lt_of_lt_of_le h.lt l.q⟩
theorem row_new (σ : St) (cs : List Value) (n : Nat) : Row (σ.row cs n) ⟨σ.q, 0, none⟩ cs := by
  refine ⟨?_, by simp [St.row]⟩
  have h1 : getB (σ.row cs n).heap σ.q = some (.cells cs n [(0, cs.length)] 1 false) := by
    show getB (σ.add _).heap σ.q = _
    rw [St.add_get, if_pos rfl]
  have h2 : Nat.ble (0 + cs.length) cs.length = true := (ble_iff _ _).2 (by omega)
  have h3 : Nat.beq 0 0 = true := rfl
  unfold readRow
  simp only [h1, stampOf, Option.getD_none, extOf, h3, cond_true, h2, List.drop_zero, List.take_length]
/-! ### Rows that one may write -/
structure Own (σ : St) (b : Nat) (cs : List Value) (n : Nat) : Prop where
  get : getB σ.heap b = some (.cells cs n [(0, cs.length)] 1 false)
  lt : b < σ.q
def St.own (σ : St) (b : Nat) (cs : List Value) (n : Nat) : St := σ.put b (.cells cs n [(0, cs.length)] 1 false)
theorem Own.le {b n : Nat} (h : Own σ b cs n) (l : Le σ σ') : Own σ' b cs n := ⟨by rw [l.get _ h.lt]; exact h.get, Nat.lt_of_lt_of_le h.lt l.q⟩
@[simp] theorem St.own_next (σ : St) (b : Nat) (cs : List Value) (n : Nat) : (σ.own b cs n).q = σ.q := rfl
@[simp] theorem St.own_low (σ : St) (b : Nat) (cs : List Value) (n : Nat) : (σ.own b cs n).low = min σ.low b := rfl
@[simp] theorem St.row_next (σ : St) (cs : List Value) (n : Nat) : (σ.row cs n).q = σ.q + 1 := rfl
@[simp] theorem St.row_low (σ : St) (cs : List Value) (n : Nat) : (σ.row cs n).low = σ.low := rfl

/-! ### Slices -/
/-- What a slice holds: cell by cell. -/
def SlP (σ : St) (n : Nat) (p : Option Addr) (len : Nat) (l : List Value) : Prop :=
  l.length = len * n ∧ match p with
    | none => len = 0
    | some a => Row σ a l
theorem SlP.le {n len : Nat} {p : Option Addr} {l : List Value} (h : SlP σ n p len l) (k : Le σ σ') : SlP σ' n p len l := by
  refine ⟨h.1, ?_⟩
  cases p with
  | none => exact h.2
  | some a => exact Row.le h.2 k
theorem Row.sl {n len : Nat} (h : Row σ a cs) (hl : cs.length = len * n) : SlP σ n (.some a) len cs := ⟨hl, h⟩
theorem SlP.nil (σ : St) (n : Nat) : SlP σ n none 0 [] := ⟨by simp, rfl⟩

/-! ### Contracts -/
end
end Go.Lay

/-! Loop: Loops; slices that grow. -/
namespace Go.Lay
open Go

/-! ### The code's parts -/
/-! ### Loops -/
section
variable {P : Program} {rd : Option Nat} {c : Code} {fr fr' fr₁ : Fr} {σ σ' σ₁ : St} {e : Exit}
end

/-! ### Nothing below a number has been written -/
structure Keep (n0 : Nat) (σ σ' : St) : Prop where
  q : σ.q ≤ σ'.q
  get : ∀ b, b < n0 → getB σ'.heap b = getB σ.heap b
  low : min σ.low n0 ≤ σ'.low
section
variable {P : Program} {σ σ' : St} {a : Addr} {cs : List Value} {n0 : Nat}
theorem Keep.trans {σ₁ σ₂ σ₃ : St} (h : Keep n0 σ₁ σ₂) (k : Keep n0 σ₂ σ₃) : Keep n0 σ₁ σ₃ := ⟨Nat.le_trans h.q k.q, fun b hb => (k.get b hb).trans (h.get b hb), by have := h.low; have := k.low; omega⟩
theorem Keep.add (hn : n0 ≤ σ.q) (y : Blk) : Keep n0 σ (σ.add y) := ⟨by simp, fun b hb => by rw [St.add_get, if_neg (by omega)], by simp; omega⟩
theorem Keep.put {b : Nat} (hb : n0 ≤ b) (y : Blk) : Keep n0 σ (σ.put b y) := ⟨by simp, fun c hc => by rw [St.put_get, if_neg (by omega)], by simp; omega⟩
/-! ### A slice that grows: of the call's own -/
/-- v is a slice of the call's own (its block from n0 on), of len elements with the cells cs, to which one may append. -/
inductive App (σ : St) (n0 n : Nat) : Value → Nat → List Value → Prop
  | nil : App σ n0 n (.slice none 0 0) 0 []
  | more {b s nx len : Nat} {cs : List Value} {sp : Option Nat} {log : List (Nat × Nat)} (h : getB σ.heap b = some (.cells cs n ((s, cs.length) :: log) nx false)) (hs : sp.getD 0 = s) (hb : n0 ≤ b) (hlt : b < σ.q) (hl : cs.length = len * n) (hp : 0 < len) (hsn : s < nx) :
      App σ n0 n (.slice (some ⟨b, 0, sp⟩) len (len + INEX)) len cs

/-- A type of integers. -/
def isIntD : TypeDesc → Bool
  | .int _ => true
  | _ => false
/-- What is asked of the types of an append. -/
structure AppT (P : Program) (st xt e n : Nat) : Prop where
  el : elemOfSlice P st = some (e, n)
  src : ∃ xd, P.underlying xt = some xd ∧ isIntD xd = false
  info : ∃ ei z, P.info? e = some ei ∧ ei.zero = some z ∧ ei.bytes ≤ 4096 ∧ rigidB RD z = true ∧ Nat.beq z.cells.toList.length n = true
  le : n ≤ 4096
  pos : 0 < n
theorem capLow_inex (x : Nat) : capLow (x + INEX) = x := by unfold capLow; rw [if_pos (by omega)]; omega
theorem capExact_inex (x : Nat) : capExact (x + INEX) = false := by rw [Bool.eq_false_iff]; intro e; have := (capExact_iff _).1 e; omega
theorem inex_pos : 0 < INEX := by unfold INEX; decide

theorem append_one {st xt e n m k len : Nat} {v : Value} {a2 : Addr} {xs : List Value} (T : AppT P st xt e n) (hA : App σ n0 n v len cs) (hr : Row σ a2 xs) (hm : xs.length = m * n) (hp : 0 < m) (hroom : len + m ≤ 1073741824) (hc : xs.all cellB = true) (hn0 : n0 ≤ σ.q) :
    ∃ v' σ', appendA P st xt v (.slice (some a2) m k) σ = some (v', σ') ∧ App σ' n0 n v' (len + m) (cs ++ xs) ∧ Keep n0 σ σ' := by
  obtain ⟨xd, hxd, hxi⟩ := T.src
  obtain ⟨ei, z, hei, hz, hby, hrz, hzl⟩ := T.info
  have hrd := hr.rd
  rw [hm] at hrd
  have hsrc : appSrc σ n z xd (.slice (some a2) m k) = some (m, xs) := by
    unfold appSrc
    cases xd with
    | int _ => cases hxi
    | _ => simp only [srcCells, hrd, Option.map_some]
  have hcond : (roomy (len + m) n ei.bytes && xs.all cellB && Nat.beq xs.length (m * n) && rigidB RD z && Nat.beq z.cells.toList.length n) = true := by
    unfold roomy
    rw [(ble_iff _ _).2 hroom, (ble_iff _ _).2 T.le, (ble_iff _ _).2 hby, hc, hm, Nat.beq_refl, hrz, hzl]; rfl
  have hble : ∀ x : Nat, Nat.ble (x + m) x = false := fun x => by rw [Bool.eq_false_iff]; intro e; have := (ble_iff _ _).1 e; omega
  cases hA with
  | nil =>
    refine ⟨.slice (some ⟨σ.q, 0, none⟩) (0 + m) (0 + m + INEX), σ.add (.cells xs n [(0, xs.length)] 1 false), ?_, ?_, Keep.add hn0 _⟩
    · have hc0 : capLow 0 = 0 := by unfold capLow; have := inex_pos; rw [if_neg (by omega)]
      have hc1 : capExact 0 = true := (capExact_iff 0).2 inex_pos
      unfold appendA
      simp only [T.el, hxd, hei, hz, hsrc, hcond, cond_true, appRows, hc0, hble, cond_false, hc1, Nat.beq_refl, newRow_eq]
    · have e1 : 0 + m = m := Nat.zero_add m
      rw [e1, List.nil_append]
      exact .more (b := σ.q) (s := 0) (nx := 1) (log := []) (by rw [St.add_get, if_pos rfl]) rfl hn0 (by simp) hm hp (by omega)
  | @more b s nx _ _ sp log h hs hb hlt hl hpp hsn =>
    have hex : extOf ((s, cs.length) :: log) (stampOf ⟨b, 0, sp⟩) = some cs.length := by
      have : Nat.beq s (stampOf ⟨b, 0, sp⟩) = true := by unfold stampOf; simp only [hs]; exact Nat.beq_refl _
      simp only [extOf, this, cond_true]
    have hlf : logFrom ((s, cs.length) :: log) (stampOf ⟨b, 0, sp⟩) = (s, cs.length) :: log := by
      have : Nat.beq s (stampOf ⟨b, 0, sp⟩) = true := by unfold stampOf; simp only [hs]; exact Nat.beq_refl _
      simp only [logFrom, this, cond_true]
    have hg : (Nat.beq len len && Nat.beq (0 + len * n) cs.length && Nat.beq n n && !false && Nat.blt 0 n) = true := by
      rw [Nat.beq_refl, Nat.zero_add, hl, Nat.beq_refl, Nat.beq_refl, (blt_iff 0 n).2 T.pos]; rfl
    refine ⟨.slice (some ⟨b, 0, some nx⟩) (len + m) (len + m + INEX), σ.put b (.cells (cs.take cs.length ++ xs) n ((nx, cs.length + m * n) :: (s, cs.length) :: log) (nx + 1) false), ?_, ?_, Keep.put hb _⟩
    · unfold appendA
      simp only [T.el, hxd, hei, hz, hsrc, hcond, cond_true, appRows, capLow_inex, hble, cond_false, capExact_inex, appGrow, h, hex, hg, fVs_eq, fN_eq, St.write_eq, hlf]
    · refine .more (b := b) (s := nx) (nx := nx + 1) (log := (s, cs.length) :: log) ?_ rfl hb hlt ?_ (by omega) (by omega)
      · rw [St.put_get, if_pos rfl, List.take_length]
        simp [hm]
      · simp [hl, hm, Nat.add_mul]
/-- What has been appended reads as a slice. -/
theorem App.sl {v : Value} {n len : Nat} (h : App σ n0 n v len cs) : ∃ p cap, v = .slice p len cap ∧ SlP σ n p len cs := by
  cases h with
  | nil => exact ⟨none, 0, rfl, SlP.nil _ _⟩
  | @more b s nx _ _ sp log h hs hb hlt hl hp hsn =>
    refine ⟨_, _, rfl, hl, ?_, hlt⟩
    have hex : extOf ((s, cs.length) :: log) (stampOf ⟨b, 0, sp⟩) = some cs.length := by
      have : Nat.beq s (stampOf ⟨b, 0, sp⟩) = true := by unfold stampOf; simp only [hs]; exact Nat.beq_refl _
      simp only [extOf, this, cond_true]
    have h2 : Nat.ble (0 + cs.length) cs.length = true := (ble_iff _ _).2 (by omega)
    unfold readRow
    simp only [h, hex, h2, cond_true, List.drop_zero, List.take_length]
theorem App.keep {v : Value} {n len : Nat} (h : App σ n0 n v len cs) (hk : Le σ σ') : App σ' n0 n v len cs := by
  cases h with
  | nil => exact .nil
  | more h hs hb hlt hl hp hsn => exact .more (by rw [hk.get _ hlt]; exact h) hs hb (Nat.lt_of_lt_of_le hlt hk.q) hl hp hsn
/-! ### Elements -/
def flat (vs : List Value) : List Value := vs.flatMap fun v => v.cells.toList
/-- Values of a type whose size is n. -/
def elOk (P : Program) (t : TypeId) (n : Nat) (v : Value) : Prop :=
  (aggT P t = some false ∧ n = 1 ∧ v.cells.toList = [v]) ∨ (aggT P t = some true ∧ sizeT P t = some n ∧ ∃ cs : List Value, v = .agg ⟨cs⟩ ∧ cs.length = n)
theorem elOk.len {t n : Nat} {v : Value} (h : elOk P t n v) : v.cells.toList.length = n := by
  rcases h with ⟨_, h1, h2⟩ | ⟨_, _, ds, rfl, h⟩
  · rw [h2, h1]; rfl
  · exact h
/-- A slice of values. -/
def SlV (P : Program) (σ : St) (t n : Nat) (p : Option Addr) (len : Nat) (vs : List Value) : Prop := SlP σ n p len (flat vs) ∧ vs.length = len ∧ ∀ v ∈ vs, elOk P t n v
theorem SlV.le {t n len : Nat} {p : Option Addr} {vs : List Value} (h : SlV P σ t n p len vs) (k : Le σ σ') : SlV P σ' t n p len vs := ⟨h.1.le k, h.2⟩
/-! ### The first of some answers -/
end
end Go.Lay

/-! Open: The opening: plain arguments, to be read alone; a statement that leans on a closed one. -/
namespace Go.Lay
open Go

/-! ### Blocks that are read alone -/
section
variable {P : Program} {w : World} {ι : Inj} {σ σ' : St}

/-! ### Plain types, and what lies in a state -/
def contig (P : Program) : List Field → Nat → Nat → Bool
  | [], o, tot => Nat.beq o tot
  | f :: fs, o, tot => Nat.beq f.offset o && contig P fs (o + P.cellsOf f.type) tot
def plainT (P : Program) : Nat → TypeId → Bool
  | 0, _ => false
  | n + 1, t => match P.underlying t with
    | some .bool => true
    | some (.int _) => true
    | some .string => true
    | some (.slice e) => Nat.blt 0 (P.cellsOf e) && plainT P n e
    | some (.struct fs) => contig P fs.toList 0 (P.cellsOf t) && fs.toList.all fun f => plainT P n f.type
    | _ => false
/-- Cells of a type, in a state. -/
def WT (P : Program) (σ : St) : Nat → TypeId → List Value → Prop
  | 0, _, _ => False
  | n + 1, t, cs => match P.underlying t with
    | some .bool => ∃ b, cs = [.bool b]
    | some (.int k) => ∃ i, cs = [.int k i] ∧ k.min ≤ i ∧ i ≤ k.max
    | some .string => ∃ s : ByteArray, cs = [.string s] ∧ s.size ≤ maxLen
    | some (.slice e) => cs = [.slice none 0 0] ∨ ∃ b len cap rs, cs = [.slice (some ⟨b, 0, none⟩) len cap] ∧ len ≤ maxLen ∧ (len ≤ capLow cap ∧ capExact cap = true) ∧ rs.length = len * P.cellsOf e ∧
        getB σ.heap b = some (.cells rs (P.cellsOf e) [(0, rs.length)] 1 true) ∧ b < σ.q ∧ ∀ i, i < len → WT P σ n e ((rs.drop (i * P.cellsOf e)).take (P.cellsOf e))
    | some (.struct fs) => cs.length = P.cellsOf t ∧ ∀ f ∈ fs.toList, f.offset + P.cellsOf f.type ≤ cs.length ∧ WT P σ n f.type ((cs.drop f.offset).take (P.cellsOf f.type))
    | _ => False

theorem WT.le : ∀ {n : Nat} {t : TypeId} {cs : List Value}, WT P σ n t cs → Le σ σ' → WT P σ' n t cs := by
  intro n
  induction n with
  | zero => intro t cs h; exact h.elim
  | succ n ih =>
    intro t cs h k
    unfold WT at h ⊢
    split at h <;> rename_i hu
    · exact h
    · exact h
    · exact h
    · rcases h with h | ⟨b, len, cap, rs, h1, h2, h3, h4, h5, h6, h7⟩
      · exact .inl h
      · exact .inr ⟨b, len, cap, rs, h1, h2, h3, h4, by rw [k.get _ h6]; exact h5, Nat.lt_of_lt_of_le h6 k.q, fun i hi => ih (h7 i hi) k⟩
    · exact ⟨h.1, fun f hf => ⟨(h.2 f hf).1, ih (h.2 f hf).2 k⟩⟩
    · exact h.elim

variable {H : Type} {enc : TypeId × Value → H} {held : Bool}

end
end Go.Lay

/-! Inv: Loops by an invariant, over any calls; fields of elements; contracts in short. -/
namespace Go.Lay
open Go

/-! ### Loops -/
section
variable {P : Program} {R : Nat → Rec} {rd : Option Nat} {c : Code} {fr fr' fr₁ : Fr} {σ σ' σ₁ : St} {e : Exit}
end

/-! ### Elements' fields -/
section
variable {P : Program} {σ σ' : St}
/-! ### Below a number -/
/-! ### What stays -/
theorem flat_append (xs ys : List Value) : flat (xs ++ ys) = flat xs ++ flat ys := by simp [flat]
theorem App.ge {n0 n len : Nat} {p : Option Addr} {c : Nat} {cs : List Value} (h : App σ n0 n (.slice p len c) len cs) : ∀ a, p = some a → n0 ≤ a.block := by
  intro a e
  subst e
  cases h with
  | more h hs hb hlt hl hp hsn => exact hb
/-- An append of one row, to a slice of the call's own. -/
theorem app_step {st xt e n m k len n0 : Nat} {a2 : Addr} {p : Option Addr} {c : Nat} {cs xs : List Value} (T : AppT P st xt e n) (hA : App σ n0 n (.slice p len c) len cs) (hr : Row σ a2 xs) (hm : xs.length = m * n) (hp : 0 < m) (hroom : len + m ≤ 1073741824)
    (hc : xs.all cellB = true) (hn0 : n0 ≤ σ.q) : ∃ p' c' σ', appendA P st xt (.slice p len c) (.slice (some a2) m k) σ = some (.slice p' (len + m) c', σ') ∧ App σ' n0 n (.slice p' (len + m) c') (len + m) (cs ++ xs) ∧ Keep n0 σ σ' := by
  obtain ⟨v', σ', h1, h2, h3⟩ := append_one (k := k) T hA hr hm hp hroom hc hn0
  obtain ⟨p', c', rfl, _⟩ := h2.sl
  exact ⟨p', c', σ', h1, h2, h3⟩
theorem App.lt {n0 n len : Nat} {p : Option Addr} {c : Nat} {cs : List Value} (h : App σ n0 n (.slice p len c) len cs) : ∀ a, p = some a → a.block < σ.q := by
  intro a e
  subst e
  cases h with
  | more h hs hb hlt hl hp hsn => exact hlt
/-! ### Contracts in short -/
/-- New blocks alone: from here on. -/
structure New (σ σ' : St) : Prop where
  le : Le σ σ'
  low : ∀ m, m ≤ σ.low → m ≤ σ.q → m ≤ σ'.low
theorem New.trans {σ₁ σ₂ σ₃ : St} (h : New σ₁ σ₂) (k : New σ₂ σ₃) : New σ₁ σ₃ := ⟨h.le.trans k.le, fun m h1 h2 => k.low m (h.low m h1 h2) (Nat.le_trans h2 h.le.q)⟩
theorem New.row (σ : St) (cs : List Value) (n : Nat) : New σ (σ.row cs n) := ⟨Le.row _ _ _, fun _ h _ => h⟩
theorem New.add (σ : St) (y : Blk) : New σ (σ.add y) := ⟨Le.add _ _, fun _ h _ => h⟩
end
end Go.Lay

/-! Top2: A statement's function: it leans on a closed one, and on calls by their contracts. -/
namespace Go.Lay
open Go
section
variable {P : Program} {rec : Rec} {ι : Inj} {σ σ' : St} {w : World}

/-! ### The arguments of a statement -/
variable {H : Type} {enc : TypeId × Value → H} {held : Bool}
def WTs (P : Program) (σ : St) (n : Nat) : List TypeId → List Value → Prop
  | [], [] => True
  | t :: ts, v :: vs => WT P σ n t v.cells.toList ∧ WTs P σ n ts vs
  | _, _ => False
theorem WTs.le {n : Nat} : ∀ {ts : List TypeId} {vs : List Value}, WTs P σ n ts vs → Le σ σ' → WTs P σ' n ts vs
  | [], [], _, _ => trivial
  | _ :: _, _ :: _, h, k => ⟨h.1.le k, WTs.le h.2 k⟩
  | [], _ :: _, h, _ => h.elim
  | _ :: _, [], h, _ => h.elim
end
end Go.Lay

/-! Args: The end of a statement: what was handed in reads as it did. -/
namespace Go.Lay
open Go Go.RowKit
section
variable {H : Type} {enc : TypeId × Value → H} {P : Program} {w w' : World} {b : Nat} {sp : Nat → Bool} {held : Bool}
end
end Go.Lay

/-! Rule: Rules without fuel, and without what is not read. -/
namespace Go.Lay
open Go
section
variable {P : Program} {R : Nat → Rec} {rd : Option Nat} {c : Code} {fr fr' : Fr} {σ σ' : St} {e : Exit} {aw : FuncId}
end
end Go.Lay

/-! Rule2: A slice copied by an append to nothing; a slice made; contracts in short. -/
namespace Go.Lay
open Go
section
variable {P : Program} {σ σ' : St} {cs : List Value}
end
end Go.Lay

/-! Range: What is written alone; ranges over a function; the marks at a call's end. -/
namespace Go.Lay
open Go
/-! ### Of what was there, only some blocks are written -/
structure Only (S : Nat → Prop) (σ σ' : St) : Prop where
  q : σ.q ≤ σ'.q
  get : ∀ b, b < σ.q → ¬ S b → getB σ'.heap b = getB σ.heap b
  low : ∀ m, m ≤ σ.low → m ≤ σ.q → (∀ b, b < σ.q → S b → m ≤ b) → m ≤ σ'.low
section
variable {P : Program} {S T : Nat → Prop} {σ σ' σ₁ σ₂ σ₃ : St} {cs : List Value} {n b : Nat}
theorem Only.trans (h : Only S σ₁ σ₂) (k : Only T σ₂ σ₃) (hT : ∀ b, b < σ₁.q → T b → S b) (hT2 : ∀ m, m ≤ σ₁.q → (∀ b, b < σ₁.q → S b → m ≤ b) → ∀ b, b < σ₂.q → T b → m ≤ b := by intro m h1 h2 b h3 h4; (first | exact h4.elim | omega)) : Only S σ₁ σ₃ :=
  ⟨Nat.le_trans h.q k.q, fun b hb hs => (k.get b (Nat.lt_of_lt_of_le hb h.q) (fun ht => hs (hT b hb ht))).trans (h.get b hb hs), fun m h1 h2 h3 => k.low m (h.low m h1 h2 h3) (Nat.le_trans h2 h.q) (hT2 m h2 h3)⟩
theorem New.only (h : New σ σ') : Only S σ σ' := ⟨h.le.q, fun b hb _ => h.le.get b hb, fun m h1 h2 _ => h.low m h1 h2⟩
theorem Only.add (σ : St) (y : Blk) : Only S σ (σ.add y) := (New.add σ y).only
theorem Only.put {y : Blk} (hs : σ.q ≤ b ∨ S b) : Only S σ (σ.put b y) := ⟨Nat.le_refl _, fun c hc hs' => by rw [St.put_get, if_neg (by rintro rfl; rcases hs with h | h; omega; exact hs' h)], fun m h1 h2 h3 => by
  simp only [St.put_low]
  rcases hs with h | h
  · omega
  · by_cases hb : b < σ.q
    · have := h3 b hb h; omega
    · omega⟩
theorem Only.app' {n0 len : Nat} {v : Value} (h : Only S σ σ') (k : App σ n0 n v len cs) (hs : ∀ a l c, v = .slice (some a) l c → ¬ S a.block) : App σ' n0 n v len cs := by
  cases k with
  | nil => exact .nil
  | more g1 g2 g3 g4 g5 g6 g7 => exact .more (by rw [h.get _ g4 (hs _ _ _ rfl)]; exact g1) g2 g3 (Nat.lt_of_lt_of_le g4 h.q) g5 g6 g7
/-! ### Ranges over a function -/
/-! ### Marks -/
end
end Go.Lay

/-! Range2: Appends that write their own block alone; numbers in a row of its own. -/
namespace Go.Lay
open Go
section
variable {P : Program} {σ σ' : St} {cs : List Value}
/-- The block of a slice's base. -/
def AtP (p : Option Addr) (b : Nat) : Prop := ∃ a, p = some a ∧ a.block = b
theorem app_step2 {st xt e n m k len n0 : Nat} {a2 : Addr} {p : Option Addr} {c : Nat} {xs : List Value} (T : AppT P st xt e n) (hA : App σ n0 n (.slice p len c) len cs) (hr : Row σ a2 xs) (hm : xs.length = m * n) (hp : 0 < m) (hroom : len + m ≤ 1073741824)
    (hc : xs.all cellB = true) (hn0 : n0 ≤ σ.q) : ∃ p' c' σ', appendA P st xt (.slice p len c) (.slice (some a2) m k) σ = some (.slice p' (len + m) c', σ') ∧ App σ' n0 n (.slice p' (len + m) c') (len + m) (cs ++ xs) ∧ Only (AtP p) σ σ' ∧ (∀ b, AtP p' b → AtP p b ∨ σ.q ≤ b) := by
  obtain ⟨p', c', σ', h1, h2, h3⟩ := app_step (k := k) T hA hr hm hp hroom hc hn0
  refine ⟨p', c', σ', h1, h2, ?_⟩
  obtain ⟨xd, hxd, hxi⟩ := T.src
  obtain ⟨ei, z, hei, hz, hby, hrz, hzl⟩ := T.info
  have hrd := hr.rd
  rw [hm] at hrd
  have hsrc : appSrc σ n z xd (.slice (some a2) m k) = some (m, xs) := by
    unfold appSrc
    cases xd with
    | int _ => cases hxi
    | _ => simp only [srcCells, hrd, Option.map_some]
  have hcond : (roomy (len + m) n ei.bytes && xs.all cellB && Nat.beq xs.length (m * n) && rigidB RD z && Nat.beq z.cells.toList.length n) = true := by
    unfold roomy
    rw [(ble_iff _ _).2 hroom, (ble_iff _ _).2 T.le, (ble_iff _ _).2 hby, hc, hm, Nat.beq_refl, hrz, hzl]; rfl
  have hble : ∀ x : Nat, Nat.ble (x + m) x = false := fun x => by rw [Bool.eq_false_iff]; intro e; have := (ble_iff _ _).1 e; omega
  cases hA with
  | nil =>
    have hc0 : capLow 0 = 0 := by unfold capLow; have := inex_pos; rw [if_neg (by omega)]
    have hc1 : capExact 0 = true := (capExact_iff 0).2 inex_pos
    unfold appendA at h1
    simp only [T.el, hxd, hei, hz, hsrc, hcond, cond_true, appRows, hc0, hble, cond_false, hc1, Nat.beq_refl, newRow_eq, Option.some.injEq, Prod.mk.injEq, Value.slice.injEq] at h1
    obtain ⟨⟨rfl, _, _⟩, rfl⟩ := h1
    exact ⟨Only.add _ _, fun b' hb => .inr (by obtain ⟨a, e, rfl⟩ := hb; cases e; exact Nat.le_refl _)⟩
  | @more b' s nx _ _ sp log h hs hb hlt hl hpp hsn =>
    have hex : extOf ((s, cs.length) :: log) (stampOf ⟨b', 0, sp⟩) = some cs.length := by
      have : Nat.beq s (stampOf ⟨b', 0, sp⟩) = true := by unfold stampOf; simp only [hs]; exact Nat.beq_refl _
      simp only [extOf, this, cond_true]
    have hlf : logFrom ((s, cs.length) :: log) (stampOf ⟨b', 0, sp⟩) = (s, cs.length) :: log := by
      have : Nat.beq s (stampOf ⟨b', 0, sp⟩) = true := by unfold stampOf; simp only [hs]; exact Nat.beq_refl _
      simp only [logFrom, this, cond_true]
    have hg : (Nat.beq len len && Nat.beq (0 + len * n) cs.length && Nat.beq n n && !false && Nat.blt 0 n) = true := by
      rw [Nat.beq_refl, Nat.zero_add, hl, Nat.beq_refl, Nat.beq_refl, (blt_iff 0 n).2 T.pos]; rfl
    unfold appendA at h1
    simp only [T.el, hxd, hei, hz, hsrc, hcond, cond_true, appRows, capLow_inex, hble, cond_false, capExact_inex, appGrow, h, hex, hg, fVs_eq, fN_eq, St.write_eq, hlf, Option.some.injEq, Prod.mk.injEq, Value.slice.injEq] at h1
    obtain ⟨⟨rfl, _, _⟩, rfl⟩ := h1
    exact ⟨Only.put (.inr ⟨_, rfl, rfl⟩), fun b'' hb => .inl (by obtain ⟨a, e, rfl⟩ := hb; cases e; exact ⟨_, rfl, rfl⟩)⟩
end
end Go.Lay

/-! Rule3: Rules: frames of which some is known; a part's ends by alternatives. -/
namespace Go.Lay
open Go
/-! ### Frames -/
def ARf : List (Nat × Value) → Prop
  | [] => True
  | (_, v) :: l => v = v ∧ ARf l
theorem arf : ∀ l : List (Nat × Value), ARf l
  | [] => trivial
  | (_, _) :: l => ⟨rfl, arf l⟩
/-! ### Ends -/
section
variable (P : Program) (R : Nat → Rec)
end
section
variable {P : Program} {R : Nat → Rec} {rd : Option Nat}
/-! ### Soundness -/
end
end Go.Lay

/-! Rule4: Rules: bodies, loops by an invariant, functions, ranges. -/
namespace Go.Lay
open Go
@[simp] theorem aadd_blk (a : Addr) (n : Nat) : (aadd a n).block = a.block := rfl
@[simp] theorem re_nx (σ : St) : σ.re.q = σ.q := rfl
@[simp] theorem re_lw (σ : St) : σ.re.low = σ.q := rfl
theorem kc {a b : Prop} (h : a = b) (x : b) : a := h.mpr x
def In (a : Alt) : List Alt → Prop
  | [] => False
  | b :: l => a = b ∨ In a l
def FIN (alts : List Alt) (a : Alt) (t : a.T) (σ : St) : Prop := (a.e = a.e ∧ true = true ∧ ARf (a.l t) ∧ a.ms t = a.ms t) ∧ (a.Q t σ ∧ In a alts)
theorem fin {alts : List Alt} (a : Alt) (t : a.T) {σ : St} (h : a.Q t σ) (hi : In a alts) : FIN alts a t σ := ⟨⟨rfl, rfl, arf _, rfl⟩, h, hi⟩
section
variable {P : Program} {R : Nat → Rec} {rd : Option Nat} {c : Code} {n : Nat} {l : List (Nat × Value)} {ms : List Nat} {alts : List Alt} {σ σ' : St}
/-! ### Functions -/
/-! ### Ranges over a function -/
end
end Go.Lay

/-! Rule5: Slices that grow, element by element; what is new. -/
namespace Go.Lay
open Go
section
variable {P : Program} {σ τ τ' : St} {S : Nat → Prop}
theorem New.of_only (h : New σ τ) (k : Only S τ τ') (hs : ∀ b, S b → σ.q ≤ b) : New σ τ' :=
  ⟨⟨Nat.le_trans h.le.q k.q, fun b hb => (k.get b (Nat.lt_of_lt_of_le hb h.le.q) (fun hS => by have := hs b hS; omega)).trans (h.le.get b hb)⟩,
   fun m h1 h2 => k.low m (h.low m h1 h2) (Nat.le_trans h2 h.le.q) (fun b _ hS => Nat.le_trans h2 (hs b hS))⟩
theorem New.row' {cs : List Value} {n : Nat} (h : New σ τ) : New σ (τ.row cs n) := h.trans (New.row _ _ _)
theorem New.nx (h : New σ τ) : σ.q ≤ τ.q := h.le.q
/-- A slice of a call's own, to which values have been appended. -/
structure Gr (P : Program) (σ : St) (n0 t n : Nat) (p : Option Addr) (len c : Nat) (vs : List Value) : Prop where
  app : App σ n0 n (.slice p len c) len (flat vs)
  len_eq : vs.length = len
  el : ∀ v ∈ vs, elOk P t n v
theorem Gr.le {n0 t n len c : Nat} {p : Option Addr} {vs : List Value} (h : Gr P σ n0 t n p len c vs) (k : Le σ τ) : Gr P τ n0 t n p len c vs := ⟨h.app.keep k, h.len_eq, h.el⟩
theorem Gr.only {n0 t n len c : Nat} {p : Option Addr} {vs : List Value} (h : Gr P σ n0 t n p len c vs) (k : Only S σ τ) (hs : ∀ b, AtP p b → ¬ S b) : Gr P τ n0 t n p len c vs :=
  ⟨k.app' h.app (by rintro a l c ⟨⟩; exact hs _ ⟨a, rfl, rfl⟩), h.len_eq, h.el⟩
theorem Gr.bd {n0 t n len c b : Nat} {p : Option Addr} {vs : List Value} (h : Gr P σ n0 t n p len c vs) (hb : AtP p b) : n0 ≤ b ∧ b < σ.q := by
  obtain ⟨a, e, rfl⟩ := hb; exact ⟨h.app.ge a e, h.app.lt a e⟩
/-- One value more, which lies in a row of its own. -/
theorem grow1 {st xt t n n0 len c : Nat} {p : Option Addr} {vs : List Value} (v : Value) {cs : List Value} (T : AppT P st xt t n) (h : Gr P σ n0 t n p len c vs) (hle : Le σ τ) (hv : elOk P t n v) (hroom : len + 1 ≤ 1073741824) (hn : n0 ≤ σ.q) (e : v.cells.toList = cs := by rfl) (hc : cs.all cellB = true := by first | rfl | simp) :
    ∃ p' c' τ', appendA P st xt (.slice p len c) (.slice (some ⟨τ.q, 0, none⟩) 1 1) (τ.row cs n) = some (.slice p' (len + 1) c', τ') ∧ Gr P τ' n0 t n p' (len + 1) c' (vs ++ [v]) ∧ Only (AtP p) (τ.row cs n) τ' ∧ (∀ b, AtP p' b → AtP p b ∨ τ.q ≤ b) := by
  subst e
  have hl := hv.len
  obtain ⟨p', c', τ', h1, h2, h3, h4⟩ := app_step2 (k := 1) (m := 1) T ((h.le hle).app.keep (Le.row _ _ _)) (row_new τ v.cells.toList n) (by omega) (by omega) hroom hc (by have := hle.q; simp; omega)
  refine ⟨p', c', τ', h1, ⟨by rw [flat_append]; simpa [flat] using h2, by simp [h.len_eq], ?_⟩, h3, fun b hb => ?_⟩
  · intro x hx
    simp at hx
    rcases hx with hx | rfl
    · exact h.el x hx
    · exact hv
  · rcases h4 b hb with h5 | h5
    · exact .inl h5
    · right; simp at h5; omega
/-- The same, where all is new that is written. -/
theorem grow {σ0 : St} {st xt t n len c : Nat} {p : Option Addr} {vs : List Value} (v : Value) {cs : List Value} (T : AppT P st xt t n) (h : Gr P σ σ0.q t n p len c vs) (hN : New σ0 σ) (hle : New σ τ) (hv : elOk P t n v) (hroom : len + 1 ≤ 1073741824) (e : v.cells.toList = cs := by rfl) (hc : cs.all cellB = true := by first | rfl | simp) :
    ∃ p' c' τ', appendA P st xt (.slice p len c) (.slice (some ⟨τ.q, 0, none⟩) 1 1) (τ.row cs n) = some (.slice p' (len + 1) c', τ') ∧ Gr P τ' σ0.q t n p' (len + 1) c' (vs ++ [v]) ∧ New σ0 τ' ∧ Only (AtP p) (τ.row cs n) τ' ∧ (∀ b, AtP p' b → AtP p b ∨ τ.q ≤ b) := by
  obtain ⟨p', c', τ', h1, h2, h3, h4⟩ := grow1 v T h hle.le hv hroom hN.nx e hc
  exact ⟨p', c', τ', h1, h2, ((hN.trans hle).row').of_only h3 (fun b hb => (h.bd hb).1), h3, h4⟩
/-! ### Slices that are made -/
/-! ### Rows of numbers -/
/-! ### Calls that write what is old -/
end
end Go.Lay

/-! RuleX: Rules for code that may die. -/
namespace Go.Lay
open Go
section
variable (P : Program)
end
section
variable {P : Program} {c : Code} {n : Nat} {l : List (Nat × Value)} {ms : List Nat} {alts : List Alt} {σ σ' : St}
/-! ### Functions -/
end
end Go.Lay

/-! RuleR: Rules for a function that defers a closure which recovers. -/
namespace Go.Lay
open Go
section
variable {P : Program} {σ σ' : St}
end
end Go.Lay

/-! Rule6: Rules: parts of slices; appends of whole slices. -/
namespace Go.Lay
open Go
section
variable {P : Program} {σ τ : St}
/-- A slice that was handed in: its capacity is known. -/
def ArgS (σ : St) (n : Nat) (p : Option Addr) (len c : Nat) : Prop :=
  (p = none ∧ len = 0 ∧ c = 0) ∨ ∃ b rs nx ro, p = some ⟨b, 0, none⟩ ∧ len ≤ c ∧ capExact c = true ∧ getB σ.heap b = some (.cells rs n [(0, rs.length)] nx ro) ∧ rs.length = len * n ∧ b < σ.q
theorem ArgS.le {n len c : Nat} {p : Option Addr} (h : ArgS σ n p len c) (k : Le σ τ) : ArgS τ n p len c := by
  rcases h with h | ⟨b, rs, nx, ro, h1, h2, h3, h4, h5, h6⟩
  · exact .inl h
  · exact .inr ⟨b, rs, nx, ro, h1, h2, h3, by rw [k.get b h6]; exact h4, h5, Nat.lt_of_lt_of_le h6 k.q⟩
/-- A slice that grows: new, or an empty one of its own memory. -/
def Ap (σ : St) (n0 n : Nat) (p : Option Addr) (len c : Nat) (cs : List Value) : Prop :=
  App σ n0 n (.slice p len c) len cs ∨ ∃ b, p = some ⟨b, 0, none⟩ ∧ len = 0 ∧ c = 0 ∧ cs = [] ∧ Own σ b [] n ∧ n0 ≤ b
theorem Ap.bd {n0 n len c : Nat} {p : Option Addr} {cs : List Value} (h : Ap σ n0 n p len c cs) : ∀ a, p = some a → n0 ≤ a.block ∧ a.block < σ.q := by
  rcases h with h | ⟨b, rfl, _, _, _, h2, h3⟩
  · exact fun a e => ⟨h.ge a e, h.lt a e⟩
  · rintro a e; cases e; exact ⟨h3, h2.lt⟩
theorem Ap.le {n0 n len c : Nat} {p : Option Addr} {cs : List Value} (h : Ap σ n0 n p len c cs) (k : Le σ τ) : Ap τ n0 n p len c cs := by
  rcases h with h | ⟨b, h1, h2, h3, h4, h5, h6⟩
  · exact .inl (h.keep k)
  · exact .inr ⟨b, h1, h2, h3, h4, h5.le k, h6⟩
end
end Go.Lay

/-! Eql: Records of numbers, compared. Maps by such keys. -/
namespace Go.Lay
open Go
section
variable {P : Program}
/-! ### Maps -/
section
variable {κ α : Type} [DecidableEq κ] {σ τ : St} {b kt et mt : Nat} {enc : κ → Value} {vf : α → Value} {F : κ → Option α}
def gets (m : List (κ × α)) (k : κ) : Option α := match m with
  | [] => none
  | e :: m => if k = e.1 then some e.2 else gets m k
/-- A map lies there. -/
def MapF (P : Program) (σ : St) (b : Nat) (enc : κ → Value) (vf : α → Value) (F : κ → Option α) : Prop := b < σ.q ∧ ∃ m : List (κ × α), getB σ.heap b = some (.map (m.map fun e => (enc e.1, vf e.2))) ∧ ∀ k, F k = gets m k
theorem MapF.le (h : MapF P σ b enc vf F) (k : Le σ τ) : MapF P τ b enc vf F := by
  obtain ⟨h1, m, h2, h3⟩ := h
  exact ⟨Nat.lt_of_lt_of_le h1 k.q, m, by rw [k.get _ h1]; exact h2, h3⟩
end
end
end Go.Lay

/-! Stack: Slices that grow, and are grown anew from the same beginning (a search's way). -/
namespace Go.Lay
open Go
/-- Stamps, the newest first, all below a number. -/
def Keys : List (Nat × Nat) → Nat → Prop
  | [], _ => True
  | (k, _) :: l, nx => k < nx ∧ Keys l k
/-- A slice on a search's way: its part of the log is sf. -/
def Stk (z : St) (n0 : Nat) (p : Option Addr) (len c : Nat) (xs : List Value) (sf : List (Nat × Nat)) : Prop :=
  (p = none ∧ len = 0 ∧ c = 0 ∧ xs = [] ∧ sf = []) ∨ ∃ b s bc pre r nx, p = some ⟨b, 0, s⟩ ∧ c = len + INEX ∧ xs.length = len ∧ 0 < len ∧ sf = (s.getD 0, len) :: r ∧ n0 ≤ b ∧ b < z.q ∧ getB z.heap b = some (.cells bc 1 (pre ++ sf) nx false) ∧ bc.take len = xs ∧ Keys (pre ++ sf) nx
section
variable {P : Program} {S : Nat → Prop} {z z' : St} {n0 len c len' c' : Nat} {p p' : Option Addr} {xs xs' : List Value} {sf sf' : List (Nat × Nat)}
theorem Stk.bd (h : Stk z n0 p len c xs sf) : ∀ b, AtP p b → n0 ≤ b ∧ b < z.q := by
  rintro b ⟨a, rfl, rfl⟩
  rcases h with ⟨h, _⟩ | ⟨b, s, bc, pre, r, nx, h1, h2, h3, h4, h5, h6, h7, _⟩
  · cases h
  · cases h1; exact ⟨h6, h7⟩
theorem Stk.only (h : Stk z n0 p len c xs sf) (k : Only S z z') (hs : ∀ b, AtP p b → ¬ S b) : Stk z' n0 p len c xs sf := by
  rcases h with h | ⟨b, s, bc, pre, r, nx, rfl, h2, h3, h4, h5, h6, h7, h8, h9⟩
  · exact .inl h
  · exact .inr ⟨b, s, bc, pre, r, nx, rfl, h2, h3, h4, h5, h6, Nat.lt_of_lt_of_le h7 k.q, by rw [k.get b h7 (hs b ⟨_, rfl, rfl⟩)]; exact h8, h9⟩
theorem Stk.le (h : Stk z n0 p len c xs sf) (k : Le z z') : Stk z' n0 p len c xs sf := by
  rcases h with h | ⟨b, s, bc, pre, r, nx, rfl, h2, h3, h4, h5, h6, h7, h8, h9⟩
  · exact .inl h
  · exact .inr ⟨b, s, bc, pre, r, nx, rfl, h2, h3, h4, h5, h6, Nat.lt_of_lt_of_le h7 k.q, by rw [k.get b h7]; exact h8, h9⟩
end
end Go.Lay
