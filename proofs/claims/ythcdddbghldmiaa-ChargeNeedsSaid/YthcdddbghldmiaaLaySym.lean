/- Symbolic execution: what must be shown of a way through a function's code; the kernel works it out. -/
import Derived.Test.YthcdddbghldmiaaLayTop
set_option linter.unusedVariables false
set_option linter.unusedSimpArgs false
namespace Go.Lay
open Go

/-- What is answered, operation by operation. -/
inductive Ans
  | g
  | b (t : Bool)
  | n (z : Int)
  | l (v : Value)
  | i
  | v (v : Value)
  | e (v : Value) (σ : St)
  | c (v : Value) (σ : St)
  | lp (e : Exit) (fr : Fr) (σ : St)

/-- A new row. -/
def St.row (σ : St) (cs : List Value) (esz : Nat) : St := σ.add (.cells cs esz [(0, cs.length)] 1 false)

/-- Operations that go by themselves. -/
def autoOp (P : Program) (ev : Operand → Value) (σ : St) (o : Op) : Option (Value × St) :=
  match o with
  | .alloc t => match zeroT P t with
    | some z => some (.pointer (some ⟨σ.next, 0, none⟩), σ.row z.cells.toList (eszT P t z.cells.toList.length))
    | none => none
  | .box t x => some (.pointer (some ⟨σ.next, 0, none⟩), σ.row (ev x).cells.toList (eszT P t (ev x).cells.toList.length))
  | .buildSlice t len ps =>
    match elemOfSlice P t with
    | some (e, n) => match zeroT P e with
      | some z =>
        bif Nat.ble (len * n) 16777216 && Nat.beq z.cells.toList.length n then
          match fillA (fun i => some (i * n, n)) (zerosA z.cells.toList len) (ps.toList.map fun p => (p.1, ev p.2)) with
          | some cs => some (.slice (some ⟨σ.next, 0, none⟩) len len, σ.row cs n)
          | none => none
        else none
      | none => none
    | none => none
  | .makeMap t none => match mapOf P t with
    | some _ => some (.map (some σ.next), σ.add (.map []))
    | none => none
  | o => match valOp P ev o with
    | some v => some (v, σ)
    | none => none

/-- Operands by a list. -/
def evL (l : List Value) : Operand → Value
  | .tmp i => l.getD i undef
  | _ => undef
/-- The first temporaries. -/
def tmpsTo (n : Nat) : List Operand := (List.range n).map .tmp
/-- An index that is good. -/
def idxOk (i : Int) (len : Nat) : Prop := 0 ≤ i ∧ i < (len : Int)

/-- What must be shown of an operation that looks. -/
def wpSee (P : Program) (f : Tm) (σ : St) (o : Op) (v : Value) : Prop :=
  match o with
  | .slice t x lo hi mx => sliceA P σ t (aeval f x) (lo.map (aeval f)) (hi.map (aeval f)) (mx.map (aeval f)) = some v
  | .lookup t m k ok => lookOp P (evL [aeval f m, aeval f k]) σ (.lookup t (.tmp 0) (.tmp 1) ok) = some v
  | .index t x k => indexA P t (aeval f x) (aeval f k) = some v
  | .binOp op t x y _ => binA P op t x y (aeval f x) (aeval f y) = some v
  | .convert s d x => seeOp P (evL [aeval f x]) σ (.convert s d (.tmp 0)) = some v
  | .call c => seeOp P (evL (c.args.toList.map (aeval f))) σ (.call { c with args := ⟨tmpsTo c.args.toList.length⟩ }) = some v
  | o => seeOp P (aeval f) σ o = some v
/-- What must be shown of an operation that acts. -/
def wpEff (P : Program) (f : Tm) (σ : St) (o : Op) (v : Value) (σ' : St) : Prop :=
  match o with
  | .store t a x => effOp P (evL [aeval f a, aeval f x]) σ (.store t (.tmp 0) (.tmp 1)) = some (v, σ')
  | .mapUpdate t m k x => effOp P (evL [aeval f m, aeval f k, aeval f x]) σ (.mapUpdate t (.tmp 0) (.tmp 1) (.tmp 2)) = some (v, σ')
  | .insert t m k x => effOp P (evL [aeval f m, aeval f k, aeval f x]) σ (.insert t (.tmp 0) (.tmp 1) (.tmp 2)) = some (v, σ')
  | .makeSlice t l c => effOp P (evL [aeval f l, aeval f c]) σ (.makeSlice t (.tmp 0) (.tmp 1)) = some (v, σ')
  | .call c => match c.callee, c.argTypes.toList, c.args.toList.map (aeval f) with
    | .builtin .append, [st, xt], [s, x] => appendA P st xt s x σ = some (v, σ')
    | _, _, _ => effOp P (aeval f) σ (.call c) = some (v, σ')
  | o => effOp P (aeval f) σ o = some (v, σ')

/-- One operation, wanted: what must be shown. -/
def wpOp (P : Program) (rec : Rec) (f : Tm) (σ : St) (o : Op) : List Ans → (Value → St → List Ans → Prop) → Prop
  | .g :: as, K => match autoOp P (aeval f) σ o with
    | some (v, σ') => K v σ' as
    | none => False
  | .b t :: as, K => match valOp P (aeval f) o with
    | some (.bool e) => e = t ∧ K (.bool t) σ as
    | _ => False
  | .n z :: as, K => match valOp P (aeval f) o with
    | some (.int k e) => e = z ∧ K (.int k z) σ as
    | _ => False
  | .l v :: as, K => match o with
    | .load t x => match aeval f x with
      | .pointer (some a) => loadA P σ t a = some v ∧ K v σ as
      | _ => False
    | _ => False
  | .i :: as, K => match o with
    | .indexAddr t x k => match aeval f k, aeval f x, P.underlying t with
      | .int _ i, .pointer (some a), some (.array len elem) => match sizeT P elem with
        | some n => idxOk i len ∧ K (.pointer (some (aadd a (i.toNat * n)))) σ as
        | none => False
      | .int _ i, .slice (some a) len _, some (.slice elem) => match sizeT P elem with
        | some n => idxOk i len ∧ K (.pointer (some (aadd a (i.toNat * n)))) σ as
        | none => False
      | _, _, _ => False
    | _ => False
  | .v v :: as, K => wpSee P f σ o v ∧ K v σ as
  | .e v σ' :: as, K => wpEff P f σ o v σ' ∧ K v σ' as
  | .c v σ' :: as, K => match o with
    | .call c => match c.callee with
      | .value fx => match refOf (aeval f fx) (c.args.toList.map (aeval f)) with
        | some (r, args) => match extC P fx σ r args with
          | none => callA rec r args σ = some (v, σ') ∧ K v σ' as
          | some _ => False
        | none => False
      | _ => False
    | _ => False
  | _, _ => False

def wpOps (P : Program) (rec : Rec) (ops : Array Oper) : List Oper → List Ans → Tm → St → List Seen → (Tm → St → List Seen → List Ans → Prop) → Prop
  | [], as, f, σ, l, K => K f σ l as
  | o :: rest, as, f, σ, l, K =>
    match guardA ops f o with
    | some true => wpOp P rec f σ o.op as fun v σ' as => wpOps P rec ops rest as (setO f o.dst v) σ' (l ++ [⟨f, v, true, σ, σ'⟩]) K
    | some false => wpOps P rec ops rest as (setO f o.dst undef) σ (l ++ [⟨f, undef, false, σ, σ⟩]) K
    | none => False

/-- A value that may be compared with itself. -/
def goodB : Nat → Value → Bool
  | 0, _ => false
  | n + 1, .agg cs => cs.toList.all (goodB n)
  | n + 1, .tuple cs => cs.toList.all (goodB n)
  | n + 1, .iface _ v => goodB n v
  | n + 1, .func (.func _) f c => f.toList.all (goodB n) && c.toList.all (goodB n)
  | _ + 1, .int k _ => sameKind k k
  | _ + 1, .bool _ | _ + 1, .string _ | _ + 1, .pointer _ | _ + 1, .slice _ _ _ | _ + 1, .map _ | _ + 1, .nilFunc | _ + 1, .nilIface => true
  | _ + 1, _ => false
/-- What is kept of an operation of a region that draws: is it wanted; do its operands lie below; what it sees in a state; the states around it. -/
structure Lk where
  want : Bool
  need : Bool
  low : Prop
  look : St → Prop
  before : St
  after : St
/-- Values whose addresses lie below a number. -/
def belowL (n : Nat) (vs : List Value) : Prop := vs.all (belowB RD n) = true
def optL (f : Tm) : Option Operand → List Value
  | some x => [aeval f x]
  | none => []
/-- What an operation that looks sees, in any state. -/
def lookP (P : Program) (f : Tm) (o : Op) (v : Value) (σ : St) : Prop :=
  match o with
  | .load t x => match aeval f x with
    | .pointer (some a) => (a.block < σ.next ∧ goodB RD v = true) ∧ loadA P σ t a = some v
    | _ => False
  | .slice t x lo hi mx => (belowL σ.next (aeval f x :: (optL f lo ++ (optL f hi ++ optL f mx))) ∧ goodB RD v = true) ∧ sliceA P σ t (aeval f x) (lo.map (aeval f)) (hi.map (aeval f)) (mx.map (aeval f)) = some v
  | .lookup t m k ok => (belowL σ.next [aeval f m, aeval f k] ∧ goodB RD v = true) ∧ lookOp P (evL [aeval f m, aeval f k]) σ (.lookup t (.tmp 0) (.tmp 1) ok) = some v
  | .convert s d x => (belowL σ.next [aeval f x] ∧ goodB RD v = true) ∧ seeOp P (evL [aeval f x]) σ (.convert s d (.tmp 0)) = some v
  | .call c => (belowL σ.next (c.args.toList.map (aeval f)) ∧ goodB RD v = true) ∧ c.callee = .builtin .len ∧ seeOp P (evL (c.args.toList.map (aeval f))) σ (.call { c with args := ⟨tmpsTo c.args.toList.length⟩ }) = some v
  | _ => False
/-- A value without an address. -/
def trivB : Value → Bool
  | .bool _ | .int .. | .string _ | .nilFunc | .nilIface => true
  | _ => false
/-- The operands that are no function's name. -/
def opsV (f : Tm) (o : Op) : List Value := (o.operands.toList.filter fun x => !isFn x).map (aeval f)
/-- Is something asked of an operation that acts or looks? -/
def lowB (f : Tm) (o : Op) : Bool := (actsB o || looksB o) && !(opsV f o).all trivB
def wpOpsD (P : Program) (rec : Rec) (ops : Array Oper) : List Oper → List Ans → Tm → St → List Lk → (Tm → St → List Lk → List Ans → Prop) → Prop
  | [], as, f, σ, l, K => K f σ l as
  | o :: rest, as, f, σ, l, K =>
    match guardA ops f o with
    | some true => wpOp P rec f σ o.op as fun v σ' as => wpOpsD P rec ops rest as (setO f o.dst v) σ' (l ++ [⟨true, lowB f o.op, belowL σ.next (opsV f o.op), lookP P f o.op v, σ, σ'⟩]) K
    | some false => wpOpsD P rec ops rest as (setO f o.dst undef) σ (l ++ [⟨false, false, True, fun _ => True, σ, σ⟩]) K
    | none => False
/-- What must be shown besides of a region that draws. -/
def steadies (l : List Lk) : List (Nat × Nat) → Prop → Prop
  | [], K => K
  | p :: ps, K => match l[p.1]?, l[p.2]? with
    | some sj, some sk => match sj.want with
      | true => sj.look sk.before ∧ sj.look sk.after ∧ steadies l ps K
      | false => steadies l ps K
    | _, _ => False
def belows : List Lk → Prop → Prop
  | [], K => K
  | s :: ss, K => match s.need with
    | true => s.low ∧ belows ss K
    | false => belows ss K

def wpC (P : Program) (rec : Rec) (N : Nat) (rd : Option Nat) : Code → List Ans → Fr → St → (Exit → Fr → St → List Ans → Prop) → Prop
  | .skip, as, fr, σ, K => K .normal fr σ as
  | .label _, as, fr, σ, K => K .normal fr σ as
  | .ret, as, fr, σ, K => K .ret fr σ as
  | .exit id, as, fr, σ, K => K (.exit id) fr σ as
  | .seq x y, as, fr, σ, K => wpC P rec N rd x as fr σ fun e fr σ as => match e with
    | .normal => wpC P rec N rd y as fr σ K
    | e => K e fr σ as
  | .cond c x y, as, fr, σ, K => match aeval fr.f c with
    | .bool true => wpC P rec N rd x as fr σ K
    | .bool false => wpC P rec N rd y as fr σ K
    | _ => False
  | .block id c, as, fr, σ, K => wpC P rec N rd c as fr σ fun e fr σ as => match e with
    | .exit i => match Nat.beq i id with
      | true => K .normal fr σ as
      | false => K (.exit i) fr σ as
    | e => K e fr σ as
  | .scope c, as, fr, σ, K => wpC P rec N rd c as fr σ K
  | .region _ ops false, as, fr, σ, K => wpOps P rec ops ops.toList as fr.f σ [] fun f σ _ as => K .normal ⟨f, fr.marks⟩ σ as
  | .region _ ops true, as, fr, σ, K =>
    match drawOk ops (CheckFast.beforeF ops), pairsA ops (CheckFast.beforeF ops), frees ops (CheckFast.beforeF ops) with
    | true, [], false => wpOps P rec ops ops.toList as fr.f σ [] fun f σ _ as => K .normal ⟨f, fr.marks⟩ σ as
    | true, ps, _ => wpOpsD P rec ops ops.toList as fr.f σ [] fun f σ l as => belows l (steadies l ps (K .normal ⟨f, fr.marks⟩ σ as))
    | false, _, _ => False
  | .loop c, .lp e fr' σ' :: as, fr, σ, K => loopA (codeA P rec N rd c) N fr σ = some (e, fr', σ') ∧ K e fr' σ' as
  | .rangeFunc g ps a bo, .lp e fr' σ' :: as, fr, σ, K => rangeA rec rd g ps a bo fr σ = some (e, fr', σ') ∧ K e fr' σ' as
  | _, _, _, _, _ => False

section
variable {P : Program} {rec : Rec}

theorem autoOp_sound {o : Op} {f : Tm} {σ : St} {r : Value × St} (h : autoOp P (aeval f) σ o = some r) : opA P rec (aeval f) σ o = some r := by
  unfold autoOp at h
  split at h
  · split at h
    · rename_i z hz
      simp [opA, isEffB, effOp, hz, newRow_eq, fN_eq] at h ⊢
      exact h
    · cases h
  · simp [opA, isEffB, effOp, newRow_eq, fN_eq] at h ⊢
    exact h
  · split at h
    · rename_i e n hes
      split at h
      · rename_i z hz
        obtain ⟨hc, h⟩ := bif_some h
        split at h
        · rename_i cs hf
          simp only [opA, isEffB, effOp, hes, hz, hc, cond_true, hf, newRow_eq]
          exact h
        · cases h
      · cases h
    · cases h
  · split at h
    · rename_i ke hmo
      simp only [opA, isEffB, effOp, hmo, cond_true, St.new_eq]
      exact h
    · cases h
  · rename_i hn1 hn2 hn3 hn4
    split at h
    · rename_i v hv
      cases h
      unfold opA
      split
      · rename_i c
        unfold callOp
        split
        · rename_i fx hc
          exfalso
          simp only [valOp] at hv
          split at hv <;> simp_all
        · rename_i hc; exfalso; simp [valOp, hc] at hv
        · rename_i hc; exfalso; simp [valOp, hc] at hv
        · rename_i hc; rw [hv]
        · rename_i hc; rw [hv]; rfl
        · rename_i hc; exfalso; simp [valOp, hc] at hv
      · simp [valOp] at hv
      · simp [valOp] at hv
      · simp [valOp] at hv
      · rw [hv]
      · have : isEffB o = false := by
          cases o <;> first | rfl | (simp [valOp] at hv; done) | (exfalso; rename_i hx _ _ _ _; exact hx _ rfl)
        rw [this, hv]; rfl
    · cases h
end
end Go.Lay
