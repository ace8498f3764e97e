/- The abstract semantics: a deterministic interpreter of the model's code over an abstract heap. Definitions only.
   Addresses are renamed; the capacity of a slice behind a growing append is forgotten (a lower bound stays);
   a region that draws its order is run in the order of the text, and what that order might change is asked. -/
import Derived.CallsIn
import Derived.OrdersIn
import Derived.RangeFuncLeaves
import Derived.CheckFast
set_option linter.unusedVariables false
set_option linter.unusedSimpArgs false
namespace Go.Lay
open Go

/-! ### Forcing: the kernel works a datum out before it goes on -/
def fN {β : Type} (n : Nat) (k : Nat → β) : β := match n with | 0 => k 0 | m + 1 => k (m + 1)
theorem fN_eq {β : Type} (n : Nat) (k : Nat → β) : fN n k = k n := by cases n <;> rfl
def fI {β : Type} (n : Int) (k : Int → β) : β := match n with | .ofNat m => fN m fun m => k (.ofNat m) | .negSucc m => fN m fun m => k (.negSucc m)
theorem fI_eq {β : Type} (n : Int) (k : Int → β) : fI n k = k n := by cases n <;> simp [fI, fN_eq]
def fB {β : Type} (b : Bool) (k : Bool → β) : β := match b with | true => k true | false => k false
theorem fB_eq {β : Type} (b : Bool) (k : Bool → β) : fB b k = k b := by cases b <;> rfl
def fO {β : Type} (o : Option Nat) (k : Option Nat → β) : β := match o with | none => k none | some n => fN n fun n => k (some n)
theorem fO_eq {β : Type} (o : Option Nat) (k : Option Nat → β) : fO o k = k o := by cases o <;> simp [fO, fN_eq]
def fA {β : Type} (a : Addr) (k : Addr → β) : β := match a with | ⟨b, o, s⟩ => fN b fun b => fN o fun o => fO s fun s => k ⟨b, o, s⟩
theorem fA_eq {β : Type} (a : Addr) (k : Addr → β) : fA a k = k a := by cases a; simp [fA, fN_eq, fO_eq]
/-- A list, each element by f. -/
def fL {α β : Type} (f : α → (α → β) → β) : List α → (List α → β) → β
  | [], k => k []
  | x :: l, k => f x fun x => fL f l fun l => k (x :: l)
theorem fL_eq {α β : Type} (f : α → (α → β) → β) (hf : ∀ x k, f x k = k x) : ∀ (l : List α) (k : List α → β), fL f l k = k l
  | [], _ => rfl
  | x :: l, k => by rw [fL, hf, fL_eq f hf l]
/-- A value, to some depth. -/
def fV {β : Type} : Nat → Value → (Value → β) → β
  | 0, v, k => k v
  | n + 1, v, k => match v with
    | .bool b => fB b fun b => k (.bool b)
    | .int kd x => fI x fun x => k (.int kd x)
    | .pointer (some a) => fA a fun a => k (.pointer (some a))
    | .slice (some a) l c => fA a fun a => fN l fun l => fN c fun c => k (.slice (some a) l c)
    | .slice none l c => fN l fun l => fN c fun c => k (.slice none l c)
    | .map (some r) => fN r fun r => k (.map (some r))
    | .agg ⟨cs⟩ => fL (fV n) cs fun cs => k (.agg ⟨cs⟩)
    | .tuple ⟨cs⟩ => fL (fV n) cs fun cs => k (.tuple ⟨cs⟩)
    | .func fn ⟨f⟩ ⟨c⟩ => fL (fV n) f fun f => fL (fV n) c fun c => k (.func fn ⟨f⟩ ⟨c⟩)
    | .iface t x => fV n x fun x => k (.iface t x)
    | v => k v
theorem fV_eq {β : Type} : ∀ (n : Nat) (v : Value) (k : Value → β), fV n v k = k v
  | 0, _, _ => rfl
  | n + 1, v, k => by
    have ih := fun v k => fV_eq (β := β) n v k
    unfold fV
    split <;> simp [fB_eq, fI_eq, fA_eq, fN_eq, fL_eq _ ih, ih]
/-- How deep values are looked into. -/
def RD : Nat := 8
def fVs {β : Type} (l : List Value) (k : List Value → β) : β := fL (fV RD) l k
theorem fVs_eq {β : Type} (l : List Value) (k : List Value → β) : fVs l k = k l := fL_eq _ (fun x k => fV_eq RD x k) l k
/-! ### Values -/
/-- The value that stands for whatever is not known. -/
@[reducible] def POI : Value := .float .f32 0
def atomB : Value → Bool
  | .bool _ | .int .. | .string _ | .pointer none | .slice none _ _ | .map none | .chan none | .nilFunc | .nilIface => true
  | _ => false
/-- Free of addresses (and of the unknown). -/
def rigidB : Nat → Value → Bool
  | 0, _ => false
  | n + 1, .agg cs => cs.toList.all (rigidB n)
  | n + 1, .tuple cs => cs.toList.all (rigidB n)
  | n + 1, .iface _ v => rigidB n v
  | n + 1, .func (.func _) f c => f.toList.all (rigidB n) && c.toList.all (rigidB n)
  | _ + 1, v => atomB v
/-- May it lie in one cell? -/
def cellB : Value → Bool
  | .agg _ | .tuple _ => false
  | _ => true

/-! ### The abstract heap -/
/-! ### Trees: what lies under a number -/
inductive Tr (α : Type) where
  | leaf
  | node (v : Option α) (l r : Tr α)
  deriving Inhabited
def bits : Nat → Nat → List Bool
  | 0, _ => []
  | f + 1, i => bif Nat.beq i 0 then [] else Nat.beq (i % 2) 1 :: bits f (i / 2)
/-- The way to a number. -/
def way (i : Nat) : List Bool := bits i i
def Tr.getP {α : Type} : List Bool → Tr α → Option α
  | _, .leaf => none
  | [], .node v _ _ => v
  | b :: p, .node _ l r => bif b then getP p r else getP p l
def Tr.setP {α β : Type} : List Bool → Tr α → Option α → (Tr α → β) → β
  | [], .leaf, v, k => k (.node v .leaf .leaf)
  | [], .node _ l r, v, k => k (.node v l r)
  | b :: p, .leaf, v, k => bif b then setP p .leaf v fun r => k (.node none .leaf r) else setP p .leaf v fun l => k (.node none l .leaf)
  | b :: p, .node x l r, v, k => bif b then setP p r v fun r => k (.node x l r) else setP p l v fun l => k (.node x l r)
def Tr.get {α : Type} (t : Tr α) (i : Nat) : Option α := Tr.getP (way i) t
def Tr.set {α : Type} (t : Tr α) (i : Nat) (v : Option α) : Tr α := Tr.setP (way i) t v id

/-- A frame's temporaries: how many; what they hold. -/
structure Tm where
  n : Nat
  t : Tr Value
  deriving Inhabited
def Tm.nth (f : Tm) (i : Nat) : Value := match Tr.getP (way i) f.t with | some v => v | none => undef
def Tm.put {β : Type} (f : Tm) (i : Nat) (v : Value) (k : Tm → β) : β :=
  match f with | ⟨n, t⟩ => bif Nat.blt i n then fV RD v fun v => Tr.setP (way i) t (some v) fun t => k ⟨n, t⟩ else k ⟨n, t⟩
def Tm.puts {β : Type} : List (Nat × Value) → Tm → (Tm → β) → β
  | [], f, k => k f
  | (i, v) :: l, f, k => f.put i v fun f => Tm.puts l f k
def Tm.args : Nat → List Value → List (Nat × Value)
  | _, [] => []
  | i, v :: l => (i, v) :: Tm.args (i + 1) l

/-- cells: the cells; the size of an element; the log of the stamps that are good (the newest first) with how far each reaches; the next stamp; read alone? -/
inductive Blk where
  | cells (cs : List Value) (esz : Nat) (log : List (Nat × Nat)) (next : Nat) (ro : Bool)
  | map (es : List (Value × Value))
  | loop (tmps : Tm) (params : List Tmp) (assign body : Code) (st : LoopState) (pend : Option Code) (db : Nat)
  | defd
  deriving Inhabited

structure St where
  heap : Tr Blk
  next : Nat
  low : Nat
  deriving Inhabited

def getB (h : Tr Blk) (b : Nat) : Option Blk := Tr.getP (way b) h
/-- Lay a block anew: it has been written. -/
def St.write {β : Type} (σ : St) (b : Nat) (y : Blk) (k : St → β) : β :=
  match σ with | ⟨heap, next, low⟩ => Tr.setP (way b) heap (some y) fun h => fN (bif Nat.ble low b then low else b) fun l => k ⟨h, next, l⟩
/-- A new block. -/
def St.new {β : Type} (σ : St) (y : Blk) (k : Nat → St → β) : β :=
  match σ with | ⟨heap, next, low⟩ => Tr.setP (way next) heap (some y) fun h => fN (next + 1) fun n => k next ⟨h, n, low⟩
/-- A block is dropped. -/
def St.drop {β : Type} (σ : St) (b : Nat) (k : St → β) : β :=
  match σ with | ⟨heap, next, low⟩ => Tr.setP (way b) heap none fun h => fN (bif Nat.ble low b then low else b) fun l => k ⟨h, next, l⟩

def stampOf (a : Addr) : Nat := a.spot.getD 0
def extOf : List (Nat × Nat) → Nat → Option Nat
  | [], _ => none
  | (k, e) :: r, s => bif Nat.beq k s then some e else extOf r s
/-- The log from a stamp on: what is newer is dropped. -/
def logFrom : List (Nat × Nat) → Nat → List (Nat × Nat)
  | [], _ => []
  | (k, e) :: r, s => bif Nat.beq k s then (k, e) :: r else logFrom r s
def aadd (a : Addr) (n : Nat) : Addr := { a with off := a.off + n }

def readRow (σ : St) (a : Addr) (n : Nat) : Option (List Value) :=
  match getB σ.heap a.block with
  | some (.cells cs _ log _ _) =>
    match extOf log (stampOf a) with
    | some e => bif Nat.ble (a.off + n) e then some ((cs.drop a.off).take n) else none
    | none => none
  | _ => none
/-- Writing through the newest stamp: all older ones are good no more. -/
def writeRow (σ : St) (a : Addr) (vs : List Value) : Option St :=
  match getB σ.heap a.block with
  | some (.cells cs esz log nx ro) =>
    match log with
    | (s, e) :: _ =>
      bif Nat.beq s (stampOf a) && Nat.ble (a.off + vs.length) e && !ro && vs.all cellB then
        fVs (cs.take a.off ++ (vs ++ cs.drop (a.off + vs.length))) fun cs => σ.write a.block (.cells cs esz [(s, e)] nx ro) some
      else none
    | [] => none
  | _ => none
def newRow {β : Type} (σ : St) (esz : Nat) (cs : List Value) (k : Addr → St → β) : β :=
  fVs cs fun cs => fN cs.length fun n => σ.new (.cells cs esz [(0, n)] 1 false) fun b σ => k ⟨b, 0, none⟩ σ

/-! ### Types -/
def sizeT (P : Program) (t : TypeId) : Option Nat := (P.info? t).map (·.size)
/-- How many cells an element has, where a variable of the type is an array; all of them, else. -/
def eszT (P : Program) (t : TypeId) (len : Nat) : Nat := match P.underlying t with
  | some (.array _ e) => match sizeT P e with
    | some n => n
    | none => len
  | _ => len
def aggT (P : Program) (t : TypeId) : Option Bool := match P.underlying t with | some (.struct _) | some (.array _ _) => some true | some _ => some false | none => none
def zeroT (P : Program) (t : TypeId) : Option Value := (P.types[t]?).bind (·.zero)

def loadA (P : Program) (σ : St) (t : TypeId) (a : Addr) : Option Value :=
  match aggT P t with
  | some true => match sizeT P t with
    | some n => (readRow σ a n).map fun cs => .agg ⟨cs⟩
    | none => none
  | some false => match readRow σ a 1 with
    | some [v] => some v
    | _ => none
  | none => none
def storeA (P : Program) (σ : St) (t : TypeId) (a : Addr) (v : Value) : Option St :=
  match sizeT P t with
  | some n => bif Nat.beq v.cells.toList.length n then writeRow σ a v.cells.toList else none
  | none => none

/-! ### Pure operations -/
/-- A computation that asks the program alone. -/
def pureVal (P : Program) {α : Type} : Sem α → Option α
  | .pure a => some a
  | .program k => pureVal P (k P)
  | _ => none

def ltI : Int → Int → Bool
  | .ofNat m, .ofNat n => Nat.blt m n
  | .negSucc _, .ofNat _ => true
  | .ofNat _, .negSucc _ => false
  | .negSucc m, .negSucc n => Nat.blt n m
def leI : Int → Int → Bool
  | .ofNat m, .ofNat n => Nat.ble m n
  | .negSucc _, .ofNat _ => true
  | .ofNat _, .negSucc _ => false
  | .negSucc m, .negSucc n => Nat.ble n m
def eqI : Int → Int → Bool
  | .ofNat m, .ofNat n => Nat.beq m n
  | .negSucc m, .negSucc n => Nat.beq n m
  | _, _ => false
theorem ltI_eq (a b : Int) : ltI a b = decide (a < b) := by
  rw [Bool.eq_iff_iff]
  cases a <;> cases b <;> simp [ltI, Nat.blt] <;> omega
theorem leI_eq (a b : Int) : leI a b = decide (a ≤ b) := by
  rw [Bool.eq_iff_iff]
  cases a <;> cases b <;> simp [leI] <;> omega
theorem eqI_eq (a b : Int) : eqI a b = (a == b) := by
  rw [Bool.eq_iff_iff]
  cases a <;> cases b <;> simp [eqI] <;> omega
/-- Wrapping, quick where nothing wraps. -/
def wrapK (k : IntKind) (n : Int) : Int :=
  match k with
  | .i64 => match n with
    | .ofNat m => bif Nat.ble m 9223372036854775807 then .ofNat m else IntKind.wrap .i64 (.ofNat m)
    | .negSucc m => bif Nat.ble m 9223372036854775807 then .negSucc m else IntKind.wrap .i64 (.negSucc m)
  | k => k.wrap n

def intBin (op : BinOp) (k : IntKind) (a b : Int) : Option Value :=
  match op with
  | .add => some (.int k (wrapK k (Int.add a b)))
  | .sub => some (.int k (wrapK k (Int.sub a b)))
  | .mul => some (.int k (wrapK k (Int.mul a b)))
  | .eql => some (.bool (eqI a b))
  | .neq => some (.bool (!eqI a b))
  | .lss => some (.bool (ltI a b))
  | .leq => some (.bool (leI a b))
  | .gtr => some (.bool (ltI b a))
  | .geq => some (.bool (leI b a))
  | .quo => if b = 0 then none else some (.int k (k.wrap (a.tdiv b)))
  | .rem => if b = 0 then none else some (.int k (a.tmod b))
  | _ => none

def sameKind : IntKind → IntKind → Bool
  | .i8, .i8 | .i16, .i16 | .i32, .i32 | .i64, .i64 | .u8, .u8 | .u16, .u16 | .u32, .u32 | .u64, .u64 => true
  | _, _ => false

/-- What is nil is told from what is not. -/
def nilEq (P : Program) (t : TypeId) (x y : Value) : Option Bool :=
  match P.underlying t, x, y with
  | some (.slice _), .slice none _ _, .slice b _ _ => some b.isNone
  | some (.slice _), .slice (some _) _ _, .slice none _ _ => some false
  | some (.map _ _), .map none, .map b => some b.isNone
  | some (.map _ _), .map (some _), .map none => some false
  | some (.func _ _ _), .nilFunc, .func _ _ _ => some false
  | some (.func _ _ _), .func _ _ _, .nilFunc => some false
  | some (.pointer _), .pointer none, .pointer b => some b.isNone
  | some (.pointer _), .pointer (some _), .pointer none => some false
  | some (.interface _), .nilIface, .iface _ _ => some false
  | some (.interface _), .iface _ _, .nilIface => some false
  | _, _, _ => none

def binGen (P : Program) (op : BinOp) (t : TypeId) (ox oy : Operand) (x y : Value) : Option Value :=
  bif rigidB RD x && rigidB RD y then (pureVal P (do eqGuard op t ox oy x y; binOp op t x y)).filter (rigidB RD) else
    match op with
    | .eql => (nilEq P t x y).map .bool
    | .neq => (nilEq P t x y).map fun b => .bool !b
    | _ => none
def binA (P : Program) (op : BinOp) (t : TypeId) (ox oy : Operand) (x y : Value) : Option Value :=
  match x, y with
  | .int k a, .int k' b => bif sameKind k k' then (match intBin op k a b with | some v => some v | none => binGen P op t ox oy (.int k a) (.int k' b)) else binGen P op t ox oy (.int k a) (.int k' b)
  | x, y => binGen P op t ox oy x y

def fieldsOf (P : Program) (t : TypeId) : Option (Array Field) := match P.underlying t with | some (.struct fs) => some fs | _ => none

/-- A part of an aggregate. -/
def partA (P : Program) (t : TypeId) (cs : List Value) (off : Nat) : Option Value :=
  match aggT P t, sizeT P t with
  | some true, some n => some (.agg ⟨(cs.drop off).take n⟩)
  | some false, _ => cs[off]?
  | _, _ => none

def fillA (place : Nat → Option (Nat × Nat)) : List Value → List (Nat × Value) → Option (List Value)
  | cells, [] => some cells
  | cells, (i, v) :: rest =>
    match place i with
    | none => none
    | some (off, size) =>
      let c := v.cells.toList
      bif Nat.beq c.length size && Nat.ble (off + size) cells.length then fillA place (cells.take off ++ (c ++ cells.drop (off + size))) rest else none

def placesOf (P : Program) (fs : Array Field) : Option (List (Nat × Nat)) := fs.toList.mapM fun f => (sizeT P f.type).map fun n => (f.offset, n)

def buildA (P : Program) (t : TypeId) (parts : List (Nat × Value)) : Option Value :=
  match zeroT P t, P.underlying t with
  | some z, some (.struct fs) =>
    match placesOf P fs with
    | some ps => (fillA (fun i => ps[i]?) z.cells.toList parts).map fun cs => .agg ⟨cs⟩
    | none => none
  | some z, some (.array _ elem) =>
    match sizeT P elem with
    | some n => (fillA (fun i => some (i * n, n)) z.cells.toList parts).map fun cs => .agg ⟨cs⟩
    | none => none
  | _, _ => none

/-- So many zero elements, cell by cell. -/
def zerosA (z : List Value) : Nat → List Value
  | 0 => []
  | n + 1 => z ++ zerosA z n

def elemOfSlice (P : Program) (t : TypeId) : Option (TypeId × Nat) :=
  match P.underlying t with
  | some (.slice e) => (sizeT P e).map fun n => (e, n)
  | _ => none

/-- The mark of a capacity that is a lower bound alone. -/
@[irreducible] def INEX : Nat := 4611686018427387904
def capLow (c : Nat) : Nat := if INEX ≤ c then c - INEX else c
def capExact (c : Nat) : Bool := !Nat.ble INEX c
/-- Bounds of what may be made. -/
def roomy (n sz bytes : Nat) : Bool := Nat.ble n 1073741824 && Nat.ble sz 4096 && Nat.ble bytes 4096

def indexAddrA (P : Program) (t : TypeId) (x ix : Value) : Option Value :=
  match ix, x, P.underlying t with
  | .int _ i, .pointer (some a), some (.array len elem) =>
    match sizeT P elem with
    | some n => bif leI 0 i && ltI i (.ofNat len) then some (.pointer (some (aadd a (i.toNat * n)))) else none
    | none => none
  | .int _ i, .slice (some a) len _, some (.slice elem) =>
    match sizeT P elem with
    | some n => bif leI 0 i && ltI i (.ofNat len) then some (.pointer (some (aadd a (i.toNat * n)))) else none
    | none => none
  | _, _, _ => none

def fieldAddrA (P : Program) (s : TypeId) (x : Value) (f : Nat) : Option Value :=
  match x, fieldsOf P s with
  | .pointer (some a), some fs =>
    match fs[f]? with
    | some fd => match sizeT P fd.type with
      | some 0 => none
      | some _ => some (.pointer (some (aadd a fd.offset)))
      | none => none
    | none => none
  | _, _ => none

def fieldA (P : Program) (t : TypeId) (x : Value) (f : Nat) : Option Value :=
  match x, fieldsOf P t with
  | .agg cs, some fs => match fs[f]? with
    | some fd => partA P fd.type cs.toList fd.offset
    | none => none
  | _, _ => none

def indexA (P : Program) (t : TypeId) (x ix : Value) : Option Value :=
  match ix, x, P.underlying t with
  | .int _ i, .agg cs, some (.array len elem) =>
    match sizeT P elem with
    | some n => bif leI 0 i && ltI i (.ofNat len) then partA P elem cs.toList (i.toNat * n) else none
    | none => none
  | .int _ i, .string s, some .string => if 0 ≤ i then (s[i.toNat]?).map fun b => .int .u8 b.toNat else none
  | _, _, _ => none

def boundA (o : Option Value) (d top : Nat) : Option Nat :=
  match o with
  | none => some d
  | some (.int _ i) => bif leI 0 i && leI i (.ofNat top) then some i.toNat else none
  | some _ => none

/-- The numbers of a slice expression: from, to, and as far as the capacity. -/
def sliceNums (lo hi mx : Option Value) (len known : Nat) : Option (Nat × Nat × Nat) :=
  match mx with
  | none => match boundA hi len known with
    | some h => match boundA lo 0 h with
      | some l => some (l, h, known)
      | none => none
    | none => none
  | some m => match boundA (some m) 0 known with
    | some m => match hi with
      | some h => match boundA (some h) 0 m with
        | some h => match boundA lo 0 h with
          | some l => some (l, h, m)
          | none => none
        | none => none
      | none => none
    | none => none
/-- Has the block of an address, good as it is, elements of that size? -/
def eszOk (σ : St) (a : Addr) (n : Nat) : Bool :=
  match getB σ.heap a.block with
  | some (.cells _ esz log _ _) => (extOf log (stampOf a)).isSome && Nat.beq esz n
  | _ => false
/-- So many cells lie at an address, in elements of that size. -/
def arrOk (σ : St) (a : Addr) (k n : Nat) : Bool :=
  match getB σ.heap a.block with
  | some (.cells _ esz log _ _) => (match extOf log (stampOf a) with | some e => Nat.ble (a.off + k) e | none => false) && Nat.beq esz n
  | _ => false
/-- A slice expression of a slice, an array or a string. -/
def sliceA (P : Program) (σ : St) (t : TypeId) (x : Value) (lo hi mx : Option Value) : Option Value :=
  match x, P.underlying t with
  | .slice none len cap, some (.slice elem) =>
    match sizeT P elem with
    | some _ => bif capExact cap then
        match sliceNums lo hi mx len cap with
        | some (l, h, m) => some (.slice none (h - l) (m - l))
        | none => none
      else none
    | none => none
  | .slice (some a) len cap, some (.slice elem) =>
    match sizeT P elem with
    | some n => bif eszOk σ a n then
        match sliceNums lo hi mx len (capLow cap) with
        | some (l, h, m) =>
          bif mx.isSome || capExact cap then bif Nat.ble l m then some (.slice (some (bif Nat.beq m l then a else aadd a (l * n))) (h - l) (m - l)) else none
          else bif Nat.ble m l then none else some (.slice (some (aadd a (l * n))) (h - l) (m - l + INEX))
        | none => none
      else none
    | none => none
  | .pointer (some a), some (.array len elem) =>
    match sizeT P elem with
    | some n => bif arrOk σ a (len * n) n then
        match sliceNums lo hi mx len len with
        | some (l, h, m) => bif Nat.ble l m then some (.slice (some (bif Nat.beq m l then a else aadd a (l * n))) (h - l) (m - l)) else none
        | none => none
      else none
    | none => none
  | .string s, some .string =>
    match mx with
    | none => match boundA hi s.size s.size with
      | some h => match boundA lo 0 h with
        | some l => some (.string (s.extract l h))
        | none => none
      | none => none
    | some _ => none
  | _, _ => none

/-- Operations that look at no memory. -/
def valOp (P : Program) (ev : Operand → Value) (o : Op) : Option Value :=
  match o with
  | .move x | .assign x => some (ev x)
  | .pick c a b => match ev c with
    | .bool t => some (bif t then ev a else ev b)
    | _ => none
  | .nilCheck x => match ev x with
    | .pointer (some a) => some (.pointer (some a))
    | _ => none
  | .binOp op t x y _ => binA P op t x y (ev x) (ev y)
  | .unOp op _ x =>
    match op, ev x with
    | .not, .bool b => some (.bool !b)
    | .neg, .int k n => some (.int k (wrapK k (Int.sub 0 n)))
    | op, v => bif rigidB RD v then (pureVal P (Op.unary op v)).filter (rigidB RD) else none
  | .convert s d x =>
    match P.underlying s, P.underlying d, ev x with
    | some _, some (.int k), .int _ n => some (.int k (wrapK k n))
    | _, _, v => bif rigidB RD v then (pureVal P (convert s d v)).filter (rigidB RD) else none
  | .build t ps => buildA P t (ps.toList.map fun p => (p.1, ev p.2))
  | .makeInterface t x => match P.underlying t with
    | some (.interface _) => none
    | some _ => some (.iface t (ev x))
    | none => none
  | .makeFunc fn first cap => match fn with
    | .func _ => some (.func fn ⟨first.toList.map ev⟩ ⟨cap.toList.map ev⟩)
    | _ => none
  | .fieldAddr s x f => fieldAddrA P s (ev x) f
  | .field t x f => fieldA P t (ev x) f
  | .indexAddr t x i => indexAddrA P t (ev x) (ev i)
  | .index t x i => indexA P t (ev x) (ev i)
  | .extract t i => match ev t with
    | .tuple vs => vs.toList[i]?
    | _ => none
  | .call c => match c.callee with
    | .builtin .len => match c.argTypes.toList[0]?, c.args.toList.map ev with
      | some t, x :: _ => match P.underlying t, x with
        | some (.slice _), .slice _ n _ => some (goInt n)
        | some .string, .string s => some (goInt s.size)
        | some (.array n _), _ => some (goInt n)
        | some (.map _ _), .map none => some (goInt 0)
        | _, _ => none
      | _, _ => none
    | .builtin .cap => match c.argTypes.toList[0]?, c.args.toList.map ev with
      | some t, x :: _ => match P.underlying t, x with
        | some (.slice _), .slice _ _ k => bif capExact k then some (goInt k) else none
        | _, _ => none
      | _, _ => none
    | .builtin .min => bif (c.args.toList.map ev).all (rigidB RD) then (pureVal P (Builtin.min_ c.argTypes 0 ⟨c.args.toList.map ev⟩)).filter (rigidB RD) else none
    | .builtin .max => bif (c.args.toList.map ev).all (rigidB RD) then (pureVal P (Builtin.max_ c.argTypes 0 ⟨c.args.toList.map ev⟩)).filter (rigidB RD) else none
    | _ => none
  | _ => none

/-! ### Maps -/
/-- The place of a key. -/
def keyIdx (P : Program) (kt : TypeId) (k : Value) : List (Value × Value) → Nat → Option (Option Nat)
  | [], _ => some none
  | (k', _) :: es, i =>
    match pureVal P (Op.equal kt k k') with
    | some true => some (some i)
    | some false => keyIdx P kt k es (i + 1)
    | none => none
def mapOf (P : Program) (t : TypeId) : Option (TypeId × TypeId) := match P.underlying t with | some (.map k e) => some (k, e) | _ => none
def keyOk (P : Program) (empty : Bool) (kt : TypeId) (k : Value) : Bool := rigidB RD k && (pureVal P (Instr.checkKey empty 10000 kt k)).isSome

/-- The bytes that cells hold. -/
def bytesA : List Value → Option (List UInt8)
  | [] => some []
  | .int .u8 n :: l => match bytesA l with
    | some bs => some (UInt8.ofNat n.toNat :: bs)
    | none => none
  | _ => none
/-- Operations that look at memory, and leave it. -/
def lookOp (P : Program) (ev : Operand → Value) (σ : St) (o : Op) : Option Value :=
  match o with
  | .load t a => match ev a with
    | .pointer (some a) => loadA P σ t a
    | _ => none
  | .slice t x lo hi mx => sliceA P σ t (ev x) (lo.map ev) (hi.map ev) (mx.map ev)
  | .lookup t m i ok =>
    match mapOf P t with
    | some (kt, et) =>
      match zeroT P et with
      | some z =>
        let key := ev i
        let fin : Value → Bool → Value := fun v b => bif ok then .tuple ⟨[v, .bool b]⟩ else v
        match ev m with
        | .map none => bif keyOk P true kt key then some (fin z false) else none
        | .map (some r) =>
          match getB σ.heap r with
          | some (.map es) =>
            bif keyOk P es.isEmpty kt key then
              match keyIdx P kt key es 0 with
              | some (some i) => (es[i]?).map fun e => fin e.2 true
              | some none => some (fin z false)
              | none => none
            else none
          | _ => none
        | _ => none
      | none => none
    | none => none
  | .call c => match c.callee with
    | .builtin .len => match c.argTypes.toList[0]?, c.args.toList.map ev with
      | some t, x :: _ => match mapOf P t, x with
        | some _, .map (some r) => match getB σ.heap r with
          | some (.map es) => some (goInt es.length)
          | _ => none
        | _, _ => none
      | _, _ => none
    | _ => none
  | .convert s d x => match P.underlying s, P.underlying d with
    | some (.slice e), some .string => match P.underlying e, ev x with
      | some (.int .u8), .slice (some a) len _ => match readRow σ a len with
        | some cs => match bytesA cs with
          | some bs => some (.string ⟨⟨bs⟩⟩)
          | none => none
        | none => none
      | _, _ => none
    | _, _ => none
  | _ => none

/-! ### Operations that make or write memory -/
/-- The cells of what is appended. -/
def srcCells (σ : St) (n : Nat) (x : Value) : Option (Nat × List Value) :=
  match x with
  | .slice none len _ => bif Nat.beq len 0 then some (0, []) else none
  | .slice (some a) len _ => (readRow σ a (len * n)).map fun cs => (len, cs)
  | .string s => some (s.size, s.data.toList.map fun b => .int .u8 b.toNat)
  | _ => none

/-- What is appended: how many elements, their cells. -/
def appSrc (σ : St) (n : Nat) (z : Value) (xd : TypeDesc) (x : Value) : Option (Nat × List Value) :=
  match xd with
  | .int _ => match x with
    | .int _ i => bif leI 0 i && leI i 1073741824 && Nat.beq z.cells.toList.length n && Nat.blt 0 n then some (i.toNat, zerosA z.cells.toList i.toNat) else none
    | _ => none
  | _ => srcCells σ n x
/-- An append that grows a slice whose capacity is not known: one more stamp. -/
def appGrow (σ : St) (n : Nat) (a : Addr) (len known cnt : Nat) (cs : List Value) : Option (Value × St) :=
  match getB σ.heap a.block with
  | some (.cells bc esz log nx ro) =>
    match extOf log (stampOf a) with
    | some ex =>
      bif Nat.beq len known && Nat.beq (a.off + len * n) ex && Nat.beq esz n && !ro && Nat.blt 0 n then
        fVs (bc.take ex ++ cs) fun bc' => fN (ex + cnt * n) fun ex' => fN (nx + 1) fun nx' =>
        σ.write a.block (.cells bc' esz ((nx, ex') :: logFrom log (stampOf a)) nx' ro) fun σ =>
          some (.slice (some ⟨a.block, a.off, some nx⟩) (len + cnt) (len + cnt + INEX), σ)
      else none
    | none => none
  | _ => none
def appRows (σ : St) (n : Nat) (base : Option Addr) (len cap cnt : Nat) (cs : List Value) : Option (Value × St) :=
  bif Nat.ble (len + cnt) (capLow cap) then
    match base with
    | none => bif Nat.beq cnt 0 then some (.slice none (len + cnt) cap, σ) else none
    | some a => bif Nat.beq cnt 0 then some (.slice base (len + cnt) cap, σ) else
      (writeRow σ (aadd a (len * n)) cs).map fun σ => (.slice base (len + cnt) cap, σ)
  else bif capExact cap then
    -- it grows, whatever the tape says: new memory
    match base with
    | none => bif Nat.beq len 0 then newRow σ n cs fun a σ => some (.slice (some a) (len + cnt) (len + cnt + INEX), σ) else none
    | some a => match readRow σ a (len * n) with
      | some old => newRow σ n (old ++ cs) fun a σ => some (.slice (some a) (len + cnt) (len + cnt + INEX), σ)
      | none => none
  else
    match base with
    | none => none
    | some a => appGrow σ n a len (capLow cap) cnt cs
def appendA (P : Program) (st xt : TypeId) (s x : Value) (σ : St) : Option (Value × St) :=
  match elemOfSlice P st, P.underlying xt, s with
  | some (e, n), some xd, .slice base len cap =>
    match P.info? e with
    | some ei => match ei.zero with
      | some z => match appSrc σ n z xd x with
        | some (cnt, cs) => bif roomy (len + cnt) n ei.bytes && cs.all cellB && Nat.beq cs.length (cnt * n) && rigidB RD z && Nat.beq z.cells.toList.length n then appRows σ n base len cap cnt cs else none
        | none => none
      | none => none
    | none => none
  | _, _, _ => none

inductive FnRef where
  | func (f : FuncId)
  | yield (l : Nat)
def refOf (fv : Value) (args : List Value) : Option (FnRef × List Value) :=
  match fv with
  | .func (.func f) first cap => some (.func f, first.toList ++ (args ++ cap.toList))
  | .func (.yield l) first _ => some (.yield l, first.toList ++ args)
  | _ => none

/-! ### Functions without a body -/
def headName {α : Type} : List (String × α) → String
  | (n, _) :: _ => n
  | [] => ""
/-- The names, from the model's own tables. -/
def cntName : String := headName Extern.BytealgCount.rows
def idxName : String := headName Extern.BytealgIndexByte.rows
/-- The bytes of a string, or of a slice of them. -/
def bytesV (σ : St) : Value → Option (List UInt8)
  | .string s => some s.data.toList
  | .slice none _ _ => some []
  | .slice (some a) len _ => match readRow σ a len with
    | some cs => bytesA cs
    | none => none
  | _ => none
/-- What they answer. -/
def extV (fn : Func) (bs : List UInt8) (c : UInt8) : Option Value :=
  bif fn.name == cntName then some (goInt ((ByteArray.mk ⟨bs⟩).foldl (fun n x => if x == c then n + 1 else n) (0 : Nat)))
  else bif fn.name == idxName then
    match (List.range (ByteArray.mk ⟨bs⟩).size).find? fun i => (ByteArray.mk ⟨bs⟩)[i]! == c with
    | some i => some (goInt i)
    | none => some (goInt (-1))
  else none
def extR (P : Program) (σ : St) (r : FnRef) (args : List Value) : Option Value :=
  match r with
  | .func g => match P.funcs[g]? with
    | some fn => match fn.body with
      | some _ => none
      | none => match args with
        | [b, .int .u8 c] => bif fn.origin == fn.name || fn.origin == "" then
            match bytesV σ b with
            | some bs => extV fn bs c.toNat.toUInt8
            | none => none
          else none
        | _ => none
    | none => none
  | .yield _ => none
def isFn : Operand → Bool
  | .func _ => true
  | _ => false
/-- A call of a function by its name alone. -/
def extC (P : Program) (f : Operand) (σ : St) (r : FnRef) (args : List Value) : Option Value := bif isFn f then extR P σ r args else none

def effOp (P : Program) (ev : Operand → Value) (σ : St) (o : Op) : Option (Value × St) :=
  match o with
  | .alloc t => match zeroT P t with
    | some z => fN (eszT P t z.cells.toList.length) fun n => newRow σ n z.cells.toList fun a σ => some (.pointer (some a), σ)
    | none => none
  | .box t x => fN (eszT P t (ev x).cells.toList.length) fun n => newRow σ n (ev x).cells.toList fun a σ => some (.pointer (some a), σ)
  | .buildSlice t len ps =>
    match elemOfSlice P t with
    | some (e, n) => match zeroT P e with
      | some z =>
        bif Nat.ble (len * n) 16777216 && Nat.beq z.cells.toList.length n then
          match fillA (fun i => some (i * n, n)) (zerosA z.cells.toList len) (ps.toList.map fun p => (p.1, ev p.2)) with
          | some cs => newRow σ n cs fun a σ => some (.slice (some a) len len, σ)
          | none => none
        else none
      | none => none
    | none => none
  | .makeMap t r => match r with
    | none => match mapOf P t with
      | some _ => σ.new (.map []) fun b σ => some (.map (some b), σ)
      | none => none
    | some x => match mapOf P t, ev x with
      | some _, .int _ _ => σ.new (.map []) fun b σ => some (.map (some b), σ)
      | _, _ => none
  | .makeSlice t l c =>
    match elemOfSlice P t, ev l, ev c with
    | some (e, n), .int _ li, .int _ ci => match zeroT P e, P.info? e with
      | some z, some ei =>
        bif leI 0 li && leI li ci && leI ci 1073741824 && roomy ci.toNat n ei.bytes && Nat.beq z.cells.toList.length n && Nat.blt 0 n then
          newRow σ n (zerosA z.cells.toList ci.toNat) fun a σ => some (.slice (some a) li.toNat ci.toNat, σ)
        else none
      | _, _ => none
    | _, _, _ => none
  | .store t a x => match ev a with
    | .pointer (some a) => (storeA P σ t a (ev x)).map fun σ => (undef, σ)
    | _ => none
  | .mapUpdate t m k x | .insert t m k x =>
    match mapOf P t, ev m with
    | some (kt, _), .map (some r) =>
      match getB σ.heap r with
      | some (.map es) =>
        bif keyOk P false kt (ev k) then
          match keyIdx P kt (ev k) es 0 with
          | some (some i) => match es[i]? with
            | some e => bif Instr.sameBits 10000 e.1 (ev k) then σ.write r (.map (es.set i (ev k, ev x))) fun σ => some (undef, σ) else none
            | none => none
          | some none => σ.write r (.map (es ++ [(ev k, ev x)])) fun σ => some (undef, σ)
          | none => none
        else none
      | _ => none
    | _, _ => none
  | .call c => match c.callee with
    | .builtin .append => match c.argTypes.toList, c.args.toList.map ev with
      | [st, xt], [s, x] => appendA P st xt s x σ
      | _, _ => none
    | .builtin .copy => match c.argTypes.toList, c.args.toList.map ev with
      | dt :: _, [.slice base len _, .slice sb slen _] => match elemOfSlice P dt with
        | some (_, n) => match srcCells σ n (.slice sb (Nat.min slen len) 0) with
          | some (_, cs) =>
            match base with
            | none => some (goInt (Nat.min slen len), σ)
            | some a => bif Nat.beq (Nat.min slen len) 0 then some (goInt (Nat.min slen len), σ) else (writeRow σ a cs).map fun σ => (goInt (Nat.min slen len), σ)
          | none => none
        | none => none
      | _, _ => none
    | .value f => match refOf (ev f) (c.args.toList.map ev) with
      | some (r, as) => (extC P f σ r as).map fun v => (v, σ)
      | none => none
    | _ => none
  | _ => none

/-! ### Calls, regions, code -/
abbrev Rec := FnRef → List Value → St → Option (Value × St)

/-- A frame's tree, all of it. -/
def fullT : Nat → Tr Value
  | 0 => .leaf
  | d + 1 => .node (some undef) (fullT d) (fullT d)
def fresh (n : Nat) : Tm := ⟨n, fullT ((way n).length + 1)⟩

def aeval (f : Tm) : Operand → Value
  | .tmp t => f.nth t
  | .const v => v
  | .global _ => POI
  | .func g => .func (.func g) #[] #[]

/-- Behind a call: where the callee has written nothing that was there, and hands back no address, memory is as it was. -/
def backA (σ : St) (v : Value) (σ' : St) : Option (Value × St) :=
  bif Nat.ble σ.next σ'.low && rigidB RD v then some (v, σ)
  else bif Nat.ble σ.next σ'.next then fN (bif Nat.ble σ.low σ'.low then σ.low else σ'.low) fun l => some (v, ⟨σ'.heap, σ'.next, l⟩)
  else none
def callA (rec : Rec) (r : FnRef) (args : List Value) (σ : St) : Option (Value × St) :=
  match rec r args ⟨σ.heap, σ.next, σ.next⟩ with
  | none => none
  | some (v, σ') => backA σ v σ'

def isEffB : Op → Bool
  | .alloc _ | .box .. | .buildSlice .. | .makeMap .. | .makeSlice .. | .store .. | .mapUpdate .. | .insert .. => true
  | .call c => match c.callee with | .builtin .append | .builtin .copy => true | _ => false
  | _ => false

def with_ (σ : St) : Option Value → Option (Value × St)
  | some v => some (v, σ)
  | none => none

/-- A call of whatever kind. -/
def callOp (P : Program) (rec : Rec) (ev : Operand → Value) (σ : St) (c : Call) : Option (Value × St) :=
  match c.callee with
  | .value f =>
    match refOf (ev f) (c.args.toList.map ev) with
    | some (r, as) => match extC P f σ r as with
      | some v => some (v, σ)
      | none => callA rec r as σ
    | none => none
  | .builtin .append | .builtin .copy => effOp P ev σ (.call c)
  | .builtin .len => match valOp P ev (.call c) with
    | some v => some (v, σ)
    | none => with_ σ (lookOp P ev σ (.call c))
  | .builtin _ => with_ σ (valOp P ev (.call c))
  | .invoke _ _ => none

/-- One operation that is wanted. -/
def opA (P : Program) (rec : Rec) (ev : Operand → Value) (σ : St) (o : Op) : Option (Value × St) :=
  match o with
  | .call c => callOp P rec ev σ c
  | .load t a => with_ σ (lookOp P ev σ (.load t a))
  | .lookup t m i ok => with_ σ (lookOp P ev σ (.lookup t m i ok))
  | .slice t x lo hi mx => with_ σ (lookOp P ev σ (.slice t x lo hi mx))
  | .convert s d x => match valOp P ev (.convert s d x) with
    | some v => some (v, σ)
    | none => with_ σ (lookOp P ev σ (.convert s d x))
  | o => bif isEffB o then effOp P ev σ o else with_ σ (valOp P ev o)

/-- Is it wanted? (none: that is not known.) -/
def guardA (ops : Array Oper) (f : Tm) (o : Oper) : Option Bool :=
  match o.guard with
  | none => some true
  | some (j, want) => match (ops[j]?).bind (·.dst) with
    | some d => match f.nth d with
      | .bool b => some (b == want)
      | .tuple _ => some false
      | _ => none
    | none => none

def putA {β : Type} (f : Tm) (dst : Option Tmp) (v : Value) (k : Tm → β) : β :=
  match dst with
  | some d => f.put d v k
  | none => k f

/-- The operations in the order of the text. -/
def opsA (P : Program) (rec : Rec) (ops : Array Oper) : List Oper → Tm → St → Option (Tm × St)
  | [], f, σ => some (f, σ)
  | o :: rest, f, σ =>
    match guardA ops f o with
    | some true =>
      match opA P rec (aeval f) σ o.op with
      | some (v, σ') => putA f o.dst v fun f => opsA P rec ops rest f σ'
      | none => none
    | some false => putA f o.dst undef fun f => opsA P rec ops rest f σ
    | none => none

/-! #### Regions that draw -/
/-- Does it act (or call)? -/
def actsB : Op → Bool
  | .call c => match c.callee with | .builtin .len | .builtin .cap | .builtin .min | .builtin .max => false | _ => true
  | o => isEffB o
/-- Does it make one new block, whatever lies in memory? -/
def makesB : Op → Bool
  | .alloc _ | .box .. | .buildSlice .. | .makeMap .. | .makeSlice .. => true
  | _ => false
/-- Does it look at memory? -/
def looksB : Op → Bool
  | .load .. | .lookup .. | .slice .. | .convert .. => true
  | .call c => match c.callee with | .builtin .len => true | _ => false
  | _ => false

def pre (b : Array Nat) (i j : Nat) : Bool := (b.getD j 0).testBit i
def apartB (b : Array Nat) (i j : Nat) : Bool := !pre b i j && !pre b j i
/-- The pairs: an operation that looks, one that acts, in no order. -/
def pairsA (ops : Array Oper) (b : Array Nat) : List (Nat × Nat) :=
  (List.range ops.size).flatMap fun j => if looksB (ops.getD j default).op then ((List.range ops.size).filter fun k => actsB (ops.getD k default).op && apartB b j k && !Nat.beq j k).map fun k => (j, k) else []
/-- May it be made ahead of something that acts and stands before it in the text? -/
def freeB (ops : Array Oper) (b : Array Nat) (j : Nat) : Bool :=
  makesB (ops.getD j default).op && (List.range j).any fun i => actsB (ops.getD i default).op && !pre b i j
def frees (ops : Array Oper) (b : Array Nat) : Bool := (List.range ops.size).any fun j => freeB ops b j
/-- What is asked of such a region's text. -/
def drawOk (ops : Array Oper) (b : Array Nat) : Bool :=
  let n := ops.size
  (List.range n).all fun j =>
    let oj := ops.getD j default
    -- edges lead back
    (oj.after.toList.all fun e => !Region.binds .any e || Nat.blt e.on j) &&
    -- a guard's operation is waited for
    (match oj.guard with | none => true | some (g, _) => oj.after.toList.any fun e => Region.binds .any e && Nat.beq e.on g) &&
    (match oj.op with | .select .. | .go _ | .defer _ => false | _ => true) &&
    (List.range n).all fun i =>
      let oi := ops.getD i default
      -- what acts waits for all that acts ahead of it in the text, unless it but makes a block
      (!(Nat.blt i j && actsB oi.op && actsB oj.op && !makesB oj.op) || pre b i j) &&
      -- in no order: neither touches what the other writes
      (Nat.beq i j || !apartB b i j || Oper.apart ops oi oj)
/-- Does a value lie, to the depth that is looked into, under numbers below n alone? -/
def belowB : Nat → Nat → Value → Bool
  | 0, _, _ => false
  | _ + 1, n, .pointer (some a) => Nat.blt a.block n
  | _ + 1, n, .slice (some a) _ _ => Nat.blt a.block n
  | _ + 1, n, .map (some b) => Nat.blt b n
  | d + 1, n, .agg cs => cs.toList.all (belowB d n)
  | d + 1, n, .tuple cs => cs.toList.all (belowB d n)
  | d + 1, n, .iface _ v => belowB d n v
  | d + 1, n, .func fn f c => (match fn with | .yield l => Nat.blt l n | _ => true) && f.toList.all (belowB d n) && c.toList.all (belowB d n)
  | _ + 1, _, _ => true
def below (n : Nat) (f : Tm) (o : Oper) : Bool := o.op.operands.toList.all fun x => belowB RD n (aeval f x)

structure Seen where
  f : Tm
  v : Value
  want : Bool
  before : St
  after : St

def seenA (P : Program) (rec : Rec) (ops : Array Oper) : List Oper → Tm → St → Option (List Seen × Tm × St)
  | [], f, σ => some ([], f, σ)
  | o :: rest, f, σ =>
    match guardA ops f o with
    | some true =>
      match opA P rec (aeval f) σ o.op with
      | some (v, σ') => fV RD v fun v => putA f o.dst v fun f' =>
        match seenA P rec ops rest f' σ' with
        | some (l, t, τ) => some (⟨f, v, true, σ, σ'⟩ :: l, t, τ)
        | none => none
      | none => none
    | some false => putA f o.dst undef fun f' =>
      match seenA P rec ops rest f' σ with
      | some (l, t, τ) => some (⟨f, undef, false, σ, σ⟩ :: l, t, τ)
      | none => none
    | none => none

def veq : Nat → Value → Value → Bool
  | 0, _, _ => false
  | _ + 1, .bool a, .bool b => a == b
  | _ + 1, .int k a, .int k' b => sameKind k k' && eqI a b
  | _ + 1, .string a, .string b => decide (a.data.toList = b.data.toList)
  | _ + 1, .pointer a, .pointer b => decide (a = b)
  | _ + 1, .slice a l c, .slice a' l' c' => decide (a = a') && Nat.beq l l' && Nat.beq c c'
  | _ + 1, .map a, .map b => decide (a = b)
  | _ + 1, .nilFunc, .nilFunc => true
  | _ + 1, .nilIface, .nilIface => true
  | n + 1, .agg a, .agg b => veqs n a.toList b.toList
  | n + 1, .tuple a, .tuple b => veqs n a.toList b.toList
  | n + 1, .func (.func f) a c, .func (.func f') a' c' => Nat.beq f f' && veqs n a.toList a'.toList && veqs n c.toList c'.toList
  | n + 1, .iface t a, .iface t' b => Nat.beq t t' && veq n a b
  | _ + 1, _, _ => false
where
  veqs : Nat → List Value → List Value → Bool
  | _, [], [] => true
  | n, x :: xs, y :: ys => veq n x y && veqs n xs ys
  | _, _, _ => false

/-- What an operation that neither acts nor calls yields. -/
def seeOp (P : Program) (ev : Operand → Value) (σ : St) (o : Op) : Option Value := match valOp P ev o with | some v => some v | none => lookOp P ev σ o
/-- An operation that looks sees the same in another state. -/
def steady (P : Program) (o : Oper) (s : Seen) (σ : St) : Bool :=
  bif s.want then
    below σ.next s.f o &&
    match seeOp P (aeval s.f) σ o.op with
    | some v => veq RD v s.v
    | none => false
  else true
/-- What was asked ahead, of each operation. -/
def belowAll : List Oper → List Seen → Bool
  | o :: os, s :: ss => (!s.want || below s.before.next s.f o || !(actsB o.op || looksB o.op)) && belowAll os ss
  | _, _ => true

def pairOk (P : Program) (ops : Array Oper) (l : List Seen) (p : Nat × Nat) : Bool :=
  match ops[p.1]?, l[p.1]?, l[p.2]? with
  | some oj, some sj, some sk => steady P oj sj sk.before && steady P oj sj sk.after
  | _, _, _ => false
def drawA (P : Program) (rec : Rec) (ops : Array Oper) (f : Tm) (σ : St) : Option (Tm × St) :=
  bif drawOk ops (CheckFast.beforeF ops) then
    match pairsA ops (CheckFast.beforeF ops), frees ops (CheckFast.beforeF ops) with
    | [], false => opsA P rec ops ops.toList f σ
    | ps, _ =>
      match seenA P rec ops ops.toList f σ with
      | some (l, t, τ) =>
        bif belowAll ops.toList l && ps.all (pairOk P ops l) then some (t, τ) else none
      | none => none
  else none

structure Fr where
  f : Tm
  marks : List Nat

abbrev Step := Fr → St → Option (Exit × Fr × St)

def loopA (step : Step) : Nat → Step
  | 0, _, _ => none
  | n + 1, fr, σ =>
    match step fr σ with
    | some (.normal, fr, σ) => loopA step n fr σ
    | r => r
def seqA (a b : Step) : Step := fun fr σ =>
  match a fr σ with
  | some (.normal, fr, σ) => b fr σ
  | r => r
def condA (c : Operand) (x y : Step) : Step := fun fr σ =>
  match aeval fr.f c with
  | .bool t => match t with
    | true => x fr σ
    | false => y fr σ
  | _ => none
def blockA (id : Nat) (c : Step) : Step := fun fr σ =>
  match c fr σ with
  | some (.exit i, fr, σ) => bif Nat.beq i id then some (.normal, fr, σ) else some (.exit i, fr, σ)
  | r => r
def regionA (P : Program) (rec : Rec) (ops : Array Oper) (draw : Bool) : Step := fun fr σ =>
  match (match draw with | true => drawA P rec ops fr.f σ | false => opsA P rec ops ops.toList fr.f σ) with
  | some (f, σ) => some (.normal, ⟨f, fr.marks⟩, σ)
  | none => none
/-- Behind the function that was ranged over. -/
def rangeEnd (l : Nat) : Step := fun fr σ =>
  match getB σ.heap l with
  | some (.loop tm ps as bo st pend db) =>
    match st with
    | .busy => none
    | _ =>
      σ.write l (.loop tm ps as bo .exhausted pend db) fun σ =>
      match pend with
      | none => some (.normal, fr, σ)
      | some .ret => some (.ret, fr, σ)
      | some (.exit id) => some (.exit id, fr, σ)
      | some _ => none
  | _ => none
def rangeGo (rec : Rec) (g : Operand) (ps : Array Tmp) (as bo : Code) (db : Nat) : Step := fun fr σ =>
  σ.new (.loop fr.f ps.toList as bo .ready none db) fun l σ =>
  match refOf (aeval fr.f g) [.func (.yield l) #[] #[]] with
  | some (.func h, args) =>
    match callA rec (.func h) args σ with
    | some (_, σ) => rangeEnd l fr σ
    | none => none
  | _ => none
def rangeA (rec : Rec) (rd : Option Nat) (g : Operand) (ps : Array Tmp) (as bo : Code) : Step := fun fr σ =>
  match rd with
  | none => σ.new .defd fun d σ => rangeGo rec g ps as bo d ⟨fr.f, d :: fr.marks⟩ σ
  | some r => match getB σ.heap r with
    | some (.loop _ _ _ _ _ _ db) => rangeGo rec g ps as bo db fr σ
    | _ => none

def codeA (P : Program) (rec : Rec) (fuel : Nat) (rd : Option Nat) : Code → Step
  | .skip => fun fr σ => some (.normal, fr, σ)
  | .label _ => fun fr σ => some (.normal, fr, σ)
  | .ret => fun fr σ => some (.ret, fr, σ)
  | .exit id => fun fr σ => some (.exit id, fr, σ)
  | .goto _ => fun _ _ => none
  | .refuse _ => fun _ _ => none
  | .seq a b => seqA (codeA P rec fuel rd a) (codeA P rec fuel rd b)
  | .cond c x y => condA c (codeA P rec fuel rd x) (codeA P rec fuel rd y)
  | .block id c => blockA id (codeA P rec fuel rd c)
  | .scope c => codeA P rec fuel rd c
  | .loop c => loopA (codeA P rec fuel rd c) fuel
  | .region _ ops draw => regionA P rec ops draw
  | .rangeFunc g ps as bo => rangeA rec rd g ps as bo

def resultA (P : Program) (f : Tm) (σ : St) : ResultVar → Option Value
  | .tmp t => some (f.nth t)
  | .cell a t => match f.nth a with
    | .pointer (some a) => loadA P σ t a
    | _ => none
def resultsOf (P : Program) (f : Tm) (σ : St) : List ResultVar → Option (List Value)
  | [] => some []
  | r :: rs => match resultA P f σ r with
    | some v => match resultsOf P f σ rs with
      | some vs => some (v :: vs)
      | none => none
    | none => none
def resultsA (P : Program) (fn : Func) (f : Tm) (σ : St) : Option Value :=
  match resultsOf P f σ fn.results.toList with
  | some [v] => some v
  | some vs => some (.tuple ⟨vs⟩)
  | none => none

/-- The marks' blocks are shut: each must be one. -/
def dropMarks : List Nat → St → Option St
  | [], σ => some σ
  | d :: ds, σ => match getB σ.heap d with
    | some .defd => σ.drop d fun σ => dropMarks ds σ
    | _ => none

/-- A call's end. -/
def doneA (P : Program) (fn : Func) (fr : Fr) (σ : St) : Option (Value × St) :=
  match dropMarks fr.marks σ with
  | some σ => match resultsA P fn fr.f σ with
    | some v => fV RD v fun v => some (v, σ)
    | none => none
  | none => none
def endA (P : Program) (fn : Func) : Option (Exit × Fr × St) → Option (Value × St)
  | some (.normal, fr, σ) => doneA P fn fr σ
  | some (.ret, fr, σ) => doneA P fn fr σ
  | _ => none
/-- A round's end. -/
def roundEnd (l : Nat) (jump : Option Code) (σ : St) : Option (Value × St) :=
  match getB σ.heap l with
  | some (.loop tm ps as bo _ _ db) =>
    match jump with
    | none => σ.write l (.loop tm ps as bo .ready none db) fun σ => some (.bool true, σ)
    | some c => σ.write l (.loop tm ps as bo .done (some c) db) fun σ => some (.bool false, σ)
  | _ => none
def roundLeft (l : Nat) : Option (Exit × Fr × St) → Option (Value × St)
  | some (.normal, _, σ) => roundEnd l none σ
  | some (.ret, _, σ) => roundEnd l (some .ret) σ
  | some (.exit id, _, σ) => roundEnd l (some (.exit id)) σ
  | _ => none
def roundBody (body : Step) (l : Nat) : Option (Exit × Fr × St) → Option (Value × St)
  | some (.normal, fr, σ) =>
    match getB σ.heap l with
    | some (.loop tm ps as bo .ready pend db) =>
      σ.write l (.loop tm ps as bo .busy pend db) fun σ => roundLeft l (body fr σ)
    | _ => none
  | _ => none

def runA (P : Program) : Nat → Rec
  | 0, _, _, _ => none
  | n + 1, .func f, args, σ =>
    match P.funcs[f]? with
    | some fn => match fn.body with
      | some c => Tm.puts (Tm.args 0 args) (fresh (args.length + (fn.ntmps - args.length))) fun tm => endA P fn (codeA P (runA P n) n none c ⟨tm, []⟩ σ)
      | none => none
    | none => none
  | n + 1, .yield l, args, σ =>
    match getB σ.heap l with
    | some (.loop tm ps as bo _ _ _) =>
      bif Nat.beq args.length ps.length then
        Tm.puts (ps.zip args) tm fun tm => roundBody (codeA P (runA P n) n (some l) bo) l (codeA P (runA P n) n (some l) as ⟨tm, []⟩ σ)
      else none
    | _ => none

end Go.Lay
