
import Derived.CallsIn
import Derived.OrdersIn
import Derived.RangeFuncLeaves
import Derived.CheckFast
import Derived.Laws.Entries
import Derived.Laws.Sem
import Derived.Laws.Cells
import Derived.Laws.CopyRow
import Derived.KernelRfl
set_option linter.unusedVariables false
set_option linter.unusedSimpArgs false
namespace Go.Lay
open Go
variable {β:Type}

def fN {β:Type} (n:Nat) (k:Nat->β):β:=match n with | 0=>k 0 | m+1=>k (m+1)
theorem wL (n:Nat) (k:Nat->β):fN n k=k n:=by cases n <;> rfl
def fI {β:Type} (n:Int) (k:Int->β):β:=match n with | .ofNat m=>fN m fun m=>k (.ofNat m) | .negSucc m=>fN m fun m=>k (.negSucc m)
theorem xWR (n:Int) (k:Int->β):fI n k=k n:=by cases n <;> simp [fI,wL]
def fB {β:Type} (b:Bool) (k:Bool->β):β:=match b with | true=>k true | false=>k false
theorem xWS (b:Bool) (k:Bool->β):fB b k=k b:=by cases b <;> rfl
def fO {β:Type} (o:Option Nat) (k:Option Nat->β):β:=match o with | none=>k none | some n=>fN n fun n=>k (some n)
theorem xWP (o:Option Nat) (k:Option Nat->β):fO o k=k o:=by cases o <;> simp [fO,wL]
def fA {β:Type} (a:Addr) (k:Addr->β):β:=match a with | ⟨b,o,s⟩=>fN b fun b=>fN o fun o=>fO s fun s=>k ⟨b,o,s⟩
theorem xWT (a:Addr) (k:Addr->β):fA a k=k a:=by cases a;simp [fA,wL,xWP]
def fL {α β:Type} (f:α->(α->β)->β):List α->(List α->β)->β
 | [],k=>k []
 | x::l,k=>f x fun x=>fL f l fun l=>k (x::l)
theorem xLN {α β:Type} (f:α->(α->β)->β) (hf:∀ x k,f x k=k x):∀ (l:List α) (k:List α->β),fL f l k=k l
 | [],_=>rfl
 | x::l,k=>by rw [fL,hf,xLN f hf l]
def fV {β:Type}:Nat->Value->(Value->β)->β
 | 0,v,k=>k v
 | n+1,v,k=>match v with
  | .bool b=>fB b fun b=>k (.bool b)
  | .int kd x=>fI x fun x=>k (.int kd x)
  | .pointer (some a)=>fA a fun a=>k (.pointer (some a))
  | .slice (some a) l c=>fA a fun a=>fN l fun l=>fN c fun c=>k (.slice (some a) l c)
  | .slice none l c=>fN l fun l=>fN c fun c=>k (.slice none l c)
  | .map (some r)=>fN r fun r=>k (.map (some r))
  | .agg ⟨cs⟩=>fL (fV n) cs fun cs=>k (.agg ⟨cs⟩)
  | .tuple ⟨cs⟩=>fL (fV n) cs fun cs=>k (.tuple ⟨cs⟩)
  | .func fn ⟨f⟩ ⟨c⟩=>fL (fV n) f fun f=>fL (fV n) c fun c=>k (.func fn ⟨f⟩ ⟨c⟩)
  | .iface t x=>fV n x fun x=>k (.iface t x)
  | v=>k v
theorem zGX {β:Type}:∀ (n:Nat) (v:Value) (k:Value->β),fV n v k=k v
 | 0,_,_=>rfl
 | n+1,v,k=>by
  have ih:=fun v k=>zGX (β:=β) n v k
  unfold fV;split <;> simp [xWS,xWR,xWT,wL,xLN _ ih,ih]
def RD:Nat:=8
def fVs {β:Type} (l:List Value) (k:List Value->β):β:=fL (fV RD) l k
theorem zBU (l:List Value) (k:List Value->β):fVs l k=k l:=xLN _ (fun x k=>zGX RD x k) l k
@[reducible] def POI:Value:=.float .f32 0
def uL:Value->Bool
 | .bool _ | .int .. | .string _ | .pointer none | .slice none _ _ | .map none | .chan none | .nilFunc | .nilIface=>true
 | _=>false
def zQ:Nat->Value->Bool
 | 0,_=>false
 | n+1,.agg cs=>cs.toList.all (zQ n)
 | n+1,.tuple cs=>cs.toList.all (zQ n)
 | n+1,.iface _ v=>zQ n v
 | n+1,.func (.func _) f c=>f.toList.all (zQ n) && c.toList.all (zQ n)
 | _+1,v=>uL v
def cellB:Value->Bool
 | .agg _ | .tuple _=>false
 | _=>true

inductive Tr (α:Type) where
 | leaf
 | node (v:Option α) (l r:Tr α)
 deriving Inhabited
def bits:Nat->Nat->List Bool
 | 0,_=>[]
 | f+1,i=>bif Nat.beq i 0 then [] else Nat.beq (i % 2) 1::bits f (i / 2)
def way (i:Nat):List Bool:=bits i i
def Tr.getP {α:Type}:List Bool->Tr α->Option α
 | _,.leaf=>none
 | [],.node v _ _=>v
 | b::p,.node _ l r=>bif b then getP p r else getP p l
def Tr.setP {α β:Type}:List Bool->Tr α->Option α->(Tr α->β)->β
 | [],.leaf,v,k=>k (.node v .leaf .leaf)
 | [],.node _ l r,v,k=>k (.node v l r)
 | b::p,.leaf,v,k=>bif b then setP p .leaf v fun r=>k (.node none .leaf r) else setP p .leaf v fun l=>k (.node none l .leaf)
 | b::p,.node x l r,v,k=>bif b then setP p r v fun r=>k (.node x l r) else setP p l v fun l=>k (.node x l r)
def Tr.get {α:Type} (t:Tr α) (i:Nat):Option α:=Tr.getP (way i) t
def Tr.set {α:Type} (t:Tr α) (i:Nat) (v:Option α):Tr α:=Tr.setP (way i) t v id

structure Tm where
 n:Nat
 t:Tr Value
 deriving Inhabited
def Tm.nth (f:Tm) (i:Nat):Value:=match Tr.getP (way i) f.t with | some v=>v | none=>undef
def Tm.put {β:Type} (f:Tm) (i:Nat) (v:Value) (k:Tm->β):β :=
 match f with | ⟨n,t⟩=>bif Nat.blt i n then fV RD v fun v=>Tr.setP (way i) t (some v) fun t=>k ⟨n,t⟩ else k ⟨n,t⟩
def Tm.puts {β:Type}:List (Nat × Value)->Tm->(Tm->β)->β
 | [],f,k=>k f
 | (i,v)::l,f,k=>f.put i v fun f=>Tm.puts l f k
def Tm.args:Nat->List Value->List (Nat × Value)
 | _,[]=>[]
 | i,v::l=>(i,v)::Tm.args (i+1) l

inductive Blk where
 | cells (cs:List Value) (esz:Nat) (log:List (Nat × Nat)) (next:Nat) (ro:Bool)
 | map (es:List (Value × Value))
 | loop (tmps:Tm) (params:List Tmp) (assign body:Code) (st:LoopState) (pend:Option Code) (db:Nat)
 | defd
 deriving Inhabited

structure St where
 heap:Tr Blk
 y:Nat
 low:Nat
 deriving Inhabited

def yD (h:Tr Blk) (b:Nat):Option Blk:=Tr.getP (way b) h
def St.write {β:Type} (Z:St) (b:Nat) (y:Blk) (k:St->β):β :=
 match Z with | ⟨heap,next,low⟩=>Tr.setP (way b) heap (some y) fun h=>fN (bif Nat.ble low b then low else b) fun l=>k ⟨h,next,l⟩
def St.new {β:Type} (Z:St) (y:Blk) (k:Nat->St->β):β :=
 match Z with | ⟨heap,next,low⟩=>Tr.setP (way next) heap (some y) fun h=>fN (next+1) fun n=>k next ⟨h,n,low⟩
def St.drop {β:Type} (Z:St) (b:Nat) (k:St->β):β :=
 match Z with | ⟨heap,next,low⟩=>Tr.setP (way b) heap none fun h=>fN (bif Nat.ble low b then low else b) fun l=>k ⟨h,next,l⟩

def zZ (a:Addr):Nat:=a.spot.getD 0
def wR:List (Nat × Nat)->Nat->Option Nat
 | [],_=>none
 | (k,e)::r,s=>bif Nat.beq k s then some e else wR r s
def vY:List (Nat × Nat)->Nat->List (Nat × Nat)
 | [],_=>[]
 | (k,e)::r,s=>bif Nat.beq k s then (k,e)::r else vY r s
def zS (a:Addr) (n:Nat):Addr:={ a with off:=a.off+n }

def yR (Z:St) (a:Addr) (n:Nat):Option (List Value) :=
 match yD Z.heap a.block with
 | some (.cells cs _ log _ _) =>
  match wR log (zZ a) with
  | some e=>bif Nat.ble (a.off+n) e then some ((cs.drop a.off).take n) else none
  | none=>none
 | _=>none
def yZ (Z:St) (a:Addr) (vs:List Value):Option St :=
 match yD Z.heap a.block with
 | some (.cells cs esz log nx ro) =>
  match log with
  | (s,e)::_ =>
   bif Nat.beq s (zZ a) && Nat.ble (a.off+vs.length) e && !ro && vs.all cellB then
    fVs (cs.take a.off++(vs++cs.drop (a.off+vs.length))) fun cs=>Z.write a.block (.cells cs esz [(s,e)] nx ro) some
   else none
  | []=>none
 | _=>none
def newRow {β:Type} (Z:St) (esz:Nat) (cs:List Value) (k:Addr->St->β):β :=
 fVs cs fun cs=>fN cs.length fun n=>Z.new (.cells cs esz [(0,n)] 1 false) fun b Z=>k ⟨b,0,none⟩ Z

def yU (P:Program) (t:TypeId):Option Nat:=(P.info? t).map (·.size)
def xQR (P:Program) (t:TypeId) (len:Nat):Nat:=match P.underlying t with
 | some (.array _ e)=>match yU P e with
  | some n=>n
  | none=>len
 | _=>len
def vE (P:Program) (t:TypeId):Option Bool:=match P.underlying t with | some (.struct _) | some (.array _ _)=>some true | some _=>some false | none=>none
def uQ (P:Program) (t:TypeId):Option Value:=(P.types[t]?).bind (·.zero)

def zH (P:Program) (Z:St) (t:TypeId) (a:Addr):Option Value :=
 match vE P t with
 | some true=>match yU P t with
  | some n=>(yR Z a n).map fun cs=>.agg ⟨cs⟩
  | none=>none
 | some false=>match yR Z a 1 with
  | some [v]=>some v
  | _=>none
 | none=>none
def zHN (P:Program) (Z:St) (t:TypeId) (a:Addr) (v:Value):Option St :=
 match yU P t with
 | some n=>bif Nat.beq v.cells.toList.length n then yZ Z a v.cells.toList else none
 | none=>none

def yJ (P:Program) {α:Type}:Sem α->Option α
 | .pure a=>some a
 | .program k=>yJ P (k P)
 | _=>none

def ltI:Int->Int->Bool
 | .ofNat m,.ofNat n=>Nat.blt m n
 | .negSucc _,.ofNat _=>true
 | .ofNat _,.negSucc _=>false
 | .negSucc m,.negSucc n=>Nat.blt n m
def leI:Int->Int->Bool
 | .ofNat m,.ofNat n=>Nat.ble m n
 | .negSucc _,.ofNat _=>true
 | .ofNat _,.negSucc _=>false
 | .negSucc m,.negSucc n=>Nat.ble n m
def eqI:Int->Int->Bool
 | .ofNat m,.ofNat n=>Nat.beq m n
 | .negSucc m,.negSucc n=>Nat.beq n m
 | _,_=>false
theorem zSI (a b:Int):ltI a b=decide (a<b):=by
 rw [Bool.eq_iff_iff];cases a <;> cases b <;> simp [ltI,Nat.blt] <;> omega
theorem yIQ (a b:Int):leI a b=decide (a<=b):=by
 rw [Bool.eq_iff_iff];cases a <;> cases b <;> simp [leI] <;> omega
theorem zTC (a b:Int):eqI a b=(a == b):=by
 rw [Bool.eq_iff_iff];cases a <;> cases b <;> simp [eqI] <;> omega
def vV (k:IntKind) (n:Int):Int :=
 match k with
 | .i64=>match n with
  | .ofNat m=>bif Nat.ble m 9223372036854775807 then .ofNat m else IntKind.wrap .i64 (.ofNat m)
  | .negSucc m=>bif Nat.ble m 9223372036854775807 then .negSucc m else IntKind.wrap .i64 (.negSucc m)
 | k=>k.wrap n

def yUM (op:BinOp) (k:IntKind) (a b:Int):Option Value :=
 match op with
 | .add=>some (.int k (vV k (Int.add a b)))
 | .sub=>some (.int k (vV k (Int.sub a b)))
 | .mul=>some (.int k (vV k (Int.mul a b)))
 | .eql=>some (.bool (eqI a b))
 | .neq=>some (.bool (!eqI a b))
 | .lss=>some (.bool (ltI a b))
 | .leq=>some (.bool (leI a b))
 | .gtr=>some (.bool (ltI b a))
 | .geq=>some (.bool (leI b a))
 | .quo=>if b=0 then none else some (.int k (k.wrap (a.tdiv b)))
 | .rem=>if b=0 then none else some (.int k (a.tmod b))
 | _=>none

def zGG:IntKind->IntKind->Bool
 | .i8,.i8 | .i16,.i16 | .i32,.i32 | .i64,.i64 | .u8,.u8 | .u16,.u16 | .u32,.u32 | .u64,.u64=>true
 | _,_=>false

def yLV (P:Program) (t:TypeId) (x y:Value):Option Bool :=
 match P.underlying t,x,y with
 | some (.slice _),.slice none _ _,.slice b _ _=>some b.isNone
 | some (.slice _),.slice (some _) _ _,.slice none _ _=>some false
 | some (.map _ _),.map none,.map b=>some b.isNone
 | some (.map _ _),.map (some _),.map none=>some false
 | some (.func _ _ _),.nilFunc,.func _ _ _=>some false
 | some (.func _ _ _),.func _ _ _,.nilFunc=>some false
 | some (.pointer _),.pointer none,.pointer b=>some b.isNone
 | some (.pointer _),.pointer (some _),.pointer none=>some false
 | some (.interface _),.nilIface,.iface _ _=>some false
 | some (.interface _),.iface _ _,.nilIface=>some false
 | _,_,_=>none

def yAL (P:Program) (op:BinOp) (t:TypeId) (ox oy:Operand) (x y:Value):Option Value :=
 bif zQ RD x && zQ RD y then (yJ P (do eqGuard op t ox oy x y;binOp op t x y)).filter (zQ RD) else
  match op with
  | .eql=>(yLV P t x y).map .bool
  | .neq=>(yLV P t x y).map fun b=>.bool !b
  | _=>none
def uP (P:Program) (op:BinOp) (t:TypeId) (ox oy:Operand) (x y:Value):Option Value :=
 match x,y with
 | .int k a,.int k' b=>bif zGG k k' then (match yUM op k a b with | some v=>some v | none=>yAL P op t ox oy (.int k a) (.int k' b)) else yAL P op t ox oy (.int k a) (.int k' b)
 | x,y=>yAL P op t ox oy x y

def zQE (P:Program) (t:TypeId):Option (Array Field):=match P.underlying t with | some (.struct fs)=>some fs | _=>none

def yYI (P:Program) (t:TypeId) (cs:List Value) (off:Nat):Option Value :=
 match vE P t,yU P t with
 | some true,some n=>some (.agg ⟨(cs.drop off).take n⟩)
 | some false,_=>cs[off]?
 | _,_=>none

def zMO (place:Nat->Option (Nat × Nat)):List Value->List (Nat × Value)->Option (List Value)
 | cells,[]=>some cells
 | cells,(i,v)::rest =>
  match place i with
  | none=>none
  | some (off,size) =>
   let c:=v.cells.toList
   bif Nat.beq c.length size && Nat.ble (off+size) cells.length then zMO place (cells.take off++(c++cells.drop (off+size))) rest else none

def zXF (P:Program) (fs:Array Field):Option (List (Nat × Nat)):=fs.toList.mapM fun f=>(yU P f.type).map fun n=>(f.offset,n)

def yVX (P:Program) (t:TypeId) (parts:List (Nat × Value)):Option Value :=
 match uQ P t,P.underlying t with
 | some z,some (.struct fs) =>
  match zXF P fs with
  | some ps=>(zMO (fun i=>ps[i]?) z.cells.toList parts).map fun cs=>.agg ⟨cs⟩
  | none=>none
 | some z,some (.array _ elem) =>
  match yU P elem with
  | some n=>(zMO (fun i=>some (i*n,n)) z.cells.toList parts).map fun cs=>.agg ⟨cs⟩
  | none=>none
 | _,_=>none

def yL (z:List Value):Nat->List Value
 | 0=>[]
 | n+1=>z++yL z n

def xS (P:Program) (t:TypeId):Option (TypeId × Nat) :=
 match P.underlying t with
 | some (.slice e)=>(yU P e).map fun n=>(e,n)
 | _=>none

@[irreducible] def vU:Nat:=9223372036854775808
def yE (c:Nat):Nat:=if vU<=c then c-vU else c
def yY (c:Nat):Bool:=!Nat.ble vU c
def zCA (n sz bytes:Nat):Bool:=Nat.ble n 1073741824 && Nat.ble sz 4096 && Nat.ble bytes 4096

def zFC (P:Program) (t:TypeId) (x ix:Value):Option Value :=
 match ix,x,P.underlying t with
 | .int _ i,.pointer (some a),some (.array len elem) =>
  match yU P elem with
  | some n=>bif leI 0 i && ltI i (.ofNat len) then some (.pointer (some (zS a (i.toNat*n)))) else none
  | none=>none
 | .int _ i,.slice (some a) len _,some (.slice elem) =>
  match yU P elem with
  | some n=>bif leI 0 i && ltI i (.ofNat len) then some (.pointer (some (zS a (i.toNat*n)))) else none
  | none=>none
 | _,_,_=>none

def zNQ (P:Program) (s:TypeId) (x:Value) (f:Nat):Option Value :=
 match x,zQE P s with
 | .pointer (some a),some fs =>
  match fs[f]? with
  | some fd=>match yU P fd.type with
   | some 0=>none
   | some _=>some (.pointer (some (zS a fd.offset)))
   | none=>none
  | none=>none
 | _,_=>none

def yVF (P:Program) (t:TypeId) (x:Value) (f:Nat):Option Value :=
 match x,zQE P t with
 | .agg cs,some fs=>match fs[f]? with
  | some fd=>yYI P fd.type cs.toList fd.offset
  | none=>none
 | _,_=>none

def zDQ (P:Program) (t:TypeId) (x ix:Value):Option Value :=
 match ix,x,P.underlying t with
 | .int _ i,.agg cs,some (.array len elem) =>
  match yU P elem with
  | some n=>bif leI 0 i && ltI i (.ofNat len) then yYI P elem cs.toList (i.toNat*n) else none
  | none=>none
 | .int _ i,.string s,some .string=>if 0<=i then (s[i.toNat]?).map fun b=>.int .u8 b.toNat else none
 | _,_,_=>none

def wG (o:Option Value) (d top:Nat):Option Nat :=
 match o with
 | none=>some d
 | some (.int _ i)=>bif leI 0 i && leI i (.ofNat top) then some i.toNat else none
 | some _=>none

def wJ (lo hi mx:Option Value) (len known:Nat):Option (Nat × Nat × Nat) :=
 match mx with
 | none=>match wG hi len known with
  | some h=>match wG lo 0 h with
   | some l=>some (l,h,known)
   | none=>none
  | none=>none
 | some m=>match wG (some m) 0 known with
  | some m=>match hi with
   | some h=>match wG (some h) 0 m with
    | some h=>match wG lo 0 h with
     | some l=>some (l,h,m)
     | none=>none
    | none=>none
   | none=>none
  | none=>none
def zDG (Z:St) (a:Addr) (n:Nat):Bool :=
 match yD Z.heap a.block with
 | some (.cells _ esz log _ _)=>(wR log (zZ a)).isSome && Nat.beq esz n
 | _=>false
def yZW (Z:St) (a:Addr) (k n:Nat):Bool :=
 match yD Z.heap a.block with
 | some (.cells _ esz log _ _)=>(match wR log (zZ a) with | some e=>Nat.ble (a.off+k) e | none=>false) && Nat.beq esz n
 | _=>false
def xZ (P:Program) (Z:St) (t:TypeId) (x:Value) (lo hi mx:Option Value):Option Value :=
 match x,P.underlying t with
 | .slice none len cap,some (.slice elem) =>
  match yU P elem with
  | some _=>bif yY cap then
    match wJ lo hi mx len cap with
    | some (l,h,m)=>some (.slice none (h-l) (m-l))
    | none=>none
   else none
  | none=>none
 | .slice (some a) len cap,some (.slice elem) =>
  match yU P elem with
  | some n=>bif zDG Z a n then
    match wJ lo hi mx len (yE cap) with
    | some (l,h,m) =>
     bif mx.isSome || yY cap then bif Nat.ble l m then some (.slice (some (bif Nat.beq m l then a else zS a (l*n))) (h-l) (m-l)) else none
     else bif Nat.ble m l then (bif Nat.beq m l && Nat.beq h l then some (.slice (some (zS a (l*n))) 0 vU) else none) else some (.slice (some (zS a (l*n))) (h-l) (m-l+vU))
    | none=>none
   else none
  | none=>none
 | .pointer (some a),some (.array len elem) =>
  match yU P elem with
  | some n=>bif yZW Z a (len*n) n then
    match wJ lo hi mx len len with
    | some (l,h,m)=>bif Nat.ble l m then some (.slice (some (bif Nat.beq m l then a else zS a (l*n))) (h-l) (m-l)) else none
    | none=>none
   else none
  | none=>none
 | .string s,some .string =>
  match mx with
  | none=>match wG hi s.size s.size with
   | some h=>match wG lo 0 h with
    | some l=>some (.string (s.extract l h))
    | none=>none
   | none=>none
  | some _=>none
 | _,_=>none

def xY (P:Program) (ev:Operand->Value) (o:Op):Option Value :=
 match o with
 | .move x | .assign x=>some (ev x)
 | .pick c a b=>match ev c with
  | .bool t=>some (bif t then ev a else ev b)
  | _=>none
 | .nilCheck x=>match ev x with
  | .pointer (some a)=>some (.pointer (some a))
  | _=>none
 | .binOp op t x y _=>uP P op t x y (ev x) (ev y)
 | .unOp op _ x =>
  match op,ev x with
  | .not,.bool b=>some (.bool !b)
  | .neg,.int k n=>some (.int k (vV k (Int.sub 0 n)))
  | op,v=>bif zQ RD v then (yJ P (Op.unary op v)).filter (zQ RD) else none
 | .convert s d x =>
  match P.underlying s,P.underlying d,ev x with
  | some _,some (.int k),.int _ n=>some (.int k (vV k n))
  | _,_,v=>bif zQ RD v then (yJ P (convert s d v)).filter (zQ RD) else none
 | .typeAssert x xt a ok=>bif zQ RD (ev x) then (yJ P (Instr.typeAssert (ev x) xt a ok)).filter (zQ RD) else none
 | .build t ps=>yVX P t (ps.toList.map fun p=>(p.1,ev p.2))
 | .makeInterface t x=>match P.underlying t with
  | some (.interface _)=>none
  | some _=>some (.iface t (ev x))
  | none=>none
 | .makeFunc fn first cap=>match fn with
  | .func _=>some (.func fn ⟨first.toList.map ev⟩ ⟨cap.toList.map ev⟩)
  | _=>none
 | .fieldAddr s x f=>zNQ P s (ev x) f
 | .field t x f=>yVF P t (ev x) f
 | .indexAddr t x i=>zFC P t (ev x) (ev i)
 | .index t x i=>zDQ P t (ev x) (ev i)
 | .extract t i=>match ev t with
  | .tuple vs=>vs.toList[i]?
  | _=>none
 | .call c=>match c.callee with
  | .builtin .len=>match c.argTypes.toList[0]?,c.args.toList.map ev with
   | some t,x::_=>match P.underlying t,x with
    | some (.slice _),.slice _ n _=>some (goInt n)
    | some .string,.string s=>some (goInt s.size)
    | some (.array n _),_=>some (goInt n)
    | some (.map _ _),.map none=>some (goInt 0)
    | _,_=>none
   | _,_=>none
  | .builtin .cap=>match c.argTypes.toList[0]?,c.args.toList.map ev with
   | some t,x::_=>match P.underlying t,x with
    | some (.slice _),.slice _ _ k=>bif yY k then some (goInt k) else none
    | _,_=>none
   | _,_=>none
  | .builtin .min=>bif (c.args.toList.map ev).all (zQ RD) then (yJ P (Builtin.min_ c.argTypes 0 ⟨c.args.toList.map ev⟩)).filter (zQ RD) else none
  | .builtin .max=>bif (c.args.toList.map ev).all (zQ RD) then (yJ P (Builtin.max_ c.argTypes 0 ⟨c.args.toList.map ev⟩)).filter (zQ RD) else none
  | _=>none
 | _=>none

def zBI (P:Program) (kt:TypeId) (k:Value):List (Value × Value)->Nat->Option (Option Nat)
 | [],_=>some none
 | (k',_)::es,i =>
  match yJ P (Op.equal kt k k') with
  | some true=>some (some i)
  | some false=>zBI P kt k es (i+1)
  | none=>none
def zDR (P:Program) (t:TypeId):Option (TypeId × TypeId):=match P.underlying t with | some (.map k e)=>some (k,e) | _=>none
def zIX (P:Program) (empty:Bool) (kt:TypeId) (k:Value):Bool:=zQ RD k && (yJ P (Instr.checkKey empty 10000 kt k)).isSome

def zBV:List Value->Option (List UInt8)
 | []=>some []
 | .int .u8 n::l=>match zBV l with
  | some bs=>some (UInt8.ofNat n.toNat::bs)
  | none=>none
 | _=>none
def xV (P:Program) (ev:Operand->Value) (Z:St) (o:Op):Option Value :=
 match o with
 | .load t a=>match ev a with
  | .pointer (some a)=>zH P Z t a
  | _=>none
 | .slice t x lo hi mx=>xZ P Z t (ev x) (lo.map ev) (hi.map ev) (mx.map ev)
 | .lookup t m i ok =>
  match zDR P t with
  | some (kt,et) =>
   match uQ P et with
   | some z =>
    let key:=ev i
    let fin:Value->Bool->Value:=fun v b=>bif ok then .tuple ⟨[v,.bool b]⟩ else v
    match ev m with
    | .map none=>bif zIX P true kt key then some (fin z false) else none
    | .map (some r) =>
     match yD Z.heap r with
     | some (.map es) =>
      bif zIX P es.isEmpty kt key then
       match zBI P kt key es 0 with
       | some (some i)=>(es[i]?).map fun e=>fin e.2 true
       | some none=>some (fin z false)
       | none=>none
      else none
     | _=>none
    | _=>none
   | none=>none
  | none=>none
 | .call c=>match c.callee with
  | .builtin .len=>match c.argTypes.toList[0]?,c.args.toList.map ev with
   | some t,x::_=>match zDR P t,x with
    | some _,.map (some r)=>match yD Z.heap r with
     | some (.map es)=>some (goInt es.length)
     | _=>none
    | _,_=>none
   | _,_=>none
  | _=>none
 | .convert s d x=>match P.underlying s,P.underlying d with
  | some (.slice e),some .string=>match P.underlying e,ev x with
   | some (.int .u8),.slice (some a) len _=>match yR Z a len with
    | some cs=>match zBV cs with
     | some bs=>some (.string ⟨⟨bs⟩⟩)
     | none=>none
    | none=>none
   | _,_=>none
  | _,_=>none
 | _=>none

def wU (Z:St) (n:Nat) (x:Value):Option (Nat × List Value) :=
 match x with
 | .slice none len _=>bif Nat.beq len 0 then some (0,[]) else none
 | .slice (some a) len _=>(yR Z a (len*n)).map fun cs=>(len,cs)
 | .string s=>some (s.size,s.data.toList.map fun b=>.int .u8 b.toNat)
 | _=>none

def zCS (Z:St) (n:Nat) (z:Value) (xd:TypeDesc) (x:Value):Option (Nat × List Value) :=
 match xd with
 | .int _=>match x with
  | .int _ i=>bif leI 0 i && leI i 1073741824 && Nat.beq z.cells.toList.length n && Nat.blt 0 n then some (i.toNat,yL z.cells.toList i.toNat) else none
  | _=>none
 | _=>wU Z n x
def zIU (Z:St) (n:Nat) (a:Addr) (len known cnt:Nat) (cs:List Value):Option (Value × St) :=
 match yD Z.heap a.block with
 | some (.cells bc esz log nx ro) =>
  match wR log (zZ a) with
  | some ex =>
   bif Nat.beq len known && Nat.beq (a.off+len*n) ex && Nat.beq esz n && !ro && Nat.blt 0 n then
    fVs (bc.take ex++cs) fun bc'=>fN (ex+cnt*n) fun ex'=>fN (nx+1) fun nx' =>
    Z.write a.block (.cells bc' esz ((nx,ex')::vY log (zZ a)) nx' ro) fun Z =>
     some (.slice (some ⟨a.block,a.off,some nx⟩) (len+cnt) (len+cnt+vU),Z)
   else none
  | none=>none
 | _=>none
def vZ (Z:St) (n:Nat) (base:Option Addr) (len cap cnt:Nat) (cs:List Value):Option (Value × St) :=
 bif Nat.ble (len+cnt) (yE cap) then
  match base with
  | none=>bif Nat.beq cnt 0 then some (.slice none (len+cnt) cap,Z) else none
  | some a=>bif Nat.beq cnt 0 then some (.slice base (len+cnt) cap,Z) else
   (yZ Z (zS a (len*n)) cs).map fun Z=>(.slice base (len+cnt) cap,Z)
 else bif yY cap then
  match base with
  | none=>bif Nat.beq len 0 then newRow Z n cs fun a Z=>some (.slice (some a) (len+cnt) (len+cnt+vU),Z) else none
  | some a=>match yR Z a (len*n) with
   | some old=>newRow Z n (old++cs) fun a Z=>some (.slice (some a) (len+cnt) (len+cnt+vU),Z)
   | none=>none
 else
  match base with
  | none=>none
  | some a=>zIU Z n a len (yE cap) cnt cs
def yA (P:Program) (st xt:TypeId) (s x:Value) (Z:St):Option (Value × St) :=
 match xS P st,P.underlying xt,s with
 | some (e,n),some xd,.slice base len cap =>
  match P.info? e with
  | some ei=>match ei.zero with
   | some z=>match zCS Z n z xd x with
    | some (cnt,cs)=>bif zCA (len+cnt) n ei.bytes && cs.all cellB && Nat.beq cs.length (cnt*n) && zQ RD z && Nat.beq z.cells.toList.length n then vZ Z n base len cap cnt cs else none
    | none=>none
   | none=>none
  | none=>none
 | _,_,_=>none

inductive FnRef where
 | func (f:FuncId)
 | yield (l:Nat)
def zCB (fv:Value) (args:List Value):Option (FnRef × List Value) :=
 match fv with
 | .func (.func f) first cap=>some (.func f,first.toList++(args++cap.toList))
 | .func (.yield l) first _=>some (.yield l,first.toList++args)
 | _=>none

def yMU {α:Type}:List (String × α)->String
 | (n,_)::_=>n
 | [] => ""
def zDA:String:=yMU Extern.BytealgCount.rows
def zCX:String:=yMU Extern.BytealgIndexByte.rows
def zOC (Z:St):Value->Option (List UInt8)
 | .string s=>some s.data.toList
 | .slice none _ _=>some []
 | .slice (some a) len _=>match yR Z a len with
  | some cs=>zBV cs
  | none=>none
 | _=>none
def xWU (fn:Func) (bs:List UInt8) (c:UInt8):Option Value :=
 bif fn.name == zDA then some (goInt ((ByteArray.mk ⟨bs⟩).foldl (fun n x=>if x == c then n+1 else n) (0:Nat)))
 else bif fn.name == zCX then
  match (List.range (ByteArray.mk ⟨bs⟩).size).find? fun i=>(ByteArray.mk ⟨bs⟩)[i]! == c with
  | some i=>some (goInt i)
  | none=>some (goInt (-1))
 else none
def yCM (P:Program) (Z:St) (r:FnRef) (args:List Value):Option Value :=
 match r with
 | .func g=>match P.funcs[g]? with
  | some fn=>match fn.body with
   | some _=>none
   | none=>match args with
    | [b, .int .u8 c] => bif fn.origin == fn.name || fn.origin == "" then
      match zOC Z b with
      | some bs=>xWU fn bs c.toNat.toUInt8
      | none=>none
     else none
    | _=>none
  | none=>none
 | .yield _=>none
def xKG:Operand->Bool
 | .func _=>true
 | _=>false
def xDC (P:Program) (f:Operand) (Z:St) (r:FnRef) (args:List Value):Option Value:=bif xKG f then yCM P Z r args else none

def zN (P:Program) (ev:Operand->Value) (Z:St) (o:Op):Option (Value × St) :=
 match o with
 | .alloc t=>match uQ P t with
  | some z=>fN (xQR P t z.cells.toList.length) fun n=>newRow Z n z.cells.toList fun a Z=>some (.pointer (some a),Z)
  | none=>none
 | .box t x=>fN (xQR P t (ev x).cells.toList.length) fun n=>newRow Z n (ev x).cells.toList fun a Z=>some (.pointer (some a),Z)
 | .buildSlice t len ps =>
  match xS P t with
  | some (e,n)=>match uQ P e with
   | some z =>
    bif Nat.ble (len*n) 16777216 && Nat.beq z.cells.toList.length n then
     match zMO (fun i=>some (i*n,n)) (yL z.cells.toList len) (ps.toList.map fun p=>(p.1,ev p.2)) with
     | some cs=>newRow Z n cs fun a Z=>some (.slice (some a) len len,Z)
     | none=>none
    else none
   | none=>none
  | none=>none
 | .makeMap t r=>match r with
  | none=>match zDR P t with
   | some _=>Z.new (.map []) fun b Z=>some (.map (some b),Z)
   | none=>none
  | some x=>match zDR P t,ev x with
   | some _,.int _ _=>Z.new (.map []) fun b Z=>some (.map (some b),Z)
   | _,_=>none
 | .makeSlice t l c =>
  match xS P t,ev l,ev c with
  | some (e,n),.int _ li,.int _ ci=>match uQ P e,P.info? e with
   | some z,some ei =>
    bif leI 0 li && leI li ci && leI ci 1073741824 && zCA ci.toNat n ei.bytes && Nat.beq z.cells.toList.length n && Nat.blt 0 n then
     newRow Z n (yL z.cells.toList ci.toNat) fun a Z=>some (.slice (some a) li.toNat ci.toNat,Z)
    else none
   | _,_=>none
  | _,_,_=>none
 | .store t a x=>match ev a with
  | .pointer (some a)=>(zHN P Z t a (ev x)).map fun Z=>(undef,Z)
  | _=>none
 | .mapUpdate t m k x | .insert t m k x =>
  match zDR P t,ev m with
  | some (kt,_),.map (some r) =>
   match yD Z.heap r with
   | some (.map es) =>
    bif zIX P false kt (ev k) then
     match zBI P kt (ev k) es 0 with
     | some (some i)=>match es[i]? with
      | some e=>bif Instr.sameBits 10000 e.1 (ev k) then Z.write r (.map (es.set i (ev k,ev x))) fun Z=>some (undef,Z) else none
      | none=>none
     | some none=>Z.write r (.map (es++[(ev k,ev x)])) fun Z=>some (undef,Z)
     | none=>none
    else none
   | _=>none
  | _,_=>none
 | .call c=>match c.callee with
  | .builtin .append=>match c.argTypes.toList,c.args.toList.map ev with
   | [st,xt],[s,x]=>yA P st xt s x Z
   | _,_=>none
  | .builtin .copy=>match c.argTypes.toList,c.args.toList.map ev with
   | dt::_,[.slice base len _,.slice sb slen _]=>match xS P dt with
    | some (_,n)=>match wU Z n (.slice sb (Nat.min slen len) 0) with
     | some (_,cs) =>
      match base with
      | none=>some (goInt (Nat.min slen len),Z)
      | some a=>bif Nat.beq (Nat.min slen len) 0 then some (goInt (Nat.min slen len),Z) else (yZ Z a cs).map fun Z=>(goInt (Nat.min slen len),Z)
     | none=>none
    | none=>none
   | _,_=>none
  | .builtin .clear=>match c.argTypes.toList,c.args.toList.map ev with
   | [dt],[.slice (some a) len _]=>match xS P dt with
    | some (e,n)=>match uQ P e with
     | some z=>bif Nat.beq z.cells.toList.length n && !Nat.beq len 0 then (yZ Z a (yL z.cells.toList len)).map fun Z=>(.tuple ⟨[]⟩,Z) else none
     | none=>none
    | none=>none
   | _,_=>none
  | .value f=>match zCB (ev f) (c.args.toList.map ev) with
   | some (r,as)=>(xDC P f Z r as).map fun v=>(v,Z)
   | none=>none
  | _=>none
 | _=>none

abbrev Rec:=FnRef->List Value->St->Option (Value × St)

def yND:Nat->Tr Value
 | 0=>.leaf
 | d+1=>.node (some undef) (yND d) (yND d)
def fresh (n:Nat):Tm:=⟨n,yND ((way n).length+1)⟩

def yC (f:Tm):Operand->Value
 | .tmp t=>f.nth t
 | .const v=>v
 | .global _=>POI
 | .func g=>.func (.func g) #[] #[]

def vW (Z:St) (v:Value) (Z':St):Option (Value × St) :=
 bif Nat.ble Z.y Z'.low && zQ RD v then some (v,Z)
 else bif Nat.ble Z.y Z'.y then fN (bif Nat.ble Z.low Z'.low then Z.low else Z'.low) fun l=>some (v,⟨Z'.heap,Z'.y,l⟩)
 else none
def uE (rec:Rec) (r:FnRef) (args:List Value) (Z:St):Option (Value × St) :=
 match rec r args ⟨Z.heap,Z.y,Z.y⟩ with
 | none=>none
 | some (v,Z')=>vW Z v Z'

def zII:Op->Bool
 | .alloc _ | .box .. | .buildSlice .. | .makeMap .. | .makeSlice .. | .store .. | .mapUpdate .. | .insert ..=>true
 | .call c=>match c.callee with | .builtin .append | .builtin .copy | .builtin .clear=>true | _=>false
 | _=>false

def zME (Z:St):Option Value->Option (Value × St)
 | some v=>some (v,Z)
 | none=>none

def zKS (P:Program) (rec:Rec) (ev:Operand->Value) (Z:St) (c:Call):Option (Value × St) :=
 match c.callee with
 | .value f =>
  match zCB (ev f) (c.args.toList.map ev) with
  | some (r,as)=>match xDC P f Z r as with
   | some v=>some (v,Z)
   | none=>uE rec r as Z
  | none=>none
 | .builtin .append | .builtin .copy | .builtin .clear=>zN P ev Z (.call c)
 | .builtin .len=>match xY P ev (.call c) with
  | some v=>some (v,Z)
  | none=>zME Z (xV P ev Z (.call c))
 | .builtin _=>zME Z (xY P ev (.call c))
 | .invoke _ _=>none

def opA (P:Program) (rec:Rec) (ev:Operand->Value) (Z:St) (o:Op):Option (Value × St) :=
 match o with
 | .call c=>zKS P rec ev Z c
 | .load t a=>zME Z (xV P ev Z (.load t a))
 | .lookup t m i ok=>zME Z (xV P ev Z (.lookup t m i ok))
 | .slice t x lo hi mx=>zME Z (xV P ev Z (.slice t x lo hi mx))
 | .convert s d x=>match xY P ev (.convert s d x) with
  | some v=>some (v,Z)
  | none=>zME Z (xV P ev Z (.convert s d x))
 | o=>bif zII o then zN P ev Z o else zME Z (xY P ev o)

def uI (ops:Array Oper) (f:Tm) (o:Oper):Option Bool :=
 match o.guard with
 | none=>some true
 | some (j,want)=>match (ops[j]?).bind (·.dst) with
  | some d=>match f.nth d with
   | .bool b=>some (b == want)
   | .tuple _=>some false
   | _=>none
  | none=>none

def yCE {β:Type} (f:Tm) (dst:Option Tmp) (v:Value) (k:Tm->β):β :=
 match dst with
 | some d=>f.put d v k
 | none=>k f

def zAX (P:Program) (rec:Rec) (ops:Array Oper):List Oper->Tm->St->Option (Tm × St)
 | [],f,Z=>some (f,Z)
 | o::rest,f,Z =>
  match uI ops f o with
  | some true =>
   match opA P rec (yC f) Z o.op with
   | some (v,Z')=>yCE f o.dst v fun f=>zAX P rec ops rest f Z'
   | none=>none
  | some false=>yCE f o.dst undef fun f=>zAX P rec ops rest f Z
  | none=>none

def xX:Op->Bool
 | .call c=>match c.callee with | .builtin .len | .builtin .cap | .builtin .min | .builtin .max=>false | _=>true
 | o=>zII o
def uB:Op->Bool
 | .alloc _ | .box .. | .buildSlice .. | .makeMap .. | .makeSlice ..=>true
 | _=>false
def zCL:Op->Bool
 | .load .. | .lookup .. | .slice .. | .convert ..=>true
 | .call c=>match c.callee with | .builtin .len=>true | _=>false
 | _=>false

def pre (b:Array Nat) (i j:Nat):Bool:=(b.getD j 0).testBit i
def yJL (b:Array Nat) (i j:Nat):Bool:=!pre b i j && !pre b j i
def zXH (ops:Array Oper) (b:Array Nat):List (Nat × Nat) :=
 (List.range ops.size).flatMap fun j=>if zCL (ops.getD j default).op then ((List.range ops.size).filter fun k=>xX (ops.getD k default).op && yJL b j k && !Nat.beq j k).map fun k=>(j,k) else []
def zBB (ops:Array Oper) (b:Array Nat) (j:Nat):Bool :=
 uB (ops.getD j default).op && (List.range j).any fun i=>xX (ops.getD i default).op && !pre b i j
def xSW (ops:Array Oper) (b:Array Nat):Bool:=(List.range ops.size).any fun j=>zBB ops b j
def yJD (ops:Array Oper) (b:Array Nat):Bool :=
 let n:=ops.size
 (List.range n).all fun j =>
  let oj:=ops.getD j default
  (oj.after.toList.all fun e=>!Region.binds .any e || Nat.blt e.on j) &&
  (match oj.guard with | none=>true | some (g,_)=>oj.after.toList.any fun e=>Region.binds .any e && Nat.beq e.on g) &&
  (match oj.op with | .select .. | .go _ | .defer _=>false | _=>true) &&
  (List.range n).all fun i =>
   let oi:=ops.getD i default
   (!(Nat.blt i j && xX oi.op && xX oj.op && !uB oj.op) || pre b i j) &&
   (Nat.beq i j || !yJL b i j || Oper.apart ops oi oj)
def xL:Nat->Nat->Value->Bool
 | 0,_,_=>false
 | _+1,n,.pointer (some a)=>Nat.blt a.block n
 | _+1,n,.slice (some a) _ _=>Nat.blt a.block n
 | _+1,n,.map (some b)=>Nat.blt b n
 | d+1,n,.agg cs=>cs.toList.all (xL d n)
 | d+1,n,.tuple cs=>cs.toList.all (xL d n)
 | d+1,n,.iface _ v=>xL d n v
 | d+1,n,.func fn f c=>(match fn with | .yield l=>Nat.blt l n | _=>true) && f.toList.all (xL d n) && c.toList.all (xL d n)
 | _+1,_,_=>true
def zDH (n:Nat) (f:Tm) (o:Oper):Bool:=o.op.operands.toList.all fun x=>xL RD n (yC f x)

structure Seen where
 f:Tm
 v:Value
 want:Bool
 before:St
 after:St

def zBN (P:Program) (rec:Rec) (ops:Array Oper):List Oper->Tm->St->Option (List Seen × Tm × St)
 | [],f,Z=>some ([],f,Z)
 | o::rest,f,Z =>
  match uI ops f o with
  | some true =>
   match opA P rec (yC f) Z o.op with
   | some (v,Z')=>fV RD v fun v=>yCE f o.dst v fun f' =>
    match zBN P rec ops rest f' Z' with
    | some (l,t,U)=>some (⟨f,v,true,Z,Z'⟩::l,t,U)
    | none=>none
   | none=>none
  | some false=>yCE f o.dst undef fun f' =>
   match zBN P rec ops rest f' Z with
   | some (l,t,U)=>some (⟨f,undef,false,Z,Z⟩::l,t,U)
   | none=>none
  | none=>none

def veq:Nat->Value->Value->Bool
 | 0,_,_=>false
 | _+1,.bool a,.bool b=>a == b
 | _+1,.int k a,.int k' b=>zGG k k' && eqI a b
 | _+1,.string a,.string b=>decide (a.data.toList=b.data.toList)
 | _+1,.pointer a,.pointer b=>decide (a=b)
 | _+1,.slice a l c,.slice a' l' c'=>decide (a=a') && Nat.beq l l' && Nat.beq c c'
 | _+1,.map a,.map b=>decide (a=b)
 | _+1,.nilFunc,.nilFunc=>true
 | _+1,.nilIface,.nilIface=>true
 | n+1,.agg a,.agg b=>veqs n a.toList b.toList
 | n+1,.tuple a,.tuple b=>veqs n a.toList b.toList
 | n+1,.func (.func f) a c,.func (.func f') a' c'=>Nat.beq f f' && veqs n a.toList a'.toList && veqs n c.toList c'.toList
 | n+1,.iface t a,.iface t' b=>Nat.beq t t' && veq n a b
 | _+1,_,_=>false
where
 veqs:Nat->List Value->List Value->Bool
 | _,[],[]=>true
 | n,x::xs,y::ys=>veq n x y && veqs n xs ys
 | _,_,_=>false

def xJ (P:Program) (ev:Operand->Value) (Z:St) (o:Op):Option Value:=match xY P ev o with | some v=>some v | none=>xV P ev Z o
def steady (P:Program) (o:Oper) (s:Seen) (Z:St):Bool :=
 bif s.want then
  zDH Z.y s.f o &&
  match xJ P (yC s.f) Z o.op with
  | some v=>veq RD v s.v
  | none=>false
 else true
def zHB:List Oper->List Seen->Bool
 | o::os,s::ss=>(!s.want || zDH s.before.y s.f o || !(xX o.op || zCL o.op)) && zHB os ss
 | _,_=>true

def yIB (P:Program) (ops:Array Oper) (l:List Seen) (p:Nat × Nat):Bool :=
 match ops[p.1]?,l[p.1]?,l[p.2]? with
 | some oj,some sj,some sk=>steady P oj sj sk.before && steady P oj sj sk.after
 | _,_,_=>false
def zFU (P:Program) (rec:Rec) (ops:Array Oper) (f:Tm) (Z:St):Option (Tm × St) :=
 bif yJD ops (CheckFast.beforeF ops) then
  match zXH ops (CheckFast.beforeF ops),xSW ops (CheckFast.beforeF ops) with
  | [],false=>zAX P rec ops ops.toList f Z
  | ps,_ =>
   match zBN P rec ops ops.toList f Z with
   | some (l,t,U) =>
    bif zHB ops.toList l && ps.all (yIB P ops l) then some (t,U) else none
   | none=>none
 else none

structure Fr where
 f:Tm
 marks:List Nat

abbrev zQX:=Fr->St->Option (Exit × Fr × St)

def zCC (step:zQX):Nat->zQX
 | 0,_,_=>none
 | n+1,fr,Z =>
  match step fr Z with
  | some (.normal,fr,Z)=>zCC step n fr Z
  | r=>r
def xAT (a b:zQX):zQX:=fun fr Z =>
 match a fr Z with
 | some (.normal,fr,Z)=>b fr Z
 | r=>r
def yGC (c:Operand) (x y:zQX):zQX:=fun fr Z =>
 match yC fr.f c with
 | .bool t=>match t with
  | true=>x fr Z
  | false=>y fr Z
 | _=>none
def zOF (id:Nat) (c:zQX):zQX:=fun fr Z =>
 match c fr Z with
 | some (.exit i,fr,Z)=>bif Nat.beq i id then some (.normal,fr,Z) else some (.exit i,fr,Z)
 | r=>r
def zBT (P:Program) (rec:Rec) (ops:Array Oper) (draw:Bool):zQX:=fun fr Z =>
 match (match draw with | true=>zFU P rec ops fr.f Z | false=>zAX P rec ops ops.toList fr.f Z) with
 | some (f,Z)=>some (.normal,⟨f,fr.marks⟩,Z)
 | none=>none
def zEU (l:Nat):zQX:=fun fr Z =>
 match yD Z.heap l with
 | some (.loop tm ps as bo st pend db) =>
  match st with
  | .busy=>none
  | _ =>
   Z.write l (.loop tm ps as bo .exhausted pend db) fun Z =>
   match pend with
   | none=>some (.normal,fr,Z)
   | some .ret=>some (.ret,fr,Z)
   | some (.exit id)=>some (.exit id,fr,Z)
   | some _=>none
 | _=>none
def zHR (rec:Rec) (g:Operand) (ps:Array Tmp) (as bo:Code) (db:Nat):zQX:=fun fr Z =>
 Z.new (.loop fr.f ps.toList as bo .ready none db) fun l Z =>
 match zCB (yC fr.f g) [.func (.yield l) #[] #[]] with
 | some (.func h,args) =>
  match uE rec (.func h) args Z with
  | some (_,Z)=>zEU l fr Z
  | none=>none
 | _=>none
def zND (rec:Rec) (rd:Option Nat) (g:Operand) (ps:Array Tmp) (as bo:Code):zQX:=fun fr Z =>
 match rd with
 | none=>Z.new .defd fun d Z=>zHR rec g ps as bo d ⟨fr.f,d::fr.marks⟩ Z
 | some r=>match yD Z.heap r with
  | some (.loop _ _ _ _ _ _ db)=>zHR rec g ps as bo db fr Z
  | _=>none

def yK (P:Program) (rec:Rec) (fuel:Nat) (rd:Option Nat):Code->zQX
 | .skip=>fun fr Z=>some (.normal,fr,Z)
 | .label _=>fun fr Z=>some (.normal,fr,Z)
 | .ret=>fun fr Z=>some (.ret,fr,Z)
 | .exit id=>fun fr Z=>some (.exit id,fr,Z)
 | .goto _=>fun _ _=>none
 | .refuse _=>fun _ _=>none
 | .seq a b=>xAT (yK P rec fuel rd a) (yK P rec fuel rd b)
 | .cond c x y=>yGC c (yK P rec fuel rd x) (yK P rec fuel rd y)
 | .block id c=>zOF id (yK P rec fuel rd c)
 | .scope c=>yK P rec fuel rd c
 | .loop c=>zCC (yK P rec fuel rd c) fuel
 | .region _ ops draw=>zBT P rec ops draw
 | .rangeFunc g ps as bo=>zND rec rd g ps as bo

def zPF (P:Program) (f:Tm) (Z:St):ResultVar->Option Value
 | .tmp t=>some (f.nth t)
 | .cell a t=>match f.nth a with
  | .pointer (some a)=>zH P Z t a
  | _=>none
def zAF (P:Program) (f:Tm) (Z:St):List ResultVar->Option (List Value)
 | []=>some []
 | r::rs=>match zPF P f Z r with
  | some v=>match zAF P f Z rs with
   | some vs=>some (v::vs)
   | none=>none
  | none=>none
def vC (P:Program) (fn:Func) (f:Tm) (Z:St):Option Value :=
 match zAF P f Z fn.results.toList with
 | some [v]=>some v
 | some vs=>some (.tuple ⟨vs⟩)
 | none=>none

def zCQ:List Nat->St->Option St
 | [],Z=>some Z
 | d::ds,Z=>match yD Z.heap d with
  | some .defd=>Z.drop d fun Z=>zCQ ds Z
  | _=>none

def zHA (P:Program) (fn:Func) (fr:Fr) (Z:St):Option (Value × St) :=
 match zCQ fr.marks Z with
 | some Z=>match vC P fn fr.f Z with
  | some v=>fV RD v fun v=>some (v,Z)
  | none=>none
 | none=>none
def xLV (P:Program) (fn:Func):Option (Exit × Fr × St)->Option (Value × St)
 | some (.normal,fr,Z)=>zHA P fn fr Z
 | some (.ret,fr,Z)=>zHA P fn fr Z
 | _=>none
def zET (l:Nat) (jump:Option Code) (Z:St):Option (Value × St) :=
 match yD Z.heap l with
 | some (.loop tm ps as bo _ _ db) =>
  match jump with
  | none=>Z.write l (.loop tm ps as bo .ready none db) fun Z=>some (.bool true,Z)
  | some c=>Z.write l (.loop tm ps as bo .done (some c) db) fun Z=>some (.bool false,Z)
 | _=>none
def zLL (l:Nat):Option (Exit × Fr × St)->Option (Value × St)
 | some (.normal,_,Z)=>zET l none Z
 | some (.ret,_,Z)=>zET l (some .ret) Z
 | some (.exit id,_,Z)=>zET l (some (.exit id)) Z
 | _=>none
def zLM (body:zQX) (l:Nat):Option (Exit × Fr × St)->Option (Value × St)
 | some (.normal,fr,Z) =>
  match yD Z.heap l with
  | some (.loop tm ps as bo .ready pend db) =>
   Z.write l (.loop tm ps as bo .busy pend db) fun Z=>zLL l (body fr Z)
  | _=>none
 | _=>none

end Go.Lay

namespace Go.Lay
open Go
variable {α β:Type} {l l' c c':List Value} {b N n':Nat} {w w':World} {y:Blk} {Z:St}

theorem Tr.setP_eq {α:Type}:∀ (p:List Bool) {β:Type} (t:Tr α) (v:Option α) (k:Tr α->β),Tr.setP p t v k=k (Tr.setP p t v id)
 | [],_,.leaf,_,_=>rfl
 | [],_,.node _ _ _,_,_=>rfl
 | b::p,_,.leaf,v,k=>by
  cases b
  ·have h1:=Tr.setP_eq p (.leaf:Tr α) v (fun y=>k (Tr.node none y .leaf));have h2:=Tr.setP_eq p (.leaf:Tr α) v (fun y=>(id (Tr.node none y .leaf):Tr α));exact h1.trans (congrArg k h2.symm)
  ·have h1:=Tr.setP_eq p (.leaf:Tr α) v (fun y=>k (Tr.node none .leaf y));have h2:=Tr.setP_eq p (.leaf:Tr α) v (fun y=>(id (Tr.node none .leaf y):Tr α));exact h1.trans (congrArg k h2.symm)
 | b::p,_,.node x l r,v,k=>by
  cases b
  ·have h1:=Tr.setP_eq p (l:Tr α) v (fun y=>k (Tr.node x y r));have h2:=Tr.setP_eq p (l:Tr α) v (fun y=>(id (Tr.node x y r):Tr α));exact h1.trans (congrArg k h2.symm)
  ·have h1:=Tr.setP_eq p (r:Tr α) v (fun y=>k (Tr.node x l y));have h2:=Tr.setP_eq p (r:Tr α) v (fun y=>(id (Tr.node x l y):Tr α));exact h1.trans (congrArg k h2.symm)

theorem Tr.getP_leaf (p:List Bool):Tr.getP p (.leaf:Tr α)=none:=by cases p <;> rfl
theorem Tr.setP_leaf_cons (b:Bool) (p:List Bool) (v:Option α) :
  Tr.setP (b::p) .leaf v id=bif b then .node none .leaf (Tr.setP p .leaf v id) else .node none (Tr.setP p .leaf v id) .leaf:=by
 cases b <;> simp only [Tr.setP,cond_false,cond_true] <;> rw [Tr.setP_eq] <;> rfl
theorem Tr.setP_node_cons (b:Bool) (p:List Bool) (x:Option α) (l r:Tr α) (v:Option α) :
  Tr.setP (b::p) (.node x l r) v id=bif b then .node x l (Tr.setP p r v id) else .node x (Tr.setP p l v id) r:=by
 cases b <;> simp only [Tr.setP,cond_false,cond_true] <;> rw [Tr.setP_eq] <;> rfl

theorem Tr.getP_setP_same {α:Type}:∀ (p:List Bool) (t:Tr α) (v:Option α),Tr.getP p (Tr.setP p t v id)=v
 | [],.leaf,_=>rfl
 | [],.node _ _ _,_=>rfl
 | b::p,.leaf,v=>by rw [Tr.setP_leaf_cons];cases b <;> simp only [cond_false,cond_true,Tr.getP] <;> exact Tr.getP_setP_same p .leaf v
 | b::p,.node x l r,v=>by rw [Tr.setP_node_cons];cases b <;> simp only [cond_false,cond_true,Tr.getP] <;> exact Tr.getP_setP_same p _ v
theorem Tr.getP_setP_ne {α:Type}:∀ (p q:List Bool) (t:Tr α) (v:Option α),p≠q->Tr.getP q (Tr.setP p t v id)=Tr.getP q t
 | [],[],_,_,h=>absurd rfl h
 | [],c::q,.leaf,v,_=>by cases c <;> simp [Tr.setP,Tr.getP,Tr.getP_leaf]
 | [],c::q,.node _ _ _,v,_=>by cases c <;> simp [Tr.setP,Tr.getP]
 | b::p,[],.leaf,v,_=>by rw [Tr.setP_leaf_cons];cases b <;> simp [Tr.getP]
 | b::p,[],.node _ _ _,v,_=>by rw [Tr.setP_node_cons];cases b <;> simp [Tr.getP]
 | b::p,c::q,.leaf,v,h=>by
  rw [Tr.setP_leaf_cons];by_cases hbc:b=c
  ·subst hbc;have hpq:p≠q:=fun e=>h (by rw [e])
   have:=Tr.getP_setP_ne p q (.leaf:Tr α) v hpq;cases b <;> simp only [cond_false,cond_true,Tr.getP] <;> rw [this,Tr.getP_leaf]
  ·cases b <;> cases c <;> simp_all [Tr.getP,Tr.getP_leaf]
 | b::p,c::q,.node x l r,v,h=>by
  rw [Tr.setP_node_cons];by_cases hbc:b=c
  ·subst hbc;have hpq:p≠q:=fun e=>h (by rw [e])
   cases b <;> simp only [cond_false,cond_true,Tr.getP]
   ·exact Tr.getP_setP_ne p q l v hpq
   ·exact Tr.getP_setP_ne p q r v hpq
  ·cases b <;> cases c <;> simp_all [Tr.getP]

theorem xMN:∀ (f i g j:Nat),i<=f->j<=g->bits f i=bits g j->i=j:=by
 intro f;induction f with
 | zero =>
  intro i g j hi hj h;have:i=0:=by omega
  subst this;cases g with
  | zero=>omega
  | succ g =>
   by_cases hj0:j=0
   ·exact hj0.symm
   ·have:Nat.beq j 0=false:=by rw [Bool.eq_false_iff];intro e;exact hj0 (Nat.eq_of_beq_eq_true e)
    simp [bits,this] at h
 | succ f ih =>
  intro i g j hi hj h;by_cases hi0:i=0
  ·subst hi0;cases g with
   | zero=>omega
   | succ g =>
    by_cases hj0:j=0
    ·exact hj0.symm
    ·have:Nat.beq j 0=false:=by rw [Bool.eq_false_iff];intro e;exact hj0 (Nat.eq_of_beq_eq_true e)
     simp [bits,this] at h
  ·have e1:Nat.beq i 0=false:=by rw [Bool.eq_false_iff];intro e;exact hi0 (Nat.eq_of_beq_eq_true e)
   cases g with
   | zero =>
    have:j=0:=by omega
    subst this;simp [bits,e1] at h
   | succ g =>
    by_cases hj0:j=0
    ·subst hj0;simp [bits,e1] at h
    ·have e2:Nat.beq j 0=false:=by rw [Bool.eq_false_iff];intro e;exact hj0 (Nat.eq_of_beq_eq_true e)
     simp only [bits,e1,e2,cond_false,List.cons.injEq] at h;have h2:=ih (i / 2) g (j / 2) (by omega) (by omega) h.2;have h1:(i % 2=1)↔(j % 2=1):=by
      have:=h.1;constructor <;> intro hh
      ·have:Nat.beq (j % 2) 1=true:=by rw [<- this,hh];rfl
       exact Nat.eq_of_beq_eq_true this
      ·have:Nat.beq (i % 2) 1=true:=by rw [this,hh];rfl
       exact Nat.eq_of_beq_eq_true this
     omega
theorem yXC {i j:Nat} (h:way i=way j):i=j:=xMN i i j j (Nat.le_refl _) (Nat.le_refl _) h

theorem zYN (h:Tr Blk) (b:Nat) (y:Option Blk) (c:Nat):yD (Tr.setP (way b) h y id) c=if c=b then y else yD h c:=by
 by_cases e:c=b
 ·subst e;rw [if_pos rfl];exact Tr.getP_setP_same _ _ _
 ·rw [if_neg e];exact Tr.getP_setP_ne _ _ _ _ (fun h=>e (yXC h).symm)

theorem zP (a b:Nat):Nat.ble a b=true↔a<=b:=by rw [Nat.ble_eq]
theorem zBD (a b:Nat):(bif Nat.ble a b then a else b)=min a b:=by
 cases h:Nat.ble a b
 ·have:¬ a<=b:=fun e=>by rw [(zP a b).2 e] at h;cases h
  simp;omega
 ·have:=(zP a b).1 h;simp;omega

def St.put (Z:St) (b:Nat) (y:Blk):St:=⟨Tr.setP (way b) Z.heap (some y) id,Z.y,min Z.low b⟩
def St.add (Z:St) (y:Blk):St:=⟨Tr.setP (way Z.y) Z.heap (some y) id,Z.y+1,Z.low⟩
def St.shut (Z:St) (b:Nat):St:=⟨Tr.setP (way b) Z.heap none id,Z.y,min Z.low b⟩
theorem St.write_eq (Z:St) (b:Nat) (y:Blk) (k:St->β):Z.write b y k=k (Z.put b y):=by
 cases Z;simp only [St.write,St.put];rw [Tr.setP_eq,wL,zBD]
theorem St.new_eq (Z:St) (y:Blk) (k:Nat->St->β):Z.new y k=k Z.y (Z.add y):=by
 cases Z;simp only [St.new,St.add];rw [Tr.setP_eq,wL]
theorem St.drop_eq (Z:St) (b:Nat) (k:St->β):Z.drop b k=k (Z.shut b):=by
 cases Z;simp only [St.drop,St.shut];rw [Tr.setP_eq,wL,zBD]
@[simp] theorem St.put_next (Z:St) (b:Nat) (y:Blk):(Z.put b y).y=Z.y:=rfl
@[simp] theorem St.put_low (Z:St) (b:Nat) (y:Blk):(Z.put b y).low=min Z.low b:=rfl
@[simp] theorem St.add_next (Z:St) (y:Blk):(Z.add y).y=Z.y+1:=rfl
@[simp] theorem St.add_low (Z:St) (y:Blk):(Z.add y).low=Z.low:=rfl
@[simp] theorem St.shut_next (Z:St) (b:Nat):(Z.shut b).y=Z.y:=rfl
@[simp] theorem St.shut_low (Z:St) (b:Nat):(Z.shut b).low=min Z.low b:=rfl
theorem St.put_get (Z:St) (b:Nat) (y:Blk) (c:Nat):yD (Z.put b y).heap c=if c=b then some y else yD Z.heap c:=zYN _ _ _ _
theorem St.add_get (Z:St) (y:Blk) (c:Nat):yD (Z.add y).heap c=if c=Z.y then some y else yD Z.heap c:=zYN _ _ _ _
theorem St.shut_get (Z:St) (b c:Nat):yD (Z.shut b).heap c=if c=b then none else yD Z.heap c:=zYN _ _ _ _

def Tm.set (f:Tm) (i:Nat) (v:Value):Tm:=if i<f.n then ⟨f.n,Tr.setP (way i) f.t (some v) id⟩ else f
theorem Tm.put_eq (f:Tm) (i:Nat) (v:Value) (k:Tm->β):f.put i v k=k (f.set i v):=by
 cases f with | mk n t =>
 simp only [Tm.put,Tm.set];by_cases h:i<n
 ·have:Nat.blt i n=true:=(zP _ _).2 h;rw [this,cond_true,zGX,Tr.setP_eq,if_pos h]
 ·have:Nat.blt i n=false:=by rw [Bool.eq_false_iff];exact fun e=>h ((zP _ _).1 e)
  rw [this,cond_false,if_neg h]
theorem Tm.nth_set (f:Tm) (i:Nat) (v:Value) (j:Nat):(f.set i v).nth j=if j=i/\i<f.n then v else f.nth j:=by
 unfold Tm.set;by_cases h:i<f.n
 ·rw [if_pos h];by_cases e:j=i
  ·subst e;simp only [Tm.nth,Tr.getP_setP_same];simp [h]
  ·rw [if_neg (fun x=>e x.1)];simp only [Tm.nth];rw [Tr.getP_setP_ne _ _ _ _ (fun x=>e (yXC x).symm)]
 ·rw [if_neg h,if_neg (fun x=>h x.2)]
@[simp] theorem Tm.set_n (f:Tm) (i:Nat) (v:Value):(f.set i v).n=f.n:=by unfold Tm.set;split <;> rfl

structure Loc where
 c:Nat
 lo:Nat
 base:Nat
 z:Nat

structure Inj where
 loc:Nat->Nat->Option Loc
 own:Nat->Option Nat
 csz:Nat->Nat

def Loc.at (L:Loc) (off:Nat):Addr:=⟨L.c,L.base+(off-L.lo),none⟩

def zKQ (cap cap':Nat):Prop:=if yY cap then cap'=cap else yE cap<=cap'

inductive FnR (V:Inj):Fn->Fn->Prop
 | func (f:FuncId):FnR V (.func f) (.func f)
 | yield {l:Nat} {L:Loc} (h:V.loc l 0=some L):FnR V (.yield l) (.yield L.c)

inductive VR (V:Inj):Value->Value->Prop
 | any {v':Value} (h:cellB v'=true):VR V POI v'
 | atom {v:Value} (h:uL v=true):VR V v v
 | ptr {a:Addr} {L:Loc} (h:V.loc a.block (zZ a)=some L) (hlo:L.lo<=a.off):VR V (.pointer (some a)) (.pointer (some (L.at a.off)))
 | slice {a A:Addr} {L:Loc} {len cap cap':Nat} (h:V.loc a.block (zZ a)=some L) (hlo:L.lo<=a.off) (hA:A=L.at a.off\/(len=0/\yE cap=0/\cap'=0)) (hc:zKQ cap cap')
   (hsz:L.base+(a.off-L.lo)+cap'*L.z<=V.csz L.c):VR V (.slice (some a) len cap) (.slice (some A) len cap')
 | map {b:Nat} {L:Loc} (h:V.loc b 0=some L):VR V (.map (some b)) (.map (some L.c))
 | func {fn fn':Fn} {f f' c c':Array Value} (hf:FnR V fn fn') (s1:f.size=f'.size) (h1:∀ (i:Nat) (v v':Value),f[i]?=some v->f'[i]?=some v'->VR V v v')
   (s2:c.size=c'.size) (h2:∀ (i:Nat) (v v':Value),c[i]?=some v->c'[i]?=some v'->VR V v v'):VR V (.func fn f c) (.func fn' f' c')
 | iface {t:TypeId} {v v':Value} (h:VR V v v'):VR V (.iface t v) (.iface t v')
 | agg {c c':Array Value} (s:c.size=c'.size) (h:∀ (i:Nat) (v v':Value),c[i]?=some v->c'[i]?=some v'->VR V v v'):VR V (.agg c) (.agg c')
 | tuple {c c':Array Value} (s:c.size=c'.size) (h:∀ (i:Nat) (v v':Value),c[i]?=some v->c'[i]?=some v'->VR V v v'):VR V (.tuple c) (.tuple c')

inductive VRs (V:Inj):List Value->List Value->Prop
 | nil:VRs V [] []
 | cons {v v':Value} {l l':List Value} (h:VR V v v') (t:VRs V l l'):VRs V (v::l) (v'::l')

theorem VRs.length {V:Inj} {l l':List Value} (h:VRs V l l'):l.length=l'.length:=by
 induction h with
 | nil=>rfl
 | cons _ _ ih=>simp [ih]
theorem VRs.get {V:Inj} (h:VRs V l l'):∀ (i:Nat) (v v':Value),l[i]?=some v->l'[i]?=some v'->VR V v v':=by
 induction h with
 | nil=>intro i v v' h;simp at h
 | cons h _ ih =>
  intro i v v' h1 h2;cases i with
  | zero=>simp at h1 h2;subst h1;subst h2;exact h
  | succ i=>simp at h1 h2;exact ih i v v' h1 h2
theorem VRs.of_get {V:Inj}:∀ {l l':List Value},l.length=l'.length->(∀ (i:Nat) (v v':Value),l[i]?=some v->l'[i]?=some v'->VR V v v')->VRs V l l'
 | [],[],_,_=>.nil
 | [],_::_,h,_=>by simp at h
 | _::_,[],h,_=>by simp at h
 | v::l,v'::l',h,hg=>.cons (hg 0 v v' (by simp) (by simp)) (VRs.of_get (by simpa using h) (fun i x x' h1 h2=>hg (i+1) x x' (by simpa using h1) (by simpa using h2)))
theorem VRs.append {V:Inj} {a a' b b':List Value} (h:VRs V a a') (k:VRs V b b'):VRs V (a++b) (a'++b'):=by
 induction h with
 | nil=>exact k
 | cons h _ ih=>exact .cons h ih
theorem VRs.get_some {V:Inj} (h:VRs V l l') {i:Nat} {v:Value} (hi:l[i]?=some v):∃ v',l'[i]?=some v'/\VR V v v':=by
 have hl:i<l'.length:=by rw [<- h.length];exact (List.getElem?_eq_some_iff.1 hi).1
 exact ⟨l'[i],by simp [hl],h.get i v _ hi (by simp [hl])⟩
theorem VRs.take {V:Inj} {l l':List Value} (h:VRs V l l') (n:Nat):VRs V (l.take n) (l'.take n):=by
 induction h generalizing n with
 | nil=>simp;exact .nil
 | cons h _ ih=>cases n with | zero=>exact .nil | succ n=>exact .cons h (ih n)
theorem VRs.drop {V:Inj} {l l':List Value} (h:VRs V l l') (n:Nat):VRs V (l.drop n) (l'.drop n):=by
 induction h generalizing n with
 | nil=>simp;exact .nil
 | cons h t ih=>cases n with | zero=>exact .cons h t | succ n=>exact ih n
theorem VR.agg' {V:Inj} (h:VRs V c c'):VR V (.agg ⟨c⟩) (.agg ⟨c'⟩):=.agg (by simpa using h.length) (fun i v v' h1 h2=>h.get i v v' (by simpa using h1) (by simpa using h2))
theorem VR.tuple' {V:Inj} (h:VRs V c c'):VR V (.tuple ⟨c⟩) (.tuple ⟨c'⟩):=.tuple (by simpa using h.length) (fun i v v' h1 h2=>h.get i v v' (by simpa using h1) (by simpa using h2))
theorem xMR {V:Inj} {c c':Array Value} (s:c.size=c'.size) (h:∀ (i:Nat) (v v':Value),c[i]?=some v->c'[i]?=some v'->VR V v v'):VRs V c.toList c'.toList :=
 VRs.of_get (by simpa using s) (fun i v v' h1 h2=>h i v v' (by simpa using h1) (by simpa using h2))

theorem VR.rigid {V:Inj}:∀ (n:Nat) {v v':Value},zQ n v=true->VR V v v'->v=v':=by
 intro n;induction n with
 | zero=>intro v v' h;simp [zQ] at h
 | succ n ih =>
  intro v v' hr h;have arr:∀ {c c':Array Value},c.size=c'.size->(∀ (i:Nat) (v v':Value),c[i]?=some v->c'[i]?=some v'->VR V v v')->c.toList.all (zQ n)=true->c=c':=by
   intro c c' s hh hall;apply Array.ext s;intro i h1 h2;have hm:c[i]∈c.toList:=by simp
   exact ih (List.all_eq_true.1 hall _ hm) (hh i _ _ (by simp [h1]) (by simp [h2]))
  cases h with
  | any h=>simp [zQ,uL] at hr
  | atom h=>rfl
  | ptr h _=>simp [zQ,uL] at hr
  | slice _ _ _ _ _=>simp [zQ,uL] at hr
  | map h=>simp [zQ,uL] at hr
  | func hf s1 h1 s2 h2 =>
   cases hf with
   | func f =>
    simp only [zQ,Bool.and_eq_true] at hr;rw [arr s1 h1 hr.1,arr s2 h2 hr.2]
   | yield h=>simp [zQ,uL] at hr
  | iface h=>simp only [zQ] at hr;rw [ih hr h]
  | agg s h=>simp only [zQ] at hr;rw [arr s h hr]
  | tuple s h=>simp only [zQ] at hr;rw [arr s h hr]

theorem VR.refl_rigid {V:Inj}:∀ (n:Nat) {v:Value},zQ n v=true->VR V v v:=by
 intro n;induction n with
 | zero=>intro v h;simp [zQ] at h
 | succ n ih =>
  intro v hr;have arr:∀ {c:Array Value},c.toList.all (zQ n)=true->(∀ (i:Nat) (v v':Value),c[i]?=some v->c[i]?=some v'->VR V v v'):=by
   intro c hall i v v' h1 h2;rw [h1] at h2;cases h2;exact ih (List.all_eq_true.1 hall _ (by simp [Array.mem_of_getElem? h1]))
  cases v with
  | agg cs=>simp only [zQ] at hr;exact .agg rfl (arr hr)
  | tuple cs=>simp only [zQ] at hr;exact .tuple rfl (arr hr)
  | iface t x=>simp only [zQ] at hr;exact .iface (ih hr)
  | func fn f c =>
   cases fn with
   | func g=>simp only [zQ,Bool.and_eq_true] at hr;exact .func (.func _) rfl (arr hr.1) rfl (arr hr.2)
   | _=>simp [zQ,uL] at hr
  | _=>exact .atom (by simpa [zQ] using hr)

theorem VR.undef {V:Inj}:VR V undef undef:=.tuple rfl (fun i v v' h=>by simp at h)
theorem VR.int {V:Inj} (k:IntKind) (n:Int):VR V (.int k n) (.int k n):=.atom rfl
theorem VR.bool {V:Inj} (b:Bool):VR V (.bool b) (.bool b):=.atom rfl

theorem VR.cellB {V:Inj} {v v':Value} (h:VR V v v'):cellB v=cellB v':=by
 cases h with
 | any h=>simpa [Lay.cellB] using h.symm
 | atom h=>rfl
 | _=>rfl
theorem VR.cells {V:Inj} {v v':Value} (h:VR V v v'):VRs V v.cells.toList v'.cells.toList:=by
 have one:∀ {v v':Value},VR V v v'->Lay.cellB v=true->v.cells.toList=[v]/\v'.cells.toList=[v']:=by
  intro v v' h hc;have h2:=h.cellB;rw [hc] at h2;constructor
  ·cases v <;> first | rfl | simp [Lay.cellB] at hc
  ·cases v' <;> first | rfl | simp [Lay.cellB] at h2
 by_cases hc:Lay.cellB v=true
 ·obtain ⟨e1,e2⟩:=one h hc;rw [e1,e2];exact .cons h .nil
 ·cases h with
  | any h=>simp [Lay.cellB] at hc
  | agg s h=>exact xMR s h
  | atom h=>cases v <;> simp_all [Lay.cellB,uL]
  | tuple s h=>exact .cons (.tuple s h) .nil
  | _=>simp [Lay.cellB] at hc
theorem VRs.cellB {V:Inj} {l l':List Value} (h:VRs V l l'):l.all Lay.cellB=l'.all Lay.cellB:=by
 induction h with
 | nil=>rfl
 | cons h _ ih=>simp only [List.all_cons,ih,h.cellB]

structure Ext (V V':Inj) (N n':Nat):Prop where
 loc:∀ b s L,V.loc b s=some L->V'.loc b s=some L
 sz:∀ b s L,V.loc b s=some L->V'.csz L.c=V.csz L.c
 fresh:∀ b s,V.loc b s=none->n'<=b->V'.loc b s=none
 own:∀ c,c<N->V'.own c=V.own c
 csz:∀ c,c<N->V'.csz c=V.csz c
 old:∀ b s L,V'.loc b s=some L->L.c<N->∃ b' s' L',V.loc b' s'=some L'/\L'.c=L.c

structure Sub (V V':Inj):Prop where
 loc:∀ b s L,V.loc b s=some L->V'.loc b s=some L
 sz:∀ b s L,V.loc b s=some L->V'.csz L.c=V.csz L.c
theorem Sub.refl (V:Inj):Sub V V:=⟨fun _ _ _ h=>h,fun _ _ _ _=>rfl⟩
theorem Sub.trans {V V₁ V₂:Inj} (h:Sub V V₁) (k:Sub V₁ V₂):Sub V V₂ :=
 ⟨fun b s L e=>k.loc b s L (h.loc b s L e),fun b s L e=>(k.sz b s L (h.loc b s L e)).trans (h.sz b s L e)⟩
theorem Ext.sub {V V':Inj} (e:Ext V V' N n'):Sub V V':=⟨e.loc,e.sz⟩

theorem FnR.sub {V V':Inj} (e:Sub V V') {f f':Fn} (h:FnR V f f'):FnR V' f f':=by
 cases h with
 | func f=>exact .func f
 | yield h=>exact .yield (e.loc _ _ _ h)
theorem VR.sub {V V':Inj} (e:Sub V V') {v v':Value} (h:VR V v v'):VR V' v v':=by
 induction h with
 | any h=>exact .any h
 | atom h=>exact .atom h
 | ptr h hlo=>exact .ptr (e.loc _ _ _ h) hlo
 | slice h hlo hA hc hs=>exact .slice (e.loc _ _ _ h) hlo hA hc (by rw [e.sz _ _ _ h];exact hs)
 | map h=>exact .map (e.loc _ _ _ h)
 | func hf s1 _ s2 _ ih1 ih2=>exact .func (hf.sub e) s1 ih1 s2 ih2
 | iface _ ih=>exact .iface ih
 | agg s _ ih=>exact .agg s ih
 | tuple s _ ih=>exact .tuple s ih
theorem VRs.sub {V V':Inj} (e:Sub V V') {l l':List Value} (h:VRs V l l'):VRs V' l l':=by
 induction h with
 | nil=>exact .nil
 | cons h _ ih=>exact .cons (h.sub e) ih

theorem VR.ext {V V':Inj} (e:Ext V V' N n') {v v':Value} (h:VR V v v'):VR V' v v':=h.sub e.sub
theorem VRs.ext {V V':Inj} {N n':Nat} (e:Ext V V' N n') {l l':List Value} (h:VRs V l l'):VRs V' l l':=by
 induction h with
 | nil=>exact .nil
 | cons h _ ih=>exact .cons (h.ext e) ih

def zIM:Operand->Bool
 | .const v=>zQ RD v
 | _=>true
def zCK (o:Oper):Bool:=o.op.operands.toList.all zIM
def wE:Code->Bool
 | .seq a b=>wE a && wE b
 | .cond c x y=>zIM c && wE x && wE y
 | .block _ c=>wE c
 | .scope c=>wE c
 | .loop c=>wE c
 | .region _ ops _=>ops.toList.all zCK
 | .rangeFunc g _ as bo=>zIM g && wE as && wE bo
 | _=>true

def TmR (V:Inj) (f:Tm) (tm:Array Value):Prop:=f.n=tm.size/\∀ i,VR V (f.nth i) (tm.getD i undef)
theorem TmR.ext {V V':Inj} {N n':Nat} (e:Ext V V' N n') {f:Tm} {tm:Array Value} (h:TmR V f tm):TmR V' f tm:=⟨h.1,fun i=>(h.2 i).ext e⟩
theorem TmR.sub {V V':Inj} (e:Sub V V') {f:Tm} {tm:Array Value} (h:TmR V f tm):TmR V' f tm:=⟨h.1,fun i=>(h.2 i).sub e⟩
theorem TmR.set {V:Inj} {f:Tm} {tm:Array Value} (h:TmR V f tm) (i:Nat) {v v':Value} (hv:VR V v v'):TmR V (f.set i v) (tm.setIfInBounds i v'):=by
 refine ⟨by simpa using h.1,fun j=>?_⟩
 rw [Tm.nth_set,h.1];by_cases e:j=i/\i<tm.size
 ·obtain ⟨rfl,hlt⟩:=e;rw [if_pos ⟨rfl,hlt⟩];simpa [Array.getD,hlt] using hv
 ·rw [if_neg e];have:=h.2 j;by_cases hj:j<tm.size
  ·have hne:i≠j:=fun x=>e ⟨x.symm,x ▸ hj⟩
   simpa [Array.getD,hj,Array.getElem_setIfInBounds,hne] using this
  ·simpa [Array.getD,hj] using this

structure RowR (V:Inj) (w:World) (b:Nat) (cs:List Value) (esz:Nat) (ro:Bool) (s e:Nat) (L:Loc):Prop where
 loc:V.loc b s=some L
 row:∃ arr elem fr,w.heap[L.c]?=some (.cells arr elem fr)/\arr.size=V.csz L.c/\(ro=false->fr=(0,0))/\L.base+(e-L.lo)<=arr.size /\
  ∀ j,L.lo<=j->j<e->∃ v v',cs[j]?=some v/\arr[L.base+(j-L.lo)]?=some v'/\VR V v v'
 cz:L.z=esz
 lo:L.lo<=e
 own:V.own L.c=if ro then none else some b

inductive BlkR (V:Inj) (w:World) (b:Nat):Blk->Prop
 | cells {cs:List Value} {esz:Nat} {log:List (Nat × Nat)} {next:Nat} {ro:Bool}
   (rows:∀ s e,(s,e)∈log->s<next/\e<=cs.length/\∃ L,RowR V w b cs esz ro s e L)
   (sorted:log.Pairwise (fun x y=>y.1<x.1/\y.2<=x.2))
   (same:∀ s₁ e₁ s₂ e₂ L₁ L₂,(s₁,e₁)∈log->(s₂,e₂)∈log->V.loc b s₁=some L₁->V.loc b s₂=some L₂->L₁.c=L₂.c->L₁.base+L₂.lo=L₂.base+L₁.lo)
   (fresh:∀ s,next<=s->V.loc b s=none):BlkR V w b (.cells cs esz log next ro)
 | map {es:List (Value × Value)} {L:Loc} {arr:Array MapEntry} {clock:Nat} (loc:V.loc b 0=some L) (own:V.own L.c=some b)
   (row:w.heap[L.c]?=some (.map arr clock)) (size:arr.size=es.length)
   (ents:∀ (i:Nat) e,es[i]?=some e->∃ e',arr[i]?=some e'/\e'.key=e.1/\VR V e.2 e'.val):BlkR V w b (.map es)
 | loop {f:Tm} {tm:Array Value} {ps:List Tmp} {as bo:Code} {st:LoopState} {pend:Option Code} {db:Nat} {fn:FuncId} {L Ld:Loc} (loc:V.loc b 0=some L) (own:V.own L.c=some b)
   (locd:V.loc db 0=some Ld)
   (row:w.heap[L.c]?=some (.loop { state:=st,pending:=pend,fn:=fn,tmps:=tm,params:=ps.toArray,assign:=as,body:=bo,defers:=Ld.c })) (tms:TmR V f tm)
   (oka:wE as=true) (okb:wE bo=true) :
   BlkR V w b (.loop f ps as bo st pend db)
 | defd {L:Loc} (loc:V.loc b 0=some L) (own:V.own L.c=some b) (row:w.heap[L.c]?=some (.deferred (some []))):BlkR V w b .defd

structure Rep (V:Inj) (Z:St) (w:World):Prop where
 blk:∀ b y,yD Z.heap b=some y->b<Z.y/\BlkR V w b y
 lt:∀ b s L,V.loc b s=some L->L.c<w.heap.size
 ownlt:∀ c b,V.own c=some b->c<w.heap.size/\b<Z.y
 fresh:∀ b s,Z.y<=b->V.loc b s=none

def zCU (w w':World):Prop:=∀ (c:Nat),c<w.heap.size->∀ arr elem f,w'.heap[c]?=some (.cells arr elem f)->(∃ arr' elem',w.heap[c]?=some (.cells arr' elem' f))\/f=(0,0)
theorem zCU.refl (w:World):zCU w w:=fun _ _ arr elem _ h=>.inl ⟨arr,elem,h⟩
theorem zCU.trans {w₁ w₂:World} (h:zCU w w₁) (hs:w.heap.size<=w₁.heap.size) (k:zCU w₁ w₂):zCU w w₂:=fun c hl arr elem f hc=>by
 rcases k c (Nat.lt_of_lt_of_le hl hs) arr elem f hc with ⟨arr',elem',hc'⟩ | hf
 ·exact h c hl arr' elem' f hc'
 ·exact .inr hf
theorem zCU.one (r:Nat) (h:∀ c,c≠r->w'.heap[c]?=w.heap[c]?) (hr:∀ arr elem f,w'.heap[r]?=some (.cells arr elem f)->f=(0,0)):zCU w w':=fun c _ arr elem f hc=>by
 by_cases e:c=r
 ·subst e;exact .inr (hr arr elem f hc)
 ·rw [h c e] at hc;exact .inl ⟨arr,elem,hc⟩

structure Pres (V:Inj) (w:World) (low:Nat) (w':World):Prop where
 size:w.heap.size<=w'.heap.size
 same:∀ c,c<w.heap.size->(∀ b,V.own c=some b->b<low)->w'.heap[c]?=w.heap[c]?
 tape:w'.tape=w.tape
 os:w'.os=w.os
 output:w'.output=w.output
 fr:zCU w w'
 drawn:w.drawn<=w'.drawn

structure Good (V:Inj) (Z:St) (w:World) (V':Inj) (Z':St) (w':World):Prop where
 ext:Ext V V' w.heap.size Z'.y
 rep:Rep V' Z' w'
 pres:Pres V w Z'.low w'
 low:Z'.low<=Z.low
 y:Z.y<=Z'.y

def zUU (V:Inj) (n m:Nat):Prop:=∀ b s,n<=b->b<m->V.loc b s=none

theorem Ext.refl (V:Inj) (N n:Nat):Ext V V N n:=⟨fun _ _ _ h=>h,fun _ _ _ _=>rfl,fun _ _ h _=>h,fun _ _=>rfl,fun _ _=>rfl,fun b s L h _=>⟨b,s,L,h,rfl⟩⟩
theorem Ext.trans {V V₁ V₂:Inj} {N N₁ n₁ n₂:Nat} (h:Ext V V₁ N n₁) (k:Ext V₁ V₂ N₁ n₂) (hN:N<=N₁) (hn:n₁<=n₂):Ext V V₂ N n₂ :=
  ⟨fun b s L e=>k.loc b s L (h.loc b s L e),
   fun b s L e=>(k.sz b s L (h.loc b s L e)).trans (h.sz b s L e),
   fun b s e hb=>k.fresh b s (h.fresh b s e (Nat.le_trans hn hb)) hb,
   fun c hc=>(k.own c (Nat.lt_of_lt_of_le hc hN)).trans (h.own c hc),
   fun c hc=>(k.csz c (Nat.lt_of_lt_of_le hc hN)).trans (h.csz c hc),
   fun b s L e hc=>by
    obtain ⟨b₁,s₁,L₁,e₁,h₁⟩:=k.old b s L e (Nat.lt_of_lt_of_le hc hN);obtain ⟨b₂,s₂,L₂,e₂,h₂⟩:=h.old b₁ s₁ L₁ e₁ (by rw [h₁];exact hc);exact ⟨b₂,s₂,L₂,e₂,h₂.trans h₁⟩⟩
theorem Pres.refl (V:Inj) (w:World) (low:Nat):Pres V w low w:=⟨Nat.le_refl _,fun _ _ _=>rfl,rfl,rfl,rfl,.refl _,Nat.le_refl _⟩
theorem Pres.trans {V V₁:Inj} {w w₁ w₂:World} {l₁ l₂ m:Nat} (h:Pres V w l₁ w₁) (k:Pres V₁ w₁ l₂ w₂) (e:Ext V V₁ w.heap.size m) (hl:l₂<=l₁):Pres V w l₂ w₂ :=
  ⟨Nat.le_trans h.size k.size,
   fun c hc ho=>by
    rw [k.same c (Nat.lt_of_lt_of_le hc h.size) (fun b hb=>ho b (by rwa [e.own c hc] at hb))];exact h.same c hc (fun b hb=>Nat.lt_of_lt_of_le (ho b hb) hl),
   k.tape.trans h.tape,k.os.trans h.os,k.output.trans h.output,h.fr.trans h.size k.fr,Nat.le_trans h.drawn k.drawn⟩
theorem Good.refl {V:Inj} {Z:St} {w:World} (h:Rep V Z w):Good V Z w V Z w:=⟨Ext.refl _ _ _,h,Pres.refl _ _ _,Nat.le_refl _,Nat.le_refl _⟩
theorem Good.trans {V V₁ V₂:Inj} {Z Z₁ Z₂:St} {w w₁ w₂:World} (h:Good V Z w V₁ Z₁ w₁) (k:Good V₁ Z₁ w₁ V₂ Z₂ w₂):Good V Z w V₂ Z₂ w₂ :=
 ⟨h.ext.trans k.ext h.pres.size k.y,k.rep,h.pres.trans k.pres h.ext k.low,Nat.le_trans k.low h.low,Nat.le_trans h.y k.y⟩
theorem BlkR.keepS {V V':Inj} (h:BlkR V w b y) (e:Sub V V') (ho:∀ s L,V.loc b s=some L->V'.own L.c=V.own L.c)
  (hs:∀ s L,V.loc b s=some L->V.own L.c=some b\/V.own L.c=none->w'.heap[L.c]?=w.heap[L.c]?)
  (hf:∀ cs esz log next ro,y=.cells cs esz log next ro->∀ s,next<=s->V'.loc b s=none):BlkR V' w' b y:=by
 cases h with
 | cells rows sorted same fresh =>
  refine .cells (fun s ex hm=>?_) sorted (fun s₁ e₁ s₂ e₂ L₁ L₂ h₁ h₂ l₁ l₂ hc=>?_) (hf _ _ _ _ _ rfl)
  ·obtain ⟨h1,h2,L,hr⟩:=rows s ex hm;refine ⟨h1,h2,L, ?_⟩
   obtain ⟨hl,⟨arr,elem,fr,r1,r2,r3,r4,r5⟩,hcz,hlo,hown⟩:=hr;refine ⟨e.loc _ _ _ hl,⟨arr,elem,fr, ?_,by rw [e.sz _ _ _ hl];exact r2,r3,r4,fun j h1 h2=>?_⟩,hcz,hlo,by rw [ho _ _ hl];exact hown⟩
   ·rw [hs s L hl ?_];exact r1;rw [hown];split
    ·exact .inr rfl
    ·exact .inl rfl
   ·obtain ⟨v,v',a1,a2,a3⟩:=r5 j h1 h2;exact ⟨v,v',a1,a2,a3.sub e⟩
  ·obtain ⟨_,_,M₁,hr₁⟩:=rows s₁ e₁ h₁;obtain ⟨_,_,M₂,hr₂⟩:=rows s₂ e₂ h₂;have q₁:=e.loc _ _ _ hr₁.loc;have q₂:=e.loc _ _ _ hr₂.loc;rw [l₁] at q₁;rw [l₂] at q₂;cases q₁;cases q₂;exact same s₁ e₁ s₂ e₂ _ _ h₁ h₂ hr₁.loc hr₂.loc hc
 | map loc own row size ents =>
  refine .map (e.loc _ _ _ loc) (by rw [ho _ _ loc];exact own) (by rw [hs _ _ loc (.inl own)];exact row) size (fun i x hx=>?_);obtain ⟨e',a1,a2,a3⟩:=ents i x hx;exact ⟨e',a1,a2,a3.sub e⟩
 | loop loc own locd row tms oka okb =>
  exact .loop (e.loc _ _ _ loc) (by rw [ho _ _ loc];exact own) (e.loc _ _ _ locd) (by rw [hs _ _ loc (.inl own)];exact row) (tms.sub e) oka okb
 | defd loc own row=>exact .defd (e.loc _ _ _ loc) (by rw [ho _ _ loc];exact own) (by rw [hs _ _ loc (.inl own)];exact row)
theorem BlkR.keep {V V':Inj} (h:BlkR V w b y) (e:Ext V V' N n')
  (hlt:∀ b s L,V.loc b s=some L->L.c<N)
  (hs:∀ c,c<N->V.own c=some b\/V.own c=none->w'.heap[c]?=w.heap[c]?)
  (hf:∀ cs esz log next ro,y=.cells cs esz log next ro->∀ s,next<=s->V'.loc b s=none):BlkR V' w' b y :=
 h.keepS e.sub (fun s L hl=>e.own _ (hlt b s L hl)) (fun s L hl=>hs _ (hlt b s L hl)) hf

theorem Rep.grown {V:Inj} (h:Rep V Z w) (hs:w.heap.size<=w'.heap.size) (hc:∀ c,c<w.heap.size->w'.heap[c]?=w.heap[c]?):Rep V Z w' :=
  ⟨fun b y hb=>⟨(h.blk b y hb).1,(h.blk b y hb).2.keep (Ext.refl V w.heap.size 0) h.lt (fun c hc' _=>hc c hc') (fun cs esz log next ro hy s hs'=>by
    have:=(h.blk b y hb).2;subst hy;cases this with | cells _ _ _ fresh=>exact fresh s hs')⟩,
   fun b s L hl=>Nat.lt_of_lt_of_le (h.lt b s L hl) hs,fun c b hb=>⟨Nat.lt_of_lt_of_le (h.ownlt c b hb).1 hs,(h.ownlt c b hb).2⟩,h.fresh⟩
theorem Rep.free {V:Inj} (h:Rep V Z w) (m:Nat):zUU V Z.y m:=fun b s h1 _=>h.fresh b s h1

end Go.Lay

namespace Go.Lay
open Go
variable {k:IntKind} {v' v x y x' y':Value} {b:Bool} {a:Addr} {len cap:Nat} {c:Array Value} {t:TypeId} {V:Inj} {op:BinOp} {ox oy:Operand}

section
variable {V:Inj}
theorem VR.int_inv {n:Int} (h:VR V (.int k n) v'):v'=.int k n:=by cases h;rfl
theorem VR.bool_inv (h:VR V (.bool b) v'):v'=.bool b:=by cases h;rfl
theorem VR.string_inv {s:ByteArray} (h:VR V (.string s) v'):v'=.string s:=by cases h;rfl
theorem VR.ptr_inv (h:VR V (.pointer (some a)) v'):∃ L,V.loc a.block (zZ a)=some L/\L.lo<=a.off/\v'=.pointer (some (L.at a.off)):=by
 cases h with
 | atom h=>simp [uL] at h
 | ptr h hlo=>exact ⟨_,h,hlo,rfl⟩
theorem VR.ptr_none (h:VR V (.pointer none) v'):v'=.pointer none:=by cases h;rfl
theorem VR.slice_inv (h:VR V (.slice (some a) len cap) v') :
  ∃ L cap' A,V.loc a.block (zZ a)=some L/\L.lo<=a.off/\(A=L.at a.off\/(len=0/\yE cap=0/\cap'=0))/\zKQ cap cap'/\L.base+(a.off-L.lo)+cap'*L.z<=V.csz L.c/\v'=.slice (some A) len cap':=by
 cases h with
 | atom h=>simp [uL] at h
 | slice h hlo hA hc hs=>exact ⟨_,_,_,h,hlo,hA,hc,hs,rfl⟩
theorem VR.slice_none (h:VR V (.slice none len cap) v'):v'=.slice none len cap:=by cases h;rfl
theorem VR.map_inv {b:Nat} (h:VR V (.map (some b)) v'):∃ L,V.loc b 0=some L/\v'=.map (some L.c):=by
 cases h with
 | atom h=>simp [uL] at h
 | map h=>exact ⟨_,h,rfl⟩
theorem VR.map_none (h:VR V (.map none) v'):v'=.map none:=by cases h;rfl
theorem VR.agg_inv (h:VR V (.agg c) v'):∃ c',v'=.agg c'/\VRs V c.toList c'.toList:=by
 cases h with
 | atom h=>simp [uL] at h
 | agg s h=>exact ⟨_,rfl,xMR s h⟩
theorem VR.tuple_inv (h:VR V (.tuple c) v'):∃ c',v'=.tuple c'/\VRs V c.toList c'.toList:=by
 cases h with
 | atom h=>simp [uL] at h
 | tuple s h=>exact ⟨_,rfl,xMR s h⟩
theorem VR.func_inv {fn:Fn} {f:Array Value} (h:VR V (.func fn f c) v'):∃ fn' f' c',v'=.func fn' f' c'/\FnR V fn fn'/\VRs V f.toList f'.toList/\VRs V c.toList c'.toList:=by
 cases h with
 | atom h=>simp [uL] at h
 | func hf s1 h1 s2 h2=>exact ⟨_,_,_,rfl,hf,xMR s1 h1,xMR s2 h2⟩
theorem VR.iface_inv (h:VR V (.iface t v) v'):∃ x,v'=.iface t x/\VR V v x:=by
 cases h with
 | atom h=>simp [uL] at h
 | iface h=>exact ⟨_,rfl,h⟩
theorem VR.nilFunc_inv (h:VR V .nilFunc v'):v'=.nilFunc:=by cases h;rfl
theorem VR.nilIface_inv (h:VR V .nilIface v'):v'=.nilIface:=by cases h;rfl
end

theorem wM (c:Array Value):(⟨c.toList⟩:Array Value)=c:=by cases c;rfl

theorem vL {P:Program} {α:Type}:∀ (s:Sem α) {a:α},yJ P s=some a->∀ w,s.run P w=.ok a w:=by
 intro s;induction s with
 | pure a=>intro a' h w;simp [yJ] at h;subst h;rfl
 | program k ih=>intro a h w;simp only [yJ] at h;simp only [Sem.run];exact ih _ h w
 | _=>intro a h;simp [yJ] at h

theorem filter_some {α:Type} {o:Option α} {p:α->Bool} {v:α} (h:o.filter p=some v):o=some v/\p v=true:=by
 cases o with
 | none=>simp at h
 | some x=>simp [Option.filter_some] at h;obtain ⟨h1,h2⟩:=h;subst h2;exact ⟨rfl,h1⟩

theorem zEK (k:IntKind) (n:Int):vV k n=k.wrap n:=by
 unfold vV;split
 ·have key:∀ n:Int, -9223372036854775808<=n->n<=9223372036854775807->IntKind.wrap .i64 n=n:=by
   intro n h1 h2;have e1:(2:Int) ^ 64=18446744073709551616:=by decide
   have e2:(2:Int) ^ (64-1)=9223372036854775808:=by decide
   simp only [IntKind.wrap,IntKind.bits,IntKind.signed,e1,e2,Bool.true_and,decide_eq_true_eq];split <;> omega
  have hb:∀ m:Nat,Nat.ble m 9223372036854775807=true->(m:Int)<=9223372036854775807:=fun m h=>by
   have:=(zP m 9223372036854775807).1 h;omega
  split
  ·rename_i m;cases h:Nat.ble m 9223372036854775807 with
   | false=>rw [cond_false]
   | true =>
    have h1:=hb m h;have h2:=Int.natCast_nonneg m;rw [cond_true];refine (key (Int.ofNat m) ?_ ?_).symm
    ·exact Int.le_trans (by decide) h2
    ·exact h1
  ·rename_i m;cases h:Nat.ble m 9223372036854775807 with
   | false=>rw [cond_false]
   | true =>
    have h1:=hb m h;have h2:=Int.natCast_nonneg m;rw [cond_true];refine (key (Int.negSucc m) ?_ ?_).symm
    ·rw [Int.negSucc_eq];omega
    ·rw [Int.negSucc_eq];omega
 ·rfl

theorem zTT {j:IntKind} (h:zGG j k=true):j=k:=by cases j <;> cases k <;> simp_all [zGG]

section
variable {P:Program}
theorem yW {n:Nat} (h:yU P t=some n) (w:World):(sizeOf t).run P w=.ok n w:=by
 unfold yU at h;cases hi:P.info? t with
 | none=>simp [hi] at h
 | some i=>simp [hi] at h;simp [sizeOf,typeInfo,hi,h]
theorem zBO {z:Value} (h:uQ P t=some z) (w:World):(zeroValue t).run P w=.ok z w:=by
 unfold uQ at h;cases hi:P.types[t]? with
 | none=>simp [hi] at h
 | some i =>
  have hlt:t<P.types.size:=(Array.getElem?_eq_some_iff.1 hi).1;have hi2:P.info? t=some i:=by unfold Tables.info?;rw [if_pos hlt];exact hi
  simp [hi] at h;simp [zeroValue,typeInfo,hi2,h]
theorem zPD (h:vE P t=some b) (w:World):(isAgg t).run P w=.ok b w:=by
 unfold vE at h;split at h <;> simp at h <;> subst h <;> simp [isAgg,underlying, *]
theorem uU {i:TypeInfo} (h:P.info? t=some i) (w:World):(typeInfo t).run P w=.ok i w:=by simp [typeInfo,h]

theorem yLU (h:yLV P t x y=some b) (hx:VR V x x') (hy:VR V y y') (w:World) :
  (binOp .eql t x' y').run P w=.ok (.bool b) w/\(binOp .neq t x' y').run P w=.ok (.bool !b) w/\(∀ op ox oy,(eqGuard op t ox oy x' y').run P w=.ok () w):=by
 have fin:∀ (x' y':Value) (b:Bool),(∀ d,(Op.equalIn (d+1) t x' y').run P w=.ok b w)->(binOp .eql t x' y'=do pure (.bool (<- Op.equal t x' y'))) ->
   (binOp .neq t x' y'=do pure (.bool (!(<- Op.equal t x' y'))))->(∀ op ox oy,eqGuard op t ox oy x' y'=pure ()) ->
   (binOp .eql t x' y').run P w=.ok (.bool b) w/\(binOp .neq t x' y').run P w=.ok (.bool !b) w/\(∀ op ox oy,(eqGuard op t ox oy x' y').run P w=.ok () w):=by
  intro x' y' b h1 h2 h3 h4
  have h5:(Op.equal t x' y').run P w=.ok b w:=h1 9999
  refine ⟨by rw [h2,Sem.run_bind,h5];rfl,by rw [h3,Sem.run_bind,h5];rfl,fun op ox oy=>by rw [h4];rfl⟩
 unfold yLV at h;split at h <;> simp at h <;> subst h <;> rename_i hd
 ·rename_i o _ _;have:=hx.slice_none;subst this;cases o with
  | none=>have:=hy.slice_none;subst this;exact fin _ _ _ (fun d=>by simp [Op.equalIn,run_underlying hd]) rfl rfl (fun op _ _=>by cases op <;> rfl)
  | some a=>obtain ⟨L,c',A,_,_,_,_,_,rfl⟩:=hy.slice_inv;exact fin _ _ _ (fun d=>by simp [Op.equalIn,run_underlying hd]) rfl rfl (fun op _ _=>by cases op <;> rfl)
 ·obtain ⟨L,c',A,_,_,_,_,_,rfl⟩:=hx.slice_inv;have:=hy.slice_none;subst this;exact fin _ _ _ (fun d=>by simp [Op.equalIn,run_underlying hd]) rfl rfl (fun op _ _=>by cases op <;> rfl)
 ·rename_i o;have:=hx.map_none;subst this;cases o with
  | none=>have:=hy.map_none;subst this;exact fin _ _ _ (fun d=>by simp [Op.equalIn,run_underlying hd]) rfl rfl (fun op _ _=>by cases op <;> rfl)
  | some a=>obtain ⟨L,_,rfl⟩:=hy.map_inv;exact fin _ _ _ (fun d=>by simp [Op.equalIn,run_underlying hd]) rfl rfl (fun op _ _=>by cases op <;> rfl)
 ·obtain ⟨L,_,rfl⟩:=hx.map_inv;have:=hy.map_none;subst this;exact fin _ _ _ (fun d=>by simp [Op.equalIn,run_underlying hd]) rfl rfl (fun op _ _=>by cases op <;> rfl)
 ·have:=hx.nilFunc_inv;subst this;obtain ⟨fn',f',c',rfl,_,_,_⟩:=hy.func_inv;exact fin _ _ _ (fun d=>by simp [Op.equalIn,run_underlying hd]) rfl rfl (fun op _ _=>by cases op <;> rfl)
 ·have:=hy.nilFunc_inv;subst this;obtain ⟨fn',f',c',rfl,_,_,_⟩:=hx.func_inv;exact fin _ _ _ (fun d=>by simp [Op.equalIn,run_underlying hd]) rfl rfl (fun op _ _=>by cases op <;> rfl)
 ·rename_i o;have:=hx.ptr_none;subst this;cases o with
  | none=>have:=hy.ptr_none;subst this;exact fin _ _ _ (fun d=>by simp [Op.equalIn,run_underlying hd]) rfl rfl (fun op _ _=>by cases op <;> rfl)
  | some a=>obtain ⟨L,_,_,rfl⟩:=hy.ptr_inv;exact fin _ _ _ (fun d=>by simp [Op.equalIn,run_underlying hd]) rfl rfl (fun op _ _=>by cases op <;> rfl)
 ·obtain ⟨L,_,_,rfl⟩:=hx.ptr_inv;have:=hy.ptr_none;subst this;exact fin _ _ _ (fun d=>by simp [Op.equalIn,run_underlying hd]) rfl rfl (fun op _ _=>by cases op <;> rfl)
 ·have:=hx.nilIface_inv;subst this;obtain ⟨x1,rfl,_⟩:=hy.iface_inv;exact fin _ _ _ (fun d=>by simp [Op.equalIn,run_underlying hd]) rfl rfl (fun op _ _=>by cases op <;> rfl)
 ·have:=hy.nilIface_inv;subst this;obtain ⟨x1,rfl,_⟩:=hx.iface_inv;exact fin _ _ _ (fun d=>by simp [Op.equalIn,run_underlying hd]) rfl rfl (fun op _ _=>by cases op <;> rfl)

theorem zPW {a b:Int} (h:yUM op k a b=some v) (t:TypeId) (w:World):(binOp op t (.int k a) (.int k b)).run P w=.ok v w/\uL v=true:=by
 cases op <;> simp [yUM] at h
 case quo=>obtain ⟨h0,rfl⟩:=h;exact ⟨by simp [binOp,Op.intDiv,h0],rfl⟩
 case rem=>obtain ⟨h0,rfl⟩:=h;exact ⟨by simp [binOp,Op.intDiv,h0],rfl⟩
 all_goals
  subst h
  refine ⟨?_,rfl⟩
  simp [binOp,Op.intArith,Op.intCmp,zEK,zTC,zSI,yIQ]
 all_goals rfl

theorem zIQ (h:yAL P op t ox oy x y=some v) (hx:VR V x x') (hy:VR V y y') :
  ∃ v',(∀ w,(do eqGuard op t ox oy x' y';binOp op t x' y':Sem Value).run P w=.ok v' w)/\VR V v v':=by
 unfold yAL at h;cases hr:zQ RD x && zQ RD y
 ·rw [hr,cond_false] at h;cases hn:yLV P t x y with
  | none=>cases op <;> simp [hn] at h
  | some b =>
   have key:=fun w=>yLU hn hx hy w
   cases op <;> simp [hn] at h
   ·subst h;exact ⟨.bool b,fun w=>by rw [Sem.run_bind,(key w).2.2];exact (key w).1,.bool b⟩
   ·subst h;exact ⟨.bool !b,fun w=>by rw [Sem.run_bind,(key w).2.2];exact (key w).2.1,.bool _⟩
 ·rw [hr,cond_true] at h;simp only [Bool.and_eq_true] at hr;obtain ⟨h1,h2⟩:=filter_some h;have ex:=hx.rigid _ hr.1;have ey:=hy.rigid _ hr.2;subst ex;subst ey;exact ⟨v,fun w=>vL _ h1 w,.refl_rigid _ h2⟩

theorem yVZ (h:uP P op t ox oy x y=some v) (hx:VR V x x') (hy:VR V y y') :
  ∃ v',(∀ w,(do eqGuard op t ox oy x' y';binOp op t x' y':Sem Value).run P w=.ok v' w)/\VR V v v':=by
 unfold uP at h;split at h
 ·rename_i k a k' b;cases hk:zGG k k'
  ·rw [hk,cond_false] at h;exact zIQ h hx hy
  ·rw [hk,cond_true] at h;split at h
   ·rename_i u hu;simp at h;subst h;have:=zTT hk;subst this;have ex:=hx.int_inv;have ey:=hy.int_inv;subst ex;subst ey;refine ⟨u,fun w=>?_,.atom (zPW (P:=P) hu t default).2⟩
    rw [Sem.run_bind,eqGuard_at_int];exact (zPW hu t w).1
   ·exact zIQ h hx hy
 ·exact zIQ h hx hy
end

end Go.Lay

namespace Go.Lay
open Go
variable {t:TypeId} {v x ix x' ix':Value} {fs:Array Field} {f:Nat}
section
variable {P:Program} {V:Inj}

theorem zTY {cs cs':List Value} {off:Nat} (h:yYI P t cs off=some v) (hc:VRs V cs cs') :
  ∃ v',(∀ w,(part t ⟨cs'⟩ off).run P w=.ok v' w)/\VR V v v':=by
 unfold yYI at h;split at h
 ·rename_i n ha hs;simp at h;subst h;refine ⟨.agg ⟨(cs'.drop off).take n⟩,fun w=>?_,.agg' ((hc.drop off).take n)⟩
  simp [part,zPD ha,yW hs]
 ·rename_i _ ha;obtain ⟨v',h1,h2⟩:=hc.get_some h;refine ⟨v',fun w=>?_,h2⟩
  simp [part,zPD ha,h1]
 ·cases h

theorem xTN:∀ (l:List Value) (k off:Nat) (cells:Array Value),off+k+l.length<=cells.size ->
  ((l.zipIdx k).foldl (fun cs (x:Value × Nat)=>cs.setIfInBounds (off+x.2) x.1) cells).toList=cells.toList.take (off+k)++(l++cells.toList.drop (off+k+l.length)):=by
 intro l;induction l with
 | nil=>intro k off cells h;simp
 | cons x l ih =>
  intro k off cells h;simp only [List.zipIdx_cons,List.foldl_cons];rw [ih (k+1) off _ (by simp at h ⊢;omega)];simp only [Array.toList_setIfInBounds,List.length_cons];simp only [List.length_cons] at h;have hlt:off+k<cells.toList.length:=by simp;omega
  have e1:(cells.toList.set (off+k) x).take (off+(k+1))=cells.toList.take (off+k)++[x]:=by
   rw [show off+(k+1)=off+k+1 by omega,List.take_succ_eq_append_getElem (by simpa using hlt)];rw [List.take_set_of_le (Nat.le_refl _)];simp
  have e2:(cells.toList.set (off+k) x).drop (off+(k+1)+l.length)=cells.toList.drop (off+k+(l.length+1)):=by
   rw [List.drop_set_of_lt (by omega)];congr 1;omega
  rw [e1,e2];simp

theorem zKE {place:Nat->Option (Nat × Nat)}:∀ {parts parts':List (Nat × Value)} {cs cs' out:List Value},zMO place cs parts=some out->VRs V cs cs' ->
  parts.map (·.1)=parts'.map (·.1)->VRs V (parts.map (·.2)) (parts'.map (·.2))->∃ out',Instr.fill place ⟨cs'⟩ parts'=some ⟨out'⟩/\VRs V out out':=by
 intro parts;induction parts with
 | nil =>
  intro parts' cs cs' out h hc h1 h2;cases parts' with
  | nil=>simp [zMO] at h;subst h;exact ⟨cs',by simp [Instr.fill],hc⟩
  | cons _ _=>simp at h1
 | cons p parts ih =>
  intro parts' cs cs' out h hc h1 h2;cases parts' with
  | nil=>simp at h1
  | cons q parts' =>
   obtain ⟨i,v⟩:=p;obtain ⟨j,v'⟩:=q;simp only [List.map_cons,List.cons.injEq] at h1;obtain ⟨rfl,h1⟩:=h1;cases h2 with
   | cons hv h2 =>
    simp only [zMO] at h;cases hp:place i with
    | none=>simp [hp] at h
    | some os =>
     obtain ⟨off,size⟩:=os;simp only [hp] at h;have hcv:=hv.cells;cases hb:Nat.beq v.cells.toList.length size && Nat.ble (off+size) cs.length with
     | false=>rw [hb] at h;simp at h
     | true =>
      rw [hb,cond_true] at h;simp only [Bool.and_eq_true] at hb;have e1:=Nat.eq_of_beq_eq_true hb.1;have e2:=(zP _ _).1 hb.2;have e3:v'.cells.size=size:=by rw [<- e1,hcv.length];simp
      have e4:off+size<=cs'.length:=by rw [<- hc.length];exact e2
      have hs:=xTN v'.cells.toList 0 off ⟨cs'⟩ (by simp [e3];exact e4);obtain ⟨out',ho,hr⟩:=ih h (VRs.append (hc.take off) (VRs.append hcv (hc.drop (off+size)))) h1 h2;refine ⟨out', ?_,hr⟩
      simp only [Instr.fill,hp];rw [if_neg (by simp [e3];omega)];have e5:(v'.cells.zipIdx.foldl (fun cs (x:Value × Nat)=>cs.setIfInBounds (off+x.2) x.1) (⟨cs'⟩:Array Value))=⟨cs'.take off++(v'.cells.toList++cs'.drop (off+size))⟩:=by
       apply Array.ext';rw [<- Array.foldl_toList,Array.toList_zipIdx,hs];simp [e3]
      rw [e5];exact ho

theorem yTC {ps:List (Nat × Nat)} (h:zXF P fs=some ps) (w:World) :
  (fs.mapM (m:=Sem) fun f=>Prod.mk f.offset <$> sizeOf f.type).run P w=.ok ⟨ps⟩ w:=by
 have key:∀ (l:List Field) (ps:List (Nat × Nat)),(l.mapM fun f=>(yU P f.type).map fun n=>(f.offset,n))=some ps ->
   (l.mapM (m:=Sem) fun f=>Prod.mk f.offset <$> sizeOf f.type).run P w=.ok ps w:=by
  intro l
  induction l with
  | nil=>intro ps h;simp at h;subst h;simp
  | cons f l ih =>
   intro ps h;simp only [List.mapM_cons] at h;cases hs:yU P f.type with
   | none=>simp [hs] at h
   | some n =>
    simp only [hs,Option.map_some] at h;cases hl:(l.mapM fun f=>(yU P f.type).map fun n=>(f.offset,n)) with
    | none=>simp [hl] at h
    | some qs =>
     simp [hl] at h;subst h;simp [List.mapM_cons,yW hs,ih qs hl]
 rw [Array.mapM_eq_mapM_toList];simp [key fs.toList ps h]

theorem yJI {parts parts':List (Nat × Value)} (h:yVX P t parts=some v)
  (h1:parts.map (·.1)=parts'.map (·.1)) (h2:VRs V (parts.map (·.2)) (parts'.map (·.2))) (hz:∀ z,uQ P t=some z->VR V z z) :
  ∃ v',(∀ w,(Instr.build t ⟨parts'⟩).run P w=.ok v' w)/\VR V v v':=by
 unfold yVX at h;split at h
 ·rename_i z fs hz' hd;cases hp:zXF P fs with
  | none=>simp [hp] at h
  | some ps =>
   simp only [hp] at h;cases hf:zMO (fun i=>ps[i]?) z.cells.toList parts with
   | none=>simp [hf] at h
   | some cs =>
    simp [hf] at h;subst h;obtain ⟨out',ho,hr⟩:=zKE hf (hz z hz').cells h1 h2;refine ⟨.agg ⟨out'⟩,fun w=>?_,.agg' hr⟩
    have ho':Instr.fill (fun i=>ps[i]?) z.cells parts'=some ⟨out'⟩:=by simpa [wM] using ho
    simp [Instr.build,zBO hz',run_underlying hd,yTC hp,ho']
 ·rename_i z n elem hz' hd;cases hs:yU P elem with
  | none=>simp [hs] at h
  | some m =>
   simp only [hs] at h;cases hf:zMO (fun i=>some (i*m,m)) z.cells.toList parts with
   | none=>simp [hf] at h
   | some cs =>
    simp [hf] at h;subst h;obtain ⟨out',ho,hr⟩:=zKE hf (hz z hz').cells h1 h2;refine ⟨.agg ⟨out'⟩,fun w=>?_,.agg' hr⟩
    have ho':Instr.fill (fun i=>some (i*m,m)) z.cells parts'=some ⟨out'⟩:=by simpa [wM] using ho
    simp [Instr.build,zBO hz',run_underlying hd,yW hs,ho']
 ·cases h

theorem zIS (L:Loc) (off n:Nat) (h:L.lo<=off):(L.at off).add n=L.at (off+n):=by
 unfold Loc.at Addr.add;split
 ·subst_vars;rfl
 ·simp;omega
theorem vG (a b:Int):leI a b=true↔a<=b:=by rw [yIQ];simp
theorem zIF (a b:Int):ltI a b=true↔a<b:=by rw [zSI];simp

theorem zSQ (h:zFC P t x ix=some v) (hx:VR V x x') (hi:VR V ix ix') :
  ∃ v',(∀ w,(Instr.indexAt t x' ix').run P w=.ok v' w)/\VR V v v':=by
 unfold zFC at h;split at h
 ·rename_i i a len elem hd;have:=hi.int_inv;subst this;obtain ⟨L,hl,hlo,rfl⟩:=hx.ptr_inv;cases hs:yU P elem with
  | none=>simp [hs] at h
  | some n =>
   simp only [hs] at h;cases hb:leI 0 i && ltI i (.ofNat len) with
   | false=>rw [hb,cond_false] at h;cases h
   | true =>
    rw [hb,cond_true] at h;simp at h;subst h;simp only [Bool.and_eq_true,vG,zIF] at hb;refine ⟨.pointer (some (L.at (a.off+i.toNat*n))),fun w=>?_,.ptr (a:=zS a (i.toNat*n)) hl (by simp [zS];omega)⟩
    have hb2:i<(len:Int):=hb.2;simp [Instr.indexAt,asIntOf,run_underlying hd,Instr.sureAddr,hb.1,hb2,yW hs,zIS _ _ _ hlo]
 ·rename_i i a len cap elem hd;have:=hi.int_inv;subst this;obtain ⟨L,c',A,hl,hlo,hA,_,_,rfl⟩:=hx.slice_inv;cases hs:yU P elem with
  | none=>simp [hs] at h
  | some n =>
   simp only [hs] at h;cases hb:leI 0 i && ltI i (.ofNat len) with
   | false=>rw [hb,cond_false] at h;cases h
   | true =>
    rw [hb,cond_true] at h;simp at h;subst h;simp only [Bool.and_eq_true,vG,zIF] at hb;refine ⟨.pointer (some (L.at (a.off+i.toNat*n))),fun w=>?_,.ptr (a:=zS a (i.toNat*n)) hl (by simp [zS];omega)⟩
    have hb2:i<(len:Int):=hb.2;rcases hA with rfl | ⟨e0,_,_⟩
    ·simp [Instr.indexAt,asIntOf,run_underlying hd,hb.1,hb2,yW hs,zIS _ _ _ hlo]
    ·exfalso;have:=hb.1;omega
 ·cases h

theorem zMP (h:zQE P t=some fs):P.underlying t=some (.struct fs):=by
 unfold zQE at h;split at h <;> simp_all

theorem zTB (h:zNQ P t x f=some v) (hx:VR V x x') :
  ∃ v',(∀ w,(Instr.fieldAt t x' f).run P w=.ok v' w)/\VR V v v':=by
 unfold zNQ at h;split at h
 ·rename_i a fs hf;have hd:=zMP hf;obtain ⟨L,hl,hlo,rfl⟩:=hx.ptr_inv;split at h
  ·rename_i fd hfd;split at h
   ·cases h
   ·rename_i n hn hs;simp at h;subst h;refine ⟨.pointer (some (L.at (a.off+fd.offset))),fun w=>?_,.ptr (a:=zS a fd.offset) hl (by simp [zS];omega)⟩
    have hn0:¬ n=0:=hn;simp [Instr.fieldAt,run_underlying hd,hfd,Instr.sureAddr,fieldPlace,yW hs,zIS _ _ _ hlo,hn0]
   ·cases h
  ·cases h
 ·cases h

theorem yJA (h:yVF P t x f=some v) (hx:VR V x x') :
  ∃ v',(∀ w,(Instr.field t x' f).run P w=.ok v' w)/\VR V v v':=by
 unfold yVF at h;split at h
 ·rename_i cs fs hf;have hd:=zMP hf;obtain ⟨c',rfl,hc⟩:=hx.agg_inv;split at h
  ·rename_i fd hfd;obtain ⟨v',h1,h2⟩:=zTY h hc;rw [wM] at h1;exact ⟨v',fun w=>by simp [Instr.field,run_underlying hd,hfd,asAgg,h1],h2⟩
  ·cases h
 ·cases h

theorem yIV (h:zDQ P t x ix=some v) (hx:VR V x x') (hi:VR V ix ix') :
  ∃ v',(∀ w,(Instr.index t x' ix').run P w=.ok v' w)/\VR V v v':=by
 unfold zDQ at h;split at h
 ·rename_i i cs len elem hd;have:=hi.int_inv;subst this;obtain ⟨c',rfl,hc⟩:=hx.agg_inv;cases hs:yU P elem with
  | none=>simp [hs] at h
  | some n =>
   simp only [hs] at h;cases hb:leI 0 i && ltI i (.ofNat len) with
   | false=>rw [hb,cond_false] at h;cases h
   | true =>
    rw [hb,cond_true] at h;simp only [Bool.and_eq_true,vG,zIF] at hb;obtain ⟨v',h1,h2⟩:=zTY h hc;rw [wM] at h1;have hb2:i<(len:Int):=hb.2;exact ⟨v',fun w=>by simp [Instr.index,asIntOf,run_underlying hd,hb.1,hb2,yW hs,h1],h2⟩
 ·rename_i i s hd;have:=hi.int_inv;subst this;have:=hx.string_inv;subst this;by_cases h0:0<=i
  ·rw [if_pos h0] at h;cases hb:s[i.toNat]? with
   | none=>simp [hb] at h
   | some b =>
    simp [hb] at h;subst h;exact ⟨_,fun w=>by simp [Instr.index,asIntOf,run_underlying hd,h0,hb],.int _ _⟩
  ·rw [if_neg h0] at h;cases h
 ·cases h

theorem yPS {o o':Option Value} {d top n:Nat} (h:wG o d top=some n) (hr:∀ x,o=some x->∃ x',o'=some x'/\VR V x x') (hn:o=none->o'=none) :
  (o=none/\o'=none/\n=d)\/(∃ k i,o=some (.int k i)/\o'=some (.int k i)/\0<=i/\i<=top/\n=i.toNat):=by
 unfold wG at h;split at h
 ·simp at h;exact .inl ⟨rfl,hn rfl,h.symm⟩
 ·rename_i k i;obtain ⟨x',h1,h2⟩:=hr _ rfl;have:=h2.int_inv;subst this;cases hb:leI 0 i && leI i (.ofNat top) with
  | false=>rw [hb,cond_false] at h;cases h
  | true =>
   rw [hb,cond_true] at h;simp only [Bool.and_eq_true,vG] at hb;simp at h;exact .inr ⟨k,i,rfl,h1,hb.1,hb.2,h.symm⟩
 ·cases h
theorem zCY {ev ev':Operand->Value}:∀ (l:List Operand),(∀ x∈l,VR V (ev x) (ev' x))->VRs V (l.map ev) (l.map ev')
 | [],_=>.nil
 | x::l,h=>.cons (h x (by simp)) (zCY l fun y hy=>h y (by simp [hy]))

theorem zWO {l l':List Value} (h:VRs V l l') (hr:l.all (zQ RD)=true):l=l':=by
 induction h with
 | nil=>rfl
 | cons h _ ih =>
  simp only [List.all_cons,Bool.and_eq_true] at hr;rw [h.rigid _ hr.1,ih hr.2]

def vR (P:Program):Prop:=∀ t z,uQ P t=some z->zQ RD z=true

theorem zTQ {o:Oper} {ev ev':Operand->Value} (hz:vR P) (h:xY P ev o.op=some v) (hev:∀ x∈o.op.operands,VR V (ev x) (ev' x)) :
  ∃ v',(∀ w,(execOp ev' o).run P w=.ok (.value v') w)/\VR V v v':=by
 unfold xY at h;split at h
 ·rename_i x ho;simp at h;subst h;exact ⟨ev' x,fun w=>by simp [execOp,ho],hev x (by simp [ho,Op.operands])⟩
 ·rename_i x ho;simp at h;subst h;exact ⟨ev' x,fun w=>by simp [execOp,ho],hev x (by simp [ho,Op.operands])⟩
 ·rename_i c a b ho;have hc:=hev c (by simp [ho,Op.operands]);split at h
  ·rename_i t ht;rw [ht] at hc;have e:=hc.bool_inv;simp at h;subst h;cases t
   ·exact ⟨ev' b,fun w=>by simp [execOp,ho,e,asBool],hev b (by simp [ho,Op.operands])⟩
   ·exact ⟨ev' a,fun w=>by simp [execOp,ho,e,asBool],hev a (by simp [ho,Op.operands])⟩
  ·cases h
 ·rename_i x ho;have hx:=hev x (by simp [ho,Op.operands]);split at h
  ·rename_i a ha;rw [ha] at hx;obtain ⟨L,hl,hlo,e⟩:=hx.ptr_inv;simp at h;subst h;exact ⟨_,fun w=>by simp [execOp,ho,e],.ptr hl hlo⟩
  ·cases h
 ·rename_i op t x y yt ho;obtain ⟨v',h1,h2⟩:=yVZ h (hev x (by simp [ho,Op.operands])) (hev y (by simp [ho,Op.operands]));refine ⟨v',fun w=>?_,h2⟩
  have:=h1 w;simp only [Sem.run_bind] at this;simp [execOp,ho];generalize (eqGuard op t x y (ev' x) (ev' y)).run P w=r at this ⊢;cases r with
  | ok a w1=>simp at this ⊢;rw [this];rfl
  | halt a w1=>simp at this
 ·rename_i op t x ho;have hx:=hev x (by simp [ho,Op.operands]);split at h
  ·rename_i b hb;rw [hb] at hx;have e:=hx.bool_inv;simp at h;subst h;exact ⟨_,fun w=>by simp [execOp,ho,e,Op.unary],.bool _⟩
  ·rename_i k n hn;rw [hn] at hx;have e:=hx.int_inv;simp at h;subst h;exact ⟨_,fun w=>by simp [execOp,ho,e,Op.unary,Op.intArith,zEK];exact congrArg _ (Int.zero_sub n).symm,.int _ _⟩
  ·cases hr:zQ RD (ev x) with
   | false=>rw [hr,cond_false] at h;cases h
   | true =>
    rw [hr,cond_true] at h;obtain ⟨h1,h2⟩:=filter_some h;have e:=hx.rigid _ hr;exact ⟨v,fun w=>by rw [e] at h1;simp [execOp,ho,vL _ h1],.refl_rigid _ h2⟩
 ·rename_i s d x ho;have hx:=hev x (by simp [ho,Op.operands]);split at h
  ·rename_i sd k k' n hs hd hn;rw [hn] at hx;have e:=hx.int_inv;simp at h;subst h;exact ⟨_,fun w=>by simp [execOp,ho,e,convert,run_underlying hs,run_underlying hd,Conv.intToInt,zEK],.int _ _⟩
  ·cases hr:zQ RD (ev x) with
   | false=>rw [hr,cond_false] at h;cases h
   | true =>
    rw [hr,cond_true] at h;obtain ⟨h1,h2⟩:=filter_some h;have e:=hx.rigid _ hr;exact ⟨v,fun w=>by rw [e] at h1;simp [execOp,ho,vL _ h1],.refl_rigid _ h2⟩
 ·rename_i x xt a ok ho;have hx:=hev x (by simp [ho,Op.operands]);cases hr:zQ RD (ev x) with
  | false=>rw [hr,cond_false] at h;cases h
  | true =>
   rw [hr,cond_true] at h;obtain ⟨h1,h2⟩:=filter_some h;have e:=hx.rigid _ hr;exact ⟨v,fun w=>by rw [e] at h1;simp [execOp,ho,vL _ h1],.refl_rigid _ h2⟩
 ·rename_i t ps ho;obtain ⟨v',h1,h2⟩:=yJI (parts':=ps.toList.map fun p=>(p.1,ev' p.2)) h (by simp [List.map_map,Function.comp_def])
   (by
    have:=zCY (ps.toList.map (·.2)) (ev:=ev) (ev':=ev') (fun x hx=>hev x (by simp [ho,Op.operands] at hx ⊢;exact hx));simpa [List.map_map,Function.comp_def] using this)
   (fun z hz'=>.refl_rigid _ (hz t z hz'))
  refine ⟨v',fun w=>?_,h2⟩
  have e:ps.map (fun (i,x)=>(i,ev' x))=(⟨ps.toList.map fun p=>(p.1,ev' p.2)⟩:Array (Nat × Value)):=by
   apply Array.ext';simp
  simp only [execOp,ho,e];simp [h1 w]
 ·rename_i t x ho;split at h
  ·cases h
  ·rename_i d hni hd;simp at h;subst h;refine ⟨.iface t (ev' x),fun w=>?_,.iface (hev x (by simp [ho,Op.operands]))⟩
   simp [execOp,ho,Instr.makeInterface,run_underlying hd]
  ·cases h
 ·rename_i fn first cap ho
  split at h
  ·rename_i g;simp at h;subst h;have k1:=zCY first.toList (ev:=ev) (ev':=ev') (fun x hx=>hev x (by simp [ho,Op.operands] at hx ⊢;exact .inl hx))
   have k2:=zCY cap.toList (ev:=ev) (ev':=ev') (fun x hx=>hev x (by simp [ho,Op.operands] at hx ⊢;exact .inr hx));refine ⟨.func (.func g) (first.map ev') (cap.map ev'),fun w=>by simp [execOp,ho,Instr.makeFunc], ?_⟩
   refine .func (.func g) (by simp) (fun i v v' h1 h2=>?_) (by simp) (fun i v v' h1 h2=>?_)
   ·exact k1.get i v v' (by simpa using h1) (by simpa using h2)
   ·exact k2.get i v v' (by simpa using h1) (by simpa using h2)
  ·cases h
 ·rename_i s x f ho;obtain ⟨v',h1,h2⟩:=zTB h (hev x (by simp [ho,Op.operands]));exact ⟨v',fun w=>by simp [execOp,ho,h1 w],h2⟩
 ·rename_i t x f ho;obtain ⟨v',h1,h2⟩:=yJA h (hev x (by simp [ho,Op.operands]));exact ⟨v',fun w=>by simp [execOp,ho,h1 w],h2⟩
 ·rename_i t x i ho;obtain ⟨v',h1,h2⟩:=zSQ h (hev x (by simp [ho,Op.operands])) (hev i (by simp [ho,Op.operands]));exact ⟨v',fun w=>by simp [execOp,ho,h1 w],h2⟩
 ·rename_i t x i ho;obtain ⟨v',h1,h2⟩:=yIV h (hev x (by simp [ho,Op.operands])) (hev i (by simp [ho,Op.operands]));exact ⟨v',fun w=>by simp [execOp,ho,h1 w],h2⟩
 ·rename_i t i ho;have ht:=hev t (by simp [ho,Op.operands]);split at h
  ·rename_i vs hvs;rw [hvs] at ht;obtain ⟨c',e,hc⟩:=ht.tuple_inv;obtain ⟨v',h1,h2⟩:=hc.get_some h;exact ⟨v',fun w=>by simp [execOp,ho,e,Instr.extract,show c'[i]?=some v' by simpa using h1],h2⟩
  ·cases h
 ·rename_i c ho;have hargs:=zCY c.args.toList (ev:=ev) (ev':=ev') (fun x hx=>hev x (by simp [ho,Op.operands,Call.operands] at hx ⊢;exact .inr hx));have eargs:c.args.map ev'=(⟨c.args.toList.map ev'⟩:Array Value):=by apply Array.ext';simp
  have run:∀ {b:Builtin} {v':Value} (w:World),c.callee=.builtin b->(∀ consts,(builtin b c.argTypes o.type consts ⟨c.args.toList.map ev'⟩).run P w=.ok (.value v') w) ->
    (execOp ev' o).run P w=.ok (.value v') w:=by
   intro b v' w hb hr
   simp only [execOp,ho,resolve,hb,eargs]
   simp [invoke,hr]
  split at h
  ·rename_i hcal;split at h
   ·rename_i t x l ht hl;rw [hl] at hargs;have ht0:c.argTypes[0]?=some t:=by simpa using ht
    generalize hl':c.args.toList.map ev'=l' at hargs run;cases hargs with
    | cons hx hrest =>
     rename_i x' rest';split at h
     ·rename_i e a n cp hd;simp at h;subst h;refine ⟨goInt n,fun w=>run w hcal fun _=>?_,.int _ _⟩
      cases a with
      | none=>have:=hx.slice_none;subst this;simp [builtin,Builtin.len_,ht0,run_underlying hd]
      | some a=>obtain ⟨L,c',A,_,_,_,_,_,rfl⟩:=hx.slice_inv;simp [builtin,Builtin.len_,ht0,run_underlying hd]
     ·rename_i s hd;simp at h;subst h;have:=hx.string_inv;subst this;exact ⟨goInt _,fun w=>run w hcal (fun _=>by simp [builtin,Builtin.len_,ht0,run_underlying hd]),.int _ _⟩
     ·rename_i n e hd;simp at h;subst h;exact ⟨goInt _,fun w=>run w hcal (fun _=>by simp [builtin,Builtin.len_,ht0,run_underlying hd]),.int _ _⟩
     ·rename_i k e hd;simp at h;subst h;have:=hx.map_none;subst this;exact ⟨goInt _,fun w=>run w hcal (fun _=>by simp [builtin,Builtin.len_,ht0,run_underlying hd]),.int _ _⟩
     ·cases h
   ·cases h
  ·rename_i hcal;split at h
   ·rename_i t x l ht hl;rw [hl] at hargs;have ht0:c.argTypes[0]?=some t:=by simpa using ht
    generalize hl':c.args.toList.map ev'=l' at hargs run;cases hargs with
    | cons hx hrest =>
     rename_i x' rest';split at h
     ·rename_i e a n cp hd;cases hex:yY cp with
      | false=>rw [hex,cond_false] at h;cases h
      | true =>
       rw [hex,cond_true] at h;simp at h;subst h;refine ⟨goInt cp,fun w=>run w hcal fun _=>?_,.int _ _⟩
       cases a with
       | none=>have:=hx.slice_none;subst this;simp [builtin,Builtin.cap_,ht0,run_underlying hd]
       | some a =>
        obtain ⟨L,c',A,_,_,_,hc,_,rfl⟩:=hx.slice_inv;unfold zKQ at hc;rw [if_pos hex] at hc;subst hc;simp [builtin,Builtin.cap_,ht0,run_underlying hd]
     ·cases h
   ·cases h
  ·rename_i hcal;cases hr:(c.args.toList.map ev).all (zQ RD) with
   | false=>rw [hr,cond_false] at h;cases h
   | true =>
    rw [hr,cond_true] at h;obtain ⟨h1,h2⟩:=filter_some h;have e:=zWO hargs hr;rw [e] at h1;refine ⟨v,fun w=>run w hcal fun _=>?_,.refl_rigid _ h2⟩
    have h3:=vL _ h1 w;simp only [builtin];have h4:∀ ty,Builtin.min_ c.argTypes ty ⟨c.args.toList.map ev'⟩=Builtin.min_ c.argTypes 0 ⟨c.args.toList.map ev'⟩:=fun _=>rfl
    simp [h4,h3]
  ·rename_i hcal;cases hr:(c.args.toList.map ev).all (zQ RD) with
   | false=>rw [hr,cond_false] at h;cases h
   | true =>
    rw [hr,cond_true] at h;obtain ⟨h1,h2⟩:=filter_some h;have e:=zWO hargs hr;rw [e] at h1;refine ⟨v,fun w=>run w hcal fun _=>?_,.refl_rigid _ h2⟩
    have h3:=vL _ h1 w;simp only [builtin];have h4:∀ ty,Builtin.max_ c.argTypes ty ⟨c.args.toList.map ev'⟩=Builtin.max_ c.argTypes 0 ⟨c.args.toList.map ev'⟩:=fun _=>rfl
    simp [h4,h3]
  ·cases h
 ·cases h
end
end Go.Lay

namespace Go.Lay
open Go
variable {y:Blk} {n:Nat} {L:Loc} {a:Addr}
section
variable {P:Program} {V:Inj} {Z:St} {w:World}

def Inj.add (V:Inj) (b c n z:Nat):Inj :=
 {loc:=fun b' s=>if b'=b/\s=0 then some ⟨c,0,0,z⟩ else V.loc b' s
  own:=fun c'=>if c'=c then some b else V.own c'
  csz:=fun c'=>if c'=c then n else V.csz c' }

def World.push (w:World) (o:Obj):World:={ w with heap:=w.heap.push o }
@[simp] theorem World.push_size (w:World) (o:Obj):(World.push w o).heap.size=w.heap.size+1:=by simp [World.push]
theorem World.push_old (w:World) (o:Obj) {c:Nat} (h:c<w.heap.size):(World.push w o).heap[c]?=w.heap[c]?:=by
 show (w.heap.push o)[c]?=_;rw [Array.getElem?_push,if_neg (Nat.ne_of_lt h)]
theorem World.push_new (w:World) (o:Obj):(World.push w o).heap[w.heap.size]?=some o:=by
 show (w.heap.push o)[w.heap.size]?=_;rw [Array.getElem?_push,if_pos rfl]

theorem Inj.add_ext (hr:Rep V Z w) (hf:zUU V Z.y (Z.y+1)) (n z:Nat):Ext V (V.add Z.y w.heap.size n z) w.heap.size (Z.y+1):=by
 refine ⟨fun b s L h=>?_,fun b s L h=>?_,fun b s h hb=>?_,fun c hc=>?_,fun c hc=>?_,fun b s L h hc=>?_⟩
 ·simp only [Inj.add];rw [if_neg];exact h;rintro ⟨rfl,rfl⟩;rw [hf Z.y 0 (Nat.le_refl _) (by omega)] at h;cases h
 ·have:=hr.lt b s L h;have hne:L.c≠w.heap.size:=by omega
  simp [Inj.add,hne]
 ·simp only [Inj.add];rw [if_neg (by omega)];exact h
 ·have hne:c≠w.heap.size:=by omega
  simp [Inj.add,hne]
 ·have hne:c≠w.heap.size:=by omega
  simp [Inj.add,hne]
 ·simp only [Inj.add] at h;split at h
  ·cases h;simp at hc
  ·exact ⟨b,s,L,h,rfl⟩
theorem Inj.add_loc (b c n z:Nat):(V.add b c n z).loc b 0=some ⟨c,0,0,z⟩:=by simp [Inj.add]

theorem zCU.push (w:World) {o:Obj} (ho:∀ arr elem f,o=.cells arr elem f->f=(0,0)):zCU w (World.push w o) :=
 .one w.heap.size (fun c hc=>by
  show (w.heap.push o)[c]?=_;rw [Array.getElem?_push,if_neg hc]) (fun arr elem f h=>by rw [World.push_new] at h;cases h;exact ho _ _ _ rfl)

theorem Good.addBlk {o:Obj} {z:Nat} (hr:Rep V Z w) (hf:zUU V Z.y (Z.y+1)) (ho:∀ arr elem f,o=.cells arr elem f->f=(0,0))
  (hy:BlkR (V.add Z.y w.heap.size n z) (World.push w o) Z.y y):Good V Z w (V.add Z.y w.heap.size n z) (Z.add y) (World.push w o):=by
 have e:=Inj.add_ext hr hf n z;refine ⟨e,⟨fun b y' hb=>?_,fun b s L h=>?_,fun c b h=>?_,fun b s h=>?_⟩,⟨by simp,fun c hc _=>World.push_old w o hc,rfl,rfl,rfl,.push w ho,Nat.le_refl _⟩,by simp,by simp⟩
 ·rw [St.add_get] at hb;by_cases hbn:b=Z.y
  ·rw [if_pos hbn] at hb;cases hb;subst hbn;exact ⟨by simp,hy⟩
  ·rw [if_neg hbn] at hb;have h:=hr.blk b y' hb;refine ⟨by simp;omega,h.2.keep e hr.lt (fun c hc _=>World.push_old w o hc) (fun cs esz log next ro hyy s hs=>?_)⟩
   subst hyy;simp only [Inj.add];rw [if_neg (fun x=>hbn x.1)];cases h.2 with | cells _ _ _ fresh=>exact fresh s hs
 ·simp only [Inj.add] at h;split at h
  ·cases h;simp
  ·have:=hr.lt b s L h;simp;omega
 ·simp only [Inj.add] at h;split at h
  ·cases h;simp;omega
  ·have:=hr.ownlt c b h;simp;omega
 ·simp at h;simp only [Inj.add];rw [if_neg (by omega)];exact hr.fresh b s (by omega)

theorem Good.putBlk {V':Inj} {b:Nat} {y0:Blk} {w':World} (hr:Rep V Z w) (hb:yD Z.heap b=some y0) (e:Ext V V' w.heap.size Z.y)
  (hloc:∀ b' s,b'≠b->V'.loc b' s=V.loc b' s) (hlt:∀ b s L,V'.loc b s=some L->L.c<w'.heap.size) (hown:∀ c b',V'.own c=some b'->c<w'.heap.size/\b' < Z.y)
  (hs:w.heap.size<=w'.heap.size) (hk:∀ c,c<w.heap.size->V.own c≠some b->w'.heap[c]?=w.heap[c]?) (ht:w'.tape=w.tape/\w'.os=w.os/\w'.output=w.output/\w.drawn<=w'.drawn) (hfr:zCU w w')
  (hy:BlkR V' w' b y):Good V Z w V' (Z.put b y) w':=by
 refine ⟨e,⟨fun b' y' hb'=>?_,hlt,hown,fun b' s h=>by have:=(hr.blk b y0 hb).1;simp at h;rw [hloc b' s (by omega)];exact hr.fresh b' s h⟩,⟨hs,fun c hc ho=>hk c hc (fun h=>?_),ht.1,ht.2.1,ht.2.2.1,hfr,ht.2.2.2⟩,by simp;omega,by simp⟩
 ·rw [St.put_get] at hb';by_cases hbn:b'=b
  ·rw [if_pos hbn] at hb';cases hb';subst hbn;exact ⟨(hr.blk _ _ hb).1,hy⟩
  ·rw [if_neg hbn] at hb';have h:=hr.blk b' y' hb';refine ⟨h.1,h.2.keep e hr.lt (fun c hc ho=>hk c hc (fun hcb=>?_)) (fun cs esz log next ro hyy s hs'=>?_)⟩
   ·rcases ho with ho | ho
    ·rw [hcb] at ho;cases ho;exact hbn rfl
    ·rw [hcb] at ho;cases ho
   ·subst hyy;rw [hloc b' s hbn];cases h.2 with | cells _ _ _ fresh=>exact fresh s hs'
 ·have:=ho b h;simp at this;omega

theorem zCO:∀ {log:List (Nat × Nat)} {s e:Nat},wR log s=some e->(s,e)∈log
 | [],_,_,h=>by simp [wR] at h
 | (k,x)::r,s,e,h=>by
  simp only [wR] at h;cases hk:Nat.beq k s with
  | true=>rw [hk,cond_true] at h;cases h;have:=Nat.eq_of_beq_eq_true hk;subst this;simp
  | false=>rw [hk,cond_false] at h;exact List.mem_cons_of_mem _ (zCO h)

theorem yZV (L:Loc) (off j:Nat):(L.at off).add j=⟨L.c,L.base+(off-L.lo)+j,none⟩:=by
 unfold Loc.at Addr.add;split
 ·subst_vars;rfl
 ·rfl

theorem xRS {off j:Nat} {arr:Array Value} {elem:TypeId} {fr:Nat × Nat} (h:w.heap[L.c]?=some (.cells arr elem fr)) :
  w.cell? ((L.at off).add j)=arr[L.base+(off-L.lo)+j]?:=by
 rw [yZV];simp [World.cell?,h]

theorem uN {cs:List Value} (h:yR Z a n=some cs) (hr:Rep V Z w) (hl:V.loc a.block (zZ a)=some L) (hlo:L.lo<=a.off) :
  ∃ cs',cs.length=n/\VRs V cs cs'/\∀ j v,cs'[j]?=some v->w.cell? ((L.at a.off).add j)=some v:=by
 unfold yR at h;split at h
 ·rename_i bc esz log nx ro hb;split at h
  ·rename_i e he;cases hle:Nat.ble (a.off+n) e with
   | false=>rw [hle,cond_false] at h;cases h
   | true =>
    rw [hle,cond_true] at h;have hle:=(zP _ _).1 hle;simp at h;subst h;cases (hr.blk _ _ hb).2 with
    | cells rows sorted same fresh =>
     obtain ⟨_,hel,M,hM⟩:=rows _ _ (zCO he);have hML:M=L:=by have:=hM.loc;rw [hl] at this;cases this;rfl
     subst hML;obtain ⟨arr,elem,fr,h1,h2,_,h3,h4⟩:=hM.row;have hlen:((bc.drop a.off).take n).length=n:=by simp;omega
     refine ⟨(arr.toList.drop (M.base+(a.off-M.lo))).take n,hlen,VRs.of_get ?_ ?_, ?_⟩
     ·rw [hlen];simp;omega
     ·intro i v v' hv hv';have hi:i<n:=by rw [<- hlen];exact (List.getElem?_eq_some_iff.1 hv).1
      rw [List.getElem?_take_of_lt hi,List.getElem?_drop] at hv hv';obtain ⟨x,x',e1,e2,e3⟩:=h4 (a.off+i) (by omega) (by omega);rw [e1] at hv;cases hv;rw [show M.base+(a.off+i-M.lo)=M.base+(a.off-M.lo)+i by omega] at e2;simp at hv';rw [e2] at hv';cases hv';exact e3
     ·intro j v hv;have hj:j<n:=by
       have:=(List.getElem?_eq_some_iff.1 hv).1;simp at this;omega
      rw [xRS h1];rw [List.getElem?_take_of_lt hj,List.getElem?_drop] at hv;simpa using hv
  ·cases h
 ·cases h

theorem zUJ {t:TypeId} {v:Value} (h:zH P Z t a=some v) (hr:Rep V Z w) (hl:V.loc a.block (zZ a)=some L) (hlo:L.lo<=a.off) :
  ∃ v',(loadVar t (L.at a.off)).run P w=.ok v' w/\VR V v v':=by
 unfold zH at h;split at h
 ·rename_i ha;split at h
  ·rename_i n hs;cases hrr:yR Z a n with
   | none=>simp [hrr] at h
   | some cs =>
    simp [hrr] at h;subst h;obtain ⟨cs',h1,h2,h3⟩:=uN hrr hr hl hlo;have:=run_loadCells_list (P:=P) (w:=w) (L.at a.off) cs' h3;rw [<- h2.length,h1] at this;exact ⟨.agg ⟨cs'⟩,by simp [loadVar,zPD ha,yW hs,this],.agg' h2⟩
  ·cases h
 ·rename_i ha;split at h
  ·rename_i v0 hrr;simp at h;subst h;obtain ⟨cs',h1,h2,h3⟩:=uN hrr hr hl hlo;cases h2 with
   | cons hv ht =>
    cases ht
    rename_i v';have:=h3 0 v' (by simp);rw [show (L.at a.off).add 0=L.at a.off from by simp [Addr.add]] at this;exact ⟨v',by simp [loadVar,zPD ha,this],hv⟩
  ·cases h
 ·cases h
end
end Go.Lay

namespace Go.Lay
open Go
variable {o lo hi mx lo' hi' mx':Option Value} {d top n len known l h m:Nat} {a:Addr} {L:Loc}
section
variable {P:Program} {V:Inj} {Z:St} {w:World}

structure OptR (V:Inj) (o o':Option Value):Prop where
 some:∀ x,o=.some x->∃ x',o'=.some x'/\VR V x x'
 none:o=.none->o'=.none

theorem vO {o':Option Value} (h:wG o d top=some n) (hr:OptR V o o') :
  (o=none/\o'=none/\n=d)\/(∃ k i,o=some (.int k i)/\o'=some (.int k i)/\0<=i/\i<=top/\n=i.toNat):=yPS h hr.some hr.none

theorem zGA {cap':Nat} (hn:wJ lo hi mx len known=some (l,h,m))
  (h1:OptR V lo lo') (h2:OptR V hi hi') (h3:OptR V mx mx') (hk:known<=cap') (b:Bool) (w:World) :
  (Instr.sliceBounds b len cap' lo' hi' mx').run P w=.ok (l,h,if mx.isSome then m else cap') w/\l<=h/\(mx=none->m=known)/\m<=known:=by
 unfold wJ at hn;cases mx with
 | none =>
  have e:=h3.none rfl;subst e;simp only at hn;cases hb:wG hi len known with
  | none=>simp [hb] at hn
  | some h0 =>
   simp only [hb] at hn;cases hl:wG lo 0 h0 with
   | none=>simp [hl] at hn
   | some l0 =>
    simp [hl] at hn;obtain ⟨rfl,rfl,rfl⟩:=hn;rcases vO hb h2 with ⟨rfl,rfl,rfl⟩ | ⟨k,i,rfl,rfl,a1,a2,rfl⟩
    ·rcases vO hl h1 with ⟨rfl,rfl,rfl⟩ | ⟨k',i',rfl,rfl,b1,b2,rfl⟩
     ·exact ⟨by simp [Instr.sliceBounds],by omega,fun _=>rfl,Nat.le_refl _⟩
     ·exact ⟨by simp [Instr.sliceBounds,Instr.sliceBound,asIntOf,b1,b2],by omega,fun _=>rfl,Nat.le_refl _⟩
    ·have a3:i<=(cap':Int):=by omega
     rcases vO hl h1 with ⟨rfl,rfl,rfl⟩ | ⟨k',i',rfl,rfl,b1,b2,rfl⟩
     ·exact ⟨by simp [Instr.sliceBounds,Instr.sliceBound,asIntOf,a1,a3],by omega,fun _=>rfl,Nat.le_refl _⟩
     ·have b3:i'<=i:=by omega
      exact ⟨by simp [Instr.sliceBounds,Instr.sliceBound,asIntOf,a1,a3,b1,Int.toNat_of_nonneg a1,b3],by omega,fun _=>rfl,Nat.le_refl _⟩
 | some m0 =>
  simp only at hn;cases hm:wG (some m0) 0 known with
  | none=>simp [hm] at hn
  | some m1 =>
   simp only [hm] at hn;cases hi with
   | none=>simp at hn
   | some hi0 =>
    simp only at hn;cases hb:wG (some hi0) 0 m1 with
    | none=>simp [hb] at hn
    | some h0 =>
     simp only [hb] at hn;cases hl:wG lo 0 h0 with
     | none=>simp [hl] at hn
     | some l0 =>
      simp [hl] at hn;obtain ⟨rfl,rfl,rfl⟩:=hn;rcases vO hm h3 with ⟨e,_⟩ | ⟨km,im,e,rfl,c1,c2,rfl⟩
      ·cases e
      have c3:im<=(cap':Int):=by omega
      rcases vO hb h2 with ⟨e,_⟩ | ⟨k,i,e,rfl,a1,a2,rfl⟩
      ·cases e
      have a3:i<=im:=by omega
      rcases vO hl h1 with ⟨rfl,rfl,rfl⟩ | ⟨k',i',rfl,rfl,b1,b2,rfl⟩
      ·exact ⟨by simp [Instr.sliceBounds,Instr.sliceBound,asIntOf,a1,c1,c3,Int.toNat_of_nonneg c1,a3],by omega,(by simp),by omega⟩
      ·have b3:i'<=i:=by omega
       exact ⟨by simp [Instr.sliceBounds,Instr.sliceBound,asIntOf,a1,c1,c3,Int.toNat_of_nonneg c1,a3,b1,Int.toNat_of_nonneg a1,b3],by omega,(by simp),by omega⟩

theorem zEF (c:Nat):zKQ c c:=by unfold zKQ yE;split;rfl;split <;> omega
theorem xI (c:Nat):yY c=true↔c<vU:=by
 unfold yY;cases h:Nat.ble vU c with
 | true=>have:=(zP _ _).1 h;simp;omega
 | false=>simp;exact Nat.lt_of_not_le fun e=>by rw [(zP _ _).2 e] at h;cases h
theorem zEG {c c':Nat} (h:zKQ c c'):yE c<=c':=by
 unfold zKQ at h;split at h
 ·rename_i he;have:=(xI c).1 he;subst h;unfold yE;rw [if_neg (by omega)];exact Nat.le_refl _
 ·exact h

theorem zTG (hb:wG o d top=some h):h<=max d top:=by
 unfold wG at hb;split at hb
 ·simp at hb;omega
 ·rename_i i;cases hc:leI 0 i && leI i (.ofNat top) with
  | false=>rw [hc] at hb;cases hb
  | true =>
   rw [hc] at hb;simp only [Bool.and_eq_true,vG] at hc;have h2:i<=(top:Int):=hc.2;simp at hb;omega
 ·cases hb
theorem yHL (hn:wJ lo hi mx len known=some (l,h,m)):h<=max len known:=by
 unfold wJ at hn;split at hn
 ·split at hn
  ·rename_i h0 hb;split at hn
   ·simp at hn;have:=zTG hb;omega
   ·cases hn
  ·cases hn
 ·split at hn
  ·rename_i m0 hm;split at hn
   ·split at hn
    ·rename_i h0 hb;split at hn
     ·simp at hn;have h1:=zTG hb;have h2:=zTG hm;omega
     ·cases hn
    ·cases hn
   ·cases hn
  ·cases hn

theorem yNN (h:zDG Z a n=true) (hr:Rep V Z w) (hl:V.loc a.block (zZ a)=some L):L.z=n:=by
 unfold zDG at h;split at h
 ·rename_i cs esz log nx ro hb;simp only [Bool.and_eq_true] at h;cases he:wR log (zZ a) with
  | none=>simp [he] at h
  | some e =>
   cases (hr.blk _ _ hb).2 with
   | cells rows _ _ _ =>
    obtain ⟨_,_,M,hM⟩:=rows _ _ (zCO he);have hML:M=L:=by have:=hM.loc;rw [hl] at this;cases this;rfl
    subst hML;rw [hM.cz];exact Nat.eq_of_beq_eq_true h.2
 ·cases h

theorem yPX {k:Nat} (h:yZW Z a k n=true) (hr:Rep V Z w) (hl:V.loc a.block (zZ a)=some L) (hlo:L.lo<=a.off):L.z=n/\L.base+(a.off-L.lo)+k<=V.csz L.c:=by
 unfold yZW at h;split at h
 ·rename_i cs esz log nx ro hb;simp only [Bool.and_eq_true] at h;cases he:wR log (zZ a) with
  | none=>simp [he] at h
  | some e =>
   simp only [he,zP] at h;cases (hr.blk _ _ hb).2 with
   | cells rows _ _ _ =>
    obtain ⟨_,_,M,hM⟩:=rows _ _ (zCO he);have hML:M=L:=by have:=hM.loc;rw [hl] at this;cases this;rfl
    subst hML;refine ⟨by rw [hM.cz];exact Nat.eq_of_beq_eq_true h.2, ?_⟩
    obtain ⟨arr,elem,fr,_,h2,_,h4,_⟩:=hM.row;have:=h.1;omega
 ·cases h

theorem yHM {t:TypeId} {x x' v:Value} (h:xZ P Z t x lo hi mx=some v) (hr:Rep V Z w) (hx:VR V x x')
  (h1:OptR V lo lo') (h2:OptR V hi hi') (h3:OptR V mx mx') :
  ∃ v',(Instr.sliceAt t x' lo' hi' mx').run P w=.ok v' w/\VR V v v':=by
 unfold xZ at h;split at h
 ·rename_i len cap elem hd;have:=hx.slice_none;subst this;split at h
  ·rename_i n hs;cases hex:yY cap with
   | false=>rw [hex,cond_false] at h;cases h
   | true =>
    rw [hex,cond_true] at h;split at h
    ·rename_i l hh m hn;simp at h;subst h;obtain ⟨e,_,hm,_⟩:=zGA (P:=P) hn h1 h2 h3 (Nat.le_refl cap) true w;refine ⟨.slice none (hh-l) (m-l), ?_,.atom rfl⟩
     have e2:(if mx.isSome then m else cap)=m:=by
      cases mx with
      | none=>rw [hm rfl];rfl
      | some _=>rfl
     rw [e2] at e;simp [Instr.sliceAt,run_underlying hd,Instr.slice,e,yW hs]
    ·cases h
  ·cases h
 ·rename_i a len cap elem hd;obtain ⟨L,cap',A,hl,hlo,hA,hc,hsz,rfl⟩:=hx.slice_inv;split at h
  ·rename_i n hs;cases hez:zDG Z a n with
   | false=>rw [hez,cond_false] at h;cases h
   | true =>
    rw [hez,cond_true] at h;have hcz:=yNN hez hr hl;rw [hcz] at hsz;split at h
    ·rename_i l hh m hn;obtain ⟨e,hlh,hm,hmk⟩:=zGA (P:=P) hn h1 h2 h3 (zEG hc) true w;have hmul:∀ m':Nat,l<=m'->m'<=cap'->(m' - l)*n+l*n<=cap'*n:=fun m' a1 a2=>by
      rw [<- Nat.add_mul,Nat.sub_add_cancel a1];exact Nat.mul_le_mul_right n a2
     cases hx2:mx.isSome || yY cap with
     | true =>
      rw [hx2,cond_true] at h;cases hble:Nat.ble l m with
      | false=>rw [hble,cond_false] at h;cases h
      | true =>
       rw [hble,cond_true] at h;have hlm:=(zP _ _).1 hble;simp at h;subst h;have e2:(if mx.isSome then m else cap')=m:=by
        cases mx with
        | none =>
         simp at hx2;have:cap'=cap:=by unfold zKQ at hc;rw [if_pos hx2] at hc;exact hc
         rw [hm rfl,this];have:=(xI cap).1 hx2;simp [yE];omega
        | some _=>rfl
       rw [e2] at e;have hmc:m<=cap':=Nat.le_trans hmk (zEG hc);have hm2:=hmul m hlm hmc;cases hml:Nat.beq m l with
       | true =>
        have:=Nat.eq_of_beq_eq_true hml;subst this;refine ⟨.slice (some A) (hh-m) (m-m), ?_, ?_⟩
        ·simp [Instr.sliceAt,run_underlying hd,Instr.slice,e,yW hs]
        ·rw [cond_true];exact .slice hl hlo (hA.imp id (fun x=>⟨by have h7:=yHL hn;rw [x.1,x.2.1] at h7;simp at h7;omega,by unfold yE;split <;> omega,by omega⟩)) (zEF _) (by rw [hcz];simp;omega)
       | false =>
        have hne:¬ m=l:=fun h=>by rw [h,Nat.beq_refl] at hml;cases hml
        have hA:A=L.at a.off:=hA.elim id (fun x=>by exfalso;have:=x.2.2;omega);subst hA;refine ⟨.slice (some (L.at (a.off+l*n))) (hh-l) (m-l), ?_, ?_⟩
        ·simp [Instr.sliceAt,run_underlying hd,Instr.slice,e,yW hs,hne,zIS _ _ _ hlo]
        ·rw [cond_false];exact .slice (a:=zS a (l*n)) hl (by simp [zS];omega) (.inl rfl) (zEF _) (by rw [hcz];simp [zS];omega)
     | false =>
      rw [hx2,cond_false] at h;simp at hx2;obtain ⟨hx3,hx4⟩:=hx2;subst hx3;have hmk2:=hm rfl;subst hmk2;cases hble:Nat.ble (yE cap) l with
      | true =>
       rw [hble,cond_true] at h;cases hbe:Nat.beq (yE cap) l && Nat.beq hh l with
       | false=>rw [hbe,cond_false] at h;cases h
       | true =>
        rw [hbe,cond_true] at h;simp only [Bool.and_eq_true] at hbe;have e1:=Nat.eq_of_beq_eq_true hbe.1;have e3:=Nat.eq_of_beq_eq_true hbe.2;simp at h;subst h;have hlc:=zEG hc;have hm2:=hmul cap' (by omega) (Nat.le_refl _);have hcI:yE vU=0:=by unfold yE;rw [if_pos (Nat.le_refl _)];omega
        have hni:yY vU=false:=by rw [Bool.eq_false_iff];intro e;have:=(xI _).1 e;omega
        have hcR:zKQ vU (cap' - l):=by unfold zKQ;rw [if_neg (by rw [hni];simp),hcI];omega
        have h0:hh-l=0:=by omega
        simp at e;by_cases hce:cap'=l
        ·refine ⟨.slice (some A) 0 (cap' - l), ?_, ?_⟩
         ·have e9:=e;rw [hce] at e9;simp [Instr.sliceAt,run_underlying hd,Instr.slice,e9,yW hs,hce,e3]
         ·exact .slice (a:=zS a (l*n)) hl (by simp [zS];omega) (.inr ⟨rfl,hcI,by omega⟩) hcR (by rw [hcz];simp [zS];omega)
        ·have hA:A=L.at a.off:=hA.elim id (fun x=>by exfalso;have:=x.2.2;omega);subst hA;refine ⟨.slice (some (L.at (a.off+l*n))) 0 (cap' - l), ?_, ?_⟩
         ·simp [Instr.sliceAt,run_underlying hd,Instr.slice,e,yW hs,hce,h0,zIS _ _ _ hlo]
         ·exact .slice (a:=zS a (l*n)) hl (by simp [zS];omega) (.inl rfl) hcR (by rw [hcz];simp [zS];omega)
      | false =>
       rw [hble,cond_false] at h;have hlt:l<yE cap:=Nat.lt_of_not_le fun e=>by rw [(zP _ _).2 e] at hble;cases hble
       simp at h;subst h;have hlc:=zEG hc;have hA:A=L.at a.off:=hA.elim id (fun x=>by exfalso;have:=x.2.2;omega);subst hA;have hm2:=hmul cap' (by omega) (Nat.le_refl _);refine ⟨.slice (some (L.at (a.off+l*n))) (hh-l) (cap' - l), ?_, ?_⟩
       ·have hne:¬ cap'=l:=by omega
        simp at e;simp [Instr.sliceAt,run_underlying hd,Instr.slice,e,yW hs,hne,zIS _ _ _ hlo]
       ·refine .slice (a:=zS a (l*n)) hl (by simp [zS];omega) (.inl rfl) ?_ (by rw [hcz];simp [zS];omega);have hni:yY (yE cap-l+vU)=false:=by rw [Bool.eq_false_iff];intro e;have:=(xI _).1 e;omega
        unfold zKQ;rw [if_neg (by rw [hni];simp)];unfold yE;unfold yE at hlc hlt;rw [if_pos (by omega)];omega
    ·cases h
  ·cases h
 ·rename_i a len elem hd;obtain ⟨L,hl,hlo,rfl⟩:=hx.ptr_inv;split at h
  ·rename_i n hs;cases hez:yZW Z a (len*n) n with
   | false=>rw [hez,cond_false] at h;cases h
   | true =>
    rw [hez,cond_true] at h;obtain ⟨hcz,hsz⟩:=yPX hez hr hl hlo;split at h
    ·rename_i l hh m hn;obtain ⟨e,hlh,hm,hmk⟩:=zGA (P:=P) hn h1 h2 h3 (Nat.le_refl len) false w;have e2:(if mx.isSome then m else len)=m:=by
      cases mx with
      | none=>rw [hm rfl];rfl
      | some _=>rfl
     rw [e2] at e;cases hble:Nat.ble l m with
     | false=>rw [hble,cond_false] at h;cases h
     | true =>
      rw [hble,cond_true] at h;have hlm:=(zP _ _).1 hble;simp at h;subst h;have hm2:(m-l)*n+l*n<=len*n:=by
       rw [<- Nat.add_mul,Nat.sub_add_cancel hlm];exact Nat.mul_le_mul_right n hmk
      cases hml:Nat.beq m l with
      | true =>
       have:=Nat.eq_of_beq_eq_true hml;subst this;refine ⟨.slice (some (L.at a.off)) (hh-m) (m-m), ?_, ?_⟩
       ·simp [Instr.sliceAt,run_underlying hd,Instr.sureAddr,e,yW hs]
       ·rw [cond_true];exact .slice hl hlo (.inl rfl) (zEF _) (by rw [hcz];simp;omega)
      | false =>
       have hne:¬ m=l:=fun h=>by rw [h,Nat.beq_refl] at hml;cases hml
       refine ⟨.slice (some (L.at (a.off+l*n))) (hh-l) (m-l), ?_, ?_⟩
       ·simp [Instr.sliceAt,run_underlying hd,Instr.sureAddr,e,yW hs,hne,zIS _ _ _ hlo]
       ·rw [cond_false];exact .slice (a:=zS a (l*n)) hl (by simp [zS];omega) (.inl rfl) (zEF _) (by rw [hcz];simp [zS];omega)
    ·cases h
  ·cases h
 ·rename_i s hd;have:=hx.string_inv;subst this;split at h
  ·have e3:=h3.none rfl;subst e3;split at h
   ·rename_i hh hb;split at h
    ·rename_i l hl;simp at h;subst h;refine ⟨.string (s.extract l hh), ?_,.atom rfl⟩
     rcases vO hb h2 with ⟨rfl,rfl,rfl⟩ | ⟨k,i,rfl,rfl,a1,a2,rfl⟩
     ·rcases vO hl h1 with ⟨rfl,rfl,rfl⟩ | ⟨k',i',rfl,rfl,b1,b2,rfl⟩
      ·simp [Instr.sliceAt,run_underlying hd,Instr.slice,Instr.sliceBounds]
      ·simp [Instr.sliceAt,run_underlying hd,Instr.slice,Instr.sliceBounds,Instr.sliceBound,asIntOf,b1,b2]
     ·rcases vO hl h1 with ⟨rfl,rfl,rfl⟩ | ⟨k',i',rfl,rfl,b1,b2,rfl⟩
      ·simp [Instr.sliceAt,run_underlying hd,Instr.slice,Instr.sliceBounds,Instr.sliceBound,asIntOf,a1,a2]
      ·have b3:i'<=i:=by omega
       simp [Instr.sliceAt,run_underlying hd,Instr.slice,Instr.sliceBounds,Instr.sliceBound,asIntOf,a1,a2,b1,Int.toNat_of_nonneg a1,b3]
    ·cases h
   ·cases h
  ·cases h
 ·cases h
end
end Go.Lay

namespace Go.Lay
open Go
variable {e:Value × Value} {es:List (Value × Value)} {e':MapEntry} {es':List MapEntry} {kt:TypeId} {d:TypeDesc} {k:Value} {L:Loc} {a:Addr} {n:Nat} {cs:List Value}
section
variable {P:Program} {V:Inj} {Z:St} {w:World}

structure EntR (V:Inj) (es:List (Value × Value)) (es':List MapEntry):Prop where
 size:es.length=es'.length
 ent:∀ (i:Nat) e,es[i]?=some e->∃ e',es'[i]?=some e'/\e'.key=e.1/\VR V e.2 e'.val

theorem EntR.tail (h:EntR V (e::es) (e'::es')):EntR V es es' :=
 ⟨by simpa using h.size,fun i x hx=>by simpa using h.ent (i+1) x (by simpa using hx)⟩
theorem EntR.head (h:EntR V (e::es) (e'::es')):e'.key=e.1/\VR V e.2 e'.val:=by
 obtain ⟨x,h1,h2⟩:=h.ent 0 e (by simp);simp at h1;subst h1;exact h2

theorem yNQ {q:IntKind} (hd:P.underlying kt=some (.int q)) (n:Nat) (k:IntKind) (a b:Int) (w:World):(Op.equalIn (n+1) kt (.int k a) (.int k b)).run P w=.ok (a == b) w:=by
 simp [Op.equalIn,run_underlying hd]
theorem zYZ (hd:P.underlying kt=some .string) (n:Nat) (a b:ByteArray) (w:World):(Op.equalIn (n+1) kt (.string a) (.string b)).run P w=.ok (a == b) w:=by
 simp [Op.equalIn,run_underlying hd]
theorem yJB (hd:P.underlying kt=some .bool) (n:Nat) (a b:Bool) (w:World):(Op.equalIn (n+1) kt (.bool a) (.bool b)).run P w=.ok (a == b) w:=by
 simp [Op.equalIn,run_underlying hd]
theorem yCU (hd : P.underlying kt = none) (n : Nat) (e : Bool) (k : Value) (w : World) : (Instr.checkKey e (n + 1) kt k).run P w = .halt (.stuck "no such type") w := by
 simp [Instr.checkKey,underlying,hd]

theorem yBZ {k':Value} {b b':Bool} (hd:P.underlying kt=some d) (h:Instr.sameNow d k k'=some b) (h':yJ P (Op.equal kt k k')=some b'):b=b':=by
 have hr:=vL _ h' default;unfold Instr.sameNow at h;split at h
 ·rename_i k1 ka a kb b1;split at h
  ·rename_i hk;subst hk;have h2:(Op.equal kt (.int ka a) (.int ka b1)).run P default=.ok (a == b1) default:=yNQ hd 9999 ka a b1 default;rw [h2] at hr;cases h;cases hr;rfl
  ·cases h
 ·rename_i s1 s2;have h2:(Op.equal kt (.string s1) (.string s2)).run P default=.ok (s1 == s2) default:=zYZ hd 9999 s1 s2 default;rw [h2] at hr;cases h;cases hr;rfl
 ·rename_i s1 s2;have h2:(Op.equal kt (.bool s1) (.bool s2)).run P default=.ok (s1 == s2) default:=yJB hd 9999 s1 s2 default;rw [h2] at hr;cases h;cases hr;rfl
 ·cases h

def xOD (es':List MapEntry) (i0:Nat):Option Nat->Option (Nat × Value)->Prop
 | none,r=>r=none
 | some j,r=>∃ e',es'[j-i0]?=some e'/\i0<=j/\r=some (j,e'.val)

theorem zKD {kt:TypeId} {k:Value}:∀ (es:List (Value × Value)) (es':List MapEntry) (i:Nat) (r:Option Nat),zBI P kt k es i=some r->EntR V es es' ->
  ∃ r',(∀ w,(Instr.findAsking kt k es' i).run P w=.ok r' w)/\xOD es' i r r'
 | [],[],i,r,h,_=>by simp [zBI] at h;subst h;exact ⟨none,fun w=>rfl,rfl⟩
 | [],_::_,_,_,_,h=>by have:=h.size;simp at this
 | _::_,[],_,_,_,h=>by have:=h.size;simp at this
 | (k0,v0)::es,e'::es',i,r,h,hE=>by
  obtain ⟨hk,hv⟩:=hE.head;simp only at hk;simp only [zBI] at h;cases hp:yJ P (Op.equal kt k k0) with
  | none=>simp [hp] at h
  | some b =>
   have hrun:=vL _ hp;rw [hp] at h;cases b with
   | true =>
    simp at h;subst h;exact ⟨some (i,e'.val),fun w=>by simp [Instr.findAsking,hk,hrun],⟨e',by simp,Nat.le_refl _,rfl⟩⟩
   | false =>
    simp only at h;obtain ⟨r',h1,h2⟩:=zKD es es' (i+1) r h hE.tail;refine ⟨r',fun w=>by simp [Instr.findAsking,hk,hrun,h1], ?_⟩
    cases r with
    | none=>exact h2
    | some j =>
     obtain ⟨x,a1,a2,a3⟩:=h2;exact ⟨x,by rw [show j-i=(j-(i+1))+1 by omega];simpa using a1,by omega,a3⟩

theorem zYU {kt:TypeId} {d:TypeDesc} {k:Value} (hd:P.underlying kt=some d):∀ (es:List (Value × Value)) (es':List MapEntry) (i:Nat) (r:Option Nat) (q:Option (Nat × Value)),
  zBI P kt k es i=some r->EntR V es es'->Instr.findNow d k es' i=some q->xOD es' i r q
 | [],[],i,r,q,h,_,hq=>by simp [zBI] at h;subst h;simp [Instr.findNow] at hq;exact hq.symm
 | [],_::_,_,_,_,_,h,_=>by have:=h.size;simp at this
 | _::_,[],_,_,_,_,h,_=>by have:=h.size;simp at this
 | (k0,v0)::es,e'::es',i,r,q,h,hE,hq=>by
  obtain ⟨hk,hv⟩:=hE.head;simp only at hk;simp only [zBI] at h;simp only [Instr.findNow,hk] at hq;cases hp:yJ P (Op.equal kt k k0) with
  | none=>simp [hp] at h
  | some b =>
   rw [hp] at h;cases hs:Instr.sameNow d k k0 with
   | none=>simp [hs] at hq
   | some b' =>
    have:=yBZ hd hs hp;subst this;rw [hs] at hq;cases b' with
    | true=>simp at h hq;subst h;subst hq;exact ⟨e',by simp,Nat.le_refl _,rfl⟩
    | false =>
     simp only at h hq;have h2:=zYU hd es es' (i+1) r q h hE.tail hq;cases r with
     | none=>exact h2
     | some j =>
      obtain ⟨x,a1,a2,a3⟩:=h2;exact ⟨x,by rw [show j-i=(j-(i+1))+1 by omega];simpa using a1,by omega,a3⟩

theorem zUM {r:Option Nat} (hd:P.underlying kt=some d) (h:zBI P kt k es 0=some r) (hE:EntR V es es') :
  ∃ r',(∀ w,(Instr.findKey kt k es').run P w=.ok r' w)/\xOD es' 0 r r':=by
 cases hq:Instr.findNow d k es' 0 with
 | some q=>exact ⟨q,fun w=>by simp [Instr.findKey,run_underlying hd,hq],zYU hd es es' 0 r q h hE hq⟩
 | none =>
  obtain ⟨r',h1,h2⟩:=zKD es es' 0 r h hE;exact ⟨r',fun w=>by simp [Instr.findKey,run_underlying hd,hq,h1],h2⟩

theorem zSO {empty:Bool} (h:zIX P empty kt k=true):zQ RD k=true/\(∀ w,(Instr.checkKey empty 10000 kt k).run P w=.ok () w)/\∃ d,P.underlying kt=some d:=by
 unfold zIX at h;simp only [Bool.and_eq_true] at h;obtain ⟨h1,h2⟩:=h;cases hp:yJ P (Instr.checkKey empty 10000 kt k) with
 | none=>simp [hp] at h2
 | some u =>
  have hr:=vL _ hp;refine ⟨h1,hr, ?_⟩
  cases hd:P.underlying kt with
  | some d=>exact ⟨d,rfl⟩
  | none =>
   have h3 : (Instr.checkKey empty 10000 kt k).run P default = .halt (.stuck "no such type") default := yCU hd 9999 empty k default
   rw [hr default] at h3;cases h3

theorem zIE {t:TypeId} {k e:TypeId} (h:zDR P t=some (k,e)):P.underlying t=some (.map k e):=by
 unfold zDR at h;split at h <;> simp_all

theorem yIO {b:Nat} (hr:Rep V Z w) (hb:yD Z.heap b=some (.map es)) (hl:V.loc b 0=some L) :
  ∃ arr clock,w.heap[L.c]?=some (.map arr clock)/\EntR V es arr.toList/\V.own L.c=some b:=by
 cases (hr.blk _ _ hb).2 with
 | map loc own row size ents =>
  rw [hl] at loc;cases loc;exact ⟨_,_,row,⟨by simp [size],fun i e he=>by obtain ⟨e',a1,a2,a3⟩:=ents i e he;exact ⟨e',by simpa using a1,a2,a3⟩⟩,own⟩

theorem uV {c:Nat} {arr:Array MapEntry} {clock:Nat} (h:w.heap[c]?=some (.map arr clock)):(getObj c).run P w=.ok (.map arr clock) w:=by
 simp [getObj,Sem.run,h]

theorem zMJ (h:yR Z a n=some cs) (hr:Rep V Z w) (hl:V.loc a.block (zZ a)=some L) (hlo:L.lo<=a.off) :
  ∃ cs',cs.length=n/\VRs V cs cs'/\(loadCells (L.at a.off) n).run P w=.ok ⟨cs'⟩ w:=by
 obtain ⟨cs',h1,h2,h3⟩:=uN h hr hl hlo;have:=run_loadCells_list (P:=P) (w:=w) (L.at a.off) cs' h3;rw [<- h2.length,h1] at this;exact ⟨cs',h1,h2,this⟩
theorem zFB {A:Addr} (h:yR Z a n=some cs) (hr:Rep V Z w) (hl:V.loc a.block (zZ a)=some L) (hlo:L.lo<=a.off) (hA:A=L.at a.off\/n=0) :
  ∃ cs',cs.length=n/\VRs V cs cs'/\(loadCells A n).run P w=.ok ⟨cs'⟩ w:=by
 rcases hA with rfl | rfl
 ·exact zMJ h hr hl hlo
 ·obtain ⟨cs',h1,h2,_⟩:=zMJ (P:=P) h hr hl hlo;have:cs'=[]:=List.eq_nil_of_length_eq_zero (by rw [<- h2.length,h1]);subst this;exact ⟨[],h1,h2,by simp [loadCells,loadCellsFrom]⟩
theorem yVW {cap:Nat} {c:Addr} {len:Nat} {cs':List Value} {bs:List UInt8} (hb:zBV cs=some bs) (hv:VRs V cs cs') (hl:(loadCells c len).run P w=.ok ⟨cs'⟩ w) :
  (Conv.bytesToString (.slice (some c) len cap)).run P w=.ok (.string ⟨⟨bs⟩⟩) w:=by
 unfold Conv.bytesToString;simp only [Sem.run_bind,hl,Result.andThen_ok];have key:∀ (cs cs':List Value) (bs:List UInt8) (s:ByteArray),zBV cs=some bs->VRs V cs cs' ->
   ∀ (f:Value->ByteArray->Sem (ForInStep ByteArray)),(∀ n s,f (.int .u8 n) s=pure (.yield (s.push (UInt8.ofNat n.toNat)))) ->
   (forIn cs' s f:Sem ByteArray).run P w=.ok ⟨⟨s.data.toList++bs⟩⟩ w:=by
  intro cs
  induction cs with
  | nil =>
   intro cs' bs s hb hv f hf;cases hv
   simp [zBV] at hb;subst hb;simp
  | cons c cs ih =>
   intro cs' bs s hb hv f hf;cases hv with
   | cons h1 h2 =>
    unfold zBV at hb;split at hb
    ·cases ‹_::_=[]›
    ·rename_i n l heq;cases heq
     split at hb
     ·rename_i bs' hbs;simp at hb;subst hb;have:=h1.int_inv;subst this;rw [List.forIn_cons,hf,pure_bind];have hx:=ih _ _ (s.push (UInt8.ofNat n.toNat)) hbs h2 f hf;simp only at hx ⊢;rw [hx];simp [ByteArray.push]
     ·cases hb
    ·cases hb
 have:=key cs cs' bs ByteArray.empty hb hv;simp only [List.forIn_toArray];rw [this _ (fun n s=>rfl)];rfl
theorem yIP {o:Oper} {ev ev':Operand->Value} {v:Value} (hz:vR P) (h:xV P ev Z o.op=some v) (hr:Rep V Z w) (hev:∀ x∈o.op.operands,VR V (ev x) (ev' x)) :
  ∃ v',(execOp ev' o).run P w=.ok (.value v') w/\VR V v v':=by
 unfold xV at h;split at h
 ·rename_i t a ho;have ha:=hev a (by simp [ho,Op.operands]);split at h
  ·rename_i a0 ha0;rw [ha0] at ha;obtain ⟨L,hl,hlo,e⟩:=ha.ptr_inv;obtain ⟨v',h1,h2⟩:=zUJ h hr hl hlo;exact ⟨v',by simp [execOp,ho,e,Instr.loadAt,Instr.sureAddr,h1],h2⟩
  ·cases h
 ·rename_i t x lo hi mx ho;have optR:∀ (q:Option Operand),(∀ y,q=some y->y∈o.op.operands)->OptR V (q.map ev) (q.map ev'):=by
   intro q hq;cases q with
   | none=>exact ⟨fun x hx=>by simp at hx,fun _=>rfl⟩
   | some y=>exact ⟨fun x hx=>by simp at hx;subst hx;exact ⟨ev' y,rfl,hev y (hq y rfl)⟩,fun h=>by simp at h⟩
  obtain ⟨v',h1,h2⟩:=yHM (P:=P) h hr (hev x (by simp [ho,Op.operands]))
   (optR lo (fun y hy=>by simp [ho,Op.operands,hy])) (optR hi (fun y hy=>by simp [ho,Op.operands,hy])) (optR mx (fun y hy=>by simp [ho,Op.operands,hy]))
  exact ⟨v',by simp [execOp,ho,h1],h2⟩
 ·rename_i t m i ok ho;have hm:=hev m (by simp [ho,Op.operands]);have hi:=hev i (by simp [ho,Op.operands]);cases hmo:zDR P t with
  | none=>simp [hmo] at h
  | some ke =>
   obtain ⟨kt,et⟩:=ke;have hd:=zIE hmo;simp only [hmo] at h;cases hze:uQ P et with
   | none=>simp [hze] at h
   | some z =>
    simp only [hze] at h;have hzr:VR V z z:=.refl_rigid _ (hz et z hze);have fin:∀ {u u':Value} {b:Bool},VR V u u'->VR V (bif ok then .tuple ⟨[u,.bool b]⟩ else u) (if ok then .tuple #[u',.bool b] else u'):=by
     intro u u' b hu;cases ok
     ·exact hu
     ·exact .tuple' (.cons hu (.cons (.bool b) .nil))
    split at h
    ·rename_i hm0;rw [hm0] at hm;have e:=hm.map_none;cases hk:zIX P true kt (ev i) with
     | false=>rw [hk,cond_false] at h;cases h
     | true =>
      rw [hk,cond_true] at h;simp at h;subst h;obtain ⟨k1,k2,d,hkd⟩:=zSO hk;have ei:=hi.rigid _ k1;rw [ei] at k2;refine ⟨_, ?_,fin hzr⟩
      simp [execOp,ho,e,Instr.lookup,run_underlying hd,k2,Instr.findKey,run_underlying hkd,Instr.findNow,zBO hze]
    ·rename_i r hm0;rw [hm0] at hm;obtain ⟨L,hl,e⟩:=hm.map_inv;split at h
     ·rename_i es hb;obtain ⟨arr,clock,hrow,hE,_⟩:=yIO hr hb hl;cases hk:zIX P es.isEmpty kt (ev i) with
      | false=>rw [hk,cond_false] at h;cases h
      | true =>
       rw [hk,cond_true] at h;obtain ⟨k1,k2,d,hkd⟩:=zSO hk;have ei:=hi.rigid _ k1;have hem:arr.isEmpty=es.isEmpty:=by
        have:=hE.size;cases es with
        | nil=>simp at this;simp [Array.isEmpty,this.symm]
        | cons x es=>simp at this;simp [Array.isEmpty,<- this]
       rw [ei] at k2 h;cases hkx:zBI P kt (ev' i) es 0 with
       | none=>simp [hkx] at h
       | some r0 =>
        rw [hkx] at h;obtain ⟨r',f1,f2⟩:=zUM hkd hkx hE;cases r0 with
        | none =>
         simp at h;subst h;have:r'=none:=f2;subst this;refine ⟨_, ?_,fin hzr⟩
         simp [execOp,ho,e,Instr.lookup,run_underlying hd,uV hrow,hem,k2,f1,zBO hze]
        | some j =>
         obtain ⟨e1,g1,_,g2⟩:=f2;simp only at h;cases hej:es[j]? with
         | none=>simp [hej] at h
         | some x =>
          simp [hej] at h;subst h;obtain ⟨e2,q1,q2,q3⟩:=hE.ent j x hej;rw [show j-0=j from rfl] at g1;rw [q1] at g1;cases g1;subst g2;refine ⟨_, ?_,fin q3⟩
          simp [execOp,ho,e,Instr.lookup,run_underlying hd,uV hrow,hem,k2,f1]
     ·cases h
    ·cases h
 ·rename_i c ho;have hargs:=zCY c.args.toList (ev:=ev) (ev':=ev') (fun x hx=>hev x (by simp [ho,Op.operands,Call.operands] at hx ⊢;exact .inr hx));have eargs:c.args.map ev'=(⟨c.args.toList.map ev'⟩:Array Value):=by apply Array.ext';simp
  split at h
  ·rename_i hcal;split at h
   ·rename_i t x l ht hl;rw [hl] at hargs;have ht0:c.argTypes[0]?=some t:=by simpa using ht
    split at h
    ·rename_i ke r hmo;obtain ⟨kt,et⟩:=ke;have hd:=zIE hmo;split at h
     ·rename_i es hb;simp at h;subst h;generalize hl':c.args.toList.map ev'=l' at hargs eargs;cases hargs with
      | cons hx hrest =>
       rename_i x' rest';obtain ⟨L,hl0,rfl⟩:=hx.map_inv;obtain ⟨arr,clock,hrow,hE,_⟩:=yIO hr hb hl0;refine ⟨goInt es.length, ?_,.int _ _⟩
       have hsz:arr.size=es.length:=by have:=hE.size;simpa using this.symm
       simp only [execOp,ho,resolve,hcal,eargs];simp [invoke,builtin,Builtin.len_,ht0,run_underlying hd,uV hrow,hsz]
     ·cases h
    ·cases h
   ·cases h
  ·cases h
 ·rename_i s d x ho;have hx:=hev x (by simp [ho,Op.operands]);split at h
  ·rename_i e hs hd;split at h
   ·rename_i a len cp he hxv;rw [hxv] at hx;obtain ⟨L,c',A,hl,hlo,hA,_,_,e'⟩:=hx.slice_inv;split at h
    ·rename_i cs hrr;split at h
     ·rename_i bs hbs;simp at h;subst h;obtain ⟨cs',h1,h2,h3⟩:=zFB (P:=P) hrr hr hl hlo (hA.imp id (·.1));exact ⟨_,by simp [execOp,ho,e',convert,run_underlying hs,run_underlying hd,run_underlying he,yVW hbs h2 h3],.atom rfl⟩
     ·cases h
    ·cases h
   ·cases h
  ·cases h
 ·cases h
end
end Go.Lay

namespace Go.Lay
open Go
variable {esz m n:Nat} {cs cs':List Value} {elem:TypeId} {a:Addr} {L:Loc} {Z':St}
section
variable {P:Program} {V:Inj} {Z:St} {w:World}

theorem yO {β:Type} (Z:St) (esz:Nat) (cs:List Value) (k:Addr->St->β):newRow Z esz cs k=k ⟨Z.y,0,none⟩ (Z.add (.cells cs esz [(0,cs.length)] 1 false)):=by
 simp [newRow,zBU,wL,St.new_eq]

theorem zPO {tail:List Value} (hr:Rep V Z w) (hf:zUU V Z.y (Z.y+1)) (hc:VRs V cs cs') :
  Good V Z w (V.add Z.y w.heap.size (cs.length+tail.length) esz) (Z.add (.cells cs esz [(0,cs.length)] 1 false)) (World.push w (.cells ⟨cs'++tail⟩ elem)):=by
 have e:=Inj.add_ext (n:=cs.length+tail.length) (z:=esz) hr hf;refine Good.addBlk hr hf (fun _ _ _ h=>by cases h;rfl) (.cells (fun s x hm=>?_) (by simp) (fun s₁ e₁ s₂ e₂ L₁ L₂ h₁ h₂ l₁ l₂ _=>?_) (fun s hs=>?_))
 ·simp at hm;obtain ⟨rfl,rfl⟩:=hm;refine ⟨by omega,Nat.le_refl _,⟨w.heap.size,0,0,_⟩,Inj.add_loc _ _ _ _,⟨⟨cs'++tail⟩,elem,(0,0),World.push_new _ _,by simp [Inj.add,hc.length],fun _=>rfl,by simp [hc.length],fun j _ hj=>?_⟩,by simp [Inj.add],Nat.zero_le _,by simp [Inj.add]⟩
  obtain ⟨v',h1,h2⟩:=hc.get_some (i:=j) (v:=cs[j]) (by simp [hj]);refine ⟨cs[j],v',by simp [hj], ?_,h2.ext e⟩
  have hj':j<cs'.length:=by rw [<- hc.length];exact hj
  simp only [Nat.zero_add,Nat.sub_zero];show (⟨cs'++tail⟩:Array Value)[j]?=_;rw [show (⟨cs'++tail⟩:Array Value)[j]?=(cs'++tail)[j]? by simp,List.getElem?_append_left hj'];exact h1
 ·simp at h₁ h₂;obtain ⟨rfl,_⟩:=h₁;obtain ⟨rfl,_⟩:=h₂;rw [l₁] at l₂;cases l₂;rfl
 ·simp only [Inj.add];rw [if_neg (by omega)];exact hf _ _ (Nat.le_refl _) (by omega)
theorem zFS (hr:Rep V Z w) (hf:zUU V Z.y (Z.y+1)) (hc:VRs V cs cs') :
  Good V Z w (V.add Z.y w.heap.size cs.length esz) (Z.add (.cells cs esz [(0,cs.length)] 1 false)) (World.push w (.cells ⟨cs'⟩ elem)):=by
 have:=zPO (tail:=[]) (esz:=esz) (elem:=elem) hr hf hc;simpa using this

theorem zID {len cap cap':Nat} (hc:zKQ cap cap') (hs:cap'*esz<=m) :
  VR (V.add Z.y w.heap.size m esz) (.slice (some ⟨Z.y,0,none⟩) len cap) (.slice (some ⟨w.heap.size,0,none⟩) len cap') :=
 .slice (a:=⟨Z.y,0,none⟩) (L:=⟨w.heap.size,0,0,_⟩) (Inj.add_loc _ _ _ _) (Nat.zero_le _) (.inl rfl) hc (by simp [Inj.add];exact hs)
theorem zXO :
  VR (V.add Z.y w.heap.size n esz) (.pointer (some ⟨Z.y,0,none⟩)) (.pointer (some ⟨w.heap.size,0,none⟩)) :=
 .ptr (a:=⟨Z.y,0,none⟩) (L:=⟨w.heap.size,0,0,_⟩) (Inj.add_loc _ _ _ _) (Nat.zero_le _)

theorem zER (elem:TypeId) (cs:List Value) (w:World):(_root_.Go.newRow elem (⟨cs⟩:Array Value)).run P w=.ok ⟨w.heap.size,0,none⟩ (World.push w (.cells ⟨cs⟩ elem)):=by
 simp [_root_.Go.newRow,World.push]

theorem zGO {l:List Value} (h:l.all cellB=true):∀ v∈l,v.oneCell'=true:=by
 intro v hv;have:=List.all_eq_true.1 h v hv;cases v <;> simp_all [cellB,Value.oneCell']

theorem zMX (a b:List Value) (off n:Nat) (h1:off+n<=a.length) (h2:b.length=n) (i:Nat) :
  (a.take off++(b++a.drop (off+n)))[i]?=if i<off then a[i]? else if i<off+n then b[i-off]? else a[i]?:=by
 have hl:(a.take off).length=off:=by simp;omega
 by_cases hi:i<off
 ·rw [if_pos hi,List.getElem?_append_left (by omega),List.getElem?_take_of_lt hi]
 ·rw [if_neg hi,List.getElem?_append_right (by omega),hl];by_cases hj:i<off+n
  ·rw [if_pos hj,List.getElem?_append_left (by omega)]
  ·rw [if_neg hj,List.getElem?_append_right (by omega),List.getElem?_drop];congr 1;omega

theorem zEJ {vs vs':List Value} (h:yZ Z a vs=some Z') (hr:Rep V Z w) (hl:V.loc a.block (zZ a)=some L) (hlo:L.lo<=a.off) (hv:VRs V vs vs') :
  ∃ w',(storeCells (L.at a.off) vs').run P w=.ok () w'/\Good V Z w V Z' w':=by
 unfold yZ at h;split at h
 ·rename_i bc esz log nx ro hb;split at h
  ·rename_i s e rest;cases hcond:Nat.beq s (zZ a) && Nat.ble (a.off+vs.length) e && !ro && vs.all cellB with
   | false=>rw [hcond,cond_false] at h;cases h
   | true =>
    rw [hcond,cond_true,zBU,St.write_eq] at h;simp only [Bool.and_eq_true,Bool.not_eq_true'] at hcond;obtain ⟨⟨⟨c1,c2⟩,c3⟩,c4⟩:=hcond;have c1:=Nat.eq_of_beq_eq_true c1;have c2:=(zP _ _).1 c2;simp at h;subst h;subst c1;cases (hr.blk _ _ hb).2 with
    | cells rows sorted same fresh =>
     obtain ⟨hs1,hs2,M,hM⟩:=rows (zZ a) e (by simp);have hML:M=L:=by have:=hM.loc;rw [hl] at this;cases this;rfl
     subst hML;obtain ⟨arr,elem,fr,r1,r2,r3,r4,r5⟩:=hM.row;have hfr:=r3 c3;subst hfr;have hlen:=hv.length;have hel:e<=bc.length:=hs2;have hsplen:M.base+(a.off-M.lo)+0+vs'.length<=arr.size:=by omega
     have hc4:vs'.all cellB=true:=by rw [<- hv.cellB];exact c4
     have hrun:=run_storeCells_at (P:=P) M.c (M.base+(a.off-M.lo)) elem vs' 0 arr w r1 hsplen (zGO hc4);refine ⟨_,hrun, ?_⟩
     simp only [Nat.add_zero] at hrun ⊢;have hown:V.own M.c=some a.block:=by rw [hM.own,c3];rfl
     refine Good.putBlk hr hb (Ext.refl _ _ _) (fun _ _ _=>rfl) (fun b s L h=>by simpa using hr.lt b s L h) (fun c b h=>by simpa using hr.ownlt c b h) (by simp)
      (fun c _ hc=>setRow_other w M.c c _ (fun hcc=>hc (by rw [hcc];exact hown))) ⟨rfl,rfl,rfl,Nat.le_refl _⟩ (.one M.c (fun c hc=>setRow_other w M.c c _ hc) (fun _ _ _ h=>by rw [setRow_heap w M.c arr _ elem (0,0) r1] at h;cases h;rfl)) ?_
     refine .cells (fun s' e' hm=>?_) (by simp) (fun s₁ e₁ s₂ e₂ L₁ L₂ h₁ h₂ l₁ l₂ _=>?_) fresh
     ·simp at hm;obtain ⟨rfl,rfl⟩:=hm;have hl1:(bc.take a.off++(vs++bc.drop (a.off+vs.length))).length=bc.length:=by simp;omega
      refine ⟨hs1,by rw [hl1];exact hs2,M,hM.loc,⟨_,elem,(0,0),setRow_heap w M.c arr _ elem (0,0) r1, ?_,fun _=>rfl, ?_,fun j j1 j2=>?_⟩,hM.cz,hM.lo,hM.own⟩
      ·rw [<- r2];simp;omega
      ·simp;omega
      ·obtain ⟨v,v',q1,q2,q3⟩:=r5 j j1 j2;rw [zMX bc vs a.off vs.length (by omega) rfl];have e2:(arr.toList.take (M.base+(a.off-M.lo))++vs'++arr.toList.drop (M.base+(a.off-M.lo)+vs'.length)).toArray[M.base+(j-M.lo)]? =
         if M.base+(j-M.lo)<M.base+(a.off-M.lo) then arr.toList[M.base+(j-M.lo)]? else if M.base+(j-M.lo)<M.base+(a.off-M.lo)+vs'.length then vs'[M.base+(j-M.lo)-(M.base+(a.off-M.lo))]? else arr.toList[M.base+(j-M.lo)]?:=by
        rw [<- zMX arr.toList vs' (M.base+(a.off-M.lo)) vs'.length (by simp;omega) rfl]
        simp
       rw [e2];by_cases x1:j<a.off
       ·have y1:M.base+(j-M.lo)<M.base+(a.off-M.lo):=by omega
        rw [if_pos x1,if_pos y1];exact ⟨v,v',q1,by simpa using q2,q3⟩
       ·have y1:¬ M.base+(j-M.lo)<M.base+(a.off-M.lo):=by omega
        rw [if_neg x1,if_neg y1];by_cases x2:j<a.off+vs.length
        ·have y2:M.base+(j-M.lo)<M.base+(a.off-M.lo)+vs'.length:=by omega
         rw [if_pos x2,if_pos y2];have hj:j-a.off<vs.length:=by omega
         obtain ⟨u',u1,u2⟩:=hv.get_some (i:=j-a.off) (v:=vs[j-a.off]) (by simp [hj]);refine ⟨vs[j-a.off],u',by simp [hj], ?_,u2⟩
         rw [show M.base+(j-M.lo)-(M.base+(a.off-M.lo))=j-a.off by omega];exact u1
        ·have y2:¬ M.base+(j-M.lo)<M.base+(a.off-M.lo)+vs'.length:=by omega
         rw [if_neg x2,if_neg y2];exact ⟨v,v',q1,by simpa using q2,q3⟩
     ·simp at h₁ h₂;obtain ⟨rfl,_⟩:=h₁;obtain ⟨rfl,_⟩:=h₂;rw [l₁] at l₂;cases l₂;rfl
  ·cases h
 ·cases h

theorem yKF {t:TypeId} {v v':Value} (h:zHN P Z t a v=some Z') (hr:Rep V Z w) (hl:V.loc a.block (zZ a)=some L) (hlo:L.lo<=a.off) (hv:VR V v v') :
  ∃ w',(storeVar t (L.at a.off) v').run P w=.ok () w'/\Good V Z w V Z' w':=by
 unfold zHN at h;split at h
 ·rename_i n hs;cases hb:Nat.beq v.cells.toList.length n with
  | false=>rw [hb,cond_false] at h;cases h
  | true =>
   rw [hb,cond_true] at h;have:=Nat.eq_of_beq_eq_true hb;obtain ⟨w',h1,h2⟩:=zEJ (P:=P) h hr hl hlo hv.cells;refine ⟨w', ?_,h2⟩
   have hsz:v'.cells.size=n:=by rw [<- this,hv.cells.length];simp
   simp [storeVar,yW hs,hsz,h1]
 ·cases h

theorem wX (z:List Value):∀ n,(yL z n).length=n*z.length
 | 0=>by simp [yL]
 | n+1=>by simp [yL,wX z n,Nat.add_mul];omega
theorem zVR (z:List Value):∀ (n i:Nat),i<n*z.length->(yL z n)[i]?=z[i % z.length]?
 | 0,i,h=>by simp at h
 | n+1,i,h=>by
  simp only [yL];by_cases hi:i<z.length
  ·rw [List.getElem?_append_left hi,Nat.mod_eq_of_lt hi]
  ·rw [List.getElem?_append_right (by omega),zVR z n (i-z.length) (by rw [Nat.add_mul] at h;omega)];have hp:0<z.length:=by
    rcases Nat.eq_zero_or_pos z.length with h0 | h0
    ·rw [h0] at h;simp at h
    ·exact h0
   rw [Nat.mod_eq_sub_mod (a:=i) (by omega)]
theorem VRs.refl_rigid:∀ {l:List Value},l.all (zQ RD)=true->VRs V l l
 | [],_=>.nil
 | v::l,h=>by
  simp only [List.all_cons,Bool.and_eq_true] at h;exact .cons (.refl_rigid _ h.1) (VRs.refl_rigid h.2)
theorem zFR {z:List Value} (hz:z.length=n) (hm:0<m*n->0<n) :
  (Array.range (m*n)).map ((⟨z⟩:Array Value)[· % (⟨z⟩:Array Value).size]!)=(⟨yL z m⟩:Array Value):=by
 apply Array.ext';apply List.ext_getElem?;intro i;by_cases hi:i<m*n
 ·have hp:0<n:=hm (by omega);have hmod:i % z.length<z.length:=Nat.mod_lt _ (by omega);rw [zVR z m i (by rw [hz];exact hi)];simp [hi,hmod]
 ·have h1:(yL z m).length<=i:=by rw [wX,hz];omega
  rw [List.getElem?_eq_none h1];simp;omega
end
end Go.Lay

namespace Go.Lay
open Go
variable {n cnt b len cap':Nat} {x x' z:Value} {cs:List Value} {xd:TypeDesc} {i:Int} {st xt e ty:TypeId} {info:TypeInfo} {base:Option Addr} {new:Array Value}
section
variable {P:Program} {V:Inj} {Z:St} {w:World}

def drew (w:World):World:={ w with drawn:=w.drawn+1 }
theorem Good.drew (hr:Rep V Z w):Good V Z w V Z (drew w) :=
 ⟨Ext.refl _ _ _,hr.grown (Nat.le_refl _) (fun _ _=>rfl),⟨Nat.le_refl _,fun _ _ _=>rfl,rfl,rfl,rfl,fun _ _ arr elem _ h=>.inl ⟨arr,elem,h⟩,Nat.le_succ _⟩,Nat.le_refl _,Nat.le_refl _⟩

theorem zVY (h:wU Z n x=some (cnt,cs)) (hr:Rep V Z w) (hx:VR V x x') (hn:cs.length=cnt*n) :
  ∃ cs',VRs V cs cs'/\(∀ w,(Builtin.lenOf x').run P w=.ok cnt w)/\(Builtin.firstCells n cnt x').run P w=.ok ⟨cs'⟩ w:=by
 unfold wU at h;split at h
 ·rename_i len cap;cases hb:Nat.beq len 0 with
  | false=>rw [hb,cond_false] at h;cases h
  | true =>
   rw [hb,cond_true] at h;have:=Nat.eq_of_beq_eq_true hb;subst this;simp at h;obtain ⟨rfl,rfl⟩:=h;have:=hx.slice_none;subst this;exact ⟨[],.nil,fun w=>by simp [Builtin.lenOf],by simp [Builtin.firstCells]⟩
 ·rename_i a len cap;obtain ⟨L,c',A,hl,hlo,hA,_,_,rfl⟩:=hx.slice_inv;cases hrr:yR Z a (len*n) with
  | none=>simp [hrr] at h
  | some cs0 =>
   simp [hrr] at h;obtain ⟨rfl,rfl⟩:=h;obtain ⟨cs',h1,h2,h3⟩:=zFB (P:=P) hrr hr hl hlo (hA.imp id (fun x=>by rw [x.1];simp));exact ⟨cs',h2,fun w=>by simp [Builtin.lenOf],by simp [Builtin.firstCells,h3]⟩
 ·rename_i s;have:=hx.string_inv;subst this;simp at h;obtain ⟨rfl,rfl⟩:=h;refine ⟨s.data.toList.map fun b=>.int .u8 b.toNat,VRs.refl_rigid (by rw [List.all_map];exact List.all_eq_true.2 (fun b _=>rfl)),fun w=>by simp [Builtin.lenOf], ?_⟩
  have he:s.extract 0 s.size=s:=by
   apply ByteArray.ext;simp
  simp [Builtin.firstCells,he];apply Array.ext';simp
 ·cases h

def zJI (n:Nat) (z:Value) (xd:TypeDesc) (x':Value) (cnt:Nat):Sem (Array Value) :=
 match xd with
 | .int _=>if cnt*n=0 then pure #[] else pure (Builtin.zeroCells z.cells cnt)
 | _=>Builtin.firstCells n cnt x'

theorem zIT (h:zCS Z n z xd x=some (cnt,cs)) (hr:Rep V Z w) (hx:VR V x x') (hn:cs.length=cnt*n) (hz:zQ RD z=true) :
  ∃ cs',VRs V cs cs'/\(zJI n z xd x' cnt).run P w=.ok ⟨cs'⟩ w /\
   ((∃ k,xd=.int k/\∃ q i,x'=.int q i/\0<=i/\i<=1073741824/\cnt=i.toNat)\/((∀ k,xd≠.int k)/\∀ w,(Builtin.lenOf x').run P w=.ok cnt w)):=by
 unfold zCS at h;split at h
 ·rename_i k;split at h
  ·rename_i q i;have:=hx.int_inv;subst this;cases hb:leI 0 i && leI i 1073741824 && Nat.beq z.cells.toList.length n && Nat.blt 0 n with
   | false=>rw [hb,cond_false] at h;cases h
   | true =>
    rw [hb,cond_true] at h;simp only [Bool.and_eq_true,vG] at hb;obtain ⟨⟨⟨b1,b2⟩,b3⟩,b4⟩:=hb;have b3:=Nat.eq_of_beq_eq_true b3;have b4:0<n:=(zP 1 n).1 b4;simp at h;obtain ⟨rfl,rfl⟩:=h;have hzr:z.cells.toList.all (zQ RD)=true\/True:=.inr trivial;refine ⟨yL z.cells.toList i.toNat, ?_, ?_,.inl ⟨k,rfl,q,i,rfl,b1,b2,rfl⟩⟩
    ·have hzz:=(VR.refl_rigid (V:=V) RD hz).cells;have:∀ m,VRs V (yL z.cells.toList m) (yL z.cells.toList m):=by
      intro m;induction m with
      | zero=>exact .nil
      | succ m ih=>exact VRs.append hzz ih
     exact this _
    ·simp only [zJI];have hz2:=zFR (z:=z.cells.toList) (m:=i.toNat) (n:=n) b3 (fun _=>b4);by_cases h0:i.toNat*n=0
     ·rw [if_pos h0];have:yL z.cells.toList i.toNat=[]:=by
       apply List.eq_nil_of_length_eq_zero;rw [wX,b3];exact h0
      rw [this];rfl
     ·rw [if_neg h0];simp only [Builtin.zeroCells];have e1:z.cells.size=n:=by rw [<- b3];simp
      rw [e1];have e2:(⟨z.cells.toList⟩:Array Value)=z.cells:=wM _;rw [e2,e1] at hz2;rw [hz2];rfl
  ·cases h
 ·rename_i hni;obtain ⟨cs',h1,h2,h3⟩:=zVY (P:=P) h hr hx hn;refine ⟨cs',h1, ?_,.inr ⟨fun k hk=>hni k hk,h2⟩⟩
  unfold zJI;split
  ·rename_i k;exact absurd rfl (hni k)
  ·exact h3

theorem yFN (L:Nat):∀ (r c:Nat),Builtin.growBy L r c<=max c (L+(L+768) / 4)
 | 0,c=>by simp only [Builtin.growBy];omega
 | r+1,c=>by
  simp only [Builtin.growBy];split
  ·omega
  ·have:=yFN L r (c+(c+768) / 4);omega
theorem zVA {need cap:Nat} (h:¬ need<=cap):Builtin.nextslicecap need cap<=2*need+1000:=by
 unfold Builtin.nextslicecap;split
 ·omega
 ·split
  ·omega
  ·have:=yFN need 4 cap;omega

structure AppC (P:Program) (st xt e:TypeId) (n:Nat) (xd:TypeDesc) (info:TypeInfo) (z:Value) (x':Value) (len cnt:Nat):Prop where
 st:P.underlying st=some (.slice e)
 size:yU P e=some n
 xt:P.underlying xt=some xd
 ei:P.info? e=some info
 zero:info.zero=some z
 zs:z.cells.size=n
 room:len+cnt<=1073741824
 bytes:info.bytes<=4096
 src:(∃ k,xd=.int k/\∃ q i,x'=.int q i/\0<=i/\i<=1073741824/\cnt=i.toNat)\/((∀ k,xd≠.int k)/\∀ w,(Builtin.lenOf x').run P w=.ok cnt w)

theorem zHG (h0:0<=i) (h1:i<=1073741824):IntKind.i64.wrap i=i:=by
 have e1:(2:Int) ^ 64=18446744073709551616:=by decide
 have e2:(2:Int) ^ (64-1)=9223372036854775808:=by decide
 simp only [IntKind.wrap,IntKind.bits,IntKind.signed,e1,e2,Bool.true_and,decide_eq_true_eq];split <;> omega

theorem yIG (h0:0<=i) (h1:i<=1073741824) (hb:b<=4096):¬ (2:Int) ^ 48<i*b:=by
 have a1:i*b<=1073741824*4096:=Int.mul_le_mul h1 (by omega) (by omega) (by omega);have a2:(1073741824*4096:Int)<=2 ^ 48:=by decide
 omega
theorem xJD {c:Nat} (hc:c<=4294967296) (hb:b<=4096):¬ 2 ^ 48<c*b:=by
 have a1:c*b<=4294967296*4096:=Nat.mul_le_mul hc hb;have a2:4294967296*4096<=2 ^ 48:=by decide
 omega

theorem zBW {w':World}
  (h:AppC P st xt e n xd info z x' len cnt) (hle:len+cnt<=cap') (hs:(zJI n z xd x' cnt).run P w=.ok new w)
  (hw:match base with | some a=>(storeCells (a.add (len*n)) new.toList).run P w=.ok () w' | none=>w'=w) :
  (Builtin.append_ #[st,xt] ty #[.slice base len cap',x']).run P w=.ok (.slice base (len+cnt) cap') w':=by
 have hz:(zeroValue e).run P w=.ok z w:=by simp [zeroValue,typeInfo,h.ei,h.zero]
 rcases h.src with ⟨k,rfl,q,i,rfl,h0,h1,rfl⟩ | ⟨hk,hlen⟩
 ·have hw1:=zHG h0 h1;have hb:=yIG h0 h1 h.bytes;have hneg:¬ i<0:=by omega
  have hs2:(if (!true)=true then Builtin.firstCells n i.toNat (.int q i) else if i.toNat*n=0 then pure #[] else do pure (Builtin.zeroCells (<- zeroValue e).cells i.toNat):Sem (Array Value)).run P w=.ok new w:=by
   simp only [zJI] at hs;simp only [Bool.not_true,Bool.false_eq_true,if_false];split
   ·rename_i h0;rw [if_pos h0] at hs;exact hs
   ·rename_i h0;rw [if_neg h0] at hs;rw [Sem.run_bind,hz];exact hs
  unfold Builtin.append_;simp only [List.getElem?_toArray,List.getElem?_cons_zero,List.getElem?_cons_succ,Sem.run_bind,run_underlying h.st,run_underlying h.xt,yW h.size,Result.andThen_ok,Sem.run_pure];simp only [asInt,asIntOf,pure_bind,Sem.run_bind,Sem.run_pure,Result.andThen_ok,hw1,uU h.ei];rw [if_pos trivial,if_neg hneg,Sem.run_bind,uU h.ei,Result.andThen_ok,if_neg hb];simp only [if_pos hle,Sem.run_bind,hs2,Result.andThen_ok];cases base with
  | none=>simp only at hw;subst hw;rfl
  | some a=>simp only at hw ⊢;rw [Sem.run_bind,hw];rfl
 ·have hs2:(if (!false)=true then Builtin.firstCells n cnt x' else if cnt*n=0 then pure #[] else do pure (Builtin.zeroCells (<- zeroValue e).cells cnt):Sem (Array Value)).run P w=.ok new w:=by
   rw [Bool.not_false,if_pos rfl];cases xd with
   | int k=>exact absurd rfl (hk k)
   | _=>exact hs
  unfold Builtin.append_;simp only [List.getElem?_toArray,List.getElem?_cons_zero,List.getElem?_cons_succ,Sem.run_bind,run_underlying h.st,run_underlying h.xt,yW h.size,Result.andThen_ok,Sem.run_pure];cases xd with
  | int k=>exact absurd rfl (hk k)
  | _ =>
   rw [if_neg (by simp),Sem.run_bind,hlen,Result.andThen_ok];simp only [if_pos hle,Sem.run_bind,hs2,Result.andThen_ok];cases base with
   | none=>simp only at hw;subst hw;rfl
   | some a=>simp only at hw ⊢;rw [Sem.run_bind,hw];rfl

theorem zUR {old:Array Value}
  (h:AppC P st xt e n xd info z x' len cnt) (hgt:¬ len+cnt<=cap') (ho:(Builtin.firstCells n len (.slice base len cap')).run P (drew w)=.ok old (drew w))
  (hs:(zJI n z xd x' cnt).run P (drew w)=.ok new (drew w)) :
  ∃ newCap,len+cnt<=newCap/\(Builtin.append_ #[st,xt] ty #[.slice base len cap',x']).run P w =
   .ok (.slice (some ⟨w.heap.size,0,none⟩) (len+cnt) newCap) (World.push (drew w) (.cells (old++new++Builtin.zeroCells z.cells (newCap-(len+cnt))) e)):=by
 have hz:(zeroValue e).run P (drew w)=.ok z (drew w):=by simp [zeroValue,typeInfo,h.ei,h.zero]
 have hroom:=h.room;have hmax:¬ ((len+cnt:Nat):Int) > IntKind.i64.max:=by
  have:IntKind.i64.max=9223372036854775807:=by decide
  rw [this];omega
 have hnext:=zVA hgt;have hbig:=xJD (c:=Builtin.nextslicecap (len+cnt) cap') (b:=info.bytes) (by omega) h.bytes;refine ⟨(Question.appendCap (len+cnt) cap' e).cut (w.tape w.drawn (.appendCap (len+cnt) cap' e)),by simp [Question.cut], ?_⟩
 have hch:(choose (.appendCap (len+cnt) cap' e)).run P w=.ok ((Question.appendCap (len+cnt) cap' e).cut (w.tape w.drawn (.appendCap (len+cnt) cap' e))) (drew w):=by
  simp [Question.forced,drew]
 generalize (Question.appendCap (len+cnt) cap' e).cut (w.tape w.drawn (.appendCap (len+cnt) cap' e))=newCap at hch ⊢;rcases h.src with ⟨k,rfl,q,i,rfl,h0,h1,rfl⟩ | ⟨hk,hlen⟩
 ·have hw1:=zHG h0 h1;have hb:=yIG h0 h1 h.bytes;have hneg:¬ i<0:=by omega
  have hs2:(if (!true)=true then Builtin.firstCells n i.toNat (.int q i) else if i.toNat*n=0 then pure #[] else do pure (Builtin.zeroCells (<- zeroValue e).cells i.toNat):Sem (Array Value)).run P (drew w)=.ok new (drew w):=by
   simp only [zJI] at hs;simp only [Bool.not_true,Bool.false_eq_true,if_false];split
   ·rename_i h0;rw [if_pos h0] at hs;exact hs
   ·rename_i h0;rw [if_neg h0] at hs;rw [Sem.run_bind,hz];exact hs
  unfold Builtin.append_;simp only [List.getElem?_toArray,List.getElem?_cons_zero,List.getElem?_cons_succ,Sem.run_bind,run_underlying h.st,run_underlying h.xt,yW h.size,Result.andThen_ok,Sem.run_pure];simp only [asInt,asIntOf,pure_bind,Sem.run_bind,Sem.run_pure,Result.andThen_ok,hw1,uU h.ei];rw [if_pos trivial,if_neg hneg,Sem.run_bind,uU h.ei,Result.andThen_ok,if_neg hb];simp only [if_neg hgt,Sem.run_bind,uU h.ei,Result.andThen_ok];rw [if_neg (fun x=>hmax x.1)];simp only [Sem.run_bind,uU h.ei,Result.andThen_ok];rw [if_neg hbig];simp only [Sem.run_bind,hch,uU h.ei,Result.andThen_ok,run_askRoom,ho,hs2,hz];rfl
 ·have hs2:(if (!false)=true then Builtin.firstCells n cnt x' else if cnt*n=0 then pure #[] else do pure (Builtin.zeroCells (<- zeroValue e).cells cnt):Sem (Array Value)).run P (drew w)=.ok new (drew w):=by
   rw [Bool.not_false,if_pos rfl];cases xd with
   | int k=>exact absurd rfl (hk k)
   | _=>exact hs
  unfold Builtin.append_;simp only [List.getElem?_toArray,List.getElem?_cons_zero,List.getElem?_cons_succ,Sem.run_bind,run_underlying h.st,run_underlying h.xt,yW h.size,Result.andThen_ok,Sem.run_pure];cases xd with
  | int k=>exact absurd rfl (hk k)
  | _ =>
   rw [if_neg (by simp),Sem.run_bind,hlen,Result.andThen_ok];simp only [if_neg hgt,Sem.run_bind,uU h.ei,Result.andThen_ok];rw [if_neg (fun x=>hmax x.1)];simp only [Sem.run_bind,uU h.ei,Result.andThen_ok];rw [if_neg hbig];simp only [Sem.run_bind,hch,uU h.ei,Result.andThen_ok,run_askRoom,ho,hs2,hz];rfl
end
end Go.Lay

namespace Go.Lay
open Go
section
variable {P:Program} {V:Inj} {Z:St} {w:World}

theorem vM:∀ {log:List (Nat × Nat)} {s:Nat} {x:Nat × Nat},x∈vY log s->x∈log
 | [],_,_,h=>by simp [vY] at h
 | (k,e)::r,s,x,h=>by
  simp only [vY] at h;cases hk:Nat.beq k s with
  | true=>rw [hk,cond_true] at h;exact h
  | false=>rw [hk,cond_false] at h;exact List.mem_cons_of_mem _ (vM h)
theorem zCN {R:Nat × Nat->Nat × Nat->Prop}:∀ {log:List (Nat × Nat)} {s:Nat},log.Pairwise R->(vY log s).Pairwise R
 | [],_,_=>by simp [vY]
 | (k,e)::r,s,h=>by
  simp only [vY];cases hk:Nat.beq k s with
  | true=>rw [cond_true];exact h
  | false=>rw [cond_false];exact zCN (List.pairwise_cons.1 h).2
theorem zFA:∀ {log:List (Nat × Nat)} {s e:Nat} {x:Nat × Nat},log.Pairwise (fun x y=>y.1<x.1/\y.2<=x.2)->wR log s=some e->x∈vY log s->x.2<=e
 | [],_,_,_,_,h,_=>by simp [wR] at h
 | (k,e0)::r,s,e,x,hp,he,hx=>by
  simp only [vY] at hx;simp only [wR] at he;cases hk:Nat.beq k s with
  | true =>
   rw [hk,cond_true] at hx he;cases he
   rcases List.mem_cons.1 hx with rfl | hx
   ·exact Nat.le_refl _
   ·exact ((List.pairwise_cons.1 hp).1 x hx).2
  | false =>
   rw [hk,cond_false] at hx he;exact zFA (List.pairwise_cons.1 hp).2 he hx

def Inj.stamp (V:Inj) (b s:Nat) (L:Loc):Inj:={ V with loc:=fun b' s'=>if b'=b/\s'=s then some L else V.loc b' s' }
def Inj.stampNew (V:Inj) (b s:Nat) (L:Loc) (n:Nat):Inj :=
 {loc:=fun b' s'=>if b'=b/\s'=s then some L else V.loc b' s'
  own:=fun c'=>if c'=L.c then some b else V.own c'
  csz:=fun c'=>if c'=L.c then n else V.csz c' }

theorem zFI (a b:List Value) (ex:Nat) (h:ex<=a.length) (i:Nat):(a.take ex++b)[i]?=if i<ex then a[i]? else b[i-ex]?:=by
 have hl:(a.take ex).length=ex:=by simp;omega
 by_cases hi:i<ex
 ·rw [if_pos hi,List.getElem?_append_left (by omega),List.getElem?_take_of_lt hi]
 ·rw [if_neg hi,List.getElem?_append_right (by omega),hl]

theorem yJH {need cap':Nat} (h:need<=cap'):zKQ (need+vU) cap':=by
 unfold zKQ;have:yY (need+vU)=false:=by rw [Bool.eq_false_iff];intro e;have:=(xI _).1 e;omega
 rw [if_neg (by rw [this];simp)];unfold yE;rw [if_pos (by omega)];omega

theorem yCX {st xt e:TypeId} {n:Nat} {xd:TypeDesc} {info:TypeInfo} {z x' v:Value} {len cnt cap':Nat} {a:Addr} {L:Loc} {cs cs':List Value} {ty:TypeId} {known:Nat} {Z':St}
    (h:zIU Z n a len known cnt cs=some (v,Z')) (hr:Rep V Z w) (hC:AppC P st xt e n xd info z x' len cnt) (hkn:known<=cap') (hneed:known<len+cnt)
    (hl:V.loc a.block (zZ a)=some L) (hlo:L.lo<=a.off) {A:Addr} (hA:A=L.at a.off\/(len=0/\cap'=0)) (hsz:L.base+(a.off-L.lo)+cap'*L.z<=V.csz L.c) (hv:VRs V cs cs') (hcc:cs.all cellB=true) (hcl:cs.length=cnt*n)
    (hs:∀ w,Rep V Z w->(∃ u,(zJI n z xd x' cnt).run P w=.ok ⟨u⟩ w/\VRs V cs u)) :
    ∃ v' w' V',(Builtin.append_ #[st,xt] ty #[.slice (some A) len cap',x']).run P w=.ok v' w'/\VR V' v v'/\Good V Z w V' Z' w':=by
  unfold zIU at h;split at h
  · rename_i bc esz log nx ro hb;split at h
    · rename_i ex hex;cases hcond:Nat.beq len known && Nat.beq (a.off+len*n) ex && Nat.beq esz n && !ro && Nat.blt 0 n with
      | false=>rw [hcond,cond_false] at h;cases h
      | true =>
        rw [hcond,cond_true,zBU,wL,wL,St.write_eq] at h;simp only [Bool.and_eq_true,Bool.not_eq_true'] at hcond;obtain ⟨⟨⟨⟨c1,c2⟩,c3⟩,c4⟩,c5⟩:=hcond;have c1:=Nat.eq_of_beq_eq_true c1;have c2:=Nat.eq_of_beq_eq_true c2;have c3:=Nat.eq_of_beq_eq_true c3;have c5:0<n:=(zP 1 n).1 c5;simp at h;obtain ⟨rfl,rfl⟩:=h;subst c4 c3;have hblk:=hr.blk _ _ hb;cases hblk.2 with
        | cells rows sorted same fresh =>
          obtain ⟨hs1,hs2,M,hM⟩:=rows _ _ (zCO hex);have hML:M=L:=by have:=hM.loc;rw [hl] at this;cases this;rfl
          subst hML;obtain ⟨arr,elem,fr,r1,r2,r3,r4,r5⟩:=hM.row;have hfr:=r3 rfl;subst hfr;have hcz:=hM.cz;have hown:V.own M.c=some a.block:=by rw [hM.own];rfl
          rw [hcz] at hsz;have hnxn:V.loc a.block nx=none:=fresh nx (Nat.le_refl _);have hmul:(len+cnt)*esz=len*esz+cnt*esz:=Nat.add_mul _ _ _;have hbl:(bc.take ex++cs).length=ex+cnt*esz:=by simp;omega
          by_cases hle:len+cnt<=cap'
          ·
            have hA:A=M.at a.off:=hA.elim id (fun x=>by exfalso;have:=x.2;omega);subst hA;obtain ⟨u,hu,hvu⟩:=hs w hr;have hul:u.length=cnt*esz:=by rw [<- hvu.length];exact hcl
            have hcap:(len+cnt)*esz<=cap'*esz:=Nat.mul_le_mul_right _ hle;have huc:u.all cellB=true:=by rw [<- hvu.cellB];exact hcc
            have hst:=run_storeCells_at (P:=P) M.c (M.base+(a.off+len*esz-M.lo)) elem u 0 arr w r1 (by omega) (zGO huc);have hadd:(M.at a.off).add (len*esz)=⟨M.c,M.base+(a.off+len*esz-M.lo),none⟩:=by rw [zIS _ _ _ hlo];rfl
            have hrun:=zBW (P:=P) (w:=w) (ty:=ty) (base:=some (M.at a.off)) (new:=⟨u⟩) hC hle hu (by simp only [hadd];exact hst);refine ⟨_,_,V.stamp a.block nx M,hrun, ?_, ?_⟩
            · refine .slice (a:=⟨a.block,a.off,some nx⟩) (L:=M) (by simp [Inj.stamp,zZ]) hlo (.inl rfl) (yJH hle) (by simp only [Inj.stamp];rw [hcz];exact hsz)
            · have ext:Ext V (V.stamp a.block nx M) w.heap.size Z.y:=by
                refine ⟨fun b s L0 h0=>?_,fun _ _ _ _=>rfl,fun b s h0 hb0=>?_,fun _ _=>rfl,fun _ _=>rfl,fun b s L0 h0 _=>?_⟩
                · simp only [Inj.stamp];rw [if_neg];exact h0;rintro ⟨rfl,rfl⟩;rw [hnxn] at h0;cases h0
                · simp only [Inj.stamp];rw [if_neg];exact h0;rintro ⟨rfl,rfl⟩;have:=hblk.1;omega
                · simp only [Inj.stamp] at h0;split at h0
                  · cases h0;exact ⟨_,_,_,hl,rfl⟩
                  · exact ⟨_,_,_,h0,rfl⟩
              refine Good.putBlk hr hb ext (fun b' s hne=>by simp [Inj.stamp,hne]) (fun b s L0 h0=>?_) (fun c b h0=>by simpa using hr.ownlt c b h0) (by simp)
                (fun c _ hc=>setRow_other w M.c c _ (fun hcc=>hc (by rw [hcc];exact hown))) ⟨rfl,rfl,rfl,Nat.le_refl _⟩ (.one M.c (fun c hc=>setRow_other w M.c c _ hc) (fun _ _ _ h=>by rw [setRow_heap w M.c arr _ elem (0,0) r1] at h;cases h;rfl)) ?_
              · simp only [Inj.stamp] at h0;split at h0
                · cases h0;simpa using hr.lt _ _ _ hl
                · simpa using hr.lt _ _ _ h0
              ·
                have arrget:∀ i,(arr.toList.take (M.base+(a.off+len*esz-M.lo)+0)++u++arr.toList.drop (M.base+(a.off+len*esz-M.lo)+0+u.length)).toArray[i]? =
                    if i<M.base+(ex-M.lo) then arr[i]? else if i<M.base+(ex-M.lo)+u.length then u[i-(M.base+(ex-M.lo))]? else arr[i]?:=by
                  intro i
                  have:=zMX arr.toList u (M.base+(ex-M.lo)) u.length (by simp;omega) rfl i
                  rw [<- c2] at this ⊢
                  simp only [Nat.add_zero]
                  simpa using this
                refine .cells (fun s' e' hm=>?_) ?_ (fun s₁ e₁ s₂ e₂ L₁ L₂ h₁ h₂ l₁ l₂ hc=>?_) (fun s' hs'=>?_)
                · rcases List.mem_cons.1 hm with hm | hm
                  · simp at hm;obtain ⟨rfl,rfl⟩:=hm;refine ⟨by omega,by rw [hbl];exact Nat.le_refl _,M,by simp [Inj.stamp],⟨_,elem,(0,0),setRow_heap w M.c arr _ elem (0,0) r1, ?_,fun _=>rfl, ?_,fun j j1 j2=>?_⟩,hcz,by have:=hM.lo;omega,hM.own⟩
                    · simp only [Inj.stamp];rw [<- r2];simp;omega
                    · simp;omega
                    · rw [zFI _ _ _ hs2,arrget];by_cases x1:j<ex
                      · have y1:M.base+(j-M.lo)<M.base+(ex-M.lo):=by have:=hM.lo;omega
                        rw [if_pos x1,if_pos y1];obtain ⟨v,v',q1,q2,q3⟩:=r5 j j1 x1;exact ⟨v,v',q1,q2,q3.ext ext⟩
                      · have y1:¬ M.base+(j-M.lo)<M.base+(ex-M.lo):=by omega
                        have y2:M.base+(j-M.lo)<M.base+(ex-M.lo)+u.length:=by have:=hM.lo;omega
                        rw [if_neg x1,if_neg y1,if_pos y2];have hj:j-ex<cs.length:=by omega
                        obtain ⟨u',u1,u2⟩:=hvu.get_some (i:=j-ex) (v:=cs[j-ex]) (by simp [hj]);refine ⟨cs[j-ex],u',by simp [hj], ?_,u2.ext ext⟩
                        have hloex:=hM.lo;rw [show M.base+(j-M.lo)-(M.base+(ex-M.lo))=j-ex by omega];exact u1
                  · have hmem:=vM hm;have hle2:e'<=ex:=zFA (x:=(s',e')) sorted hex hm;obtain ⟨a1,a2,N,hN⟩:=rows s' e' hmem;obtain ⟨arr2,elem2,fr2,n1,n2,n3,n4,n5⟩:=hN.row;refine ⟨by omega,by rw [hbl];omega,N,ext.loc _ _ _ hN.loc, ?_,hN.cz,hN.lo,hN.own⟩
                    by_cases hcc2:N.c=M.c
                    · have hsm:=same _ _ _ _ _ _ hmem (zCO hex) hN.loc hM.loc hcc2;have n1':=n1;rw [hcc2,r1] at n1';cases n1'
                      refine ⟨_,elem,(0,0),by rw [hcc2];exact setRow_heap w M.c arr _ elem (0,0) r1, ?_,fun _=>rfl, ?_,fun j j1 j2=>?_⟩
                      · simp only [Inj.stamp];rw [<- n2];simp;omega
                      · simp;omega
                      · obtain ⟨v,v',q1,q2,q3⟩:=n5 j j1 j2;rw [zFI _ _ _ hs2,arrget];have x1:j<ex:=by omega
                        have y1:N.base+(j-N.lo)<M.base+(ex-M.lo):=by have:=hM.lo;omega
                        rw [if_pos x1,if_pos y1];exact ⟨v,v',q1,q2,q3.ext ext⟩
                    · refine ⟨arr2,elem2,fr2,by rw [setRow_other _ _ _ _ hcc2];exact n1,n2,n3,n4,fun j j1 j2=>?_⟩
                      obtain ⟨v,v',q1,q2,q3⟩:=n5 j j1 j2;rw [zFI _ _ _ hs2,if_pos (by omega)];exact ⟨v,v',q1,q2,q3.ext ext⟩
                · refine List.pairwise_cons.2 ⟨fun y hy=>?_,zCN sorted⟩;have h1:=zFA sorted hex hy;obtain ⟨h2,_,_⟩:=rows y.1 y.2 (vM hy);exact ⟨h2,by simp;omega⟩
                ·
                  have find:∀ {s e L},(s,e)∈(nx,ex+cnt*esz)::vY log (zZ a)->(V.stamp a.block nx M).loc a.block s=some L ->
                      ∃ s' e',(s',e')∈log/\V.loc a.block s'=some L:=by
                    intro s e L hm hL
                    rcases List.mem_cons.1 hm with hm | hm
                    · simp at hm;obtain ⟨rfl,rfl⟩:=hm;simp [Inj.stamp] at hL;subst hL;exact ⟨_,_,zCO hex,hl⟩
                    · obtain ⟨_,_,N,hN⟩:=rows _ _ (vM hm);have:=ext.loc _ _ _ hN.loc;rw [hL] at this;cases this;exact ⟨_,_,vM hm,hN.loc⟩
                  obtain ⟨s₁',e₁',m₁,k₁⟩:=find h₁ l₁;obtain ⟨s₂',e₂',m₂,k₂⟩:=find h₂ l₂;exact same _ _ _ _ _ _ m₁ m₂ k₁ k₂ hc
                · simp only [Inj.stamp];rw [if_neg (by omega)];exact fresh s' (by omega)
          ·
            have hgood:=Good.drew hr;obtain ⟨u,hu,hvu⟩:=hs (drew w) hgood.rep;have hul:u.length=cnt*esz:=by rw [<- hvu.length];exact hcl
            have hread:yR Z a (len*esz)=some ((bc.drop a.off).take (len*esz)):=by
              unfold yR;simp only [hb,hex];rw [(zP _ _).2 (by omega)];rfl
            obtain ⟨old,o1,o2,o3⟩:=zFB (P:=P) (w:=drew w) hread hgood.rep hl hlo (hA.imp id (fun x=>by rw [x.1];simp));obtain ⟨newCap,k1,k2⟩:=zUR (P:=P) (w:=w) (ty:=ty) (base:=some A) (old:=⟨old⟩) (new:=⟨u⟩) hC hle (by simp [Builtin.firstCells,o3]) hu;have hzl:(Builtin.zeroCells z.cells (newCap-(len+cnt))).size=(newCap-(len+cnt))*esz:=by simp [Builtin.zeroCells,hC.zs]
            have htot:((⟨old⟩:Array Value)++⟨u⟩++Builtin.zeroCells z.cells (newCap-(len+cnt))).size=newCap*esz:=by
              simp only [Array.size_append,hzl];have e1:(⟨old⟩:Array Value).size=len*esz:=by show old.length=_;rw [<- o2.length];exact o1
              have e2:(⟨u⟩:Array Value).size=cnt*esz:=hul;rw [e1,e2,<- Nat.add_mul,<- Nat.add_mul];congr 1;omega
            refine ⟨_,_,V.stampNew a.block nx ⟨w.heap.size,a.off,0,esz⟩ (newCap*esz),k2, ?_, ?_⟩
            · have:=VR.slice (V:=V.stampNew a.block nx ⟨w.heap.size,a.off,0,esz⟩ (newCap*esz)) (a:=⟨a.block,a.off,some nx⟩) (L:=⟨w.heap.size,a.off,0,esz⟩) (len:=len+cnt) (cap:=len+cnt+vU) (cap':=newCap)
                (by simp [Inj.stampNew,zZ]) (Nat.le_refl _) (.inl rfl) (yJH k1) (by simp [Inj.stampNew])
              simpa [Loc.at] using this
            · have ext:Ext V (V.stampNew a.block nx ⟨w.heap.size,a.off,0,esz⟩ (newCap*esz)) w.heap.size Z.y:=by
                refine ⟨fun b s L0 h0=>?_,fun b s L0 h0=>?_,fun b s h0 hb0=>?_,fun c hc=>?_,fun c hc=>?_,fun b s L0 h0 hc=>?_⟩
                · simp only [Inj.stampNew];rw [if_neg];exact h0;rintro ⟨rfl,rfl⟩;rw [hnxn] at h0;cases h0
                · have:=hr.lt _ _ _ h0;have hne:L0.c≠w.heap.size:=by omega
                  simp [Inj.stampNew,hne]
                · simp only [Inj.stampNew];rw [if_neg];exact h0;rintro ⟨rfl,rfl⟩;have:=hblk.1;omega
                · have hne:c≠w.heap.size:=by omega
                  simp [Inj.stampNew,hne]
                · have hne:c≠w.heap.size:=by omega
                  simp [Inj.stampNew,hne]
                · simp only [Inj.stampNew] at h0;split at h0
                  · cases h0;simp at hc
                  · exact ⟨_,_,_,h0,rfl⟩
              have hold:∀ c,c<w.heap.size->(World.push (drew w) (.cells (⟨old⟩++⟨u⟩++Builtin.zeroCells z.cells (newCap-(len+cnt))) e)).heap[c]?=w.heap[c]?:=fun c hc=>World.push_old (drew w) _ hc
              refine Good.putBlk hr hb ext (fun b' s hne=>by simp [Inj.stampNew,hne]) (fun b s L0 h0=>?_) (fun c b h0=>?_) (by simp [drew]) (fun c hc _=>hold c hc) ⟨rfl,rfl,rfl,Nat.le_succ _⟩ (zCU.push (drew w) (fun _ _ _ h=>by cases h;rfl)) ?_
              · simp only [Inj.stampNew] at h0;split at h0
                · cases h0;simp [drew]
                · have:=hr.lt _ _ _ h0;simp [drew];omega
              · simp only [Inj.stampNew] at h0;split at h0
                · rename_i hc0;have:=hblk.1;cases h0;simp [drew];omega
                · have:=hr.ownlt _ _ h0;simp [drew];omega
              · refine .cells (fun s' e' hm=>?_) ?_ (fun s₁ e₁ s₂ e₂ L₁ L₂ h₁ h₂ l₁ l₂ hc=>?_) (fun s' hs'=>?_)
                · rcases List.mem_cons.1 hm with hm | hm
                  · simp at hm;obtain ⟨rfl,rfl⟩:=hm;refine ⟨by omega,by rw [hbl];exact Nat.le_refl _,⟨w.heap.size,a.off,0,esz⟩,by simp [Inj.stampNew],⟨_,e,(0,0),World.push_new (drew w) _, ?_,fun _=>rfl, ?_,fun j j1 j2=>?_⟩,by simp [Inj.stampNew],by simp;omega,by simp [Inj.stampNew]⟩
                    · rw [htot];simp [Inj.stampNew]
                    · rw [htot];have:(len+cnt)*esz<=newCap*esz:=Nat.mul_le_mul_right _ k1;simp;omega
                    · simp only at j1;rw [zFI _ _ _ hs2];have hol:old.length=len*esz:=by rw [<- o2.length];exact o1
                      have hget:((⟨old⟩:Array Value)++⟨u⟩++Builtin.zeroCells z.cells (newCap-(len+cnt)))[0+(j-a.off)]?=(old++u)[j-a.off]?:=by
                        rw [Nat.zero_add,<- Array.getElem?_toList];simp only [Array.toList_append];rw [List.getElem?_append_left (by simp;omega)]
                      rw [hget];by_cases x1:j<ex
                      · rw [if_pos x1,List.getElem?_append_left (by omega)];have hj:(bc.drop a.off).take (len*esz)=(bc.drop a.off).take (len*esz):=rfl;have hbj:j<bc.length:=by omega
                        have e1:((bc.drop a.off).take (len*esz))[j-a.off]?=some bc[j]:=by
                          rw [List.getElem?_take_of_lt (by omega),List.getElem?_drop];rw [show a.off+(j-a.off)=j by omega];simp [hbj]
                        obtain ⟨v',q1,q2⟩:=o2.get_some e1;exact ⟨bc[j],v',by simp [hbj],q1,q2.ext ext⟩
                      · rw [if_neg x1,List.getElem?_append_right (by omega)];have hj:j-ex<cs.length:=by omega
                        obtain ⟨u',u1,u2⟩:=hvu.get_some (i:=j-ex) (v:=cs[j-ex]) (by simp [hj]);refine ⟨cs[j-ex],u',by simp [hj], ?_,u2.ext ext⟩
                        rw [show j-a.off-old.length=j-ex by omega];exact u1
                  · have hmem:=vM hm;have hle2:e'<=ex:=zFA (x:=(s',e')) sorted hex hm;obtain ⟨a1,a2,N,hN⟩:=rows s' e' hmem;obtain ⟨arr2,elem2,fr2,n1,n2,n3,n4,n5⟩:=hN.row;have hNlt:=hr.lt _ _ _ hN.loc;refine ⟨by omega,by rw [hbl];omega,N,ext.loc _ _ _ hN.loc,⟨arr2,elem2,fr2,by rw [hold _ hNlt];exact n1,by rw [ext.sz _ _ _ hN.loc];exact n2,n3,n4,fun j j1 j2=>?_⟩,hN.cz,hN.lo,by rw [ext.own _ hNlt];exact hN.own⟩
                    obtain ⟨v,v',q1,q2,q3⟩:=n5 j j1 j2;rw [zFI _ _ _ hs2,if_pos (by omega)];exact ⟨v,v',q1,q2,q3.ext ext⟩
                · refine List.pairwise_cons.2 ⟨fun y hy=>?_,zCN sorted⟩;have h1:=zFA sorted hex hy;obtain ⟨h2,_,_⟩:=rows y.1 y.2 (vM hy);exact ⟨h2,by simp;omega⟩
                · have find:∀ {s e0 L0},(s,e0)∈(nx,ex+cnt*esz)::vY log (zZ a)->(V.stampNew a.block nx ⟨w.heap.size,a.off,0,esz⟩ (newCap*esz)).loc a.block s=some L0 ->
                      L0=⟨w.heap.size,a.off,0,esz⟩\/((s,e0)∈log/\V.loc a.block s=some L0/\L0.c<w.heap.size):=by
                    intro s e0 L0 hm hL
                    rcases List.mem_cons.1 hm with hm | hm
                    · simp at hm;obtain ⟨rfl,rfl⟩:=hm;simp [Inj.stampNew] at hL;exact .inl hL.symm
                    · obtain ⟨_,_,N,hN⟩:=rows _ _ (vM hm);have:=ext.loc _ _ _ hN.loc;rw [hL] at this;cases this;exact .inr ⟨vM hm,hN.loc,hr.lt _ _ _ hN.loc⟩
                  rcases find h₁ l₁ with rfl | ⟨m₁,k₁,t₁⟩ <;> rcases find h₂ l₂ with rfl | ⟨m₂,k₂,t₂⟩
                  · rfl
                  · simp at hc;omega
                  · simp at hc;omega
                  · exact same _ _ _ _ _ _ m₁ m₂ k₁ k₂ hc
                · simp only [Inj.stampNew];rw [if_neg (by omega)];exact fresh s' (by omega)
    · cases h
  · cases h
end
end Go.Lay

namespace Go.Lay
open Go
variable {r clock:Nat} {es:List (Value × Value)} {x x':Value} {Z':St}
section
variable {P:Program} {V:Inj} {Z:St} {w:World}

inductive NextV:Next->Value->Prop
 | value (v:Value):NextV (.value v) v
 | skip:NextV .skip undef

def yBU (P:Program) (V:Inj) (Z:St) (w:World) (v:Value) (Z':St) (s:Sem Next):Prop :=
 ∃ nx v' w' V',s.run P w=.ok nx w'/\NextV nx v'/\VR V' v v'/\Good V Z w V' Z' w'

theorem yYY {es2:List (Value × Value)} {L:Loc} {arr2:Array MapEntry} (hr:Rep V Z w) (hb:yD Z.heap r=some (.map es)) (hl:V.loc r 0=some L)
  (hE:EntR V es2 arr2.toList):Good V Z w V (Z.put r (.map es2)) { w with heap:=w.heap.setIfInBounds L.c (.map arr2 clock) }:=by
 obtain ⟨arr,ck,hrow,_,hown⟩:=yIO hr hb hl;have hlt:=hr.lt _ _ _ hl;refine Good.putBlk hr hb (Ext.refl _ _ _) (fun _ _ _=>rfl) (fun b s L h=>by simpa using hr.lt b s L h) (fun c b h=>by simpa using hr.ownlt c b h) (by simp)
  (fun c _ hc=>?_) ⟨rfl,rfl,rfl,Nat.le_refl _⟩ (.one L.c (fun c hc=>by simp [Array.getElem?_setIfInBounds_ne (Ne.symm hc)]) (fun _ _ _ h=>by simp [hlt] at h)) ?_
 ·have hne:L.c≠c:=fun e=>hc (by rw [<- e];exact hown)
  simp [Array.getElem?_setIfInBounds_ne hne]
 ·refine .map hl hown (arr:=arr2) (clock:=clock) (by simp [hlt]) (by have:=hE.size;simpa using this.symm) (fun i e he=>?_);obtain ⟨e',h1,h2,h3⟩:=hE.ent i e he;exact ⟨e',by simpa using h1,h2,h3⟩

theorem zJL {c:Nat} {arr:Array MapEntry} (o:Obj) (h:w.heap[c]?=some (.map arr clock)):(setObj c o).run P w=.ok () { w with heap:=w.heap.setIfInBounds c o }:=by
 simp [setObj,Sem.run,h]

theorem EntR.push {es:List (Value × Value)} {arr:Array MapEntry} {k v v':Value} {b:Nat} (h:EntR V es arr.toList) (hv:VR V v v'):EntR V (es++[(k,v)]) (arr.push { key:=k,val:=v',born:=b }).toList:=by
 have hs:=h.size;refine ⟨by simp at hs ⊢;omega,fun i e he=>?_⟩
 by_cases hi:i<es.length
 ·rw [List.getElem?_append_left hi] at he;obtain ⟨e',h1,h2,h3⟩:=h.ent i e he;refine ⟨e', ?_,h2,h3⟩
  rw [Array.toList_push,List.getElem?_append_left (by omega)];exact h1
 ·rw [List.getElem?_append_right (by omega)] at he;have hi2:i-es.length=0:=by
   have:=(List.getElem?_eq_some_iff.1 he).1;simp at this;omega
  rw [hi2] at he;simp at he;subst he;refine ⟨⟨k,v',b⟩, ?_,rfl,hv⟩
  rw [Array.toList_push,List.getElem?_append_right (by omega)];rw [show i-arr.toList.length=0 by omega];rfl

theorem EntR.set {es:List (Value × Value)} {arr:Array MapEntry} {k v v':Value} {j:Nat} (h:EntR V es arr.toList) (hv:VR V v v') :
  EntR V (es.set j (k,v)) (arr.modify j fun e=>{ e with key:=k,val:=v' }).toList:=by
 have hs:=h.size;refine ⟨by simp at hs ⊢;omega,fun i e he=>?_⟩
 have hlt:i<es.length:=by have:=(List.getElem?_eq_some_iff.1 he).1;simpa using this
 have hlt':i<arr.size:=by simp at hs;omega
 by_cases hij:j=i
 ·subst hij;rw [List.getElem?_set_self hlt] at he;cases he
  obtain ⟨e',h1,_,_⟩:=h.ent j es[j] (by simp [hlt]);refine ⟨{ e' with key:=k,val:=v' }, ?_,rfl,hv⟩
  have h1':arr[j]?=some e':=by simpa using h1
  simp [Array.getElem?_modify,h1']
 ·rw [List.getElem?_set_ne hij] at he;obtain ⟨e',h1,h2,h3⟩:=h.ent i e he;refine ⟨e', ?_,h2,h3⟩
  have h1':arr[i]?=some e':=by simpa using h1
  simp [Array.getElem?_modify,hij,h1']

theorem zIW {t:TypeId} {kt et:TypeId} {m m' k k':Value} (hm:zDR P t=some (kt,et)) (hmv:m=.map (some r)) (hM:VR V m m') (hK:VR V k k') (hX:VR V x x')
    (hb:yD Z.heap r=some (.map es)) (hk:zIX P false kt k=true) (hr:Rep V Z w)
    (h : (match zBI P kt k es 0 with
          | some (some i)=>match es[i]? with
            | some e=>bif Instr.sameBits 10000 e.1 k then Z.write r (.map (es.set i (k,x))) fun Z=>some (undef,Z) else none
            | none=>none
          | some none=>Z.write r (.map (es++[(k,x)])) fun Z=>some (undef,Z)
          | none=>none)=some (undef,Z')):∃ w',(Instr.mapUpdate t m' k' x').run P w=.ok () w'/\Good V Z w V Z' w':=by
  subst hmv
  obtain ⟨L,hl,rfl⟩:=hM.map_inv
  have hd:=zIE hm
  obtain ⟨arr,clock,hrow,hE,hown⟩:=yIO hr hb hl
  obtain ⟨k1,k2,d,hkd⟩:=zSO hk
  have ek:=hK.rigid _ k1;subst ek
  cases hkx:zBI P kt k es 0 with
  | none=>simp [hkx] at h
  | some r0 =>
    obtain ⟨r',f1,f2⟩:=zUM hkd hkx hE;rw [hkx] at h;cases r0 with
    | none =>
      have:r'=none:=f2;subst this;simp only [St.write_eq,Option.some.injEq,Prod.mk.injEq,true_and] at h;subst h;refine ⟨_, ?_,yYY (arr2:=arr.push { key:=k,val:=x',born:=clock }) (clock:=clock+1) hr hb hl (hE.push hX)⟩
      simp [Instr.mapUpdate,run_underlying hd,uV hrow,k2,f1,zJL _ hrow]
    | some j =>
      obtain ⟨e1,g1,_,g2⟩:=f2;simp only at h;cases hej:es[j]? with
      | none=>simp [hej] at h
      | some e =>
        simp only [hej] at h;cases hsb:Instr.sameBits 10000 e.1 k with
        | false=>rw [hsb,cond_false] at h;cases h
        | true =>
          rw [hsb,cond_true,St.write_eq] at h;simp at h;subst h;obtain ⟨e2,q1,q2,q3⟩:=hE.ent j e hej;rw [show j-0=j from rfl] at g1;rw [q1] at g1;cases g1;subst g2;have q1':arr[j]?=some e1:=by simpa using q1
          refine ⟨_, ?_,yYY (arr2:=arr.modify j fun e=>{ e with key:=k,val:=x' }) (clock:=clock) hr hb hl (hE.set hX)⟩
          simp [Instr.mapUpdate,run_underlying hd,uV hrow,k2,f1,q1',q2,Instr.keyThatStays,hsb,zJL _ hrow]

theorem yCW {st xt ty:TypeId} {s s' v:Value} (hz:vR P) (h:yA P st xt s x Z=some (v,Z')) (hr:Rep V Z w) (hf:zUU V Z.y Z'.y) (hs:VR V s s') (hx:VR V x x') :
  ∃ v' w' V',(Builtin.append_ #[st,xt] ty #[s',x']).run P w=.ok v' w'/\VR V' v v'/\Good V Z w V' Z' w':=by
 unfold yA at h;split at h
 ·rename_i e n xd base len cap hes hxd;have hst:P.underlying st=some (.slice e)/\yU P e=some n:=by
   unfold xS at hes;split at hes
   ·rename_i e0 hd;cases hsz:yU P e0 with
    | none=>simp [hsz] at hes
    | some n0=>simp [hsz] at hes;obtain ⟨rfl,rfl⟩:=hes;exact ⟨hd,hsz⟩
   ·cases hes
  split at h
  ·rename_i ei hei;split at h
   ·rename_i z hzero;split at h
    ·rename_i cnt cs hsrc;cases hcond:zCA (len+cnt) n ei.bytes && cs.all cellB && Nat.beq cs.length (cnt*n) && zQ RD z && Nat.beq z.cells.toList.length n with
     | false=>rw [hcond,cond_false] at h;cases h
     | true =>
      rw [hcond,cond_true] at h;simp only [Bool.and_eq_true] at hcond;obtain ⟨⟨⟨⟨c1,c2⟩,c3⟩,c4⟩,c5⟩:=hcond;have c3:=Nat.eq_of_beq_eq_true c3;have c5:=Nat.eq_of_beq_eq_true c5;simp only [zCA,Bool.and_eq_true] at c1;have r1:=(zP _ _).1 c1.1.1;have r2:=(zP _ _).1 c1.1.2;have r3:=(zP _ _).1 c1.2;obtain ⟨cs',hcv,hcr,hsx⟩:=zIT (P:=P) hsrc hr hx c3 c4;have hC:AppC P st xt e n xd ei z x' len cnt:=⟨hst.1,hst.2,hxd,hei,hzero,by simpa using c5,r1,r3,hsx⟩;have hcl:cs'.length=cnt*n:=by rw [<- hcv.length];exact c3
      unfold vZ at h;cases hle:Nat.ble (len+cnt) (yE cap) with
      | true =>
       rw [hle,cond_true] at h;have hle:=(zP _ _).1 hle;cases base with
       | none =>
        have e1:=hs.slice_none;subst e1;simp only at h;cases hc0:Nat.beq cnt 0 with
        | false=>rw [hc0,cond_false] at h;cases h
        | true =>
         rw [hc0,cond_true] at h;simp at h;obtain ⟨rfl,rfl⟩:=h;have hle2:len+cnt<=cap:=by unfold yE at hle;split at hle <;> omega
         refine ⟨_,w,V,zBW (w':=w) hC hle2 hcr rfl,.atom rfl,.refl hr⟩
       | some a =>
        obtain ⟨L,cap',A,hl,hlo,hA,hc,hsz,rfl⟩:=hs.slice_inv;have hle2:len+cnt<=cap':=Nat.le_trans hle (zEG hc);simp only at h;cases hc0:Nat.beq cnt 0 with
        | true =>
         rw [hc0,cond_true] at h;have hc0:=Nat.eq_of_beq_eq_true hc0;simp at h;obtain ⟨rfl,rfl⟩:=h;have:cs'=[]:=List.eq_nil_of_length_eq_zero (by rw [hcl,hc0];simp);subst this;refine ⟨_,w,V,zBW (w':=w) hC hle2 hcr ?_, ?_,.refl hr⟩
         ·simp [storeCells]
         ·exact .slice hl hlo (hA.imp id (fun x=>⟨by have:=x.2.2;omega,x.2.1,x.2.2⟩)) hc hsz
        | false =>
         rw [hc0,cond_false] at h;have hA:A=L.at a.off:=hA.elim id (fun x=>by
          exfalso;have h0:cnt=0:=by have:=x.2.2;omega
          rw [h0] at hc0;cases hc0)
         subst hA;cases hw:yZ Z (zS a (len*n)) cs with
         | none=>simp [hw] at h
         | some Z1 =>
          simp [hw] at h;obtain ⟨rfl,rfl⟩:=h;obtain ⟨w',g1,g2⟩:=zEJ (P:=P) (a:=zS a (len*n)) (L:=L) hw hr hl (by simp [zS];omega) hcv;refine ⟨_,w',V,zBW (w':=w') hC hle2 hcr ?_,.slice hl hlo (.inl rfl) hc hsz,g2⟩
          simp only [zIS _ _ _ hlo];exact g1
      | false =>
       rw [hle,cond_false] at h;have hgt:¬ len+cnt<=yE cap:=fun e=>by rw [(zP _ _).2 e] at hle;cases hle
       cases hex:yY cap with
       | true =>
        rw [hex,cond_true] at h;have hcapl:yE cap=cap:=by have:=(xI cap).1 hex;unfold yE;rw [if_neg (by omega)]
        rw [hcapl] at hgt;have hg:=Good.drew hr;have hzl:∀ m,(Builtin.zeroCells z.cells m).size=m*n:=fun m=>by
         have:z.cells.size=n:=by simpa using c5
         simp [Builtin.zeroCells,this]
        have fin:∀ {old old':List Value} {base':Option Addr},VRs V old old'->old.length=len*n ->
          (Builtin.firstCells n len (.slice base' len cap)).run P (Lay.drew w)=.ok ⟨old'⟩ (Lay.drew w) ->
          Z'=Z.add (.cells (old++cs) n [(0,(old++cs).length)] 1 false) ->
          ∃ v' w' V',(Builtin.append_ #[st,xt] ty #[.slice base' len cap,x']).run P w=.ok v' w'/\VR V' (.slice (some ⟨Z.y,0,none⟩) (len+cnt) (len+cnt+vU)) v'/\Good V Z w V' Z' w':=by
         intro old old' base' ho hol hrun hZ
         subst hZ
         obtain ⟨cs2,hcv2,hcr2,_⟩:=zIT (P:=P) hsrc hg.rep hx c3 c4
         obtain ⟨newCap,k1,k2⟩:=zUR (P:=P) (w:=w) (ty:=ty) (base:=base') (old:=⟨old'⟩) (new:=⟨cs2⟩) hC hgt hrun hcr2
         have hgood:=zPO (esz:=n) (elem:=e) (tail:=(Builtin.zeroCells z.cells (newCap-(len+cnt))).toList) hg.rep hf (VRs.append ho hcv2)
         have hlen:(old++cs).length+(Builtin.zeroCells z.cells (newCap-(len+cnt))).toList.length=newCap*n:=by
          simp only [List.length_append,Array.length_toList,hzl,hol,c3];rw [<- Nat.add_mul,<- Nat.add_mul];congr 1;omega
         refine ⟨_,_,V.add Z.y (Lay.drew w).heap.size (newCap*n) n,k2,zID (Z:=Z) (w:=Lay.drew w) (m:=newCap*n) (esz:=n) (yJH k1) (Nat.le_refl _), ?_⟩
         rw [hlen] at hgood
         have e1:((⟨old'⟩:Array Value)++⟨cs2⟩++Builtin.zeroCells z.cells (newCap-(len+cnt)))=⟨old'++cs2++(Builtin.zeroCells z.cells (newCap-(len+cnt))).toList⟩:=by
          apply Array.ext';simp
         rw [e1]
         exact hg.trans hgood
        cases base with
        | none =>
         have e1:=hs.slice_none;subst e1;simp only at h;cases hl0:Nat.beq len 0 with
         | false=>rw [hl0,cond_false] at h;cases h
         | true =>
          rw [hl0,cond_true,yO] at h;have hl0:=Nat.eq_of_beq_eq_true hl0;simp at h;obtain ⟨rfl,rfl⟩:=h;exact fin (old:=[]) (old':=[]) .nil (by simp [hl0]) (by simp [Builtin.firstCells]) rfl
        | some a =>
         obtain ⟨L,cap',A,hl,hlo,hA,hc,hsz,rfl⟩:=hs.slice_inv;have:cap'=cap:=by unfold zKQ at hc;rw [if_pos hex] at hc;exact hc
         subst this;simp only at h;cases hrd:yR Z a (len*n) with
         | none=>simp [hrd] at h
         | some old =>
          simp only [hrd,yO] at h;simp at h;obtain ⟨rfl,rfl⟩:=h;obtain ⟨old',o1,o2,o3⟩:=zFB (P:=P) (w:=Lay.drew w) hrd hg.rep hl hlo (hA.imp id (fun x=>by rw [x.1];simp));exact fin o2 o1 (by simp [Builtin.firstCells,o3]) (by simp)
       | false =>
        rw [hex,cond_false] at h;cases base with
        | none=>simp at h
        | some a =>
         obtain ⟨L,cap',A,hl,hlo,hA,hc,hsz,rfl⟩:=hs.slice_inv;simp only at h;exact yCX (P:=P) h hr hC (zEG hc) (by omega) hl hlo (hA.imp id (fun x=>⟨x.1,x.2.2⟩)) hsz hcv c2 c3 (fun w2 hr2=>by
          obtain ⟨u,u1,u2,_⟩:=zIT (P:=P) (w:=w2) hsrc hr2 hx c3 c4;exact ⟨u,u2,u1⟩)
    ·cases h
   ·cases h
  ·cases h
 ·cases h
end
end Go.Lay

namespace Go.Lay
open Go
variable {fv v:Value} {args as args':List Value} {r:FnRef} {α:Type} {c:Bool} {x:Option α} {z:α} {fn:Func}
section
variable {P:Program} {V:Inj} {Z:St} {w:World}

theorem ySK (h:zCB fv args=some (r,as)) :
  (∃ f first cap,fv=.func (.func f) first cap/\r=.func f/\as=first.toList++(args++cap.toList))\/(∃ l first cap,fv=.func (.yield l) first cap/\r=.yield l/\as=first.toList++args):=by
 unfold zCB at h;split at h
 ·simp at h;exact .inl ⟨_,_,_,rfl,h.1.symm,h.2.symm⟩
 ·simp at h;exact .inr ⟨_,_,_,rfl,h.1.symm,h.2.symm⟩
 ·cases h

theorem zKR {fv':Value} (h:zCB fv args=some (r,as)) (hf:VR V fv fv') (ha:VRs V args args') :
  ∃ as',VRs V as as'/\((∃ f cap,r=.func f/\∃ d,(∀ w,(Deferred.ofValue fv' ⟨args'⟩).run P w=.ok d w)/\d.target=.fn (.func f) cap/\d.args++cap=⟨as'⟩) \/
   (∃ l L cap,r=.yield l/\V.loc l 0=some L/\∃ d,(∀ w,(Deferred.ofValue fv' ⟨args'⟩).run P w=.ok d w)/\d.target=.fn (.yield L.c) cap/\d.args=⟨as'⟩)):=by
 rcases ySK h with ⟨f,first,cap,rfl,rfl,rfl⟩ | ⟨l,first,cap,rfl,rfl,rfl⟩
 ·obtain ⟨fn',f',c',rfl,hfn,h1,h2⟩:=hf.func_inv;cases hfn
  refine ⟨f'.toList++(args'++c'.toList),VRs.append h1 (VRs.append ha h2),.inl ⟨f,c',rfl,_,fun w=>rfl,rfl, ?_⟩⟩
  apply Array.ext';simp
 ·obtain ⟨fn',f',c',rfl,hfn,h1,h2⟩:=hf.func_inv;cases hfn with
  | yield hl =>
   refine ⟨f'.toList++args',VRs.append h1 ha,.inr ⟨l,_,c',rfl,hl,_,fun w=>rfl,rfl, ?_⟩⟩
   apply Array.ext';simp


theorem zMB (h:(bif c then x else none)=some z):c=true/\x=some z:=by cases c <;> simp_all
theorem yWA {y:Option α} (h:(bif c then x else y)=some z):(c=true/\x=some z)\/(c=false/\y=some z):=by cases c <;> simp_all
theorem xMD (h:fn.name=zDA):Extern.find fn=some Extern.BytealgCount.count:=by
 have h1:Extern.allGenericRows.lookup zDA=none:=by kernel_rfl
 have h2:Extern.allTypedRows.lookup zDA=none:=by kernel_rfl
 have h3:Extern.allRows.lookup zDA=some Extern.BytealgCount.count:=by kernel_rfl
 unfold Extern.find;simp only [h,h1,h2,h3];rfl
theorem xKJ (h:fn.name=zCX):Extern.find fn=some Extern.BytealgIndexByte.indexByte:=by
 have h1:Extern.allGenericRows.lookup zCX=none:=by kernel_rfl
 have h2:Extern.allTypedRows.lookup zCX=none:=by kernel_rfl
 have h3:Extern.allRows.lookup zCX=some Extern.BytealgIndexByte.indexByte:=by kernel_rfl
 unfold Extern.find;simp only [h,h1,h2,h3];rfl
theorem yEP (h : fn.name = zDA ∨ fn.name = zCX) (ho : fn.origin = fn.name ∨ fn.origin = "") : Extern.findNext fn = none := by
 have h1:Extern.allNextRows.lookup zDA=none:=by kernel_rfl
 have h2:Extern.allNextRows.lookup zCX=none:=by kernel_rfl
 have h3 : Extern.allNextRows.lookup "" = none := by kernel_rfl
 unfold Extern.findNext;rcases h with h | h <;> rcases ho with ho | ho <;> simp only [ho,h,h1,h2,h3] <;> rfl

theorem yCI:∀ (cs cs':List Value) (bs:List UInt8) (a:Addr) (acc:ByteArray),zBV cs=some bs->VRs V cs cs'->(∀ j v,cs'[j]?=some v->w.cell? (a.add j)=some v) ->
  (Extern.Bytes.loadBytes a cs.length acc).run P w=.ok ⟨⟨acc.data.toList++bs⟩⟩ w:=by
 intro cs;induction cs with
 | nil =>
  intro cs' bs a acc hb hv hc;simp [zBV] at hb;subst hb;simp [Extern.Bytes.loadBytes]
 | cons c cs ih =>
  intro cs' bs a acc hb hv hc;cases hv with
  | cons h1 h2 =>
   rename_i c' cs';unfold zBV at hb;split at hb
   ·cases ‹_::_=[]›
   ·rename_i n l heq;cases heq
    split at hb
    ·rename_i bs' hbs;simp at hb;subst hb;have:=h1.int_inv;subst this;have hc0:=hc 0 _ rfl;have ha0:a.add 0=a:=by simp [Addr.add]
     rw [ha0] at hc0;have hx:=ih cs' bs' (a.add 1) (acc.push n.toNat.toUInt8) hbs h2 (fun j v hj=>by
      have:=hc (j+1) v (by simpa using hj);have e:(a.add 1).add j=a.add (j+1):=by
       rcases Nat.eq_zero_or_pos j with rfl | hj
       ·simp [Addr.add]
       ·have hj:j≠0:=by omega
        simp [Addr.add,hj];omega
      rw [e];exact this)
     simp only [List.length_cons,Extern.Bytes.loadBytes,Sem.run_bind,run_load,hc0];show (Extern.Bytes.loadBytes (a.add 1) _ (acc.push n.toNat.toUInt8)).run P w=_;rw [hx];simp [ByteArray.push]
    ·cases hb
   ·cases hb

theorem yVV {v':Value} {bs:List UInt8} (h:zOC Z v=some bs) (hr:Rep V Z w) (hv:VR V v v'):(Extern.Bytes.bytesOf v').run P w=.ok ⟨⟨bs⟩⟩ w:=by
 unfold zOC at h;split at h
 ·have:=hv.string_inv;subst this;simp at h;subst h;simp [Extern.Bytes.bytesOf]
 ·have:=hv.slice_none;subst this;simp at h;subst h;simp [Extern.Bytes.bytesOf];rfl
 ·obtain ⟨L,c',A,hl,hlo,hA,_,_,rfl⟩:=hv.slice_inv;split at h
  ·rename_i cs hcs;rcases hA with rfl | ⟨rfl,_,_⟩;case inr =>
    obtain ⟨cs',h1,h2,h3⟩:=uN hcs hr hl hlo;have hcs:cs=[]:=List.eq_nil_of_length_eq_zero h1;subst hcs;simp [zBV] at h;subst h;simp [Extern.Bytes.bytesOf,Extern.Bytes.loadBytes];rfl
   obtain ⟨cs',h1,h2,h3⟩:=uN hcs hr hl hlo;have:=yCI (P:=P) cs cs' bs (L.at _) .empty h h2 h3;rw [h1] at this;simp only [Extern.Bytes.bytesOf,this];rfl
  ·cases h
 ·cases h

theorem xLP (h:yCM P Z r args=some v) (hr:Rep V Z w) (ha:VRs V args args') :
  ∃ g,r=.func g/\(callFunc g ⟨args'⟩).run P w=.ok (.value v) w/\VR V v v:=by
 unfold yCM at h;split at h
 ·rename_i g;split at h
  ·rename_i fn hfn;split at h
   ·cases h
   ·rename_i hbody;split at h
    ·rename_i b c
     ·obtain ⟨ho,h⟩:=zMB h;split at h
      ·rename_i bs hbs;cases ha with
       | cons hb ha =>
        cases ha with
        | cons hc ha =>
         cases ha
         have:=hc.int_inv;subst this;have hbr:=yVV (P:=P) hbs hr hb;have ho : fn.origin = fn.name ∨ fn.origin = "" := by simpa using ho
         refine ⟨g,rfl, ?_⟩
         unfold xWU at h;rcases yWA h with ⟨hn,h⟩ | ⟨_,h⟩
         ·have hn:fn.name=zDA:=by simpa using hn
          have hne : ¬ zDA = "runtime.NumGoroutine" := by
           intro e;have h2 : (zDA == "runtime.NumGoroutine") = false := by kernel_rfl
           rw [e] at h2;simp at h2
          have hf:=xMD hn;have hnx:=yEP (.inl hn) ho;simp at h;subst h;refine ⟨?_,.int _ _⟩
          have hcn:∀ b' c',Extern.BytealgCount.count ⟨[b',c']⟩=(do
            let b <- Extern.Bytes.bytesOf b'
            let c <- Extern.Bytes.asByte c'
            pure (goInt (b.foldl (fun n x=>if x == c then n+1 else n) (0:Nat)))):=fun _ _=>rfl
          simp [callFunc,hfn,hn,hne,hbody,hnx,hf,hcn,hbr,Extern.Bytes.asByte]
         ·obtain ⟨hn,h⟩:=zMB h;have hn:fn.name=zCX:=by simpa using hn
          have hne : ¬ zCX = "runtime.NumGoroutine" := by
           intro e;have h2 : (zCX == "runtime.NumGoroutine") = false := by kernel_rfl
           rw [e] at h2;simp at h2
          have hf:=xKJ hn;have hnx:=yEP (.inr hn) ho;have hcn:∀ b' c',Extern.BytealgIndexByte.indexByte ⟨[b',c']⟩=(do
            let b <- Extern.Bytes.bytesOf b'
            let c <- Extern.Bytes.asByte c'
            match (List.range b.size).find? fun i=>b[i]! == c with
            | some i=>pure (goInt i)
            | none=>pure (goInt (-1))):=fun _ _=>rfl
          split at h
          ·rename_i i hi;simp at h;subst h;refine ⟨?_,.int _ _⟩
           simp [callFunc,hfn,hn,hne,hbody,hnx,hf,hcn,hbr,Extern.Bytes.asByte,hi]
          ·rename_i hi;simp at h;subst h;refine ⟨?_,.int _ _⟩
           simp [callFunc,hfn,hn,hne,hbody,hnx,hf,hcn,hbr,Extern.Bytes.asByte,hi]
      ·cases h
    ·cases h
  ·cases h
 ·cases h
theorem xLQ {f:Operand} (h:xDC P f Z r args=some v) (hr:Rep V Z w) (ha:VRs V args args') :
  ∃ g,r=.func g/\(callFunc g ⟨args'⟩).run P w=.ok (.value v) w/\VR V v v:=xLP (zMB h).2 hr ha
end
end Go.Lay

namespace Go.Lay
open Go
variable {v:Value} {Z':St} {o:Oper} {ev ev':Operand->Value}
section
variable {P:Program} {V:Inj} {Z:St} {w:World}

theorem zJB {place:Nat->Option (Nat × Nat)}:∀ {parts:List (Nat × Value)} {cells out:Array Value},Instr.fill place cells parts=some out->out.size=cells.size
 | [],cells,out,h=>by simp [Instr.fill] at h;rw [h]
 | (i,v)::rest,cells,out,h=>by
  simp only [Instr.fill] at h;split at h
  ·cases h
  ·split at h
   ·cases h
   ·rw [zJB h];rename_i off size _ _;have:∀ (l:List (Value × Nat)) (c:Array Value),(l.foldl (fun cs (x:Value × Nat)=>cs.setIfInBounds (off+x.2) x.1) c).size=c.size:=by
     intro l;induction l with
     | nil=>intro c;rfl
     | cons x l ih=>intro c;rw [List.foldl_cons,ih];simp
    rw [<- Array.foldl_toList];exact this _ _

theorem zWK (elem:TypeId) (v:Value) (w:World):(newVar elem v).run P w=.ok ⟨w.heap.size,0,none⟩ (World.push w (.cells ⟨v.cells.toList⟩ elem)):=by
 unfold newVar;have:=zER (P:=P) elem v.cells.toList w;rw [wM] at this ⊢;exact this

theorem zAM {t:TypeId} {e:TypeId} {n:Nat} (h:xS P t=some (e,n)):P.underlying t=some (.slice e)/\yU P e=some n:=by
 unfold xS at h;split at h
 ·rename_i e0 hd;cases hsz:yU P e0 with
  | none=>simp [hsz] at h
  | some n0=>simp [hsz] at h;obtain ⟨rfl,rfl⟩:=h;exact ⟨hd,hsz⟩
 ·cases h

theorem zAD {z:Value} (h:zQ RD z=true):∀ m,VRs V (yL z.cells.toList m) (yL z.cells.toList m)
 | 0=>.nil
 | m+1=>VRs.append (VR.refl_rigid RD h).cells (zAD h m)

theorem zUC (hr:Rep V Z w) (hf:zUU V Z.y (Z.y+1)) :
  Good V Z w (V.add Z.y w.heap.size 0 0) (Z.add (.map [])) (World.push w (.map #[] 0)) :=
 Good.addBlk hr hf (fun _ _ _ h=>by cases h) (.map (Inj.add_loc _ _ _ _) (by simp [Inj.add]) (World.push_new _ _) rfl (fun i e he=>by simp at he))

theorem zXP (hr:Rep V Z w):VR (V.add Z.y w.heap.size 0 0) (.map (some Z.y)) (.map (some w.heap.size)) :=
 .map (L:=⟨w.heap.size,0,0,_⟩) (Inj.add_loc _ _ _ _)

def yJQ (P:Program) (V:Inj) (Z:St) (w:World) (v:Value) (Z':St) (s:Sem Next):Prop :=
 ∃ nx v' obj y m z,s.run P w=.ok nx (World.push w obj)/\NextV nx v'/\VR (V.add Z.y w.heap.size m z) v v'/\Z'=Z.add y/\Good V Z w (V.add Z.y w.heap.size m z) Z' (World.push w obj)
theorem yJQ.eff {s:Sem Next} (h:yJQ P V Z w v Z' s):yBU P V Z w v Z' s:=by
 obtain ⟨nx,v',obj,y,m,z,h1,h2,h3,h4,h5⟩:=h;exact ⟨nx,v',_,_,h1,h2,h3,h5⟩

theorem zXR (hz:vR P) (hm:uB o.op=true) (h:zN P ev Z o.op=some (v,Z')) (hr:Rep V Z w)
  (hev:∀ x∈o.op.operands,VR V (ev x) (ev' x)):yJQ P V Z w v Z' (execOp ev' o):=by
 have hf:=hr.free (Z.y+1);unfold zN at h;split at h
 ·rename_i t ho;cases hzt:uQ P t with
  | none=>simp [hzt] at h
  | some z =>
   simp only [hzt,yO,wL] at h;simp at h;obtain ⟨rfl,rfl⟩:=h;have hzr:=hz t z hzt;refine ⟨_,_,_,_,_,_, ?_,.value _,zXO,rfl,zFS (elem:=t) hr hf (VR.refl_rigid RD hzr).cells⟩
   ·simp only [execOp,ho];simp [Instr.alloc,zBO hzt,zWK]
 ·rename_i t x ho;simp only [yO,wL] at h;simp at h;obtain ⟨rfl,rfl⟩:=h;have hx:=hev x (by simp [ho,Op.operands]);refine ⟨_,_,_,_,_,_, ?_,.value _,zXO,rfl,zFS (elem:=t) hr hf hx.cells⟩
  ·simp only [execOp,ho];simp [Instr.box,zWK]
 ·rename_i t len ps ho;split at h
  ·rename_i e n hes;obtain ⟨hd,hsz⟩:=zAM hes;cases hzt:uQ P e with
   | none=>simp [hzt] at h
   | some z =>
    simp only [hzt] at h;cases hc:Nat.ble (len*n) 16777216 && Nat.beq z.cells.toList.length n with
    | false=>rw [hc,cond_false] at h;cases h
    | true =>
     rw [hc,cond_true] at h;simp only [Bool.and_eq_true] at hc;have c1:=(zP _ _).1 hc.1;have c2:=Nat.eq_of_beq_eq_true hc.2;split at h
     ·rename_i cs hfill;simp only [yO] at h;simp at h;obtain ⟨rfl,rfl⟩:=h;have hzr:=hz e z hzt;obtain ⟨cs',f1,f2⟩:=zKE (V:=V) (parts':=ps.toList.map fun p=>(p.1,ev' p.2)) hfill (zAD hzr len) (by simp [List.map_map,Function.comp_def])
       (by
        have:=zCY (ps.toList.map (·.2)) (ev:=ev) (ev':=ev') (fun x hx=>hev x (by simp [ho,Op.operands] at hx ⊢;exact hx));simpa [List.map_map,Function.comp_def] using this)
      have hlen:cs'.length=len*n:=by
       have:=zJB f1;simpa [wX,c2] using this
      refine ⟨_,_,_,_,_,_, ?_,.value _,zID (m:=cs.length) (zEF len) (by rw [f2.length,hlen];exact Nat.le_refl _),rfl,zFS (elem:=e) hr hf f2⟩
      ·have e1:ps.map (fun (i,x)=>(i,ev' x))=(⟨ps.toList.map fun p=>(p.1,ev' p.2)⟩:Array (Nat × Value)):=by
        apply Array.ext';simp
       have e3:(Array.range (len*n)).map ((if len*n=0 then #[] else z.cells)[· % (if len*n=0 then #[] else z.cells).size]!)=(⟨yL z.cells.toList len⟩:Array Value):=by
        by_cases h0:len*n=0
        ·have:yL z.cells.toList len=[]:=List.eq_nil_of_length_eq_zero (by rw [wX,c2];exact h0);rw [this,h0];simp
        ·rw [if_neg h0];have:=zFR (z:=z.cells.toList) (m:=len) (n:=n) c2 (fun hp=>by
          rcases Nat.eq_zero_or_pos n with h1 | h1
          ·rw [h1] at h0;simp at h0
          ·exact h1)
         rw [wM] at this;exact this
       simp only [execOp,ho,e1,Instr.buildSlice,Sem.run_bind,run_underlying hd,yW hsz,Result.andThen_ok];rw [if_neg (by omega)];by_cases h0:len*n=0
       ·rw [if_pos h0] at e3;rw [if_pos h0];simp only [Sem.run_bind,Sem.run_pure,Result.andThen_ok,e3,f1,zER]
       ·rw [if_neg h0] at e3;rw [if_neg h0];simp only [Sem.run_bind,Sem.run_pure,Result.andThen_ok,zBO hzt,e3,f1,zER]
     ·cases h
  ·cases h
 ·rename_i t r ho;split at h
  ·split at h
   ·rename_i ke hmo;simp only [St.new_eq] at h;simp at h;obtain ⟨rfl,rfl⟩:=h;refine ⟨_,_,_,_,_,_, ?_,.value _,zXP hr,rfl,zUC hr hf⟩
    simp only [execOp,ho];simp [Instr.makeMap,World.push]
   ·cases h
  ·rename_i x;have hx:=hev x (by simp [ho,Op.operands]);split at h
   ·rename_i ke k i hmo hxi;rw [hxi] at hx;have e:=hx.int_inv;simp only [St.new_eq] at h;simp at h;obtain ⟨rfl,rfl⟩:=h;refine ⟨_,_,_,_,_,_, ?_,.value _,zXP hr,rfl,zUC hr hf⟩
    simp only [execOp,ho];have hd:=zIE (P:=P) (t:=t) (k:=ke.1) (e:=ke.2) hmo;simp [Instr.makeMap,World.push,e,run_underlying hd,asInt,asIntOf]
   ·cases h
 ·rename_i t l c ho;have hl:=hev l (by simp [ho,Op.operands]);have hc:=hev c (by simp [ho,Op.operands]);split at h
  ·rename_i e n kl li kc ci hes hle hce;rw [hle] at hl;rw [hce] at hc;have el:=hl.int_inv;have ec:=hc.int_inv;obtain ⟨hd,hsz⟩:=zAM hes;split at h
   ·rename_i z ei hzt hei;cases hcond:leI 0 li && leI li ci && leI ci 1073741824 && zCA ci.toNat n ei.bytes && Nat.beq z.cells.toList.length n && Nat.blt 0 n with
    | false=>rw [hcond,cond_false] at h;cases h
    | true =>
     rw [hcond,cond_true,yO] at h;simp only [Bool.and_eq_true,vG] at hcond;obtain ⟨⟨⟨⟨⟨c1,c2⟩,c3⟩,c4⟩,c5⟩,c6⟩:=hcond;simp only [zCA,Bool.and_eq_true] at c4;have r3:=(zP _ _).1 c4.2;have c5:=Nat.eq_of_beq_eq_true c5;have c6:0<n:=(zP 1 n).1 c6;simp at h;obtain ⟨rfl,rfl⟩:=h;have hzr:=hz e z hzt;have c0:0<=ci:=by omega
     refine ⟨_,_,_,_,_,_, ?_,.value _,zID (m:=(yL z.cells.toList ci.toNat).length) (zEF ci.toNat) (by rw [wX,c5];exact Nat.le_refl _),rfl,zFS (elem:=e) hr hf (zAD hzr _)⟩
     ·have w1:=zHG (i:=ci) c0 c3;have w2:=zHG (i:=li) c1 (by omega);have hb:=yIG (i:=ci) (b:=ei.bytes) c0 c3 r3;have hb':¬ (2:Int) ^ 48<(ei.bytes:Int)*ci:=by rw [Int.mul_comm];exact hb
      have e3:(Array.range (ci.toNat*n)).map ((if ci.toNat*n=0 then #[] else z.cells)[· % (if ci.toNat*n=0 then #[] else z.cells).size]!)=(⟨yL z.cells.toList ci.toNat⟩:Array Value):=by
       by_cases h0:ci.toNat*n=0
       ·have:yL z.cells.toList ci.toNat=[]:=List.eq_nil_of_length_eq_zero (by rw [wX,c5];exact h0);rw [this,h0];simp
       ·rw [if_neg h0];have:=zFR (z:=z.cells.toList) (m:=ci.toNat) (n:=n) c5 (fun _=>c6);rw [wM] at this;exact this
      have hcondF:((decide (ci<0) || decide ((2:Int) ^ 48<(ei.bytes:Int)*ci)) || decide (li<0) || decide (ci<li))=false:=by
       simp [hb'];omega
      simp only [execOp,ho,el,ec,Instr.makeSlice,Sem.run_bind,run_underlying hd,yW hsz,Result.andThen_ok,asInt,asIntOf,Sem.run_pure,uU hei,w1,w2,gt_iff_lt];rw [if_neg (by simpa using hcondF)];simp only [Sem.run_bind,Sem.run_pure,Result.andThen_ok,run_askRoom,yW hsz];by_cases h0:ci.toNat*n=0
      ·rw [if_pos h0] at e3;rw [if_pos h0];simp only [Sem.run_bind,Sem.run_pure,Result.andThen_ok,e3,zER]
      ·rw [if_neg h0] at e3;rw [if_neg h0];simp only [Sem.run_bind,Sem.run_pure,Result.andThen_ok,zBO hzt,e3,zER]
   ·cases h
  ·cases h
 all_goals (exfalso;simp_all [uB])

theorem yNU (hz:vR P) (h:zN P ev Z o.op=some (v,Z')) (hr:Rep V Z w) (_hf:zUU V Z.y Z'.y)
  (hev:∀ x∈o.op.operands,VR V (ev x) (ev' x)):yBU P V Z w v Z' (execOp ev' o):=by
 cases hm:uB o.op with
 | true=>exact (zXR hz hm h hr hev).eff
 | false =>
 unfold zN at h;split at h
 ·simp_all [uB]
 ·simp_all [uB]
 ·simp_all [uB]
 ·simp_all [uB]
 ·simp_all [uB]
 ·rename_i t a x ho;have ha:=hev a (by simp [ho,Op.operands]);have hx:=hev x (by simp [ho,Op.operands]);split at h
  ·rename_i a0 ha0;rw [ha0] at ha;obtain ⟨L,hl,hlo,e⟩:=ha.ptr_inv;cases hs:zHN P Z t a0 (ev x) with
   | none=>simp [hs] at h
   | some Z1 =>
    simp [hs] at h;obtain ⟨rfl,rfl⟩:=h;obtain ⟨w',h1,h2⟩:=yKF hs hr hl hlo hx;refine ⟨_,_,w',V, ?_,.skip,.undef,h2⟩
    simp [execOp,ho,e,Instr.storeAt,Instr.sureAddr,h1]
  ·cases h
 ·rename_i t m k x ho;split at h
  ·rename_i kt et r hmo hmv;split at h
   ·rename_i es hb;cases hk:zIX P false kt (ev k) with
    | false=>rw [hk,cond_false] at h;cases h
    | true =>
     rw [hk,cond_true] at h;have hv:v=undef:=by
      split at h
      ·split at h
       ·rename_i e _;cases hsb:Instr.sameBits 10000 e.1 (ev k) with
        | false=>rw [hsb,cond_false] at h;cases h
        | true=>rw [hsb,cond_true,St.write_eq] at h;simp at h;exact h.1.symm
       ·cases h
      ·rw [St.write_eq] at h;simp at h;exact h.1.symm
      ·cases h
     subst hv;obtain ⟨w',h1,h2⟩:=zIW hmo hmv (hev m (by simp [ho,Op.operands])) (hev k (by simp [ho,Op.operands])) (hev x (by simp [ho,Op.operands])) hb hk hr h;refine ⟨_,_,w',V, ?_,.skip,.undef,h2⟩
     simp [execOp,ho,h1]
   ·cases h
  ·cases h
 ·rename_i t m k x ho;split at h
  ·rename_i kt et r hmo hmv;split at h
   ·rename_i es hb;cases hk:zIX P false kt (ev k) with
    | false=>rw [hk,cond_false] at h;cases h
    | true =>
     rw [hk,cond_true] at h;have hv:v=undef:=by
      split at h
      ·split at h
       ·rename_i e _;cases hsb:Instr.sameBits 10000 e.1 (ev k) with
        | false=>rw [hsb,cond_false] at h;cases h
        | true=>rw [hsb,cond_true,St.write_eq] at h;simp at h;exact h.1.symm
       ·cases h
      ·rw [St.write_eq] at h;simp at h;exact h.1.symm
      ·cases h
     subst hv;obtain ⟨w',h1,h2⟩:=zIW hmo hmv (hev m (by simp [ho,Op.operands])) (hev k (by simp [ho,Op.operands])) (hev x (by simp [ho,Op.operands])) hb hk hr h;refine ⟨_,_,w',V, ?_,.skip,.undef,h2⟩
     simp [execOp,ho,h1]
   ·cases h
  ·cases h
 ·rename_i c ho;have hargs:=zCY c.args.toList (ev:=ev) (ev':=ev') (fun x hx=>hev x (by simp [ho,Op.operands,Call.operands] at hx ⊢;exact .inr hx));have eargs:c.args.map ev'=(⟨c.args.toList.map ev'⟩:Array Value):=by apply Array.ext';simp
  have run:∀ {b:Builtin} {v':Value} {w':World},c.callee=.builtin b->(∀ consts,(builtin b c.argTypes o.type consts ⟨c.args.toList.map ev'⟩).run P w=.ok (.value v') w') ->
    (execOp ev' o).run P w=.ok (.value v') w':=by
   intro b v' w' hb hr
   simp only [execOp,ho,resolve,hb,eargs]
   simp [invoke,hr]
  split at h
  ·rename_i hcal;split at h
   ·rename_i st xt s x ht hl;rw [hl] at hargs;generalize hl':c.args.toList.map ev'=l' at hargs run;cases hargs with
    | cons hs hrest =>
     cases hrest with
     | cons hx hrest =>
      cases hrest
      rename_i s' x';obtain ⟨v',w',V',h1,h2,h3⟩:=yCW (ty:=o.type) hz h hr _hf hs hx;refine ⟨_,v',w',V',run hcal (fun consts=>?_),.value _,h2,h3⟩
      have eT:c.argTypes=#[st,xt]:=by apply Array.ext';simpa using ht
      simp only [builtin,eT];simp [h1]
   ·cases h
  ·rename_i hcal;split at h
   ·rename_i dt rest base len cap sb slen scap ht hl;rw [hl] at hargs;generalize hl':c.args.toList.map ev'=l' at hargs run;cases hargs with
    | cons hs hrest =>
     cases hrest with
     | cons hx hrest =>
      cases hrest
      rename_i s' x';split at h
      ·rename_i e n hes;obtain ⟨hd,hsz⟩:=zAM hes;have ht0:c.argTypes[0]?=some dt:=by
        have:c.argTypes.toList[0]?=some dt:=by rw [ht];rfl
        simpa using this
       have src:∀ {cnt:Nat} {cs:List Value},wU Z n (.slice sb (Nat.min slen len) 0)=some (cnt,cs) ->
         ∃ cs',VRs V cs cs'/\cs.length=Nat.min slen len*n/\(Builtin.lenOf x').run P w=.ok slen w/\(Builtin.firstCells n (Nat.min slen len) x').run P w=.ok ⟨cs'⟩ w:=by
        intro cnt cs hsrc
        unfold wU at hsrc
        cases sb with
        | none =>
         have e1:=hx.slice_none;subst e1;simp only at hsrc;cases hb:Nat.beq (Nat.min slen len) 0 with
         | false=>rw [hb,cond_false] at hsrc;cases hsrc
         | true =>
          rw [hb,cond_true] at hsrc;have hb:=Nat.eq_of_beq_eq_true hb;simp at hsrc;obtain ⟨_,rfl⟩:=hsrc;exact ⟨[],.nil,by rw [hb];simp,by simp [Builtin.lenOf],by simp [Builtin.firstCells]⟩
        | some a =>
         obtain ⟨L,c',A,hl,hlo,hA,_,_,rfl⟩:=hx.slice_inv;simp only at hsrc;cases hrr:yR Z a (Nat.min slen len*n) with
         | none=>simp [hrr] at hsrc
         | some cs0 =>
          simp [hrr] at hsrc;obtain ⟨_,rfl⟩:=hsrc;obtain ⟨cs',h1,h2,h3⟩:=zFB (P:=P) hrr hr hl hlo (hA.imp id (fun x=>by rw [x.1];simp));exact ⟨cs',h2,h1,by simp [Builtin.lenOf],by simp [Builtin.firstCells,h3]⟩
       split at h
       ·rename_i cnt cs hsrc;obtain ⟨cs',s1,s2,s3,s4⟩:=src hsrc;split at h
        ·have e1:=hs.slice_none;subst e1;simp at h;obtain ⟨rfl,rfl⟩:=h;refine ⟨_,_,w,V,run hcal (fun consts=>?_),.value _,.int _ _,.refl hr⟩
         simp [builtin,Builtin.copy_,ht0,run_underlying hd,s3,yW hsz,s4];rfl
        ·rename_i a;obtain ⟨L,c',A,hl,hlo,hA,_,_,rfl⟩:=hs.slice_inv;cases hb:Nat.beq (Nat.min slen len) 0 with
         | true =>
          rw [hb,cond_true] at h;have hb:=Nat.eq_of_beq_eq_true hb;simp at h;obtain ⟨rfl,rfl⟩:=h;have:cs'=[]:=List.eq_nil_of_length_eq_zero (by rw [<- s1.length,s2,hb];simp);subst this;refine ⟨_,_,w,V,run hcal (fun consts=>?_),.value _,.int _ _,.refl hr⟩
          simp only [builtin,Builtin.copy_,List.getElem?_toArray,List.getElem?_cons_zero,List.getElem?_cons_succ,ht0,Sem.run_bind,run_underlying hd,s3,yW hsz,s4,Result.andThen_ok,Sem.run_pure,storeCells,wM];rfl
         | false =>
          rw [hb,cond_false] at h;have hA:A=L.at a.off:=hA.elim id (fun x=>by
           exfalso;rw [x.1] at hb;simp at hb)
          subst hA;cases hw:yZ Z a cs with
          | none=>simp [hw] at h
          | some Z1 =>
           simp [hw] at h;obtain ⟨rfl,rfl⟩:=h;obtain ⟨w',g1,g2⟩:=zEJ (P:=P) hw hr hl hlo s1;refine ⟨_,_,w',V,run hcal (fun consts=>?_),.value _,.int _ _,g2⟩
           simp only [builtin,Builtin.copy_,List.getElem?_toArray,List.getElem?_cons_zero,List.getElem?_cons_succ,ht0,Sem.run_bind,run_underlying hd,s3,yW hsz,s4,Result.andThen_ok,Sem.run_pure,g1];rfl
       ·cases h
      ·cases h
   ·cases h
  ·rename_i hcal;split at h
   ·rename_i dt a len cap ht hl;rw [hl] at hargs;generalize hl':c.args.toList.map ev'=l' at hargs run;cases hargs with
    | cons hs hrest =>
     cases hrest
     rename_i s';split at h
     ·rename_i e n hes;obtain ⟨hd,hsz⟩:=zAM hes;have ht0:c.argTypes[0]?=some dt:=by
       have:c.argTypes.toList[0]?=some dt:=by rw [ht];rfl
       simpa using this
      split at h
      ·rename_i z hzt;obtain ⟨hc,h⟩:=zMB h;simp only [Bool.and_eq_true,Bool.not_eq_true'] at hc;have c1:=Nat.eq_of_beq_eq_true hc.1;have hb:=hc.2;obtain ⟨L,c',A,hl,hlo,hA,_,_,rfl⟩:=hs.slice_inv;have hne:len≠0:=by rintro rfl;simp at hb
       have hA:A=L.at a.off:=hA.elim id (fun x=>absurd x.1 hne);subst hA;cases hw:yZ Z a (yL z.cells.toList len) with
       | none=>simp [hw] at h
       | some Z1 =>
        simp [hw] at h;obtain ⟨rfl,rfl⟩:=h;obtain ⟨w',g1,g2⟩:=zEJ (P:=P) hw hr hl hlo (zAD (hz e z hzt) _);refine ⟨_,_,w',V,run hcal (fun consts=>?_),.value _,.refl_rigid RD rfl,g2⟩
        have e3:Builtin.zeroCells z.cells len=(⟨yL z.cells.toList len⟩:Array Value):=by
         have:=zFR (z:=z.cells.toList) (m:=len) (n:=n) c1 (fun h0=>Nat.pos_of_mul_pos_left h0);unfold Builtin.zeroCells;rw [show len*z.cells.size=len*n by rw [<- c1];simp];rw [wM] at this;exact this
        simp only [builtin,Builtin.clear_,List.getElem?_toArray,List.getElem?_cons_zero,ht0,Sem.run_bind,run_underlying hd,Result.andThen_ok,zBO hzt,e3,g1];rfl
      ·cases h
     ·cases h
   ·cases h
  ·rename_i f hcal;split at h
   ·rename_i r as href;simp only [Option.map_eq_some_iff] at h;obtain ⟨v0,h1,h2⟩:=h;simp at h2;obtain ⟨rfl,rfl⟩:=h2;have hf:=hev f (by simp [ho,Op.operands,Call.operands,hcal]);obtain ⟨as',has,hcase⟩:=zKR (P:=P) href hf hargs;obtain ⟨g,rfl,hrun,hv⟩:=xLQ (P:=P) h1 hr has;rcases hcase with ⟨g',cap,hg,d,hd1,hd2,hd3⟩ | ⟨l,L,cap,hg,_⟩
    ·cases hg
     refine ⟨_,_,w,V, ?_,.value _,hv,.refl hr⟩
     simp only [execOp,ho,resolve,hcal,eargs,Sem.run_bind,hd1,Result.andThen_ok,hd2,invoke,hd3,hrun]
    ·cases hg
   ·cases h
  ·cases h
 ·cases h
end
end Go.Lay
