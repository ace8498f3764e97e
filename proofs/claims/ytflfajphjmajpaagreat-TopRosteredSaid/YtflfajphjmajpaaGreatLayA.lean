
import Derived.CallsIn
import Derived.OrdersIn
import Derived.RangeFuncLeaves
import Derived.CheckFast
import Derived.Laws.Entries
import Derived.Laws.Sem
import Derived.Laws.Cells
import Derived.Laws.CopyRow
import Derived.KernelRfl
set_option linter.unusedVariables false
set_option linter.unusedSimpArgs false
namespace Go.Lay
open Go
variable{ie:Type}

def fN{ie:Type}(n:Nat)(k:Nat->ie):ie:=match n with|0=>k 0|m+1=>k (m+1)
theorem vC(n:Nat)(k:Nat->ie):fN n k=k n:=by cases n <;> rfl
def fI{ie:Type}(n:Int)(k:Int->ie):ie:=match n with|.ofNat m=>fN m λm=>k (.ofNat m)|.negSucc m=>fN m λm=>k (.negSucc m)
theorem wPJ(n:Int)(k:Int->ie):fI n k=k n:=by cases n <;> simp[fI,vC]
def fB{ie:Type}(b:Bool)(k:Bool->ie):ie:=match b with|true=>k true|false=>k false
theorem wPK(b:Bool)(k:Bool->ie):fB b k=k b:=by cases b <;> rfl
def fO{ie:Type}(o:Option Nat)(k:Option Nat->ie):ie:=match o with|none=>k none|some n=>fN n λn=>k (some n)
theorem wPI(o:Option Nat)(k:Option Nat->ie):fO o k=k o:=by cases o <;> simp[fO,vC]
def fA{ie:Type}(a:Addr)(k:Addr->ie):ie:=match a with|⟨b,o,s⟩=>fN b λb=>fN o λo=>fO s λs=>k ⟨b,o,s⟩
theorem wPL(a:Addr)(k:Addr->ie):fA a k=k a:=by cases a;simp[fA,vC,wPI]
def fL{U ie:Type}(f:U->(U->ie)->ie):List U->(List U->ie)->ie
 |[],k=>k []
 |x::l,k=>f x λx=>fL f l λl=>k (x::l)
theorem wCM{U ie:Type}(f:U->(U->ie)->ie)(hf:∀x k,f x k=k x):∀(l:List U) (k:List U->ie),fL f l k=k l
 |[],_=>rfl
 |x::l,k=>by rw[fL,hf,wCM f hf l]
def fV{ie:Type}:Nat->Value->(Value->ie)->ie
 |0,v,k=>k v
 |n+1,v,k=>match v with
  |.bool b=>fB b λb=>k (.bool b)
  |.int kd x=>fI x λx=>k (.int kd x)
  |.pointer (some a)=>fA a λa=>k (.pointer (some a))
  |.slice (some a) l c=>fA a λa=>fN l λl=>fN c λc=>k (.slice (some a) l c)
  |.slice none l c=>fN l λl=>fN c λc=>k (.slice none l c)
  |.map (some r)=>fN r λr=>k (.map (some r))
  |.agg ⟨cs⟩=>fL (fV n) cs λcs=>k (.agg ⟨cs⟩)
  |.tuple ⟨cs⟩=>fL (fV n) cs λcs=>k (.tuple ⟨cs⟩)
  |.func fn ⟨f⟩ ⟨c⟩=>fL (fV n) f λf=>fL (fV n) c λc=>k (.func fn ⟨f⟩ ⟨c⟩)
  |.iface t x=>fV n x λx=>k (.iface t x)
  |v=>k v
theorem zON{ie:Type}:∀(n:Nat) (v:Value) (k:Value->ie),fV n v k=k v
 |0,_,_=>rfl
 |n+1,v,k=>by
  have ih:=λv k=>zON (ie:=ie) n v k
  unfold fV;split <;> simp[wPK,wPJ,wPL,vC,wCM _ ih,ih]
def RD:Nat:=8
def fVs{ie:Type}(l:List Value)(k:List Value->ie):ie:=fL (fV RD) l k
theorem zCV(l:List Value)(k:List Value->ie):fVs l k=k l:=wCM _ (λx k=>zON RD x k) l k
@[reducible] def POI:Value:=.float .f32 0
def zAC:Value->Bool
 |.bool _|.int ..|.string _|.pointer none|.slice none _ _|.map none|.chan none|.nilFunc|.nilIface=>true
 |_=>false
def yI:Nat->Value->Bool
 |0,_=>false
 |n+1,.agg cs=>cs.toList.all (yI n)
 |n+1,.tuple cs=>cs.toList.all (yI n)
 |n+1,.iface _ v=>yI n v
 |n+1,.func (.func _) f c=>f.toList.all (yI n)&&c.toList.all (yI n)
 |_+1,v=>zAC v
def cellB:Value->Bool
 |.agg _|.tuple _=>false
 |_=>true

inductive Tr(U:Type) where
 |leaf
 |node (v:Option U) (l r:Tr U)
 deriving Inhabited
def bits:Nat->Nat->List Bool
 |0,_=>[]
 |f+1,i=>bif Nat.beq i 0 then[]else Nat.beq (i % 2) 1::bits f (i / 2)
def way(i:Nat):List Bool:=bits i i
def Tr.getP{U:Type}:List Bool->Tr U->Option U
 |_,.leaf=>none
 |[],.node v _ _=>v
 |b::p,.node _ l r=>bif b then getP p r else getP p l
def Tr.setP{U ie:Type}:List Bool->Tr U->Option U->(Tr U->ie)->ie
 |[],.leaf,v,k=>k (.node v .leaf .leaf)
 |[],.node _ l r,v,k=>k (.node v l r)
 |b::p,.leaf,v,k=>bif b then setP p .leaf v λr=>k (.node none .leaf r)else setP p .leaf v λl=>k (.node none l .leaf)
 |b::p,.node x l r,v,k=>bif b then setP p r v λr=>k (.node x l r)else setP p l v λl=>k (.node x l r)
def Tr.get{U:Type}(t:Tr U)(i:Nat):Option U:=Tr.getP (way i) t
def Tr.set{U:Type}(t:Tr U)(i:Nat)(v:Option U):Tr U:=Tr.setP (way i) t v id

structure Tm where
 n:Nat
 t:Tr Value
 deriving Inhabited
def Tm.nth(f:Tm)(i:Nat):Value:=match Tr.getP (way i) f.t with|some v=>v|none=>undef
def Tm.put{ie:Type}(f:Tm)(i:Nat)(v:Value)(k:Tm->ie):ie :=
 match f with|⟨n,t⟩=>bif Nat.blt i n then fV RD v λv=>Tr.setP (way i) t (some v) λt=>k ⟨n,t⟩else k ⟨n,t⟩
def Tm.puts{ie:Type}:List (Nat×Value)->Tm->(Tm->ie)->ie
 |[],f,k=>k f
 |(i,v)::l,f,k=>f.put i v λf=>Tm.puts l f k
def Tm.args:Nat->List Value->List (Nat×Value)
 |_,[]=>[]
 |i,v::l=>(i,v)::Tm.args (i+1) l

inductive Blk where
 |cells (cs:List Value) (esz:Nat) (log:List (Nat×Nat)) (next:Nat) (ro:Bool)
 |map (es:List (Value×Value))
 |loop (tmps:Tm) (params:List Tmp) (assign body:Code) (st:LoopState) (pend:Option Code) (db:Nat)
 |defd
 deriving Inhabited

structure St where
 heap:Tr Blk
 j:Nat
 low:Nat
 deriving Inhabited

def yP(h:Tr Blk)(b:Nat):Option Blk:=Tr.getP (way b) h
def St.write{ie:Type}(E:St)(b:Nat)(y:Blk)(k:St->ie):ie :=
 match E with|⟨heap,next,low⟩=>Tr.setP (way b) heap (some y) λh=>fN (bif Nat.ble low b then low else b) λl=>k ⟨h,next,l⟩
def St.new{ie:Type}(E:St)(y:Blk)(k:Nat->St->ie):ie :=
 match E with|⟨heap,next,low⟩=>Tr.setP (way next) heap (some y) λh=>fN (next+1) λn=>k next ⟨h,n,low⟩
def St.drop{ie:Type}(E:St)(b:Nat)(k:St->ie):ie :=
 match E with|⟨heap,next,low⟩=>Tr.setP (way b) heap none λh=>fN (bif Nat.ble low b then low else b) λl=>k ⟨h,next,l⟩

def yO(a:Addr):Nat:=a.spot.getD 0
def vP:List (Nat×Nat)->Nat->Option Nat
 |[],_=>none
 |(k,e)::r,s=>bif Nat.beq k s then some e else vP r s
def vE:List (Nat×Nat)->Nat->List (Nat×Nat)
 |[],_=>[]
 |(k,e)::r,s=>bif Nat.beq k s then(k,e)::r else vE r s
def zO(a:Addr)(n:Nat):Addr:={ a with off:=a.off+n }

def xG(E:St)(a:Addr)(n:Nat):Option (List Value) :=
 match yP E.heap a.block with
 |some (.cells cs _ log _ _) =>
  match vP log (yO a)with
  |some e=>bif Nat.ble (a.off+n) e then some ((cs.drop a.off).take n)else none
  |none=>none
 |_=>none
def wS(E:St)(a:Addr)(vs:List Value):Option St :=
 match yP E.heap a.block with
 |some (.cells cs esz log nx ro) =>
  match log with
  |(s,e)::_ =>
   bif Nat.beq s (yO a)&&Nat.ble (a.off+vs.length) e&&!ro&&vs.all cellB then
    fVs (cs.take a.off++(vs++cs.drop (a.off+vs.length))) λcs=>E.write a.block (.cells cs esz [(s,e)] nx ro) some
   else none
  |[]=>none
 |_=>none
def newRow{ie:Type}(E:St)(esz:Nat)(cs:List Value)(k:Addr->St->ie):ie :=
 fVs cs λcs=>fN cs.length λn=>E.new (.cells cs esz [(0,n)] 1 false) λb E=>k ⟨b,0,none⟩ E

def yR(P:Program)(t:TypeId):Option Nat:=(P.info? t).map (·.size)
def wIJ(P:Program)(t:TypeId)(len:Nat):Nat:=match P.underlying t with
 |some (.array _ e)=>match yR P e with
  |some n=>n
  |none=>len
 |_=>len
def xI(P:Program)(t:TypeId):Option Bool:=match P.underlying t with|some (.struct _)|some (.array _ _)=>some true|some _=>some false|none=>none
def uO(P:Program)(t:TypeId):Option Value:=(P.types[t]?).bind (·.zero)

def zJ(P:Program)(E:St)(t:TypeId)(a:Addr):Option Value :=
 match xI P t with
 |some true=>match yR P t with
  |some n=>(xG E a n).map λcs=>.agg ⟨cs⟩
  |none=>none
 |some false=>match xG E a 1 with
  |some [v]=>some v
  |_=>none
 |none=>none
def zCN(P:Program)(E:St)(t:TypeId)(a:Addr)(v:Value):Option St :=
 match yR P t with
 |some n=>bif Nat.beq v.cells.toList.length n then wS E a v.cells.toList else none
 |none=>none

def yL(P:Program){U:Type}:Sem U->Option U
 |.pure a=>some a
 |.program k=>yL P (k P)
 |_=>none

def ltI:Int->Int->Bool
 |.ofNat m,.ofNat n=>Nat.blt m n
 |.negSucc _,.ofNat _=>true
 |.ofNat _,.negSucc _=>false
 |.negSucc m,.negSucc n=>Nat.blt n m
def leI:Int->Int->Bool
 |.ofNat m,.ofNat n=>Nat.ble m n
 |.negSucc _,.ofNat _=>true
 |.ofNat _,.negSucc _=>false
 |.negSucc m,.negSucc n=>Nat.ble n m
def eqI:Int->Int->Bool
 |.ofNat m,.ofNat n=>Nat.beq m n
 |.negSucc m,.negSucc n=>Nat.beq n m
 |_,_=>false
theorem yTU(a b:Int):ltI a b=decide (a<b):=by
 rw[Bool.eq_iff_iff];cases a <;> cases b <;> simp[ltI,Nat.blt] <;> omega
theorem yTW(a b:Int):leI a b=decide (a<=b):=by
 rw[Bool.eq_iff_iff];cases a <;> cases b <;> simp[leI] <;> omega
theorem yUH(a b:Int):eqI a b=(a == b):=by
 rw[Bool.eq_iff_iff];cases a <;> cases b <;> simp[eqI] <;> omega
def vG(k:IntKind)(n:Int):Int :=
 match k with
 |.i64=>match n with
  |.ofNat m=>bif Nat.ble m 9223372036854775807 then .ofNat m else IntKind.wrap .i64 (.ofNat m)
  |.negSucc m=>bif Nat.ble m 9223372036854775807 then .negSucc m else IntKind.wrap .i64 (.negSucc m)
 |k=>k.wrap n

def yTZ(op:BinOp)(k:IntKind)(a b:Int):Option Value :=
 match op with
 |.add=>some (.int k (vG k (Int.add a b)))
 |.sub=>some (.int k (vG k (Int.sub a b)))
 |.mul=>some (.int k (vG k (Int.mul a b)))
 |.eql=>some (.bool (eqI a b))
 |.neq=>some (.bool (!eqI a b))
 |.lss=>some (.bool (ltI a b))
 |.leq=>some (.bool (leI a b))
 |.gtr=>some (.bool (ltI b a))
 |.geq=>some (.bool (leI b a))
 |.quo=>if b=0 then none else some (.int k (k.wrap (a.tdiv b)))
 |.rem=>if b=0 then none else some (.int k (a.tmod b))
 |_=>none

def zFH:IntKind->IntKind->Bool
 |.i8,.i8|.i16,.i16|.i32,.i32|.i64,.i64|.u8,.u8|.u16,.u16|.u32,.u32|.u64,.u64=>true
 |_,_=>false

def xCF(P:Program)(t:TypeId)(x y:Value):Option Bool :=
 match P.underlying t,x,y with
 |some (.slice _),.slice none _ _,.slice b _ _=>some b.isNone
 |some (.slice _),.slice (some _) _ _,.slice none _ _=>some false
 |some (.map _ _),.map none,.map b=>some b.isNone
 |some (.map _ _),.map (some _),.map none=>some false
 |some (.func _ _ _),.nilFunc,.func _ _ _=>some false
 |some (.func _ _ _),.func _ _ _,.nilFunc=>some false
 |some (.pointer _),.pointer none,.pointer b=>some b.isNone
 |some (.pointer _),.pointer (some _),.pointer none=>some false
 |some (.interface _),.nilIface,.iface _ _=>some false
 |some (.interface _),.iface _ _,.nilIface=>some false
 |_,_,_=>none

def yJI(P:Program)(op:BinOp)(t:TypeId)(ox oy:Operand)(x y:Value):Option Value :=
 bif yI RD x&&yI RD y then(yL P (do eqGuard op t ox oy x y;binOp op t x y)).filter (yI RD)else
  match op with
  |.eql=>(xCF P t x y).map .bool
  |.neq=>(xCF P t x y).map λb=>.bool !b
  |_=>none
def wW(P:Program)(op:BinOp)(t:TypeId)(ox oy:Operand)(x y:Value):Option Value :=
 match x,y with
 |.int k a,.int k' b=>bif zFH k k' then(match yTZ op k a b with|some v=>some v|none=>yJI P op t ox oy (.int k a) (.int k' b))else yJI P op t ox oy (.int k a) (.int k' b)
 |x,y=>yJI P op t ox oy x y

def zWS(P:Program)(t:TypeId):Option (Array Field):=match P.underlying t with|some (.struct fs)=>some fs|_=>none

def xNT(P:Program)(t:TypeId)(cs:List Value)(off:Nat):Option Value :=
 match xI P t,yR P t with
 |some true,some n=>some (.agg ⟨(cs.drop off).take n⟩)
 |some false,_=>cs[off]?
 |_,_=>none

def zRO(place:Nat->Option (Nat×Nat)):List Value->List (Nat×Value)->Option (List Value)
 |cells,[]=>some cells
 |cells,(i,v)::rest =>
  match place i with
  |none=>none
  |some (off,size) =>
   let c:=v.cells.toList
   bif Nat.beq c.length size&&Nat.ble (off+size) cells.length then zRO place (cells.take off++(c++cells.drop (off+size))) rest else none

def yHL(P:Program)(fs:Array Field):Option (List (Nat×Nat)):=fs.toList.mapM λf=>(yR P f.type).map λn=>(f.offset,n)

def xLL(P:Program)(t:TypeId)(parts:List (Nat×Value)):Option Value :=
 match uO P t,P.underlying t with
 |some z,some (.struct fs) =>
  match yHL P fs with
  |some ps=>(zRO (λi=>ps[i]?) z.cells.toList parts).map λcs=>.agg ⟨cs⟩
  |none=>none
 |some z,some (.array _ elem) =>
  match yR P elem with
  |some n=>(zRO (λi=>some (i*n,n)) z.cells.toList parts).map λcs=>.agg ⟨cs⟩
  |none=>none
 |_,_=>none

def xL(z:List Value):Nat->List Value
 |0=>[]
 |n+1=>z++xL z n

def wY(P:Program)(t:TypeId):Option (TypeId×Nat) :=
 match P.underlying t with
 |some (.slice e)=>(yR P e).map λn=>(e,n)
 |_=>none

@[irreducible] def uQ:Nat:=9223372036854775808
def xC(c:Nat):Nat:=if uQ<=c then c-uQ else c
def xR(c:Nat):Bool:=!Nat.ble uQ c
def zBH(n sz bytes:Nat):Bool:=Nat.ble n 1073741824&&Nat.ble sz 4096&&Nat.ble bytes 4096

def zFS(P:Program)(t:TypeId)(x ix:Value):Option Value :=
 match ix,x,P.underlying t with
 |.int _ i,.pointer (some a),some (.array len elem) =>
  match yR P elem with
  |some n=>bif leI 0 i&&ltI i (.ofNat len)then some (.pointer (some (zO a (i.toNat*n))))else none
  |none=>none
 |.int _ i,.slice (some a) len _,some (.slice elem) =>
  match yR P elem with
  |some n=>bif leI 0 i&&ltI i (.ofNat len)then some (.pointer (some (zO a (i.toNat*n))))else none
  |none=>none
 |_,_,_=>none

def zTE(P:Program)(s:TypeId)(x:Value)(f:Nat):Option Value :=
 match x,zWS P s with
 |.pointer (some a),some fs =>
  match fs[f]? with
  |some fd=>match yR P fd.type with
   |some 0=>none
   |some _=>some (.pointer (some (zO a fd.offset)))
   |none=>none
  |none=>none
 |_,_=>none

def xKW(P:Program)(t:TypeId)(x:Value)(f:Nat):Option Value :=
 match x,zWS P t with
 |.agg cs,some fs=>match fs[f]? with
  |some fd=>xNT P fd.type cs.toList fd.offset
  |none=>none
 |_,_=>none

def zTB(P:Program)(t:TypeId)(x ix:Value):Option Value :=
 match ix,x,P.underlying t with
 |.int _ i,.agg cs,some (.array len elem) =>
  match yR P elem with
  |some n=>bif leI 0 i&&ltI i (.ofNat len)then xNT P elem cs.toList (i.toNat*n)else none
  |none=>none
 |.int _ i,.string s,some .string=>if 0<=i then(s[i.toNat]?).map λb=>.int .u8 b.toNat else none
 |_,_,_=>none

def uG(o:Option Value)(d top:Nat):Option Nat :=
 match o with
 |none=>some d
 |some (.int _ i)=>bif leI 0 i&&leI i (.ofNat top)then some i.toNat else none
 |some _=>none

def zBF(lo hi mx:Option Value)(len known:Nat):Option (Nat×Nat×Nat) :=
 match mx with
 |none=>match uG hi len known with
  |some h=>match uG lo 0 h with
   |some l=>some (l,h,known)
   |none=>none
  |none=>none
 |some m=>match uG (some m) 0 known with
  |some m=>match hi with
   |some h=>match uG (some h) 0 m with
    |some h=>match uG lo 0 h with
     |some l=>some (l,h,m)
     |none=>none
    |none=>none
   |none=>none
  |none=>none
def yPA(E:St)(a:Addr)(n:Nat):Bool :=
 match yP E.heap a.block with
 |some (.cells _ esz log _ _)=>(vP log (yO a)).isSome&&Nat.beq esz n
 |_=>false
def yCP(E:St)(a:Addr)(k n:Nat):Bool :=
 match yP E.heap a.block with
 |some (.cells _ esz log _ _)=>(match vP log (yO a)with|some e=>Nat.ble (a.off+k) e|none=>false)&&Nat.beq esz n
 |_=>false
def uM(P:Program)(E:St)(t:TypeId)(x:Value)(lo hi mx:Option Value):Option Value :=
 match x,P.underlying t with
 |.slice none len cap,some (.slice elem) =>
  match yR P elem with
  |some _=>bif xR cap then
    match zBF lo hi mx len cap with
    |some (l,h,m)=>some (.slice none (h-l) (m-l))
    |none=>none
   else none
  |none=>none
 |.slice (some a) len cap,some (.slice elem) =>
  match yR P elem with
  |some n=>bif yPA E a n then
    match zBF lo hi mx len (xC cap)with
    |some (l,h,m) =>
     bif mx.isSome||xR cap then bif Nat.ble l m then some (.slice (some (bif Nat.beq m l then a else zO a (l*n))) (h-l) (m-l))else none
     else bif Nat.ble m l then(bif Nat.beq m l&&Nat.beq h l then some (.slice (some (zO a (l*n))) 0 uQ)else none)else some (.slice (some (zO a (l*n))) (h-l) (m-l+uQ))
    |none=>none
   else none
  |none=>none
 |.pointer (some a),some (.array len elem) =>
  match yR P elem with
  |some n=>bif yCP E a (len*n) n then
    match zBF lo hi mx len len with
    |some (l,h,m)=>bif Nat.ble l m then some (.slice (some (bif Nat.beq m l then a else zO a (l*n))) (h-l) (m-l))else none
    |none=>none
   else none
  |none=>none
 |.string s,some .string =>
  match mx with
  |none=>match uG hi s.size s.size with
   |some h=>match uG lo 0 h with
    |some l=>some (.string (s.extract l h))
    |none=>none
   |none=>none
  |some _=>none
 |_,_=>none

def wR(P:Program)(ev:Operand->Value)(o:Op):Option Value :=
 match o with
 |.move x|.assign x=>some (ev x)
 |.pick c a b=>match ev c with
  |.bool t=>some (bif t then ev a else ev b)
  |_=>none
 |.nilCheck x=>match ev x with
  |.pointer (some a)=>some (.pointer (some a))
  |_=>none
 |.binOp op t x y _=>wW P op t x y (ev x) (ev y)
 |.unOp op _ x =>
  match op,ev x with
  |.not,.bool b=>some (.bool !b)
  |.neg,.int k n=>some (.int k (vG k (Int.sub 0 n)))
  |op,v=>bif yI RD v then(yL P (Op.unary op v)).filter (yI RD)else none
 |.convert s d x =>
  match P.underlying s,P.underlying d,ev x with
  |some _,some (.int k),.int _ n=>some (.int k (vG k n))
  |_,_,v=>bif yI RD v then(yL P (convert s d v)).filter (yI RD)else none
 |.build t ps=>xLL P t (ps.toList.map λp=>(p.1,ev p.2))
 |.makeInterface t x=>match P.underlying t with
  |some (.interface _)=>none
  |some _=>some (.iface t (ev x))
  |none=>none
 |.makeFunc fn first cap=>match fn with
  |.func _=>some (.func fn ⟨first.toList.map ev⟩ ⟨cap.toList.map ev⟩)
  |_=>none
 |.fieldAddr s x f=>zTE P s (ev x) f
 |.field t x f=>xKW P t (ev x) f
 |.indexAddr t x i=>zFS P t (ev x) (ev i)
 |.index t x i=>zTB P t (ev x) (ev i)
 |.extract t i=>match ev t with
  |.tuple vs=>vs.toList[i]?
  |_=>none
 |.call c=>match c.callee with
  |.builtin .len=>match c.argTypes.toList[0]?,c.args.toList.map ev with
   |some t,x::_=>match P.underlying t,x with
    |some (.slice _),.slice _ n _=>some (goInt n)
    |some .string,.string s=>some (goInt s.size)
    |some (.array n _),_=>some (goInt n)
    |some (.map _ _),.map none=>some (goInt 0)
    |_,_=>none
   |_,_=>none
  |.builtin .cap=>match c.argTypes.toList[0]?,c.args.toList.map ev with
   |some t,x::_=>match P.underlying t,x with
    |some (.slice _),.slice _ _ k=>bif xR k then some (goInt k)else none
    |_,_=>none
   |_,_=>none
  |.builtin .min=>bif (c.args.toList.map ev).all (yI RD)then(yL P (Builtin.min_ c.argTypes 0 ⟨c.args.toList.map ev⟩)).filter (yI RD)else none
  |.builtin .max=>bif (c.args.toList.map ev).all (yI RD)then(yL P (Builtin.max_ c.argTypes 0 ⟨c.args.toList.map ev⟩)).filter (yI RD)else none
  |_=>none
 |_=>none

def zBA(P:Program)(kt:TypeId)(k:Value):List (Value×Value)->Nat->Option (Option Nat)
 |[],_=>some none
 |(k',_)::es,i =>
  match yL P (Op.equal kt k k')with
  |some true=>some (some i)
  |some false=>zBA P kt k es (i+1)
  |none=>none
def zCH(P:Program)(t:TypeId):Option (TypeId×TypeId):=match P.underlying t with|some (.map k e)=>some (k,e)|_=>none
def zIF(P:Program)(empty:Bool)(kt:TypeId)(k:Value):Bool:=yI RD k&&(yL P (Instr.checkKey empty 10000 kt k)).isSome

def xJ(P:Program)(ev:Operand->Value)(E:St)(o:Op):Option Value :=
 match o with
 |.load t a=>match ev a with
  |.pointer (some a)=>zJ P E t a
  |_=>none
 |.slice t x lo hi mx=>uM P E t (ev x) (lo.map ev) (hi.map ev) (mx.map ev)
 |.lookup t m i ok =>
  match zCH P t with
  |some (kt,et) =>
   match uO P et with
   |some z =>
    let key:=ev i
    let fin:Value->Bool->Value:=λv b=>bif ok then .tuple ⟨[v,.bool b]⟩else v
    match ev m with
    |.map none=>bif zIF P true kt key then some (fin z false)else none
    |.map (some r) =>
     match yP E.heap r with
     |some (.map es) =>
      bif zIF P es.isEmpty kt key then
       match zBA P kt key es 0 with
       |some (some i)=>(es[i]?).map λe=>fin e.2 true
       |some none=>some (fin z false)
       |none=>none
      else none
     |_=>none
    |_=>none
   |none=>none
  |none=>none
 |.call c=>match c.callee with
  |.builtin .len=>match c.argTypes.toList[0]?,c.args.toList.map ev with
   |some t,x::_=>match zCH P t,x with
    |some _,.map (some r)=>match yP E.heap r with
     |some (.map es)=>some (goInt es.length)
     |_=>none
    |_,_=>none
   |_,_=>none
  |_=>none
 |_=>none

def uD(E:St)(n:Nat)(x:Value):Option (Nat×List Value) :=
 match x with
 |.slice none len _=>bif Nat.beq len 0 then some (0,[])else none
 |.slice (some a) len _=>(xG E a (len*n)).map λcs=>(len,cs)
 |.string s=>some (s.size,s.data.toList.map λb=>.int .u8 b.toNat)
 |_=>none

def zBC(E:St)(n:Nat)(z:Value)(xd:TypeDesc)(x:Value):Option (Nat×List Value) :=
 match xd with
 |.int _=>match x with
  |.int _ i=>bif leI 0 i&&leI i 1073741824&&Nat.beq z.cells.toList.length n&&Nat.blt 0 n then some (i.toNat,xL z.cells.toList i.toNat)else none
  |_=>none
 |_=>uD E n x
def zLP(E:St)(n:Nat)(a:Addr)(len known cnt:Nat)(cs:List Value):Option (Value×St) :=
 match yP E.heap a.block with
 |some (.cells bc esz log nx ro) =>
  match vP log (yO a)with
  |some ex =>
   bif Nat.beq len known&&Nat.beq (a.off+len*n) ex&&Nat.beq esz n&&!ro&&Nat.blt 0 n then
    fVs (bc.take ex++cs) λbc'=>fN (ex+cnt*n) λex'=>fN (nx+1) λnx' =>
    E.write a.block (.cells bc' esz ((nx,ex')::vE log (yO a)) nx' ro) λE =>
     some (.slice (some ⟨a.block,a.off,some nx⟩) (len+cnt) (len+cnt+uQ),E)
   else none
  |none=>none
 |_=>none
def uC(E:St)(n:Nat)(base:Option Addr)(len cap cnt:Nat)(cs:List Value):Option (Value×St) :=
 bif Nat.ble (len+cnt) (xC cap)then
  match base with
  |none=>bif Nat.beq cnt 0 then some (.slice none (len+cnt) cap,E)else none
  |some a=>bif Nat.beq cnt 0 then some (.slice base (len+cnt) cap,E)else
   (wS E (zO a (len*n)) cs).map λE=>(.slice base (len+cnt) cap,E)
 else bif xR cap then
  match base with
  |none=>bif Nat.beq len 0 then newRow E n cs λa E=>some (.slice (some a) (len+cnt) (len+cnt+uQ),E)else none
  |some a=>match xG E a (len*n)with
   |some old=>newRow E n (old++cs) λa E=>some (.slice (some a) (len+cnt) (len+cnt+uQ),E)
   |none=>none
 else
  match base with
  |none=>none
  |some a=>zLP E n a len (xC cap) cnt cs
def xO(P:Program)(st xt:TypeId)(s x:Value)(E:St):Option (Value×St) :=
 match wY P st,P.underlying xt,s with
 |some (e,n),some xd,.slice base len cap =>
  match P.info? e with
  |some ei=>match ei.zero with
   |some z=>match zBC E n z xd x with
    |some (cnt,cs)=>bif zBH (len+cnt) n ei.bytes&&cs.all cellB&&Nat.beq cs.length (cnt*n)&&yI RD z&&Nat.beq z.cells.toList.length n then uC E n base len cap cnt cs else none
    |none=>none
   |none=>none
  |none=>none
 |_,_,_=>none

inductive FnRef where
 |func (f:FuncId)
 |yield (l:Nat)
def zRJ(fv:Value)(args:List Value):Option (FnRef×List Value) :=
 match fv with
 |.func (.func f) first cap=>some (.func f,first.toList++(args++cap.toList))
 |.func (.yield l) first _=>some (.yield l,first.toList++args)
 |_=>none

def wQH(_:Program)(_:St)(_:FnRef)(_:List Value):Option Value:=none
def wHZ:Operand->Bool
 |.func _=>true
 |_=>false
def wII(P:Program)(f:Operand)(E:St)(r:FnRef)(args:List Value):Option Value:=bif wHZ f then wQH P E r args else none

def yN(P:Program)(ev:Operand->Value)(E:St)(o:Op):Option (Value×St) :=
 match o with
 |.alloc t=>match uO P t with
  |some z=>fN (wIJ P t z.cells.toList.length) λn=>newRow E n z.cells.toList λa E=>some (.pointer (some a),E)
  |none=>none
 |.box t x=>fN (wIJ P t (ev x).cells.toList.length) λn=>newRow E n (ev x).cells.toList λa E=>some (.pointer (some a),E)
 |.buildSlice t len ps =>
  match wY P t with
  |some (e,n)=>match uO P e with
   |some z =>
    bif Nat.ble (len*n) 16777216&&Nat.beq z.cells.toList.length n then
     match zRO (λi=>some (i*n,n)) (xL z.cells.toList len) (ps.toList.map λp=>(p.1,ev p.2))with
     |some cs=>newRow E n cs λa E=>some (.slice (some a) len len,E)
     |none=>none
    else none
   |none=>none
  |none=>none
 |.makeMap t r=>match r with
  |none=>match zCH P t with
   |some _=>E.new (.map []) λb E=>some (.map (some b),E)
   |none=>none
  |some x=>match zCH P t,ev x with
   |some _,.int _ _=>E.new (.map []) λb E=>some (.map (some b),E)
   |_,_=>none
 |.makeSlice t l c =>
  match wY P t,ev l,ev c with
  |some (e,n),.int _ li,.int _ ci=>match uO P e,P.info? e with
   |some z,some ei =>
    bif leI 0 li&&leI li ci&&leI ci 1073741824&&zBH ci.toNat n ei.bytes&&Nat.beq z.cells.toList.length n&&Nat.blt 0 n then
     newRow E n (xL z.cells.toList ci.toNat) λa E=>some (.slice (some a) li.toNat ci.toNat,E)
    else none
   |_,_=>none
  |_,_,_=>none
 |.store t a x=>match ev a with
  |.pointer (some a)=>(zCN P E t a (ev x)).map λE=>(undef,E)
  |_=>none
 |.mapUpdate t m k x|.insert t m k x =>
  match zCH P t,ev m with
  |some (kt,_),.map (some r) =>
   match yP E.heap r with
   |some (.map es) =>
    bif zIF P false kt (ev k)then
     match zBA P kt (ev k) es 0 with
     |some (some i)=>match es[i]? with
      |some e=>bif Instr.sameBits 10000 e.1 (ev k)then E.write r (.map (es.set i (ev k,ev x))) λE=>some (undef,E)else none
      |none=>none
     |some none=>E.write r (.map (es++[(ev k,ev x)])) λE=>some (undef,E)
     |none=>none
    else none
   |_=>none
  |_,_=>none
 |.call c=>match c.callee with
  |.builtin .append=>match c.argTypes.toList,c.args.toList.map ev with
   |[st,xt],[s,x]=>xO P st xt s x E
   |_,_=>none
  |.value f=>match zRJ (ev f) (c.args.toList.map ev)with
   |some (r,as)=>(wII P f E r as).map λv=>(v,E)
   |none=>none
  |_=>none
 |_=>none

abbrev Rec:=FnRef->List Value->St->Option (Value×St)

def xCY:Nat->Tr Value
 |0=>.leaf
 |d+1=>.node (some undef) (xCY d) (xCY d)
def fresh(n:Nat):Tm:=⟨n,xCY ((way n).length+1)⟩

def yV(f:Tm):Operand->Value
 |.tmp t=>f.nth t
 |.const v=>v
 |.global _=>POI
 |.func g=>.func (.func g) #[] #[]

def zAB(E:St)(v:Value)(E':St):Option (Value×St) :=
 bif Nat.ble E.j E'.low&&yI RD v then some (v,E)
 else bif Nat.ble E.j E'.j then fN (bif Nat.ble E.low E'.low then E.low else E'.low) λl=>some (v,⟨E'.heap,E'.j,l⟩)
 else none
def uT(rec:Rec)(r:FnRef)(args:List Value)(E:St):Option (Value×St) :=
 match rec r args ⟨E.heap,E.j,E.j⟩with
 |none=>none
 |some (v,E')=>zAB E v E'

def zKW:Op->Bool
 |.alloc _|.box ..|.buildSlice ..|.makeMap ..|.makeSlice ..|.store ..|.mapUpdate ..|.insert ..=>true
 |.call c=>match c.callee with|.builtin .append|.builtin .copy=>true|_=>false
 |_=>false

def zRE(E:St):Option Value->Option (Value×St)
 |some v=>some (v,E)
 |none=>none

def zTK(P:Program)(rec:Rec)(ev:Operand->Value)(E:St)(c:Call):Option (Value×St) :=
 match c.callee with
 |.value f =>
  match zRJ (ev f) (c.args.toList.map ev)with
  |some (r,as)=>match wII P f E r as with
   |some v=>some (v,E)
   |none=>uT rec r as E
  |none=>none
 |.builtin .append|.builtin .copy=>yN P ev E (.call c)
 |.builtin .len=>match wR P ev (.call c)with
  |some v=>some (v,E)
  |none=>zRE E (xJ P ev E (.call c))
 |.builtin _=>zRE E (wR P ev (.call c))
 |.invoke _ _=>none

def opA(P:Program)(rec:Rec)(ev:Operand->Value)(E:St)(o:Op):Option (Value×St) :=
 match o with
 |.call c=>zTK P rec ev E c
 |.load t a=>zRE E (xJ P ev E (.load t a))
 |.lookup t m i ok=>zRE E (xJ P ev E (.lookup t m i ok))
 |.slice t x lo hi mx=>zRE E (xJ P ev E (.slice t x lo hi mx))
 |.convert s d x=>match wR P ev (.convert s d x)with
  |some v=>some (v,E)
  |none=>zRE E (xJ P ev E (.convert s d x))
 |o=>bif zKW o then yN P ev E o else zRE E (wR P ev o)

def zHC(ops:Array Oper)(f:Tm)(o:Oper):Option Bool :=
 match o.guard with
 |none=>some true
 |some (j,want)=>match (ops[j]?).bind (·.dst)with
  |some d=>match f.nth d with
   |.bool b=>some (b == want)
   |.tuple _=>some false
   |_=>none
  |none=>none

def xZN{ie:Type}(f:Tm)(dst:Option Tmp)(v:Value)(k:Tm->ie):ie :=
 match dst with
 |some d=>f.put d v k
 |none=>k f

def zQP(P:Program)(rec:Rec)(ops:Array Oper):List Oper->Tm->St->Option (Tm×St)
 |[],f,E=>some (f,E)
 |o::rest,f,E =>
  match zHC ops f o with
  |some true =>
   match opA P rec (yV f) E o.op with
   |some (v,E')=>xZN f o.dst v λf=>zQP P rec ops rest f E'
   |none=>none
  |some false=>xZN f o.dst undef λf=>zQP P rec ops rest f E
  |none=>none

def wM:Op->Bool
 |.call c=>match c.callee with|.builtin .len|.builtin .cap|.builtin .min|.builtin .max=>false|_=>true
 |o=>zKW o
def uE:Op->Bool
 |.alloc _|.box ..|.buildSlice ..|.makeMap ..|.makeSlice ..=>true
 |_=>false
def zCQ:Op->Bool
 |.load ..|.lookup ..|.slice ..|.convert ..=>true
 |.call c=>match c.callee with|.builtin .len=>true|_=>false
 |_=>false

def pre(b:Array Nat)(i j:Nat):Bool:=(b.getD j 0).testBit i
def yVG(b:Array Nat)(i j:Nat):Bool:=!pre b i j&&!pre b j i
def yHO(ops:Array Oper)(b:Array Nat):List (Nat×Nat) :=
 (List.range ops.size).flatMap λj=>if zCQ (ops.getD j default).op then((List.range ops.size).filter λk=>wM (ops.getD k default).op&&yVG b j k&&!Nat.beq j k).map λk=>(j,k)else[]
def vO(ops:Array Oper)(b:Array Nat)(j:Nat):Bool :=
 uE (ops.getD j default).op&&(List.range j).any λi=>wM (ops.getD i default).op&&!pre b i j
def wKX(ops:Array Oper)(b:Array Nat):Bool:=(List.range ops.size).any λj=>vO ops b j
def yUO(ops:Array Oper)(b:Array Nat):Bool :=
 let n:=ops.size
 (List.range n).all λj =>
  let oj:=ops.getD j default
  (oj.after.toList.all λe=>!Region.binds .any e||Nat.blt e.on j) &&
  (match oj.guard with|none=>true|some (g,_)=>oj.after.toList.any λe=>Region.binds .any e&&Nat.beq e.on g) &&
  (match oj.op with|.select ..|.go _|.defer _=>false|_=>true) &&
  (List.range n).all λi =>
   let oi:=ops.getD i default
   (!(Nat.blt i j&&wM oi.op&&wM oj.op&&!uE oj.op)||pre b i j) &&
   (Nat.beq i j||!yVG b i j||Oper.apart ops oi oj)
def yQ:Nat->Nat->Value->Bool
 |0,_,_=>false
 |_+1,n,.pointer (some a)=>Nat.blt a.block n
 |_+1,n,.slice (some a) _ _=>Nat.blt a.block n
 |_+1,n,.map (some b)=>Nat.blt b n
 |d+1,n,.agg cs=>cs.toList.all (yQ d n)
 |d+1,n,.tuple cs=>cs.toList.all (yQ d n)
 |d+1,n,.iface _ v=>yQ d n v
 |d+1,n,.func fn f c=>(match fn with|.yield l=>Nat.blt l n|_=>true)&&f.toList.all (yQ d n)&&c.toList.all (yQ d n)
 |_+1,_,_=>true
def zDQ(n:Nat)(f:Tm)(o:Oper):Bool:=o.op.operands.toList.all λx=>yQ RD n (yV f x)

structure Seen where
 f:Tm
 v:Value
 want:Bool
 before:St
 after:St

def zBG(P:Program)(rec:Rec)(ops:Array Oper):List Oper->Tm->St->Option (List Seen×Tm×St)
 |[],f,E=>some ([],f,E)
 |o::rest,f,E =>
  match zHC ops f o with
  |some true =>
   match opA P rec (yV f) E o.op with
   |some (v,E')=>fV RD v λv=>xZN f o.dst v λf' =>
    match zBG P rec ops rest f' E' with
    |some (l,t,O)=>some (⟨f,v,true,E,E'⟩::l,t,O)
    |none=>none
   |none=>none
  |some false=>xZN f o.dst undef λf' =>
   match zBG P rec ops rest f' E with
   |some (l,t,O)=>some (⟨f,undef,false,E,E⟩::l,t,O)
   |none=>none
  |none=>none

def veq:Nat->Value->Value->Bool
 |0,_,_=>false
 |_+1,.bool a,.bool b=>a == b
 |_+1,.int k a,.int k' b=>zFH k k'&&eqI a b
 |_+1,.string a,.string b=>decide (a.data.toList=b.data.toList)
 |_+1,.pointer a,.pointer b=>decide (a=b)
 |_+1,.slice a l c,.slice a' l' c'=>decide (a=a')&&Nat.beq l l'&&Nat.beq c c'
 |_+1,.map a,.map b=>decide (a=b)
 |_+1,.nilFunc,.nilFunc=>true
 |_+1,.nilIface,.nilIface=>true
 |n+1,.agg a,.agg b=>veqs n a.toList b.toList
 |n+1,.tuple a,.tuple b=>veqs n a.toList b.toList
 |n+1,.func (.func f) a c,.func (.func f') a' c'=>Nat.beq f f'&&veqs n a.toList a'.toList&&veqs n c.toList c'.toList
 |n+1,.iface t a,.iface t' b=>Nat.beq t t'&&veq n a b
 |_+1,_,_=>false
where
 veqs:Nat->List Value->List Value->Bool
 |_,[],[]=>true
 |n,x::xs,y::ys=>veq n x y&&veqs n xs ys
 |_,_,_=>false

def wA(P:Program)(ev:Operand->Value)(E:St)(o:Op):Option Value:=match wR P ev o with|some v=>some v|none=>xJ P ev E o
def steady(P:Program)(o:Oper)(s:Seen)(E:St):Bool :=
 bif s.want then
  zDQ E.j s.f o &&
  match wA P (yV s.f) E o.op with
  |some v=>veq RD v s.v
  |none=>false
 else true
def zIN:List Oper->List Seen->Bool
 |o::os,s::ss=>(!s.want||zDQ s.before.j s.f o||!(wM o.op||zCQ o.op))&&zIN os ss
 |_,_=>true

def yTQ(P:Program)(ops:Array Oper)(l:List Seen)(p:Nat×Nat):Bool :=
 match ops[p.1]?,l[p.1]?,l[p.2]? with
 |some oj,some sj,some sk=>steady P oj sj sk.before&&steady P oj sj sk.after
 |_,_,_=>false
def yIN(P:Program)(rec:Rec)(ops:Array Oper)(f:Tm)(E:St):Option (Tm×St) :=
 bif yUO ops (CheckFast.beforeF ops)then
  match yHO ops (CheckFast.beforeF ops),wKX ops (CheckFast.beforeF ops)with
  |[],false=>zQP P rec ops ops.toList f E
  |ps,_ =>
   match zBG P rec ops ops.toList f E with
   |some (l,t,O) =>
    bif zIN ops.toList l&&ps.all (yTQ P ops l)then some (t,O)else none
   |none=>none
 else none

structure Fr where
 f:Tm
 marks:List Nat

abbrev zXL:=Fr->St->Option (Exit×Fr×St)

def zFN(step:zXL):Nat->zXL
 |0,_,_=>none
 |n+1,fr,E =>
  match step fr E with
  |some (.normal,fr,E)=>zFN step n fr E
  |r=>r
def xYU(a b:zXL):zXL:=λfr E =>
 match a fr E with
 |some (.normal,fr,E)=>b fr E
 |r=>r
def xDG(c:Operand)(x y:zXL):zXL:=λfr E =>
 match yV fr.f c with
 |.bool t=>match t with
  |true=>x fr E
  |false=>y fr E
 |_=>none
def zZG(id:Nat)(c:zXL):zXL:=λfr E =>
 match c fr E with
 |some (.exit i,fr,E)=>bif Nat.beq i id then some (.normal,fr,E)else some (.exit i,fr,E)
 |r=>r
def zPY(P:Program)(rec:Rec)(ops:Array Oper)(draw:Bool):zXL:=λfr E =>
 match (match draw with|true=>yIN P rec ops fr.f E|false=>zQP P rec ops ops.toList fr.f E)with
 |some (f,E)=>some (.normal,⟨f,fr.marks⟩,E)
 |none=>none
def zFK(l:Nat):zXL:=λfr E =>
 match yP E.heap l with
 |some (.loop tm ps as bo st pend db) =>
  match st with
  |.busy=>none
  |_ =>
   E.write l (.loop tm ps as bo .exhausted pend db) λE =>
   match pend with
   |none=>some (.normal,fr,E)
   |some .ret=>some (.ret,fr,E)
   |some (.exit id)=>some (.exit id,fr,E)
   |some _=>none
 |_=>none
def zKL(rec:Rec)(g:Operand)(ps:Array Tmp)(as bo:Code)(db:Nat):zXL:=λfr E =>
 E.new (.loop fr.f ps.toList as bo .ready none db) λl E =>
 match zRJ (yV fr.f g) [.func (.yield l) #[] #[]]with
 |some (.func h,args) =>
  match uT rec (.func h) args E with
  |some (_,E)=>zFK l fr E
  |none=>none
 |_=>none
def zSV(rec:Rec)(rd:Option Nat)(g:Operand)(ps:Array Tmp)(as bo:Code):zXL:=λfr E =>
 match rd with
 |none=>E.new .defd λd E=>zKL rec g ps as bo d ⟨fr.f,d::fr.marks⟩ E
 |some r=>match yP E.heap r with
  |some (.loop _ _ _ _ _ _ db)=>zKL rec g ps as bo db fr E
  |_=>none

def xK(P:Program)(rec:Rec)(fuel:Nat)(rd:Option Nat):Code->zXL
 |.skip=>λfr E=>some (.normal,fr,E)
 |.label _=>λfr E=>some (.normal,fr,E)
 |.ret=>λfr E=>some (.ret,fr,E)
 |.exit id=>λfr E=>some (.exit id,fr,E)
 |.goto _=>λ_ _=>none
 |.refuse _=>λ_ _=>none
 |.seq a b=>xYU (xK P rec fuel rd a) (xK P rec fuel rd b)
 |.cond c x y=>xDG c (xK P rec fuel rd x) (xK P rec fuel rd y)
 |.block id c=>zZG id (xK P rec fuel rd c)
 |.scope c=>xK P rec fuel rd c
 |.loop c=>zFN (xK P rec fuel rd c) fuel
 |.region _ ops draw=>zPY P rec ops draw
 |.rangeFunc g ps as bo=>zSV rec rd g ps as bo

def zVZ(P:Program)(f:Tm)(E:St):ResultVar->Option Value
 |.tmp t=>some (f.nth t)
 |.cell a t=>match f.nth a with
  |.pointer (some a)=>zJ P E t a
  |_=>none
def zAH(P:Program)(f:Tm)(E:St):List ResultVar->Option (List Value)
 |[]=>some []
 |r::rs=>match zVZ P f E r with
  |some v=>match zAH P f E rs with
   |some vs=>some (v::vs)
   |none=>none
  |none=>none
def zHU(P:Program)(fn:Func)(f:Tm)(E:St):Option Value :=
 match zAH P f E fn.results.toList with
 |some [v]=>some v
 |some vs=>some (.tuple ⟨vs⟩)
 |none=>none

def zCX:List Nat->St->Option St
 |[],E=>some E
 |d::ds,E=>match yP E.heap d with
  |some .defd=>E.drop d λE=>zCX ds E
  |_=>none

def yCC(P:Program)(fn:Func)(fr:Fr)(E:St):Option (Value×St) :=
 match zCX fr.marks E with
 |some E=>match zHU P fn fr.f E with
  |some v=>fV RD v λv=>some (v,E)
  |none=>none
 |none=>none
def wCP(P:Program)(fn:Func):Option (Exit×Fr×St)->Option (Value×St)
 |some (.normal,fr,E)=>yCC P fn fr E
 |some (.ret,fr,E)=>yCC P fn fr E
 |_=>none
def zFJ(l:Nat)(jump:Option Code)(E:St):Option (Value×St) :=
 match yP E.heap l with
 |some (.loop tm ps as bo _ _ db) =>
  match jump with
  |none=>E.write l (.loop tm ps as bo .ready none db) λE=>some (.bool true,E)
  |some c=>E.write l (.loop tm ps as bo .done (some c) db) λE=>some (.bool false,E)
 |_=>none
def zPW(l:Nat):Option (Exit×Fr×St)->Option (Value×St)
 |some (.normal,_,E)=>zFJ l none E
 |some (.ret,_,E)=>zFJ l (some .ret) E
 |some (.exit id,_,E)=>zFJ l (some (.exit id)) E
 |_=>none
def zPX(body:zXL)(l:Nat):Option (Exit×Fr×St)->Option (Value×St)
 |some (.normal,fr,E) =>
  match yP E.heap l with
  |some (.loop tm ps as bo .ready pend db) =>
   E.write l (.loop tm ps as bo .busy pend db) λE=>zPW l (body fr E)
  |_=>none
 |_=>none

def zZ(P:Program):Nat->Rec
 |0,_,_,_=>none
 |n+1,.func f,args,E =>
  match P.funcs[f]? with
  |some fn=>match fn.body with
   |some c=>Tm.puts (Tm.args 0 args) (fresh (args.length+(fn.ntmps-args.length))) λtm=>wCP P fn (xK P (zZ P n) n none c ⟨tm,[]⟩ E)
   |none=>none
  |none=>none
 |n+1,.yield l,args,E =>
  match yP E.heap l with
  |some (.loop tm ps as bo _ _ _) =>
   bif Nat.beq args.length ps.length then
    Tm.puts (ps.zip args) tm λtm=>zPX (xK P (zZ P n) n (some l) bo) l (xK P (zZ P n) n (some l) as ⟨tm,[]⟩ E)
   else none
  |_=>none

end Go.Lay

namespace Go.Lay
open Go
variable{U ie:Type}{l l' c c':List Value}{b N n':Nat}{w w':World}{y:Blk}{E:St}

theorem Tr.setP_eq{U:Type}:∀(p:List Bool) {ie:Type} (t:Tr U) (v:Option U) (k:Tr U->ie),Tr.setP p t v k=k (Tr.setP p t v id)
 |[],_,.leaf,_,_=>rfl
 |[],_,.node _ _ _,_,_=>rfl
 |b::p,_,.leaf,v,k=>by
  cases b
  .have h1:=Tr.setP_eq p (.leaf:Tr U) v (λy=>k (Tr.node none y .leaf));have h2:=Tr.setP_eq p (.leaf:Tr U) v (λy=>(id (Tr.node none y .leaf):Tr U));exact h1.trans (congrArg k h2.symm)
  .have h1:=Tr.setP_eq p (.leaf:Tr U) v (λy=>k (Tr.node none .leaf y));have h2:=Tr.setP_eq p (.leaf:Tr U) v (λy=>(id (Tr.node none .leaf y):Tr U));exact h1.trans (congrArg k h2.symm)
 |b::p,_,.node x l r,v,k=>by
  cases b
  .have h1:=Tr.setP_eq p (l:Tr U) v (λy=>k (Tr.node x y r));have h2:=Tr.setP_eq p (l:Tr U) v (λy=>(id (Tr.node x y r):Tr U));exact h1.trans (congrArg k h2.symm)
  .have h1:=Tr.setP_eq p (r:Tr U) v (λy=>k (Tr.node x l y));have h2:=Tr.setP_eq p (r:Tr U) v (λy=>(id (Tr.node x l y):Tr U));exact h1.trans (congrArg k h2.symm)

theorem Tr.getP_leaf(p:List Bool):Tr.getP p (.leaf:Tr U)=none:=by cases p <;> rfl
theorem Tr.setP_leaf_cons(b:Bool)(p:List Bool)(v:Option U) :
  Tr.setP (b::p) .leaf v id=bif b then .node none .leaf (Tr.setP p .leaf v id)else .node none (Tr.setP p .leaf v id) .leaf:=by
 cases b <;> simp only[Tr.setP,cond_false,cond_true] <;> rw[Tr.setP_eq] <;> rfl
theorem Tr.setP_node_cons(b:Bool)(p:List Bool)(x:Option U)(l r:Tr U)(v:Option U) :
  Tr.setP (b::p) (.node x l r) v id=bif b then .node x l (Tr.setP p r v id)else .node x (Tr.setP p l v id) r:=by
 cases b <;> simp only[Tr.setP,cond_false,cond_true] <;> rw[Tr.setP_eq] <;> rfl

theorem Tr.getP_setP_same{U:Type}:∀(p:List Bool) (t:Tr U) (v:Option U),Tr.getP p (Tr.setP p t v id)=v
 |[],.leaf,_=>rfl
 |[],.node _ _ _,_=>rfl
 |b::p,.leaf,v=>by rw[Tr.setP_leaf_cons];cases b <;> simp only[cond_false,cond_true,Tr.getP] <;> exact Tr.getP_setP_same p .leaf v
 |b::p,.node x l r,v=>by rw[Tr.setP_node_cons];cases b <;> simp only[cond_false,cond_true,Tr.getP] <;> exact Tr.getP_setP_same p _ v
theorem Tr.getP_setP_ne{U:Type}:∀(p q:List Bool) (t:Tr U) (v:Option U),p≠q->Tr.getP q (Tr.setP p t v id)=Tr.getP q t
 |[],[],_,_,h=>absurd rfl h
 |[],c::q,.leaf,v,_=>by cases c <;> simp[Tr.setP,Tr.getP,Tr.getP_leaf]
 |[],c::q,.node _ _ _,v,_=>by cases c <;> simp[Tr.setP,Tr.getP]
 |b::p,[],.leaf,v,_=>by rw[Tr.setP_leaf_cons];cases b <;> simp[Tr.getP]
 |b::p,[],.node _ _ _,v,_=>by rw[Tr.setP_node_cons];cases b <;> simp[Tr.getP]
 |b::p,c::q,.leaf,v,h=>by
  rw[Tr.setP_leaf_cons];by_cases hbc:b=c
  .subst hbc;have hpq:p≠q:=λe=>h (by rw[e])
   have:=Tr.getP_setP_ne p q (.leaf:Tr U) v hpq;cases b <;> simp only[cond_false,cond_true,Tr.getP] <;> rw[this,Tr.getP_leaf]
  .cases b <;> cases c <;> simp_all [Tr.getP,Tr.getP_leaf]
 |b::p,c::q,.node x l r,v,h=>by
  rw[Tr.setP_node_cons];by_cases hbc:b=c
  .subst hbc;have hpq:p≠q:=λe=>h (by rw[e])
   cases b <;> simp only[cond_false,cond_true,Tr.getP]
   .exact Tr.getP_setP_ne p q l v hpq
   .exact Tr.getP_setP_ne p q r v hpq
  .cases b <;> cases c <;> simp_all [Tr.getP]

theorem wDQ:∀(f i g j:Nat),i<=f->j<=g->bits f i=bits g j->i=j:=by
 intro f;induction f with
 |zero =>
  intro i g j hi hj h;have:i=0:=by omega
  subst this;cases g with
  |zero=>omega
  |succ g =>
   by_cases hj0:j=0
   .exact hj0.symm
   .have:Nat.beq j 0=false:=by rw[Bool.eq_false_iff];intro e;exact hj0 (Nat.eq_of_beq_eq_true e)
    simp[bits,this]at h
 |succ f ih =>
  intro i g j hi hj h;by_cases hi0:i=0
  .subst hi0;cases g with
   |zero=>omega
   |succ g =>
    by_cases hj0:j=0
    .exact hj0.symm
    .have:Nat.beq j 0=false:=by rw[Bool.eq_false_iff];intro e;exact hj0 (Nat.eq_of_beq_eq_true e)
     simp[bits,this]at h
  .have e1:Nat.beq i 0=false:=by rw[Bool.eq_false_iff];intro e;exact hi0 (Nat.eq_of_beq_eq_true e)
   cases g with
   |zero =>
    have:j=0:=by omega
    subst this;simp[bits,e1]at h
   |succ g =>
    by_cases hj0:j=0
    .subst hj0;simp[bits,e1]at h
    .have e2:Nat.beq j 0=false:=by rw[Bool.eq_false_iff];intro e;exact hj0 (Nat.eq_of_beq_eq_true e)
     simp only[bits,e1,e2,cond_false,List.cons.injEq]at h;have h2:=ih (i / 2) g (j / 2) (by omega) (by omega) h.2;have h1:(i % 2=1)↔(j % 2=1):=by
      have:=h.1;constructor <;> intro hh
      .have:Nat.beq (j % 2) 1=true:=by rw[<- this,hh];rfl
       exact Nat.eq_of_beq_eq_true this
      .have:Nat.beq (i % 2) 1=true:=by rw[this,hh];rfl
       exact Nat.eq_of_beq_eq_true this
     omega
theorem xMY{i j:Nat}(h:way i=way j):i=j:=wDQ i i j j (Nat.le_refl _) (Nat.le_refl _) h

theorem yII(h:Tr Blk)(b:Nat)(y:Option Blk)(c:Nat):yP (Tr.setP (way b) h y id) c=if c=b then y else yP h c:=by
 by_cases e:c=b
 .subst e;rw[if_pos rfl];exact Tr.getP_setP_same _ _ _
 .rw[if_neg e];exact Tr.getP_setP_ne _ _ _ _ (λh=>e (xMY h).symm)

theorem yJ(a b:Nat):Nat.ble a b=true↔a<=b:=by rw[Nat.ble_eq]
theorem zBZ(a b:Nat):(bif Nat.ble a b then a else b)=min a b:=by
 cases h:Nat.ble a b
 .have:¬a<=b:=λe=>by rw[(yJ a b).2 e]at h;cases h
  simp;omega
 .have:=(yJ a b).1 h;simp;omega

def St.put(E:St)(b:Nat)(y:Blk):St:=⟨Tr.setP (way b) E.heap (some y) id,E.j,min E.low b⟩
def St.add(E:St)(y:Blk):St:=⟨Tr.setP (way E.j) E.heap (some y) id,E.j+1,E.low⟩
def St.shut(E:St)(b:Nat):St:=⟨Tr.setP (way b) E.heap none id,E.j,min E.low b⟩
theorem St.write_eq(E:St)(b:Nat)(y:Blk)(k:St->ie):E.write b y k=k (E.put b y):=by
 cases E;simp only[St.write,St.put];rw[Tr.setP_eq,vC,zBZ]
theorem St.new_eq(E:St)(y:Blk)(k:Nat->St->ie):E.new y k=k E.j (E.add y):=by
 cases E;simp only[St.new,St.add];rw[Tr.setP_eq,vC]
theorem St.drop_eq(E:St)(b:Nat)(k:St->ie):E.drop b k=k (E.shut b):=by
 cases E;simp only[St.drop,St.shut];rw[Tr.setP_eq,vC,zBZ]
@[simp] theorem St.put_next(E:St)(b:Nat)(y:Blk):(E.put b y).j=E.j:=rfl
@[simp] theorem St.put_low(E:St)(b:Nat)(y:Blk):(E.put b y).low=min E.low b:=rfl
@[simp] theorem St.add_next(E:St)(y:Blk):(E.add y).j=E.j+1:=rfl
@[simp] theorem St.add_low(E:St)(y:Blk):(E.add y).low=E.low:=rfl
@[simp] theorem St.shut_next(E:St)(b:Nat):(E.shut b).j=E.j:=rfl
@[simp] theorem St.shut_low(E:St)(b:Nat):(E.shut b).low=min E.low b:=rfl
theorem St.put_get(E:St)(b:Nat)(y:Blk)(c:Nat):yP (E.put b y).heap c=if c=b then some y else yP E.heap c:=yII _ _ _ _
theorem St.add_get(E:St)(y:Blk)(c:Nat):yP (E.add y).heap c=if c=E.j then some y else yP E.heap c:=yII _ _ _ _
theorem St.shut_get(E:St)(b c:Nat):yP (E.shut b).heap c=if c=b then none else yP E.heap c:=yII _ _ _ _

def Tm.set(f:Tm)(i:Nat)(v:Value):Tm:=if i<f.n then⟨f.n,Tr.setP (way i) f.t (some v) id⟩else f
theorem Tm.put_eq(f:Tm)(i:Nat)(v:Value)(k:Tm->ie):f.put i v k=k (f.set i v):=by
 cases f with|mk n t =>
 simp only[Tm.put,Tm.set];by_cases h:i<n
 .have:Nat.blt i n=true:=(yJ _ _).2 h;rw[this,cond_true,zON,Tr.setP_eq,if_pos h]
 .have:Nat.blt i n=false:=by rw[Bool.eq_false_iff];exact λe=>h ((yJ _ _).1 e)
  rw[this,cond_false,if_neg h]
theorem Tm.nth_set(f:Tm)(i:Nat)(v:Value)(j:Nat):(f.set i v).nth j=if j=i/\i<f.n then v else f.nth j:=by
 unfold Tm.set;by_cases h:i<f.n
 .rw[if_pos h];by_cases e:j=i
  .subst e;simp only[Tm.nth,Tr.getP_setP_same];simp[h]
  .rw[if_neg (λx=>e x.1)];simp only[Tm.nth];rw[Tr.getP_setP_ne _ _ _ _ (λx=>e (xMY x).symm)]
 .rw[if_neg h,if_neg (λx=>h x.2)]
@[simp] theorem Tm.set_n(f:Tm)(i:Nat)(v:Value):(f.set i v).n=f.n:=by unfold Tm.set;split <;> rfl

structure Loc where
 c:Nat
 lo:Nat
 base:Nat
 z:Nat

structure Inj where
 loc:Nat->Nat->Option Loc
 own:Nat->Option Nat
 csz:Nat->Nat

def Loc.at(L:Loc)(off:Nat):Addr:=⟨L.c,L.base+(off-L.lo),none⟩

def zOV(cap cap':Nat):Prop:=if xR cap then cap'=cap else xC cap<=cap'

inductive FnR(Z:Inj):Fn->Fn->Prop
 |func (f:FuncId):FnR Z (.func f) (.func f)
 |yield {l:Nat} {L:Loc} (h:Z.loc l 0=some L):FnR Z (.yield l) (.yield L.c)

inductive VR(Z:Inj):Value->Value->Prop
 |any {v':Value} (h:cellB v'=true):VR Z POI v'
 |atom {v:Value} (h:zAC v=true):VR Z v v
 |ptr {a:Addr} {L:Loc} (h:Z.loc a.block (yO a)=some L) (hlo:L.lo<=a.off):VR Z (.pointer (some a)) (.pointer (some (L.at a.off)))
 |slice {a A:Addr} {L:Loc} {len cap cap':Nat} (h:Z.loc a.block (yO a)=some L) (hlo:L.lo<=a.off) (hA:A=L.at a.off\/(len=0/\xC cap=0/\cap'=0)) (hc:zOV cap cap')
   (hsz:L.base+(a.off-L.lo)+cap'*L.z<=Z.csz L.c):VR Z (.slice (some a) len cap) (.slice (some A) len cap')
 |map {b:Nat} {L:Loc} (h:Z.loc b 0=some L):VR Z (.map (some b)) (.map (some L.c))
 |func {fn fn':Fn} {f f' c c':Array Value} (hf:FnR Z fn fn') (s1:f.size=f'.size) (h1:∀(i:Nat) (v v':Value),f[i]?=some v->f'[i]?=some v'->VR Z v v')
   (s2:c.size=c'.size) (h2:∀(i:Nat) (v v':Value),c[i]?=some v->c'[i]?=some v'->VR Z v v'):VR Z (.func fn f c) (.func fn' f' c')
 |iface {t:TypeId} {v v':Value} (h:VR Z v v'):VR Z (.iface t v) (.iface t v')
 |agg {c c':Array Value} (s:c.size=c'.size) (h:∀(i:Nat) (v v':Value),c[i]?=some v->c'[i]?=some v'->VR Z v v'):VR Z (.agg c) (.agg c')
 |tuple {c c':Array Value} (s:c.size=c'.size) (h:∀(i:Nat) (v v':Value),c[i]?=some v->c'[i]?=some v'->VR Z v v'):VR Z (.tuple c) (.tuple c')

inductive VRs(Z:Inj):List Value->List Value->Prop
 |nil:VRs Z [] []
 |cons {v v':Value} {l l':List Value} (h:VR Z v v') (t:VRs Z l l'):VRs Z (v::l) (v'::l')

theorem VRs.length{Z:Inj}{l l':List Value}(h:VRs Z l l'):l.length=l'.length:=by
 induction h with
 |nil=>rfl
 |cons _ _ ih=>simp[ih]
theorem VRs.get{Z:Inj}(h:VRs Z l l'):∀(i:Nat) (v v':Value),l[i]?=some v->l'[i]?=some v'->VR Z v v':=by
 induction h with
 |nil=>intro i v v' h;simp at h
 |cons h _ ih =>
  intro i v v' h1 h2;cases i with
  |zero=>simp at h1 h2;subst h1;subst h2;exact h
  |succ i=>simp at h1 h2;exact ih i v v' h1 h2
theorem VRs.of_get{Z:Inj}:∀{l l':List Value},l.length=l'.length->(∀(i:Nat) (v v':Value),l[i]?=some v->l'[i]?=some v'->VR Z v v')->VRs Z l l'
 |[],[],_,_=>.nil
 |[],_::_,h,_=>by simp at h
 |_::_,[],h,_=>by simp at h
 |v::l,v'::l',h,hg=>.cons (hg 0 v v' (by simp) (by simp)) (VRs.of_get (by simpa using h) (λi x x' h1 h2=>hg (i+1) x x' (by simpa using h1) (by simpa using h2)))
theorem VRs.append{Z:Inj}{a a' b b':List Value}(h:VRs Z a a')(k:VRs Z b b'):VRs Z (a++b) (a'++b'):=by
 induction h with
 |nil=>exact k
 |cons h _ ih=>exact .cons h ih
theorem VRs.get_some{Z:Inj}(h:VRs Z l l'){i:Nat}{v:Value}(hi:l[i]?=some v):∃v',l'[i]?=some v'/\VR Z v v':=by
 have hl:i<l'.length:=by rw[<- h.length];exact(List.getElem?_eq_some_iff.1 hi).1
 exact⟨l'[i],by simp[hl],h.get i v _ hi (by simp[hl])⟩
theorem VRs.take{Z:Inj}{l l':List Value}(h:VRs Z l l')(n:Nat):VRs Z (l.take n) (l'.take n):=by
 induction h generalizing n with
 |nil=>simp;exact .nil
 |cons h _ ih=>cases n with|zero=>exact .nil|succ n=>exact .cons h (ih n)
theorem VRs.drop{Z:Inj}{l l':List Value}(h:VRs Z l l')(n:Nat):VRs Z (l.drop n) (l'.drop n):=by
 induction h generalizing n with
 |nil=>simp;exact .nil
 |cons h t ih=>cases n with|zero=>exact .cons h t|succ n=>exact ih n
theorem VR.agg'{Z:Inj}(h:VRs Z c c'):VR Z (.agg ⟨c⟩) (.agg ⟨c'⟩):=.agg (by simpa using h.length) (λi v v' h1 h2=>h.get i v v' (by simpa using h1) (by simpa using h2))
theorem VR.tuple'{Z:Inj}(h:VRs Z c c'):VR Z (.tuple ⟨c⟩) (.tuple ⟨c'⟩):=.tuple (by simpa using h.length) (λi v v' h1 h2=>h.get i v v' (by simpa using h1) (by simpa using h2))
theorem wEC{Z:Inj}{c c':Array Value}(s:c.size=c'.size)(h:∀(i:Nat) (v v':Value),c[i]?=some v->c'[i]?=some v'->VR Z v v'):VRs Z c.toList c'.toList :=
 VRs.of_get (by simpa using s) (λi v v' h1 h2=>h i v v' (by simpa using h1) (by simpa using h2))

theorem VR.rigid{Z:Inj}:∀(n:Nat) {v v':Value},yI n v=true->VR Z v v'->v=v':=by
 intro n;induction n with
 |zero=>intro v v' h;simp[yI]at h
 |succ n ih =>
  intro v v' hr h;have arr:∀{c c':Array Value},c.size=c'.size->(∀(i:Nat) (v v':Value),c[i]?=some v->c'[i]?=some v'->VR Z v v')->c.toList.all (yI n)=true->c=c':=by
   intro c c' s hh hall;apply Array.ext s;intro i h1 h2;have hm:c[i]∈c.toList:=by simp
   exact ih (List.all_eq_true.1 hall _ hm) (hh i _ _ (by simp[h1]) (by simp[h2]))
  cases h with
  |any h=>simp[yI,zAC]at hr
  |atom h=>rfl
  |ptr h _=>simp[yI,zAC]at hr
  |slice _ _ _ _ _=>simp[yI,zAC]at hr
  |map h=>simp[yI,zAC]at hr
  |func hf s1 h1 s2 h2 =>
   cases hf with
   |func f =>
    simp only[yI,Bool.and_eq_true]at hr;rw[arr s1 h1 hr.1,arr s2 h2 hr.2]
   |yield h=>simp[yI,zAC]at hr
  |iface h=>simp only[yI]at hr;rw[ih hr h]
  |agg s h=>simp only[yI]at hr;rw[arr s h hr]
  |tuple s h=>simp only[yI]at hr;rw[arr s h hr]

theorem VR.refl_rigid{Z:Inj}:∀(n:Nat) {v:Value},yI n v=true->VR Z v v:=by
 intro n;induction n with
 |zero=>intro v h;simp[yI]at h
 |succ n ih =>
  intro v hr;have arr:∀{c:Array Value},c.toList.all (yI n)=true->(∀(i:Nat) (v v':Value),c[i]?=some v->c[i]?=some v'->VR Z v v'):=by
   intro c hall i v v' h1 h2;rw[h1]at h2;cases h2;exact ih (List.all_eq_true.1 hall _ (by simp[Array.mem_of_getElem? h1]))
  cases v with
  |agg cs=>simp only[yI]at hr;exact .agg rfl (arr hr)
  |tuple cs=>simp only[yI]at hr;exact .tuple rfl (arr hr)
  |iface t x=>simp only[yI]at hr;exact .iface (ih hr)
  |func fn f c =>
   cases fn with
   |func g=>simp only[yI,Bool.and_eq_true]at hr;exact .func (.func _) rfl (arr hr.1) rfl (arr hr.2)
   |_=>simp[yI,zAC]at hr
  |_=>exact .atom (by simpa [yI] using hr)

theorem VR.undef{Z:Inj}:VR Z undef undef:=.tuple rfl (λi v v' h=>by simp at h)
theorem VR.int{Z:Inj}(k:IntKind)(n:Int):VR Z (.int k n) (.int k n):=.atom rfl
theorem VR.bool{Z:Inj}(b:Bool):VR Z (.bool b) (.bool b):=.atom rfl

theorem VR.cellB{Z:Inj}{v v':Value}(h:VR Z v v'):cellB v=cellB v':=by
 cases h with
 |any h=>simpa [Lay.cellB] using h.symm
 |atom h=>rfl
 |_=>rfl
theorem VR.cells{Z:Inj}{v v':Value}(h:VR Z v v'):VRs Z v.cells.toList v'.cells.toList:=by
 have one:∀{v v':Value},VR Z v v'->Lay.cellB v=true->v.cells.toList=[v]/\v'.cells.toList=[v']:=by
  intro v v' h hc;have h2:=h.cellB;rw[hc]at h2;constructor
  .cases v <;> first|rfl|simp[Lay.cellB]at hc
  .cases v' <;> first|rfl|simp[Lay.cellB]at h2
 by_cases hc:Lay.cellB v=true
 .obtain⟨e1,e2⟩:=one h hc;rw[e1,e2];exact .cons h .nil
 .cases h with
  |any h=>simp[Lay.cellB]at hc
  |agg s h=>exact wEC s h
  |atom h=>cases v <;> simp_all [Lay.cellB,zAC]
  |tuple s h=>exact .cons (.tuple s h) .nil
  |_=>simp[Lay.cellB]at hc
theorem VRs.cellB{Z:Inj}{l l':List Value}(h:VRs Z l l'):l.all Lay.cellB=l'.all Lay.cellB:=by
 induction h with
 |nil=>rfl
 |cons h _ ih=>simp only[List.all_cons,ih,h.cellB]

structure Ext(Z Z':Inj)(N n':Nat):Prop where
 loc:∀b s L,Z.loc b s=some L->Z'.loc b s=some L
 sz:∀b s L,Z.loc b s=some L->Z'.csz L.c=Z.csz L.c
 fresh:∀b s,Z.loc b s=none->n'<=b->Z'.loc b s=none
 own:∀c,c<N->Z'.own c=Z.own c
 csz:∀c,c<N->Z'.csz c=Z.csz c
 old:∀b s L,Z'.loc b s=some L->L.c<N->∃b' s' L',Z.loc b' s'=some L'/\L'.c=L.c

structure Sub(Z Z':Inj):Prop where
 loc:∀b s L,Z.loc b s=some L->Z'.loc b s=some L
 sz:∀b s L,Z.loc b s=some L->Z'.csz L.c=Z.csz L.c
theorem Sub.refl(Z:Inj):Sub Z Z:=⟨λ_ _ _ h=>h,λ_ _ _ _=>rfl⟩
theorem Sub.trans{Z ig ip:Inj}(h:Sub Z ig)(k:Sub ig ip):Sub Z ip :=
 ⟨λb s L e=>k.loc b s L (h.loc b s L e),λb s L e=>(k.sz b s L (h.loc b s L e)).trans (h.sz b s L e)⟩
theorem Ext.sub{Z Z':Inj}(e:Ext Z Z' N n'):Sub Z Z':=⟨e.loc,e.sz⟩

theorem FnR.sub{Z Z':Inj}(e:Sub Z Z'){f f':Fn}(h:FnR Z f f'):FnR Z' f f':=by
 cases h with
 |func f=>exact .func f
 |yield h=>exact .yield (e.loc _ _ _ h)
theorem VR.sub{Z Z':Inj}(e:Sub Z Z'){v v':Value}(h:VR Z v v'):VR Z' v v':=by
 induction h with
 |any h=>exact .any h
 |atom h=>exact .atom h
 |ptr h hlo=>exact .ptr (e.loc _ _ _ h) hlo
 |slice h hlo hA hc hs=>exact .slice (e.loc _ _ _ h) hlo hA hc (by rw[e.sz _ _ _ h];exact hs)
 |map h=>exact .map (e.loc _ _ _ h)
 |func hf s1 _ s2 _ ih1 ih2=>exact .func (hf.sub e) s1 ih1 s2 ih2
 |iface _ ih=>exact .iface ih
 |agg s _ ih=>exact .agg s ih
 |tuple s _ ih=>exact .tuple s ih
theorem VRs.sub{Z Z':Inj}(e:Sub Z Z'){l l':List Value}(h:VRs Z l l'):VRs Z' l l':=by
 induction h with
 |nil=>exact .nil
 |cons h _ ih=>exact .cons (h.sub e) ih

theorem VR.ext{Z Z':Inj}(e:Ext Z Z' N n'){v v':Value}(h:VR Z v v'):VR Z' v v':=h.sub e.sub
def zLE:Operand->Bool
 |.const v=>yI RD v
 |_=>true
def zOB(o:Oper):Bool:=o.op.operands.toList.all zLE
def vF:Code->Bool
 |.seq a b=>vF a&&vF b
 |.cond c x y=>zLE c&&vF x&&vF y
 |.block _ c=>vF c
 |.scope c=>vF c
 |.loop c=>vF c
 |.region _ ops _=>ops.toList.all zOB
 |.rangeFunc g _ as bo=>zLE g&&vF as&&vF bo
 |_=>true

def TmR(Z:Inj)(f:Tm)(tm:Array Value):Prop:=f.n=tm.size/\∀i,VR Z (f.nth i) (tm.getD i undef)
theorem TmR.ext{Z Z':Inj}{N n':Nat}(e:Ext Z Z' N n'){f:Tm}{tm:Array Value}(h:TmR Z f tm):TmR Z' f tm:=⟨h.1,λi=>(h.2 i).ext e⟩
theorem TmR.sub{Z Z':Inj}(e:Sub Z Z'){f:Tm}{tm:Array Value}(h:TmR Z f tm):TmR Z' f tm:=⟨h.1,λi=>(h.2 i).sub e⟩
theorem TmR.set{Z:Inj}{f:Tm}{tm:Array Value}(h:TmR Z f tm)(i:Nat){v v':Value}(hv:VR Z v v'):TmR Z (f.set i v) (tm.setIfInBounds i v'):=by
 refine⟨by simpa using h.1,λj=>?_⟩
 rw[Tm.nth_set,h.1];by_cases e:j=i/\i<tm.size
 .obtain⟨rfl,hlt⟩:=e;rw[if_pos ⟨rfl,hlt⟩];simpa [Array.getD,hlt] using hv
 .rw[if_neg e];have:=h.2 j;by_cases hj:j<tm.size
  .have hne:i≠j:=λx=>e ⟨x.symm,x ▸ hj⟩
   simpa [Array.getD,hj,Array.getElem_setIfInBounds,hne] using this
  .simpa [Array.getD,hj] using this

structure RowR(Z:Inj)(w:World)(b:Nat)(cs:List Value)(esz:Nat)(ro:Bool)(s e:Nat)(L:Loc):Prop where
 loc:Z.loc b s=some L
 row:∃arr elem fr,w.heap[L.c]?=some (.cells arr elem fr)/\arr.size=Z.csz L.c/\(ro=false->fr=(0,0))/\L.base+(e-L.lo)<=arr.size /\
  ∀j,L.lo<=j->j<e->∃v v',cs[j]?=some v/\arr[L.base+(j-L.lo)]?=some v'/\VR Z v v'
 cz:L.z=esz
 lo:L.lo<=e
 own:Z.own L.c=if ro then none else some b

inductive BlkR(Z:Inj)(w:World)(b:Nat):Blk->Prop
 |cells {cs:List Value} {esz:Nat} {log:List (Nat×Nat)} {next:Nat} {ro:Bool}
   (rows:∀s e,(s,e)∈log->s<next/\e<=cs.length/\∃L,RowR Z w b cs esz ro s e L)
   (sorted:log.Pairwise (λx y=>y.1<x.1/\y.2<=x.2))
   (same:∀iI iJ iE iC iH iG,(iI,iJ)∈log->(iE,iC)∈log->Z.loc b iI=some iH->Z.loc b iE=some iG->iH.c=iG.c->iH.base+iG.lo=iG.base+iH.lo)
   (fresh:∀s,next<=s->Z.loc b s=none):BlkR Z w b (.cells cs esz log next ro)
 |map {es:List (Value×Value)} {L:Loc} {arr:Array MapEntry} {clock:Nat} (loc:Z.loc b 0=some L) (own:Z.own L.c=some b)
   (row:w.heap[L.c]?=some (.map arr clock)) (size:arr.size=es.length)
   (ents:∀(i:Nat) e,es[i]?=some e->∃e',arr[i]?=some e'/\e'.key=e.1/\VR Z e.2 e'.val):BlkR Z w b (.map es)
 |loop {f:Tm} {tm:Array Value} {ps:List Tmp} {as bo:Code} {st:LoopState} {pend:Option Code} {db:Nat} {fn:FuncId} {L Ld:Loc} (loc:Z.loc b 0=some L) (own:Z.own L.c=some b)
   (locd:Z.loc db 0=some Ld)
   (row:w.heap[L.c]?=some (.loop { state:=st,pending:=pend,fn:=fn,tmps:=tm,params:=ps.toArray,assign:=as,body:=bo,defers:=Ld.c })) (tms:TmR Z f tm)
   (oka:vF as=true) (okb:vF bo=true) :
   BlkR Z w b (.loop f ps as bo st pend db)
 |defd {L:Loc} (loc:Z.loc b 0=some L) (own:Z.own L.c=some b) (row:w.heap[L.c]?=some (.deferred (some []))):BlkR Z w b .defd

structure Rep(Z:Inj)(E:St)(w:World):Prop where
 blk:∀b y,yP E.heap b=some y->b<E.j/\BlkR Z w b y
 lt:∀b s L,Z.loc b s=some L->L.c<w.heap.size
 ownlt:∀c b,Z.own c=some b->c<w.heap.size/\b<E.j
 fresh:∀b s,E.j<=b->Z.loc b s=none

def zDA(w w':World):Prop:=∀(c:Nat) arr elem f,w'.heap[c]?=some (.cells arr elem f)->(∃arr' elem',w.heap[c]?=some (.cells arr' elem' f))\/f=(0,0)
theorem zDA.refl(w:World):zDA w w:=λ_ arr elem _ h=>.inl ⟨arr,elem,h⟩
theorem zDA.trans{io ir:World}(h:zDA w io)(k:zDA io ir):zDA w ir:=λc arr elem f hc=>by
 rcases k c arr elem f hc with ⟨arr',elem',hc'⟩|hf
 .exact h c arr' elem' f hc'
 .exact .inr hf
theorem zDA.one(r:Nat)(h:∀c,c≠r->w'.heap[c]?=w.heap[c]?)(hr:∀arr elem f,w'.heap[r]?=some (.cells arr elem f)->f=(0,0)):zDA w w':=λc arr elem f hc=>by
 by_cases e:c=r
 .subst e;exact .inr (hr arr elem f hc)
 .rw[h c e]at hc;exact .inl ⟨arr,elem,hc⟩

structure Pres(Z:Inj)(w:World)(low:Nat)(w':World):Prop where
 size:w.heap.size<=w'.heap.size
 same:∀c,c<w.heap.size->(∀b,Z.own c=some b->b<low)->w'.heap[c]?=w.heap[c]?
 tape:w'.tape=w.tape
 os:w'.os=w.os
 output:w'.output=w.output
 fr:zDA w w'

structure Good(Z:Inj)(E:St)(w:World)(Z':Inj)(E':St)(w':World):Prop where
 ext:Ext Z Z' w.heap.size E'.j
 rep:Rep Z' E' w'
 pres:Pres Z w E'.low w'
 low:E'.low<=E.low
 j:E.j<=E'.j

def yCS(Z:Inj)(n m:Nat):Prop:=∀b s,n<=b->b<m->Z.loc b s=none

theorem Ext.refl(Z:Inj)(N n:Nat):Ext Z Z N n:=⟨λ_ _ _ h=>h,λ_ _ _ _=>rfl,λ_ _ h _=>h,λ_ _=>rfl,λ_ _=>rfl,λb s L h _=>⟨b,s,L,h,rfl⟩⟩
theorem Ext.trans{Z ig ip:Inj}{N i7 iX iT:Nat}(h:Ext Z ig N iX)(k:Ext ig ip i7 iT)(hN:N<=i7)(hn:iX<=iT):Ext Z ip N iT :=
  ⟨λb s L e=>k.loc b s L (h.loc b s L e),
   λb s L e=>(k.sz b s L (h.loc b s L e)).trans (h.sz b s L e),
   λb s e hb=>k.fresh b s (h.fresh b s e (Nat.le_trans hn hb)) hb,
   λc hc=>(k.own c (Nat.lt_of_lt_of_le hc hN)).trans (h.own c hc),
   λc hc=>(k.csz c (Nat.lt_of_lt_of_le hc hN)).trans (h.csz c hc),
   λb s L e hc=>by
    obtain⟨jg,iI,iH,iJ,iz⟩:=k.old b s L e (Nat.lt_of_lt_of_le hc hN);obtain⟨jc,iE,iG,iC,iB⟩:=h.old jg iI iH iJ (by rw[iz];exact hc);exact⟨jc,iE,iG,iC,iB.trans iz⟩⟩
theorem Pres.refl(Z:Inj)(w:World)(low:Nat):Pres Z w low w:=⟨Nat.le_refl _,λ_ _ _=>rfl,rfl,rfl,rfl,.refl _⟩
theorem Pres.trans{Z ig:Inj}{w io ir:World}{iD iA m:Nat}(h:Pres Z w iD io)(k:Pres ig io iA ir)(e:Ext Z ig w.heap.size m)(hl:iA<=iD):Pres Z w iA ir :=
  ⟨Nat.le_trans h.size k.size,
   λc hc ho=>by
    rw[k.same c (Nat.lt_of_lt_of_le hc h.size) (λb hb=>ho b (by rwa [e.own c hc]at hb))];exact h.same c hc (λb hb=>Nat.lt_of_lt_of_le (ho b hb) hl),
   k.tape.trans h.tape,k.os.trans h.os,k.output.trans h.output,h.fr.trans k.fr⟩
theorem Good.refl{Z:Inj}{E:St}{w:World}(h:Rep Z E w):Good Z E w Z E w:=⟨Ext.refl _ _ _,h,Pres.refl _ _ _,Nat.le_refl _,Nat.le_refl _⟩
theorem Good.trans{Z ig ip:Inj}{E V1 il:St}{w io ir:World}(h:Good Z E w ig V1 io)(k:Good ig V1 io ip il ir):Good Z E w ip il ir :=
 ⟨h.ext.trans k.ext h.pres.size k.j,k.rep,h.pres.trans k.pres h.ext k.low,Nat.le_trans k.low h.low,Nat.le_trans h.j k.j⟩
theorem BlkR.keepS{Z Z':Inj}(h:BlkR Z w b y)(e:Sub Z Z')(ho:∀s L,Z.loc b s=some L->Z'.own L.c=Z.own L.c)
  (hs:∀s L,Z.loc b s=some L->Z.own L.c=some b\/Z.own L.c=none->w'.heap[L.c]?=w.heap[L.c]?)
  (hf:∀cs esz log next ro,y=.cells cs esz log next ro->∀s,next<=s->Z'.loc b s=none):BlkR Z' w' b y:=by
 cases h with
 |cells rows sorted same fresh =>
  refine .cells (λs ex hm=>?_) sorted (λiI iJ iE iC iH iG iz iB iD iA hc=>?_) (hf _ _ _ _ _ rfl)
  .obtain⟨h1,h2,L,hr⟩:=rows s ex hm;refine⟨h1,h2,L, ?_⟩
   obtain⟨hl,⟨arr,elem,fr,r1,r2,r3,r4,r5⟩,hcz,hlo,hown⟩:=hr;refine⟨e.loc _ _ _ hl,⟨arr,elem,fr, ?_,by rw[e.sz _ _ _ hl];exact r2,r3,r4,λj h1 h2=>?_⟩,hcz,hlo,by rw[ho _ _ hl];exact hown⟩
   .rw[hs s L hl ?_];exact r1;rw[hown];split
    .exact .inr rfl
    .exact .inl rfl
   .obtain⟨v,v',a1,a2,a3⟩:=r5 j h1 h2;exact⟨v,v',a1,a2,a3.sub e⟩
  .obtain⟨_,_,jo,i5⟩:=rows iI iJ iz;obtain⟨_,_,ji,iZ⟩:=rows iE iC iB;have iY:=e.loc _ _ _ i5.loc;have iW:=e.loc _ _ _ iZ.loc;rw[iD]at iY;rw[iA]at iW;cases iY;cases iW;exact same iI iJ iE iC _ _ iz iB i5.loc iZ.loc hc
 |map loc own row size ents =>
  refine .map (e.loc _ _ _ loc) (by rw[ho _ _ loc];exact own) (by rw[hs _ _ loc (.inl own)];exact row) size (λi x hx=>?_);obtain⟨e',a1,a2,a3⟩:=ents i x hx;exact⟨e',a1,a2,a3.sub e⟩
 |loop loc own locd row tms oka okb =>
  exact .loop (e.loc _ _ _ loc) (by rw[ho _ _ loc];exact own) (e.loc _ _ _ locd) (by rw[hs _ _ loc (.inl own)];exact row) (tms.sub e) oka okb
 |defd loc own row=>exact .defd (e.loc _ _ _ loc) (by rw[ho _ _ loc];exact own) (by rw[hs _ _ loc (.inl own)];exact row)
theorem BlkR.keep{Z Z':Inj}(h:BlkR Z w b y)(e:Ext Z Z' N n')
  (hlt:∀b s L,Z.loc b s=some L->L.c<N)
  (hs:∀c,c<N->Z.own c=some b\/Z.own c=none->w'.heap[c]?=w.heap[c]?)
  (hf:∀cs esz log next ro,y=.cells cs esz log next ro->∀s,next<=s->Z'.loc b s=none):BlkR Z' w' b y :=
 h.keepS e.sub (λs L hl=>e.own _ (hlt b s L hl)) (λs L hl=>hs _ (hlt b s L hl)) hf

theorem Rep.grown{Z:Inj}(h:Rep Z E w)(hs:w.heap.size<=w'.heap.size)(hc:∀c,c<w.heap.size->w'.heap[c]?=w.heap[c]?):Rep Z E w' :=
  ⟨λb y hb=>⟨(h.blk b y hb).1,(h.blk b y hb).2.keep (Ext.refl Z w.heap.size 0) h.lt (λc hc' _=>hc c hc') (λcs esz log next ro hy s hs'=>by
    have:=(h.blk b y hb).2;subst hy;cases this with|cells _ _ _ fresh=>exact fresh s hs')⟩,
   λb s L hl=>Nat.lt_of_lt_of_le (h.lt b s L hl) hs,λc b hb=>⟨Nat.lt_of_lt_of_le (h.ownlt c b hb).1 hs,(h.ownlt c b hb).2⟩,h.fresh⟩
theorem Rep.free{Z:Inj}(h:Rep Z E w)(m:Nat):yCS Z E.j m:=λb s h1 _=>h.fresh b s h1

end Go.Lay

namespace Go.Lay
open Go
variable{k:IntKind}{v' v x y x' y':Value}{b:Bool}{a:Addr}{len cap:Nat}{c:Array Value}{t:TypeId}{Z:Inj}{op:BinOp}{ox oy:Operand}

section
variable{Z:Inj}
theorem VR.int_inv{n:Int}(h:VR Z (.int k n) v'):v'=.int k n:=by cases h;rfl
theorem VR.bool_inv(h:VR Z (.bool b) v'):v'=.bool b:=by cases h;rfl
theorem VR.string_inv{s:ByteArray}(h:VR Z (.string s) v'):v'=.string s:=by cases h;rfl
theorem VR.ptr_inv(h:VR Z (.pointer (some a)) v'):∃L,Z.loc a.block (yO a)=some L/\L.lo<=a.off/\v'=.pointer (some (L.at a.off)):=by
 cases h with
 |atom h=>simp[zAC]at h
 |ptr h hlo=>exact⟨_,h,hlo,rfl⟩
theorem VR.ptr_none(h:VR Z (.pointer none) v'):v'=.pointer none:=by cases h;rfl
theorem VR.slice_inv(h:VR Z (.slice (some a) len cap) v') :
  ∃L cap' A,Z.loc a.block (yO a)=some L/\L.lo<=a.off/\(A=L.at a.off\/(len=0/\xC cap=0/\cap'=0))/\zOV cap cap'/\L.base+(a.off-L.lo)+cap'*L.z<=Z.csz L.c/\v'=.slice (some A) len cap':=by
 cases h with
 |atom h=>simp[zAC]at h
 |slice h hlo hA hc hs=>exact⟨_,_,_,h,hlo,hA,hc,hs,rfl⟩
theorem VR.slice_none(h:VR Z (.slice none len cap) v'):v'=.slice none len cap:=by cases h;rfl
theorem VR.map_inv{b:Nat}(h:VR Z (.map (some b)) v'):∃L,Z.loc b 0=some L/\v'=.map (some L.c):=by
 cases h with
 |atom h=>simp[zAC]at h
 |map h=>exact⟨_,h,rfl⟩
theorem VR.map_none(h:VR Z (.map none) v'):v'=.map none:=by cases h;rfl
theorem VR.agg_inv(h:VR Z (.agg c) v'):∃c',v'=.agg c'/\VRs Z c.toList c'.toList:=by
 cases h with
 |atom h=>simp[zAC]at h
 |agg s h=>exact⟨_,rfl,wEC s h⟩
theorem VR.tuple_inv(h:VR Z (.tuple c) v'):∃c',v'=.tuple c'/\VRs Z c.toList c'.toList:=by
 cases h with
 |atom h=>simp[zAC]at h
 |tuple s h=>exact⟨_,rfl,wEC s h⟩
theorem VR.func_inv{fn:Fn}{f:Array Value}(h:VR Z (.func fn f c) v'):∃fn' f' c',v'=.func fn' f' c'/\FnR Z fn fn'/\VRs Z f.toList f'.toList/\VRs Z c.toList c'.toList:=by
 cases h with
 |atom h=>simp[zAC]at h
 |func hf s1 h1 s2 h2=>exact⟨_,_,_,rfl,hf,wEC s1 h1,wEC s2 h2⟩
theorem VR.iface_inv(h:VR Z (.iface t v) v'):∃x,v'=.iface t x/\VR Z v x:=by
 cases h with
 |atom h=>simp[zAC]at h
 |iface h=>exact⟨_,rfl,h⟩
theorem VR.nilFunc_inv(h:VR Z .nilFunc v'):v'=.nilFunc:=by cases h;rfl
theorem VR.nilIface_inv(h:VR Z .nilIface v'):v'=.nilIface:=by cases h;rfl
end

theorem vT(c:Array Value):(⟨c.toList⟩:Array Value)=c:=by cases c;rfl

theorem uJ{P:Program}{U:Type}:∀(s:Sem U) {a:U},yL P s=some a->∀w,s.run P w=.ok a w:=by
 intro s;induction s with
 |pure a=>intro a' h w;simp[yL]at h;subst h;rfl
 |program k ih=>intro a h w;simp only[yL]at h;simp only[Sem.run];exact ih _ h w
 |_=>intro a h;simp[yL]at h

theorem filter_some{U:Type}{o:Option U}{p:U->Bool}{v:U}(h:o.filter p=some v):o=some v/\p v=true:=by
 cases o with
 |none=>simp at h
 |some x=>simp[Option.filter_some]at h;obtain⟨h1,h2⟩:=h;subst h2;exact⟨rfl,h1⟩

theorem uU(k:IntKind)(n:Int):vG k n=k.wrap n:=by
 unfold vG;split
 .have key:∀n:Int, -9223372036854775808<=n->n<=9223372036854775807->IntKind.wrap .i64 n=n:=by
   intro n h1 h2;have e1:(2:Int) ^ 64=18446744073709551616:=by decide
   have e2:(2:Int) ^ (64-1)=9223372036854775808:=by decide
   simp only[IntKind.wrap,IntKind.bits,IntKind.signed,e1,e2,Bool.true_and,decide_eq_true_eq];split <;> omega
  have hb:∀m:Nat,Nat.ble m 9223372036854775807=true->(m:Int)<=9223372036854775807:=λm h=>by
   have:=(yJ m 9223372036854775807).1 h;omega
  split
  .rename_i m;cases h:Nat.ble m 9223372036854775807 with
   |false=>rw[cond_false]
   |true =>
    have h1:=hb m h;have h2:=Int.natCast_nonneg m;rw[cond_true];refine(key (Int.ofNat m) ?_ ?_).symm
    .exact Int.le_trans (by decide) h2
    .exact h1
  .rename_i m;cases h:Nat.ble m 9223372036854775807 with
   |false=>rw[cond_false]
   |true =>
    have h1:=hb m h;have h2:=Int.natCast_nonneg m;rw[cond_true];refine(key (Int.negSucc m) ?_ ?_).symm
    .rw[Int.negSucc_eq];omega
    .rw[Int.negSucc_eq];omega
 .rfl

theorem yBG{j:IntKind}(h:zFH j k=true):j=k:=by cases j <;> cases k <;> simp_all [zFH]

section
variable{P:Program}
theorem xQ{n:Nat}(h:yR P t=some n)(w:World):(sizeOf t).run P w=.ok n w:=by
 unfold yR at h;cases hi:P.info? t with
 |none=>simp[hi]at h
 |some i=>simp[hi]at h;simp[sizeOf,typeInfo,hi,h]
theorem zCO{z:Value}(h:uO P t=some z)(w:World):(zeroValue t).run P w=.ok z w:=by
 unfold uO at h;cases hi:P.types[t]? with
 |none=>simp[hi]at h
 |some i =>
  have hlt:t<P.types.size:=(Array.getElem?_eq_some_iff.1 hi).1;have hi2:P.info? t=some i:=by unfold Tables.info?;rw[if_pos hlt];exact hi
  simp[hi]at h;simp[zeroValue,typeInfo,hi2,h]
theorem zVV(h:xI P t=some b)(w:World):(isAgg t).run P w=.ok b w:=by
 unfold xI at h;split at h <;> simp at h <;> subst h <;> simp[isAgg,underlying, *]
theorem uY{i:TypeInfo}(h:P.info? t=some i)(w:World):(typeInfo t).run P w=.ok i w:=by simp[typeInfo,h]

theorem xCE(h:xCF P t x y=some b)(hx:VR Z x x')(hy:VR Z y y')(w:World) :
  (binOp .eql t x' y').run P w=.ok (.bool b) w/\(binOp .neq t x' y').run P w=.ok (.bool !b) w/\(∀op ox oy,(eqGuard op t ox oy x' y').run P w=.ok () w):=by
 have fin:∀(x' y':Value) (b:Bool),(∀d,(Op.equalIn (d+1) t x' y').run P w=.ok b w)->(binOp .eql t x' y'=do pure (.bool (<- Op.equal t x' y'))) ->
   (binOp .neq t x' y'=do pure (.bool (!(<- Op.equal t x' y'))))->(∀op ox oy,eqGuard op t ox oy x' y'=pure ()) ->
   (binOp .eql t x' y').run P w=.ok (.bool b) w/\(binOp .neq t x' y').run P w=.ok (.bool !b) w/\(∀op ox oy,(eqGuard op t ox oy x' y').run P w=.ok () w):=by
  intro x' y' b h1 h2 h3 h4
  have h5:(Op.equal t x' y').run P w=.ok b w:=h1 9999
  refine⟨by rw[h2,Sem.run_bind,h5];rfl,by rw[h3,Sem.run_bind,h5];rfl,λop ox oy=>by rw[h4];rfl⟩
 unfold xCF at h;split at h <;> simp at h <;> subst h <;> rename_i hd
 .rename_i o _ _;have:=hx.slice_none;subst this;cases o with
  |none=>have:=hy.slice_none;subst this;exact fin _ _ _ (λd=>by simp[Op.equalIn,run_underlying hd]) rfl rfl (λop _ _=>by cases op <;> rfl)
  |some a=>obtain⟨L,c',A,_,_,_,_,_,rfl⟩:=hy.slice_inv;exact fin _ _ _ (λd=>by simp[Op.equalIn,run_underlying hd]) rfl rfl (λop _ _=>by cases op <;> rfl)
 .obtain⟨L,c',A,_,_,_,_,_,rfl⟩:=hx.slice_inv;have:=hy.slice_none;subst this;exact fin _ _ _ (λd=>by simp[Op.equalIn,run_underlying hd]) rfl rfl (λop _ _=>by cases op <;> rfl)
 .rename_i o;have:=hx.map_none;subst this;cases o with
  |none=>have:=hy.map_none;subst this;exact fin _ _ _ (λd=>by simp[Op.equalIn,run_underlying hd]) rfl rfl (λop _ _=>by cases op <;> rfl)
  |some a=>obtain⟨L,_,rfl⟩:=hy.map_inv;exact fin _ _ _ (λd=>by simp[Op.equalIn,run_underlying hd]) rfl rfl (λop _ _=>by cases op <;> rfl)
 .obtain⟨L,_,rfl⟩:=hx.map_inv;have:=hy.map_none;subst this;exact fin _ _ _ (λd=>by simp[Op.equalIn,run_underlying hd]) rfl rfl (λop _ _=>by cases op <;> rfl)
 .have:=hx.nilFunc_inv;subst this;obtain⟨fn',f',c',rfl,_,_,_⟩:=hy.func_inv;exact fin _ _ _ (λd=>by simp[Op.equalIn,run_underlying hd]) rfl rfl (λop _ _=>by cases op <;> rfl)
 .have:=hy.nilFunc_inv;subst this;obtain⟨fn',f',c',rfl,_,_,_⟩:=hx.func_inv;exact fin _ _ _ (λd=>by simp[Op.equalIn,run_underlying hd]) rfl rfl (λop _ _=>by cases op <;> rfl)
 .rename_i o;have:=hx.ptr_none;subst this;cases o with
  |none=>have:=hy.ptr_none;subst this;exact fin _ _ _ (λd=>by simp[Op.equalIn,run_underlying hd]) rfl rfl (λop _ _=>by cases op <;> rfl)
  |some a=>obtain⟨L,_,_,rfl⟩:=hy.ptr_inv;exact fin _ _ _ (λd=>by simp[Op.equalIn,run_underlying hd]) rfl rfl (λop _ _=>by cases op <;> rfl)
 .obtain⟨L,_,_,rfl⟩:=hx.ptr_inv;have:=hy.ptr_none;subst this;exact fin _ _ _ (λd=>by simp[Op.equalIn,run_underlying hd]) rfl rfl (λop _ _=>by cases op <;> rfl)
 .have:=hx.nilIface_inv;subst this;obtain⟨x1,rfl,_⟩:=hy.iface_inv;exact fin _ _ _ (λd=>by simp[Op.equalIn,run_underlying hd]) rfl rfl (λop _ _=>by cases op <;> rfl)
 .have:=hy.nilIface_inv;subst this;obtain⟨x1,rfl,_⟩:=hx.iface_inv;exact fin _ _ _ (λd=>by simp[Op.equalIn,run_underlying hd]) rfl rfl (λop _ _=>by cases op <;> rfl)

theorem zWJ{a b:Int}(h:yTZ op k a b=some v)(t:TypeId)(w:World):(binOp op t (.int k a) (.int k b)).run P w=.ok v w/\zAC v=true:=by
 cases op <;> simp[yTZ]at h
 case quo=>obtain⟨h0,rfl⟩:=h;exact⟨by simp[binOp,Op.intDiv,h0],rfl⟩
 case rem=>obtain⟨h0,rfl⟩:=h;exact⟨by simp[binOp,Op.intDiv,h0],rfl⟩
 all_goals
  subst h
  refine⟨?_,rfl⟩
  simp[binOp,Op.intArith,Op.intCmp,uU,yUH,yTU,yTW]
 all_goals rfl

theorem zLJ(h:yJI P op t ox oy x y=some v)(hx:VR Z x x')(hy:VR Z y y') :
  ∃v',(∀w,(do eqGuard op t ox oy x' y';binOp op t x' y':Sem Value).run P w=.ok v' w)/\VR Z v v':=by
 unfold yJI at h;cases hr:yI RD x&&yI RD y
 .rw[hr,cond_false]at h;cases hn:xCF P t x y with
  |none=>cases op <;> simp[hn]at h
  |some b =>
   have key:=λw=>xCE hn hx hy w
   cases op <;> simp[hn]at h
   .subst h;exact⟨.bool b,λw=>by rw[Sem.run_bind,(key w).2.2];exact(key w).1,.bool b⟩
   .subst h;exact⟨.bool !b,λw=>by rw[Sem.run_bind,(key w).2.2];exact(key w).2.1,.bool _⟩
 .rw[hr,cond_true]at h;simp only[Bool.and_eq_true]at hr;obtain⟨h1,h2⟩:=filter_some h;have ex:=hx.rigid _ hr.1;have ey:=hy.rigid _ hr.2;subst ex;subst ey;exact⟨v,λw=>uJ _ h1 w,.refl_rigid _ h2⟩

theorem xLZ(h:wW P op t ox oy x y=some v)(hx:VR Z x x')(hy:VR Z y y') :
  ∃v',(∀w,(do eqGuard op t ox oy x' y';binOp op t x' y':Sem Value).run P w=.ok v' w)/\VR Z v v':=by
 unfold wW at h;split at h
 .rename_i k a k' b;cases hk:zFH k k'
  .rw[hk,cond_false]at h;exact zLJ h hx hy
  .rw[hk,cond_true]at h;split at h
   .rename_i u hu;simp at h;subst h;have:=yBG hk;subst this;have ex:=hx.int_inv;have ey:=hy.int_inv;subst ex;subst ey;refine⟨u,λw=>?_,.atom (zWJ (P:=P) hu t default).2⟩
    rw[Sem.run_bind,eqGuard_at_int];exact(zWJ hu t w).1
   .exact zLJ h hx hy
 .exact zLJ h hx hy
end

end Go.Lay

namespace Go.Lay
open Go
variable{t:TypeId}{v x ix x' ix':Value}{fs:Array Field}{f:Nat}
section
variable{P:Program}{Z:Inj}

theorem yBW{cs cs':List Value}{off:Nat}(h:xNT P t cs off=some v)(hc:VRs Z cs cs') :
  ∃v',(∀w,(part t ⟨cs'⟩ off).run P w=.ok v' w)/\VR Z v v':=by
 unfold xNT at h;split at h
 .rename_i n ha hs;simp at h;subst h;refine⟨.agg ⟨(cs'.drop off).take n⟩,λw=>?_,.agg' ((hc.drop off).take n)⟩
  simp[part,zVV ha,xQ hs]
 .rename_i _ ha;obtain⟨v',h1,h2⟩:=hc.get_some h;refine⟨v',λw=>?_,h2⟩
  simp[part,zVV ha,h1]
 .cases h

theorem wME:∀(l:List Value) (k off:Nat) (cells:Array Value),off+k+l.length<=cells.size ->
  ((l.zipIdx k).foldl (λcs (x:Value×Nat)=>cs.setIfInBounds (off+x.2) x.1) cells).toList=cells.toList.take (off+k)++(l++cells.toList.drop (off+k+l.length)):=by
 intro l;induction l with
 |nil=>intro k off cells h;simp
 |cons x l ih =>
  intro k off cells h;simp only[List.zipIdx_cons,List.foldl_cons];rw[ih (k+1) off _ (by simp at h ⊢;omega)];simp only[Array.toList_setIfInBounds,List.length_cons];simp only[List.length_cons]at h;have hlt:off+k<cells.toList.length:=by simp;omega
  have e1:(cells.toList.set (off+k) x).take (off+(k+1))=cells.toList.take (off+k)++[x]:=by
   rw[show off+(k+1)=off+k+1 by omega,List.take_succ_eq_append_getElem (by simpa using hlt)];rw[List.take_set_of_le (Nat.le_refl _)];simp
  have e2:(cells.toList.set (off+k) x).drop (off+(k+1)+l.length)=cells.toList.drop (off+k+(l.length+1)):=by
   rw[List.drop_set_of_lt (by omega)];congr 1;omega
  rw[e1,e2];simp

theorem zOL{place:Nat->Option (Nat×Nat)}:∀{parts parts':List (Nat×Value)} {cs cs' out:List Value},zRO place cs parts=some out->VRs Z cs cs' ->
  parts.map (·.1)=parts'.map (·.1)->VRs Z (parts.map (·.2)) (parts'.map (·.2))->∃out',Instr.fill place ⟨cs'⟩ parts'=some ⟨out'⟩/\VRs Z out out':=by
 intro parts;induction parts with
 |nil =>
  intro parts' cs cs' out h hc h1 h2;cases parts' with
  |nil=>simp[zRO]at h;subst h;exact⟨cs',by simp[Instr.fill],hc⟩
  |cons _ _=>simp at h1
 |cons p parts ih =>
  intro parts' cs cs' out h hc h1 h2;cases parts' with
  |nil=>simp at h1
  |cons q parts' =>
   obtain⟨i,v⟩:=p;obtain⟨j,v'⟩:=q;simp only[List.map_cons,List.cons.injEq]at h1;obtain⟨rfl,h1⟩:=h1;cases h2 with
   |cons hv h2 =>
    simp only[zRO]at h;cases hp:place i with
    |none=>simp[hp]at h
    |some os =>
     obtain⟨off,size⟩:=os;simp only[hp]at h;have hcv:=hv.cells;cases hb:Nat.beq v.cells.toList.length size&&Nat.ble (off+size) cs.length with
     |false=>rw[hb]at h;simp at h
     |true =>
      rw[hb,cond_true]at h;simp only[Bool.and_eq_true]at hb;have e1:=Nat.eq_of_beq_eq_true hb.1;have e2:=(yJ _ _).1 hb.2;have e3:v'.cells.size=size:=by rw[<- e1,hcv.length];simp
      have e4:off+size<=cs'.length:=by rw[<- hc.length];exact e2
      have hs:=wME v'.cells.toList 0 off ⟨cs'⟩ (by simp[e3];exact e4);obtain⟨out',ho,hr⟩:=ih h (VRs.append (hc.take off) (VRs.append hcv (hc.drop (off+size)))) h1 h2;refine⟨out', ?_,hr⟩
      simp only[Instr.fill,hp];rw[if_neg (by simp[e3];omega)];have e5:(v'.cells.zipIdx.foldl (λcs (x:Value×Nat)=>cs.setIfInBounds (off+x.2) x.1) (⟨cs'⟩:Array Value))=⟨cs'.take off++(v'.cells.toList++cs'.drop (off+size))⟩:=by
       apply Array.ext';rw[<- Array.foldl_toList,Array.toList_zipIdx,hs];simp[e3]
      rw[e5];exact ho

theorem xJS{ps:List (Nat×Nat)}(h:yHL P fs=some ps)(w:World) :
  (fs.mapM (m:=Sem) λf=>Prod.mk f.offset <$> sizeOf f.type).run P w=.ok ⟨ps⟩ w:=by
 have key:∀(l:List Field) (ps:List (Nat×Nat)),(l.mapM λf=>(yR P f.type).map λn=>(f.offset,n))=some ps ->
   (l.mapM (m:=Sem) λf=>Prod.mk f.offset <$> sizeOf f.type).run P w=.ok ps w:=by
  intro l
  induction l with
  |nil=>intro ps h;simp at h;subst h;simp
  |cons f l ih =>
   intro ps h;simp only[List.mapM_cons]at h;cases hs:yR P f.type with
   |none=>simp[hs]at h
   |some n =>
    simp only[hs,Option.map_some]at h;cases hl:(l.mapM λf=>(yR P f.type).map λn=>(f.offset,n))with
    |none=>simp[hl]at h
    |some qs =>
     simp[hl]at h;subst h;simp[List.mapM_cons,xQ hs,ih qs hl]
 rw[Array.mapM_eq_mapM_toList];simp[key fs.toList ps h]

theorem yUW{parts parts':List (Nat×Value)}(h:xLL P t parts=some v)
  (h1:parts.map (·.1)=parts'.map (·.1)) (h2:VRs Z (parts.map (·.2)) (parts'.map (·.2))) (hz:∀z,uO P t=some z->VR Z z z) :
  ∃v',(∀w,(Instr.build t ⟨parts'⟩).run P w=.ok v' w)/\VR Z v v':=by
 unfold xLL at h;split at h
 .rename_i z fs hz' hd;cases hp:yHL P fs with
  |none=>simp[hp]at h
  |some ps =>
   simp only[hp]at h;cases hf:zRO (λi=>ps[i]?) z.cells.toList parts with
   |none=>simp[hf]at h
   |some cs =>
    simp[hf]at h;subst h;obtain⟨out',ho,hr⟩:=zOL hf (hz z hz').cells h1 h2;refine⟨.agg ⟨out'⟩,λw=>?_,.agg' hr⟩
    have ho':Instr.fill (λi=>ps[i]?) z.cells parts'=some ⟨out'⟩:=by simpa [vT] using ho
    simp[Instr.build,zCO hz',run_underlying hd,xJS hp,ho']
 .rename_i z n elem hz' hd;cases hs:yR P elem with
  |none=>simp[hs]at h
  |some m =>
   simp only[hs]at h;cases hf:zRO (λi=>some (i*m,m)) z.cells.toList parts with
   |none=>simp[hf]at h
   |some cs =>
    simp[hf]at h;subst h;obtain⟨out',ho,hr⟩:=zOL hf (hz z hz').cells h1 h2;refine⟨.agg ⟨out'⟩,λw=>?_,.agg' hr⟩
    have ho':Instr.fill (λi=>some (i*m,m)) z.cells parts'=some ⟨out'⟩:=by simpa [vT] using ho
    simp[Instr.build,zCO hz',run_underlying hd,xQ hs,ho']
 .cases h

theorem zLN(L:Loc)(off n:Nat)(h:L.lo<=off):(L.at off).add n=L.at (off+n):=by
 unfold Loc.at Addr.add;split
 .subst_vars;rfl
 .simp;omega
theorem vN(a b:Int):leI a b=true↔a<=b:=by rw[yTW];simp
theorem zKR(a b:Int):ltI a b=true↔a<b:=by rw[yTU];simp

theorem zYJ(h:zFS P t x ix=some v)(hx:VR Z x x')(hi:VR Z ix ix') :
  ∃v',(∀w,(Instr.indexAt t x' ix').run P w=.ok v' w)/\VR Z v v':=by
 unfold zFS at h;split at h
 .rename_i i a len elem hd;have:=hi.int_inv;subst this;obtain⟨L,hl,hlo,rfl⟩:=hx.ptr_inv;cases hs:yR P elem with
  |none=>simp[hs]at h
  |some n =>
   simp only[hs]at h;cases hb:leI 0 i&&ltI i (.ofNat len)with
   |false=>rw[hb,cond_false]at h;cases h
   |true =>
    rw[hb,cond_true]at h;simp at h;subst h;simp only[Bool.and_eq_true,vN,zKR]at hb;refine⟨.pointer (some (L.at (a.off+i.toNat*n))),λw=>?_,.ptr (a:=zO a (i.toNat*n)) hl (by simp[zO];omega)⟩
    have hb2:i<(len:Int):=hb.2;simp[Instr.indexAt,asIntOf,run_underlying hd,Instr.sureAddr,hb.1,hb2,xQ hs,zLN _ _ _ hlo]
 .rename_i i a len cap elem hd;have:=hi.int_inv;subst this;obtain⟨L,c',A,hl,hlo,hA,_,_,rfl⟩:=hx.slice_inv;cases hs:yR P elem with
  |none=>simp[hs]at h
  |some n =>
   simp only[hs]at h;cases hb:leI 0 i&&ltI i (.ofNat len)with
   |false=>rw[hb,cond_false]at h;cases h
   |true =>
    rw[hb,cond_true]at h;simp at h;subst h;simp only[Bool.and_eq_true,vN,zKR]at hb;refine⟨.pointer (some (L.at (a.off+i.toNat*n))),λw=>?_,.ptr (a:=zO a (i.toNat*n)) hl (by simp[zO];omega)⟩
    have hb2:i<(len:Int):=hb.2;rcases hA with rfl|⟨e0,_,_⟩
    .simp[Instr.indexAt,asIntOf,run_underlying hd,hb.1,hb2,xQ hs,zLN _ _ _ hlo]
    .exfalso;have:=hb.1;omega
 .cases h

theorem zRP(h:zWS P t=some fs):P.underlying t=some (.struct fs):=by
 unfold zWS at h;split at h <;> simp_all

theorem zYU(h:zTE P t x f=some v)(hx:VR Z x x') :
  ∃v',(∀w,(Instr.fieldAt t x' f).run P w=.ok v' w)/\VR Z v v':=by
 unfold zTE at h;split at h
 .rename_i a fs hf;have hd:=zRP hf;obtain⟨L,hl,hlo,rfl⟩:=hx.ptr_inv;split at h
  .rename_i fd hfd;split at h
   .cases h
   .rename_i n hn hs;simp at h;subst h;refine⟨.pointer (some (L.at (a.off+fd.offset))),λw=>?_,.ptr (a:=zO a fd.offset) hl (by simp[zO];omega)⟩
    have hn0:¬n=0:=hn;simp[Instr.fieldAt,run_underlying hd,hfd,Instr.sureAddr,fieldPlace,xQ hs,zLN _ _ _ hlo,hn0]
   .cases h
  .cases h
 .cases h

theorem yUE(h:xKW P t x f=some v)(hx:VR Z x x') :
  ∃v',(∀w,(Instr.field t x' f).run P w=.ok v' w)/\VR Z v v':=by
 unfold xKW at h;split at h
 .rename_i cs fs hf;have hd:=zRP hf;obtain⟨c',rfl,hc⟩:=hx.agg_inv;split at h
  .rename_i fd hfd;obtain⟨v',h1,h2⟩:=yBW h hc;rw[vT]at h1;exact⟨v',λw=>by simp[Instr.field,run_underlying hd,hfd,asAgg,h1],h2⟩
  .cases h
 .cases h

theorem yUA(h:zTB P t x ix=some v)(hx:VR Z x x')(hi:VR Z ix ix') :
  ∃v',(∀w,(Instr.index t x' ix').run P w=.ok v' w)/\VR Z v v':=by
 unfold zTB at h;split at h
 .rename_i i cs len elem hd;have:=hi.int_inv;subst this;obtain⟨c',rfl,hc⟩:=hx.agg_inv;cases hs:yR P elem with
  |none=>simp[hs]at h
  |some n =>
   simp only[hs]at h;cases hb:leI 0 i&&ltI i (.ofNat len)with
   |false=>rw[hb,cond_false]at h;cases h
   |true =>
    rw[hb,cond_true]at h;simp only[Bool.and_eq_true,vN,zKR]at hb;obtain⟨v',h1,h2⟩:=yBW h hc;rw[vT]at h1;have hb2:i<(len:Int):=hb.2;exact⟨v',λw=>by simp[Instr.index,asIntOf,run_underlying hd,hb.1,hb2,xQ hs,h1],h2⟩
 .rename_i i s hd;have:=hi.int_inv;subst this;have:=hx.string_inv;subst this;by_cases h0:0<=i
  .rw[if_pos h0]at h;cases hb:s[i.toNat]? with
   |none=>simp[hb]at h
   |some b =>
    simp[hb]at h;subst h;exact⟨_,λw=>by simp[Instr.index,asIntOf,run_underlying hd,h0,hb],.int _ _⟩
  .rw[if_neg h0]at h;cases h
 .cases h

theorem xEB{o o':Option Value}{d top n:Nat}(h:uG o d top=some n)(hr:∀x,o=some x->∃x',o'=some x'/\VR Z x x')(hn:o=none->o'=none) :
  (o=none/\o'=none/\n=d)\/(∃k i,o=some (.int k i)/\o'=some (.int k i)/\0<=i/\i<=top/\n=i.toNat):=by
 unfold uG at h;split at h
 .simp at h;exact .inl ⟨rfl,hn rfl,h.symm⟩
 .rename_i k i;obtain⟨x',h1,h2⟩:=hr _ rfl;have:=h2.int_inv;subst this;cases hb:leI 0 i&&leI i (.ofNat top)with
  |false=>rw[hb,cond_false]at h;cases h
  |true =>
   rw[hb,cond_true]at h;simp only[Bool.and_eq_true,vN]at hb;simp at h;exact .inr ⟨k,i,rfl,h1,hb.1,hb.2,h.symm⟩
 .cases h
theorem zED{ev ev':Operand->Value}:∀(l:List Operand),(∀x∈l,VR Z (ev x) (ev' x))->VRs Z (l.map ev) (l.map ev')
 |[],_=>.nil
 |x::l,h=>.cons (h x (by simp)) (zED l λy hy=>h y (by simp[hy]))

theorem yHH{l l':List Value}(h:VRs Z l l')(hr:l.all (yI RD)=true):l=l':=by
 induction h with
 |nil=>rfl
 |cons h _ ih =>
  simp only[List.all_cons,Bool.and_eq_true]at hr;rw[h.rigid _ hr.1,ih hr.2]

def zAX(P:Program):Prop:=∀t z,uO P t=some z->yI RD z=true

theorem xAQ{o:Oper}{ev ev':Operand->Value}(hz:zAX P)(h:wR P ev o.op=some v)(hev:∀x∈o.op.operands,VR Z (ev x) (ev' x)) :
  ∃v',(∀w,(execOp ev' o).run P w=.ok (.value v') w)/\VR Z v v':=by
 unfold wR at h;split at h
 .rename_i x ho;simp at h;subst h;exact⟨ev' x,λw=>by simp[execOp,ho],hev x (by simp[ho,Op.operands])⟩
 .rename_i x ho;simp at h;subst h;exact⟨ev' x,λw=>by simp[execOp,ho],hev x (by simp[ho,Op.operands])⟩
 .rename_i c a b ho;have hc:=hev c (by simp[ho,Op.operands]);split at h
  .rename_i t ht;rw[ht]at hc;have e:=hc.bool_inv;simp at h;subst h;cases t
   .exact⟨ev' b,λw=>by simp[execOp,ho,e,asBool],hev b (by simp[ho,Op.operands])⟩
   .exact⟨ev' a,λw=>by simp[execOp,ho,e,asBool],hev a (by simp[ho,Op.operands])⟩
  .cases h
 .rename_i x ho;have hx:=hev x (by simp[ho,Op.operands]);split at h
  .rename_i a ha;rw[ha]at hx;obtain⟨L,hl,hlo,e⟩:=hx.ptr_inv;simp at h;subst h;exact⟨_,λw=>by simp[execOp,ho,e],.ptr hl hlo⟩
  .cases h
 .rename_i op t x y yt ho;obtain⟨v',h1,h2⟩:=xLZ h (hev x (by simp[ho,Op.operands])) (hev y (by simp[ho,Op.operands]));refine⟨v',λw=>?_,h2⟩
  have:=h1 w;simp only[Sem.run_bind]at this;simp[execOp,ho];generalize (eqGuard op t x y (ev' x) (ev' y)).run P w=r at this ⊢;cases r with
  |ok a w1=>simp at this ⊢;rw[this];rfl
  |halt a w1=>simp at this
 .rename_i op t x ho;have hx:=hev x (by simp[ho,Op.operands]);split at h
  .rename_i b hb;rw[hb]at hx;have e:=hx.bool_inv;simp at h;subst h;exact⟨_,λw=>by simp[execOp,ho,e,Op.unary],.bool _⟩
  .rename_i k n hn;rw[hn]at hx;have e:=hx.int_inv;simp at h;subst h;exact⟨_,λw=>by simp[execOp,ho,e,Op.unary,Op.intArith,uU];exact congrArg _ (Int.zero_sub n).symm,.int _ _⟩
  .cases hr:yI RD (ev x)with
   |false=>rw[hr,cond_false]at h;cases h
   |true =>
    rw[hr,cond_true]at h;obtain⟨h1,h2⟩:=filter_some h;have e:=hx.rigid _ hr;exact⟨v,λw=>by rw[e]at h1;simp[execOp,ho,uJ _ h1],.refl_rigid _ h2⟩
 .rename_i s d x ho;have hx:=hev x (by simp[ho,Op.operands]);split at h
  .rename_i sd k k' n hs hd hn;rw[hn]at hx;have e:=hx.int_inv;simp at h;subst h;exact⟨_,λw=>by simp[execOp,ho,e,convert,run_underlying hs,run_underlying hd,Conv.intToInt,uU],.int _ _⟩
  .cases hr:yI RD (ev x)with
   |false=>rw[hr,cond_false]at h;cases h
   |true =>
    rw[hr,cond_true]at h;obtain⟨h1,h2⟩:=filter_some h;have e:=hx.rigid _ hr;exact⟨v,λw=>by rw[e]at h1;simp[execOp,ho,uJ _ h1],.refl_rigid _ h2⟩
 .rename_i t ps ho;obtain⟨v',h1,h2⟩:=yUW (parts':=ps.toList.map λp=>(p.1,ev' p.2)) h (by simp[List.map_map,Function.comp_def])
   (by
    have:=zED (ps.toList.map (·.2)) (ev:=ev) (ev':=ev') (λx hx=>hev x (by simp[ho,Op.operands]at hx ⊢;exact hx));simpa [List.map_map,Function.comp_def] using this)
   (λz hz'=>.refl_rigid _ (hz t z hz'))
  refine⟨v',λw=>?_,h2⟩
  have e:ps.map (λ(i,x)=>(i,ev' x))=(⟨ps.toList.map λp=>(p.1,ev' p.2)⟩:Array (Nat×Value)):=by
   apply Array.ext';simp
  simp only[execOp,ho,e];simp[h1 w]
 .rename_i t x ho;split at h
  .cases h
  .rename_i d hni hd;simp at h;subst h;refine⟨.iface t (ev' x),λw=>?_,.iface (hev x (by simp[ho,Op.operands]))⟩
   simp[execOp,ho,Instr.makeInterface,run_underlying hd]
  .cases h
 .rename_i fn first cap ho
  split at h
  .rename_i g;simp at h;subst h;have k1:=zED first.toList (ev:=ev) (ev':=ev') (λx hx=>hev x (by simp[ho,Op.operands]at hx ⊢;exact .inl hx))
   have k2:=zED cap.toList (ev:=ev) (ev':=ev') (λx hx=>hev x (by simp[ho,Op.operands]at hx ⊢;exact .inr hx));refine⟨.func (.func g) (first.map ev') (cap.map ev'),λw=>by simp[execOp,ho,Instr.makeFunc], ?_⟩
   refine .func (.func g) (by simp) (λi v v' h1 h2=>?_) (by simp) (λi v v' h1 h2=>?_)
   .exact k1.get i v v' (by simpa using h1) (by simpa using h2)
   .exact k2.get i v v' (by simpa using h1) (by simpa using h2)
  .cases h
 .rename_i s x f ho;obtain⟨v',h1,h2⟩:=zYU h (hev x (by simp[ho,Op.operands]));exact⟨v',λw=>by simp[execOp,ho,h1 w],h2⟩
 .rename_i t x f ho;obtain⟨v',h1,h2⟩:=yUE h (hev x (by simp[ho,Op.operands]));exact⟨v',λw=>by simp[execOp,ho,h1 w],h2⟩
 .rename_i t x i ho;obtain⟨v',h1,h2⟩:=zYJ h (hev x (by simp[ho,Op.operands])) (hev i (by simp[ho,Op.operands]));exact⟨v',λw=>by simp[execOp,ho,h1 w],h2⟩
 .rename_i t x i ho;obtain⟨v',h1,h2⟩:=yUA h (hev x (by simp[ho,Op.operands])) (hev i (by simp[ho,Op.operands]));exact⟨v',λw=>by simp[execOp,ho,h1 w],h2⟩
 .rename_i t i ho;have ht:=hev t (by simp[ho,Op.operands]);split at h
  .rename_i vs hvs;rw[hvs]at ht;obtain⟨c',e,hc⟩:=ht.tuple_inv;obtain⟨v',h1,h2⟩:=hc.get_some h;exact⟨v',λw=>by simp[execOp,ho,e,Instr.extract,show c'[i]?=some v' by simpa using h1],h2⟩
  .cases h
 .rename_i c ho;have hargs:=zED c.args.toList (ev:=ev) (ev':=ev') (λx hx=>hev x (by simp[ho,Op.operands,Call.operands]at hx ⊢;exact .inr hx));have eargs:c.args.map ev'=(⟨c.args.toList.map ev'⟩:Array Value):=by apply Array.ext';simp
  have run:∀{b:Builtin} {v':Value} (w:World),c.callee=.builtin b->(∀consts,(builtin b c.argTypes o.type consts ⟨c.args.toList.map ev'⟩).run P w=.ok (.value v') w) ->
    (execOp ev' o).run P w=.ok (.value v') w:=by
   intro b v' w hb hr
   simp only[execOp,ho,resolve,hb,eargs]
   simp[invoke,hr]
  split at h
  .rename_i hcal;split at h
   .rename_i t x l ht hl;rw[hl]at hargs;have ht0:c.argTypes[0]?=some t:=by simpa using ht
    generalize hl':c.args.toList.map ev'=l' at hargs run;cases hargs with
    |cons hx hrest =>
     rename_i x' rest';split at h
     .rename_i e a n cp hd;simp at h;subst h;refine⟨goInt n,λw=>run w hcal λ_=>?_,.int _ _⟩
      cases a with
      |none=>have:=hx.slice_none;subst this;simp[builtin,Builtin.len_,ht0,run_underlying hd]
      |some a=>obtain⟨L,c',A,_,_,_,_,_,rfl⟩:=hx.slice_inv;simp[builtin,Builtin.len_,ht0,run_underlying hd]
     .rename_i s hd;simp at h;subst h;have:=hx.string_inv;subst this;exact⟨goInt _,λw=>run w hcal (λ_=>by simp[builtin,Builtin.len_,ht0,run_underlying hd]),.int _ _⟩
     .rename_i n e hd;simp at h;subst h;exact⟨goInt _,λw=>run w hcal (λ_=>by simp[builtin,Builtin.len_,ht0,run_underlying hd]),.int _ _⟩
     .rename_i k e hd;simp at h;subst h;have:=hx.map_none;subst this;exact⟨goInt _,λw=>run w hcal (λ_=>by simp[builtin,Builtin.len_,ht0,run_underlying hd]),.int _ _⟩
     .cases h
   .cases h
  .rename_i hcal;split at h
   .rename_i t x l ht hl;rw[hl]at hargs;have ht0:c.argTypes[0]?=some t:=by simpa using ht
    generalize hl':c.args.toList.map ev'=l' at hargs run;cases hargs with
    |cons hx hrest =>
     rename_i x' rest';split at h
     .rename_i e a n cp hd;cases hex:xR cp with
      |false=>rw[hex,cond_false]at h;cases h
      |true =>
       rw[hex,cond_true]at h;simp at h;subst h;refine⟨goInt cp,λw=>run w hcal λ_=>?_,.int _ _⟩
       cases a with
       |none=>have:=hx.slice_none;subst this;simp[builtin,Builtin.cap_,ht0,run_underlying hd]
       |some a =>
        obtain⟨L,c',A,_,_,_,hc,_,rfl⟩:=hx.slice_inv;unfold zOV at hc;rw[if_pos hex]at hc;subst hc;simp[builtin,Builtin.cap_,ht0,run_underlying hd]
     .cases h
   .cases h
  .rename_i hcal;cases hr:(c.args.toList.map ev).all (yI RD)with
   |false=>rw[hr,cond_false]at h;cases h
   |true =>
    rw[hr,cond_true]at h;obtain⟨h1,h2⟩:=filter_some h;have e:=yHH hargs hr;rw[e]at h1;refine⟨v,λw=>run w hcal λ_=>?_,.refl_rigid _ h2⟩
    have h3:=uJ _ h1 w;simp only[builtin];have h4:∀ty,Builtin.min_ c.argTypes ty ⟨c.args.toList.map ev'⟩=Builtin.min_ c.argTypes 0 ⟨c.args.toList.map ev'⟩:=λ_=>rfl
    simp[h4,h3]
  .rename_i hcal;cases hr:(c.args.toList.map ev).all (yI RD)with
   |false=>rw[hr,cond_false]at h;cases h
   |true =>
    rw[hr,cond_true]at h;obtain⟨h1,h2⟩:=filter_some h;have e:=yHH hargs hr;rw[e]at h1;refine⟨v,λw=>run w hcal λ_=>?_,.refl_rigid _ h2⟩
    have h3:=uJ _ h1 w;simp only[builtin];have h4:∀ty,Builtin.max_ c.argTypes ty ⟨c.args.toList.map ev'⟩=Builtin.max_ c.argTypes 0 ⟨c.args.toList.map ev'⟩:=λ_=>rfl
    simp[h4,h3]
  .cases h
 .cases h
end
end Go.Lay

namespace Go.Lay
open Go
variable{y:Blk}{n:Nat}{L:Loc}{a:Addr}
section
variable{P:Program}{Z:Inj}{E:St}{w:World}

def Inj.add(Z:Inj)(b c n z:Nat):Inj :=
 {loc:=λb' s=>if b'=b/\s=0 then some ⟨c,0,0,z⟩else Z.loc b' s
  own:=λc'=>if c'=c then some b else Z.own c'
  csz:=λc'=>if c'=c then n else Z.csz c' }

def World.push(w:World)(o:Obj):World:={ w with heap:=w.heap.push o }
@[simp] theorem World.push_size(w:World)(o:Obj):(World.push w o).heap.size=w.heap.size+1:=by simp[World.push]
theorem World.push_old(w:World)(o:Obj){c:Nat}(h:c<w.heap.size):(World.push w o).heap[c]?=w.heap[c]?:=by
 show(w.heap.push o)[c]?=_;rw[Array.getElem?_push,if_neg (Nat.ne_of_lt h)]
theorem World.push_new(w:World)(o:Obj):(World.push w o).heap[w.heap.size]?=some o:=by
 show(w.heap.push o)[w.heap.size]?=_;rw[Array.getElem?_push,if_pos rfl]

theorem Inj.add_ext(hr:Rep Z E w)(hf:yCS Z E.j (E.j+1))(n z:Nat):Ext Z (Z.add E.j w.heap.size n z) w.heap.size (E.j+1):=by
 refine⟨λb s L h=>?_,λb s L h=>?_,λb s h hb=>?_,λc hc=>?_,λc hc=>?_,λb s L h hc=>?_⟩
 .simp only[Inj.add];rw[if_neg];exact h;rintro⟨rfl,rfl⟩;rw[hf E.j 0 (Nat.le_refl _) (by omega)]at h;cases h
 .have:=hr.lt b s L h;have hne:L.c≠w.heap.size:=by omega
  simp[Inj.add,hne]
 .simp only[Inj.add];rw[if_neg (by omega)];exact h
 .have hne:c≠w.heap.size:=by omega
  simp[Inj.add,hne]
 .have hne:c≠w.heap.size:=by omega
  simp[Inj.add,hne]
 .simp only[Inj.add]at h;split at h
  .cases h;simp at hc
  .exact⟨b,s,L,h,rfl⟩
theorem Inj.add_loc(b c n z:Nat):(Z.add b c n z).loc b 0=some ⟨c,0,0,z⟩:=by simp[Inj.add]

theorem zDA.push(w:World){o:Obj}(ho:∀arr elem f,o=.cells arr elem f->f=(0,0)):zDA w (World.push w o) :=
 .one w.heap.size (λc hc=>by
  show(w.heap.push o)[c]?=_;rw[Array.getElem?_push,if_neg hc]) (λarr elem f h=>by rw[World.push_new]at h;cases h;exact ho _ _ _ rfl)

theorem Good.addBlk{o:Obj}{z:Nat}(hr:Rep Z E w)(hf:yCS Z E.j (E.j+1))(ho:∀arr elem f,o=.cells arr elem f->f=(0,0))
  (hy:BlkR (Z.add E.j w.heap.size n z) (World.push w o) E.j y):Good Z E w (Z.add E.j w.heap.size n z) (E.add y) (World.push w o):=by
 have e:=Inj.add_ext hr hf n z;refine⟨e,⟨λb y' hb=>?_,λb s L h=>?_,λc b h=>?_,λb s h=>?_⟩,⟨by simp,λc hc _=>World.push_old w o hc,rfl,rfl,rfl,.push w ho⟩,by simp,by simp⟩
 .rw[St.add_get]at hb;by_cases hbn:b=E.j
  .rw[if_pos hbn]at hb;cases hb;subst hbn;exact⟨by simp,hy⟩
  .rw[if_neg hbn]at hb;have h:=hr.blk b y' hb;refine⟨by simp;omega,h.2.keep e hr.lt (λc hc _=>World.push_old w o hc) (λcs esz log next ro hyy s hs=>?_)⟩
   subst hyy;simp only[Inj.add];rw[if_neg (λx=>hbn x.1)];cases h.2 with|cells _ _ _ fresh=>exact fresh s hs
 .simp only[Inj.add]at h;split at h
  .cases h;simp
  .have:=hr.lt b s L h;simp;omega
 .simp only[Inj.add]at h;split at h
  .cases h;simp;omega
  .have:=hr.ownlt c b h;simp;omega
 .simp at h;simp only[Inj.add];rw[if_neg (by omega)];exact hr.fresh b s (by omega)

theorem Good.putBlk{Z':Inj}{b:Nat}{y0:Blk}{w':World}(hr:Rep Z E w)(hb:yP E.heap b=some y0)(e:Ext Z Z' w.heap.size E.j)
  (hloc:∀b' s,b'≠b->Z'.loc b' s=Z.loc b' s) (hlt:∀b s L,Z'.loc b s=some L->L.c<w'.heap.size) (hown:∀c b',Z'.own c=some b'->c<w'.heap.size/\b' < E.j)
  (hs:w.heap.size<=w'.heap.size) (hk:∀c,c<w.heap.size->Z.own c≠some b->w'.heap[c]?=w.heap[c]?) (ht:w'.tape=w.tape/\w'.os=w.os/\w'.output=w.output) (hfr:zDA w w')
  (hy:BlkR Z' w' b y):Good Z E w Z' (E.put b y) w':=by
 refine⟨e,⟨λb' y' hb'=>?_,hlt,hown,λb' s h=>by have:=(hr.blk b y0 hb).1;simp at h;rw[hloc b' s (by omega)];exact hr.fresh b' s h⟩,⟨hs,λc hc ho=>hk c hc (λh=>?_),ht.1,ht.2.1,ht.2.2,hfr⟩,by simp;omega,by simp⟩
 .rw[St.put_get]at hb';by_cases hbn:b'=b
  .rw[if_pos hbn]at hb';cases hb';subst hbn;exact⟨(hr.blk _ _ hb).1,hy⟩
  .rw[if_neg hbn]at hb';have h:=hr.blk b' y' hb';refine⟨h.1,h.2.keep e hr.lt (λc hc ho=>hk c hc (λhcb=>?_)) (λcs esz log next ro hyy s hs'=>?_)⟩
   .rcases ho with ho|ho
    .rw[hcb]at ho;cases ho;exact hbn rfl
    .rw[hcb]at ho;cases ho
   .subst hyy;rw[hloc b' s hbn];cases h.2 with|cells _ _ _ fresh=>exact fresh s hs'
 .have:=ho b h;simp at this;omega

theorem zCW:∀{log:List (Nat×Nat)} {s e:Nat},vP log s=some e->(s,e)∈log
 |[],_,_,h=>by simp[vP]at h
 |(k,x)::r,s,e,h=>by
  simp only[vP]at h;cases hk:Nat.beq k s with
  |true=>rw[hk,cond_true]at h;cases h;have:=Nat.eq_of_beq_eq_true hk;subst this;simp
  |false=>rw[hk,cond_false]at h;exact List.mem_cons_of_mem _ (zCW h)

theorem wJS(L:Loc)(off j:Nat):(L.at off).add j=⟨L.c,L.base+(off-L.lo)+j,none⟩:=by
 unfold Loc.at Addr.add;split
 .subst_vars;rfl
 .rfl

theorem wJG{off j:Nat}{arr:Array Value}{elem:TypeId}{fr:Nat×Nat}(h:w.heap[L.c]?=some (.cells arr elem fr)) :
  w.cell? ((L.at off).add j)=arr[L.base+(off-L.lo)+j]?:=by
 rw[wJS];simp[World.cell?,h]

theorem zHA{cs:List Value}(h:xG E a n=some cs)(hr:Rep Z E w)(hl:Z.loc a.block (yO a)=some L)(hlo:L.lo<=a.off) :
  ∃cs',cs.length=n/\VRs Z cs cs'/\∀j v,cs'[j]?=some v->w.cell? ((L.at a.off).add j)=some v:=by
 unfold xG at h;split at h
 .rename_i bc esz log nx ro hb;split at h
  .rename_i e he;cases hle:Nat.ble (a.off+n) e with
   |false=>rw[hle,cond_false]at h;cases h
   |true =>
    rw[hle,cond_true]at h;have hle:=(yJ _ _).1 hle;simp at h;subst h;cases (hr.blk _ _ hb).2 with
    |cells rows sorted same fresh =>
     obtain⟨_,hel,M,hM⟩:=rows _ _ (zCW he);have hML:M=L:=by have:=hM.loc;rw[hl]at this;cases this;rfl
     subst hML;obtain⟨arr,elem,fr,h1,h2,_,h3,h4⟩:=hM.row;have hlen:((bc.drop a.off).take n).length=n:=by simp;omega
     refine⟨(arr.toList.drop (M.base+(a.off-M.lo))).take n,hlen,VRs.of_get ?_ ?_, ?_⟩
     .rw[hlen];simp;omega
     .intro i v v' hv hv';have hi:i<n:=by rw[<- hlen];exact(List.getElem?_eq_some_iff.1 hv).1
      rw[List.getElem?_take_of_lt hi,List.getElem?_drop]at hv hv';obtain⟨x,x',e1,e2,e3⟩:=h4 (a.off+i) (by omega) (by omega);rw[e1]at hv;cases hv;rw[show M.base+(a.off+i-M.lo)=M.base+(a.off-M.lo)+i by omega]at e2;simp at hv';rw[e2]at hv';cases hv';exact e3
     .intro j v hv;have hj:j<n:=by
       have:=(List.getElem?_eq_some_iff.1 hv).1;simp at this;omega
      rw[wJG h1];rw[List.getElem?_take_of_lt hj,List.getElem?_drop]at hv;simpa using hv
  .cases h
 .cases h

theorem yBY{t:TypeId}{v:Value}(h:zJ P E t a=some v)(hr:Rep Z E w)(hl:Z.loc a.block (yO a)=some L)(hlo:L.lo<=a.off) :
  ∃v',(loadVar t (L.at a.off)).run P w=.ok v' w/\VR Z v v':=by
 unfold zJ at h;split at h
 .rename_i ha;split at h
  .rename_i n hs;cases hrr:xG E a n with
   |none=>simp[hrr]at h
   |some cs =>
    simp[hrr]at h;subst h;obtain⟨cs',h1,h2,h3⟩:=zHA hrr hr hl hlo;have:=run_loadCells_list (P:=P) (w:=w) (L.at a.off) cs' h3;rw[<- h2.length,h1]at this;exact⟨.agg ⟨cs'⟩,by simp[loadVar,zVV ha,xQ hs,this],.agg' h2⟩
  .cases h
 .rename_i ha;split at h
  .rename_i v0 hrr;simp at h;subst h;obtain⟨cs',h1,h2,h3⟩:=zHA hrr hr hl hlo;cases h2 with
   |cons hv ht =>
    cases ht
    rename_i v';have:=h3 0 v' (by simp);rw[show(L.at a.off).add 0=L.at a.off from by simp[Addr.add]]at this;exact⟨v',by simp[loadVar,zVV ha,this],hv⟩
  .cases h
 .cases h
end
end Go.Lay

namespace Go.Lay
open Go
variable{o lo hi mx lo' hi' mx':Option Value}{d top n len known l h m:Nat}{a:Addr}{L:Loc}
section
variable{P:Program}{Z:Inj}{E:St}{w:World}

structure OptR(Z:Inj)(o o':Option Value):Prop where
 some:∀x,o=.some x->∃x',o'=.some x'/\VR Z x x'
 none:o=.none->o'=.none

theorem vV{o':Option Value}(h:uG o d top=some n)(hr:OptR Z o o') :
  (o=none/\o'=none/\n=d)\/(∃k i,o=some (.int k i)/\o'=some (.int k i)/\0<=i/\i<=top/\n=i.toNat):=xEB h hr.some hr.none

theorem zGY{cap':Nat}(hn:zBF lo hi mx len known=some (l,h,m))
  (h1:OptR Z lo lo') (h2:OptR Z hi hi') (h3:OptR Z mx mx') (hk:known<=cap') (b:Bool) (w:World) :
  (Instr.sliceBounds b len cap' lo' hi' mx').run P w=.ok (l,h,if mx.isSome then m else cap') w/\l<=h/\(mx=none->m=known)/\m<=known:=by
 unfold zBF at hn;cases mx with
 |none =>
  have e:=h3.none rfl;subst e;simp only at hn;cases hb:uG hi len known with
  |none=>simp[hb]at hn
  |some h0 =>
   simp only[hb]at hn;cases hl:uG lo 0 h0 with
   |none=>simp[hl]at hn
   |some l0 =>
    simp[hl]at hn;obtain⟨rfl,rfl,rfl⟩:=hn;rcases vV hb h2 with ⟨rfl,rfl,rfl⟩|⟨k,i,rfl,rfl,a1,a2,rfl⟩
    .rcases vV hl h1 with ⟨rfl,rfl,rfl⟩|⟨k',i',rfl,rfl,b1,b2,rfl⟩
     .exact⟨by simp[Instr.sliceBounds],by omega,λ_=>rfl,Nat.le_refl _⟩
     .exact⟨by simp[Instr.sliceBounds,Instr.sliceBound,asIntOf,b1,b2],by omega,λ_=>rfl,Nat.le_refl _⟩
    .have a3:i<=(cap':Int):=by omega
     rcases vV hl h1 with ⟨rfl,rfl,rfl⟩|⟨k',i',rfl,rfl,b1,b2,rfl⟩
     .exact⟨by simp[Instr.sliceBounds,Instr.sliceBound,asIntOf,a1,a3],by omega,λ_=>rfl,Nat.le_refl _⟩
     .have b3:i'<=i:=by omega
      exact⟨by simp[Instr.sliceBounds,Instr.sliceBound,asIntOf,a1,a3,b1,Int.toNat_of_nonneg a1,b3],by omega,λ_=>rfl,Nat.le_refl _⟩
 |some m0 =>
  simp only at hn;cases hm:uG (some m0) 0 known with
  |none=>simp[hm]at hn
  |some m1 =>
   simp only[hm]at hn;cases hi with
   |none=>simp at hn
   |some hi0 =>
    simp only at hn;cases hb:uG (some hi0) 0 m1 with
    |none=>simp[hb]at hn
    |some h0 =>
     simp only[hb]at hn;cases hl:uG lo 0 h0 with
     |none=>simp[hl]at hn
     |some l0 =>
      simp[hl]at hn;obtain⟨rfl,rfl,rfl⟩:=hn;rcases vV hm h3 with ⟨e,_⟩|⟨km,im,e,rfl,c1,c2,rfl⟩
      .cases e
      have c3:im<=(cap':Int):=by omega
      rcases vV hb h2 with ⟨e,_⟩|⟨k,i,e,rfl,a1,a2,rfl⟩
      .cases e
      have a3:i<=im:=by omega
      rcases vV hl h1 with ⟨rfl,rfl,rfl⟩|⟨k',i',rfl,rfl,b1,b2,rfl⟩
      .exact⟨by simp[Instr.sliceBounds,Instr.sliceBound,asIntOf,a1,c1,c3,Int.toNat_of_nonneg c1,a3],by omega,(by simp),by omega⟩
      .have b3:i'<=i:=by omega
       exact⟨by simp[Instr.sliceBounds,Instr.sliceBound,asIntOf,a1,c1,c3,Int.toNat_of_nonneg c1,a3,b1,Int.toNat_of_nonneg a1,b3],by omega,(by simp),by omega⟩

theorem zEJ(c:Nat):zOV c c:=by unfold zOV xC;split;rfl;split <;> omega
theorem xN(c:Nat):xR c=true↔c<uQ:=by
 unfold xR;cases h:Nat.ble uQ c with
 |true=>have:=(yJ _ _).1 h;simp;omega
 |false=>simp;exact Nat.lt_of_not_le λe=>by rw[(yJ _ _).2 e]at h;cases h
theorem zEK{c c':Nat}(h:zOV c c'):xC c<=c':=by
 unfold zOV at h;split at h
 .rename_i he;have:=(xN c).1 he;subst h;unfold xC;rw[if_neg (by omega)];exact Nat.le_refl _
 .exact h

theorem zZF(hb:uG o d top=some h):h<=max d top:=by
 unfold uG at hb;split at hb
 .simp at hb;omega
 .rename_i i;cases hc:leI 0 i&&leI i (.ofNat top)with
  |false=>rw[hc]at hb;cases hb
  |true =>
   rw[hc]at hb;simp only[Bool.and_eq_true,vN]at hc;have h2:i<=(top:Int):=hc.2;simp at hb;omega
 .cases hb
theorem ySN(hn:zBF lo hi mx len known=some (l,h,m)):h<=max len known:=by
 unfold zBF at hn;split at hn
 .split at hn
  .rename_i h0 hb;split at hn
   .simp at hn;have:=zZF hb;omega
   .cases hn
  .cases hn
 .split at hn
  .rename_i m0 hm;split at hn
   .split at hn
    .rename_i h0 hb;split at hn
     .simp at hn;have h1:=zZF hb;have h2:=zZF hm;omega
     .cases hn
    .cases hn
   .cases hn
  .cases hn

theorem xDB(h:yPA E a n=true)(hr:Rep Z E w)(hl:Z.loc a.block (yO a)=some L):L.z=n:=by
 unfold yPA at h;split at h
 .rename_i cs esz log nx ro hb;simp only[Bool.and_eq_true]at h;cases he:vP log (yO a)with
  |none=>simp[he]at h
  |some e =>
   cases (hr.blk _ _ hb).2 with
   |cells rows _ _ _ =>
    obtain⟨_,_,M,hM⟩:=rows _ _ (zCW he);have hML:M=L:=by have:=hM.loc;rw[hl]at this;cases this;rfl
    subst hML;rw[hM.cz];exact Nat.eq_of_beq_eq_true h.2
 .cases h

theorem xEI{k:Nat}(h:yCP E a k n=true)(hr:Rep Z E w)(hl:Z.loc a.block (yO a)=some L)(hlo:L.lo<=a.off):L.z=n/\L.base+(a.off-L.lo)+k<=Z.csz L.c:=by
 unfold yCP at h;split at h
 .rename_i cs esz log nx ro hb;simp only[Bool.and_eq_true]at h;cases he:vP log (yO a)with
  |none=>simp[he]at h
  |some e =>
   simp only[he,yJ]at h;cases (hr.blk _ _ hb).2 with
   |cells rows _ _ _ =>
    obtain⟨_,_,M,hM⟩:=rows _ _ (zCW he);have hML:M=L:=by have:=hM.loc;rw[hl]at this;cases this;rfl
    subst hML;refine⟨by rw[hM.cz];exact Nat.eq_of_beq_eq_true h.2, ?_⟩
    obtain⟨arr,elem,fr,_,h2,_,h4,_⟩:=hM.row;have:=h.1;omega
 .cases h

theorem ySO{t:TypeId}{x x' v:Value}(h:uM P E t x lo hi mx=some v)(hr:Rep Z E w)(hx:VR Z x x')
  (h1:OptR Z lo lo') (h2:OptR Z hi hi') (h3:OptR Z mx mx') :
  ∃v',(Instr.sliceAt t x' lo' hi' mx').run P w=.ok v' w/\VR Z v v':=by
 unfold uM at h;split at h
 .rename_i len cap elem hd;have:=hx.slice_none;subst this;split at h
  .rename_i n hs;cases hex:xR cap with
   |false=>rw[hex,cond_false]at h;cases h
   |true =>
    rw[hex,cond_true]at h;split at h
    .rename_i l hh m hn;simp at h;subst h;obtain⟨e,_,hm,_⟩:=zGY (P:=P) hn h1 h2 h3 (Nat.le_refl cap) true w;refine⟨.slice none (hh-l) (m-l), ?_,.atom rfl⟩
     have e2:(if mx.isSome then m else cap)=m:=by
      cases mx with
      |none=>rw[hm rfl];rfl
      |some _=>rfl
     rw[e2]at e;simp[Instr.sliceAt,run_underlying hd,Instr.slice,e,xQ hs]
    .cases h
  .cases h
 .rename_i a len cap elem hd;obtain⟨L,cap',A,hl,hlo,hA,hc,hsz,rfl⟩:=hx.slice_inv;split at h
  .rename_i n hs;cases hez:yPA E a n with
   |false=>rw[hez,cond_false]at h;cases h
   |true =>
    rw[hez,cond_true]at h;have hcz:=xDB hez hr hl;rw[hcz]at hsz;split at h
    .rename_i l hh m hn;obtain⟨e,hlh,hm,hmk⟩:=zGY (P:=P) hn h1 h2 h3 (zEK hc) true w;have hmul:∀m':Nat,l<=m'->m'<=cap'->(m' - l)*n+l*n<=cap'*n:=λm' a1 a2=>by
      rw[<- Nat.add_mul,Nat.sub_add_cancel a1];exact Nat.mul_le_mul_right n a2
     cases hx2:mx.isSome||xR cap with
     |true =>
      rw[hx2,cond_true]at h;cases hble:Nat.ble l m with
      |false=>rw[hble,cond_false]at h;cases h
      |true =>
       rw[hble,cond_true]at h;have hlm:=(yJ _ _).1 hble;simp at h;subst h;have e2:(if mx.isSome then m else cap')=m:=by
        cases mx with
        |none =>
         simp at hx2;have:cap'=cap:=by unfold zOV at hc;rw[if_pos hx2]at hc;exact hc
         rw[hm rfl,this];have:=(xN cap).1 hx2;simp[xC];omega
        |some _=>rfl
       rw[e2]at e;have hmc:m<=cap':=Nat.le_trans hmk (zEK hc);have hm2:=hmul m hlm hmc;cases hml:Nat.beq m l with
       |true =>
        have:=Nat.eq_of_beq_eq_true hml;subst this;refine⟨.slice (some A) (hh-m) (m-m), ?_, ?_⟩
        .simp[Instr.sliceAt,run_underlying hd,Instr.slice,e,xQ hs]
        .rw[cond_true];exact .slice hl hlo (hA.imp id (λx=>⟨by have h7:=ySN hn;rw[x.1,x.2.1]at h7;simp at h7;omega,by unfold xC;split <;> omega,by omega⟩)) (zEJ _) (by rw[hcz];simp;omega)
       |false =>
        have hne:¬m=l:=λh=>by rw[h,Nat.beq_refl]at hml;cases hml
        have hA:A=L.at a.off:=hA.elim id (λx=>by exfalso;have:=x.2.2;omega);subst hA;refine⟨.slice (some (L.at (a.off+l*n))) (hh-l) (m-l), ?_, ?_⟩
        .simp[Instr.sliceAt,run_underlying hd,Instr.slice,e,xQ hs,hne,zLN _ _ _ hlo]
        .rw[cond_false];exact .slice (a:=zO a (l*n)) hl (by simp[zO];omega) (.inl rfl) (zEJ _) (by rw[hcz];simp[zO];omega)
     |false =>
      rw[hx2,cond_false]at h;simp at hx2;obtain⟨hx3,hx4⟩:=hx2;subst hx3;have hmk2:=hm rfl;subst hmk2;cases hble:Nat.ble (xC cap) l with
      |true =>
       rw[hble,cond_true]at h;cases hbe:Nat.beq (xC cap) l&&Nat.beq hh l with
       |false=>rw[hbe,cond_false]at h;cases h
       |true =>
        rw[hbe,cond_true]at h;simp only[Bool.and_eq_true]at hbe;have e1:=Nat.eq_of_beq_eq_true hbe.1;have e3:=Nat.eq_of_beq_eq_true hbe.2;simp at h;subst h;have hlc:=zEK hc;have hm2:=hmul cap' (by omega) (Nat.le_refl _);have hcI:xC uQ=0:=by unfold xC;rw[if_pos (Nat.le_refl _)];omega
        have hni:xR uQ=false:=by rw[Bool.eq_false_iff];intro e;have:=(xN _).1 e;omega
        have hcR:zOV uQ (cap' - l):=by unfold zOV;rw[if_neg (by rw[hni];simp),hcI];omega
        have h0:hh-l=0:=by omega
        simp at e;by_cases hce:cap'=l
        .refine⟨.slice (some A) 0 (cap' - l), ?_, ?_⟩
         .have e9:=e;rw[hce]at e9;simp[Instr.sliceAt,run_underlying hd,Instr.slice,e9,xQ hs,hce,e3]
         .exact .slice (a:=zO a (l*n)) hl (by simp[zO];omega) (.inr ⟨rfl,hcI,by omega⟩) hcR (by rw[hcz];simp[zO];omega)
        .have hA:A=L.at a.off:=hA.elim id (λx=>by exfalso;have:=x.2.2;omega);subst hA;refine⟨.slice (some (L.at (a.off+l*n))) 0 (cap' - l), ?_, ?_⟩
         .simp[Instr.sliceAt,run_underlying hd,Instr.slice,e,xQ hs,hce,h0,zLN _ _ _ hlo]
         .exact .slice (a:=zO a (l*n)) hl (by simp[zO];omega) (.inl rfl) hcR (by rw[hcz];simp[zO];omega)
      |false =>
       rw[hble,cond_false]at h;have hlt:l<xC cap:=Nat.lt_of_not_le λe=>by rw[(yJ _ _).2 e]at hble;cases hble
       simp at h;subst h;have hlc:=zEK hc;have hA:A=L.at a.off:=hA.elim id (λx=>by exfalso;have:=x.2.2;omega);subst hA;have hm2:=hmul cap' (by omega) (Nat.le_refl _);refine⟨.slice (some (L.at (a.off+l*n))) (hh-l) (cap' - l), ?_, ?_⟩
       .have hne:¬cap'=l:=by omega
        simp at e;simp[Instr.sliceAt,run_underlying hd,Instr.slice,e,xQ hs,hne,zLN _ _ _ hlo]
       .refine .slice (a:=zO a (l*n)) hl (by simp[zO];omega) (.inl rfl) ?_ (by rw[hcz];simp[zO];omega);have hni:xR (xC cap-l+uQ)=false:=by rw[Bool.eq_false_iff];intro e;have:=(xN _).1 e;omega
        unfold zOV;rw[if_neg (by rw[hni];simp)];unfold xC;unfold xC at hlc hlt;rw[if_pos (by omega)];omega
    .cases h
  .cases h
 .rename_i a len elem hd;obtain⟨L,hl,hlo,rfl⟩:=hx.ptr_inv;split at h
  .rename_i n hs;cases hez:yCP E a (len*n) n with
   |false=>rw[hez,cond_false]at h;cases h
   |true =>
    rw[hez,cond_true]at h;obtain⟨hcz,hsz⟩:=xEI hez hr hl hlo;split at h
    .rename_i l hh m hn;obtain⟨e,hlh,hm,hmk⟩:=zGY (P:=P) hn h1 h2 h3 (Nat.le_refl len) false w;have e2:(if mx.isSome then m else len)=m:=by
      cases mx with
      |none=>rw[hm rfl];rfl
      |some _=>rfl
     rw[e2]at e;cases hble:Nat.ble l m with
     |false=>rw[hble,cond_false]at h;cases h
     |true =>
      rw[hble,cond_true]at h;have hlm:=(yJ _ _).1 hble;simp at h;subst h;have hm2:(m-l)*n+l*n<=len*n:=by
       rw[<- Nat.add_mul,Nat.sub_add_cancel hlm];exact Nat.mul_le_mul_right n hmk
      cases hml:Nat.beq m l with
      |true =>
       have:=Nat.eq_of_beq_eq_true hml;subst this;refine⟨.slice (some (L.at a.off)) (hh-m) (m-m), ?_, ?_⟩
       .simp[Instr.sliceAt,run_underlying hd,Instr.sureAddr,e,xQ hs]
       .rw[cond_true];exact .slice hl hlo (.inl rfl) (zEJ _) (by rw[hcz];simp;omega)
      |false =>
       have hne:¬m=l:=λh=>by rw[h,Nat.beq_refl]at hml;cases hml
       refine⟨.slice (some (L.at (a.off+l*n))) (hh-l) (m-l), ?_, ?_⟩
       .simp[Instr.sliceAt,run_underlying hd,Instr.sureAddr,e,xQ hs,hne,zLN _ _ _ hlo]
       .rw[cond_false];exact .slice (a:=zO a (l*n)) hl (by simp[zO];omega) (.inl rfl) (zEJ _) (by rw[hcz];simp[zO];omega)
    .cases h
  .cases h
 .rename_i s hd;have:=hx.string_inv;subst this;split at h
  .have e3:=h3.none rfl;subst e3;split at h
   .rename_i hh hb;split at h
    .rename_i l hl;simp at h;subst h;refine⟨.string (s.extract l hh), ?_,.atom rfl⟩
     rcases vV hb h2 with ⟨rfl,rfl,rfl⟩|⟨k,i,rfl,rfl,a1,a2,rfl⟩
     .rcases vV hl h1 with ⟨rfl,rfl,rfl⟩|⟨k',i',rfl,rfl,b1,b2,rfl⟩
      .simp[Instr.sliceAt,run_underlying hd,Instr.slice,Instr.sliceBounds]
      .simp[Instr.sliceAt,run_underlying hd,Instr.slice,Instr.sliceBounds,Instr.sliceBound,asIntOf,b1,b2]
     .rcases vV hl h1 with ⟨rfl,rfl,rfl⟩|⟨k',i',rfl,rfl,b1,b2,rfl⟩
      .simp[Instr.sliceAt,run_underlying hd,Instr.slice,Instr.sliceBounds,Instr.sliceBound,asIntOf,a1,a2]
      .have b3:i'<=i:=by omega
       simp[Instr.sliceAt,run_underlying hd,Instr.slice,Instr.sliceBounds,Instr.sliceBound,asIntOf,a1,a2,b1,Int.toNat_of_nonneg a1,b3]
    .cases h
   .cases h
  .cases h
 .cases h
end
end Go.Lay

namespace Go.Lay
open Go
variable{e:Value×Value}{es:List (Value×Value)}{e':MapEntry}{es':List MapEntry}{kt:TypeId}{d:TypeDesc}{k:Value}{L:Loc}{a:Addr}{n:Nat}{cs:List Value}
section
variable{P:Program}{Z:Inj}{E:St}{w:World}

structure EntR(Z:Inj)(es:List (Value×Value))(es':List MapEntry):Prop where
 size:es.length=es'.length
 ent:∀(i:Nat) e,es[i]?=some e->∃e',es'[i]?=some e'/\e'.key=e.1/\VR Z e.2 e'.val

theorem EntR.tail(h:EntR Z (e::es) (e'::es')):EntR Z es es' :=
 ⟨by simpa using h.size,λi x hx=>by simpa using h.ent (i+1) x (by simpa using hx)⟩
theorem EntR.head(h:EntR Z (e::es) (e'::es')):e'.key=e.1/\VR Z e.2 e'.val:=by
 obtain⟨x,h1,h2⟩:=h.ent 0 e (by simp);simp at h1;subst h1;exact h2

theorem xDC{q:IntKind}(hd:P.underlying kt=some (.int q))(n:Nat)(k:IntKind)(a b:Int)(w:World):(Op.equalIn (n+1) kt (.int k a) (.int k b)).run P w=.ok (a == b) w:=by
 simp[Op.equalIn,run_underlying hd]
theorem yIM(hd:P.underlying kt=some .string)(n:Nat)(a b:ByteArray)(w:World):(Op.equalIn (n+1) kt (.string a) (.string b)).run P w=.ok (a == b) w:=by
 simp[Op.equalIn,run_underlying hd]
theorem yUG(hd:P.underlying kt=some .bool)(n:Nat)(a b:Bool)(w:World):(Op.equalIn (n+1) kt (.bool a) (.bool b)).run P w=.ok (a == b) w:=by
 simp[Op.equalIn,run_underlying hd]
theorem yLX (hd : P.underlying kt = none) (n : Nat) (e : Bool) (k : Value) (w : World) : (Instr.checkKey e (n + 1) kt k).run P w = .halt (.stuck "no such type") w := by
 simp[Instr.checkKey,underlying,hd]

theorem yLQ{k':Value}{b b':Bool}(hd:P.underlying kt=some d)(h:Instr.sameNow d k k'=some b)(h':yL P (Op.equal kt k k')=some b'):b=b':=by
 have hr:=uJ _ h' default;unfold Instr.sameNow at h;split at h
 .rename_i k1 ka a kb b1;split at h
  .rename_i hk;subst hk;have h2:(Op.equal kt (.int ka a) (.int ka b1)).run P default=.ok (a == b1) default:=xDC hd 9999 ka a b1 default;rw[h2]at hr;cases h;cases hr;rfl
  .cases h
 .rename_i s1 s2;have h2:(Op.equal kt (.string s1) (.string s2)).run P default=.ok (s1 == s2) default:=yIM hd 9999 s1 s2 default;rw[h2]at hr;cases h;cases hr;rfl
 .rename_i s1 s2;have h2:(Op.equal kt (.bool s1) (.bool s2)).run P default=.ok (s1 == s2) default:=yUG hd 9999 s1 s2 default;rw[h2]at hr;cases h;cases hr;rfl
 .cases h

def wFM(es':List MapEntry)(i0:Nat):Option Nat->Option (Nat×Value)->Prop
 |none,r=>r=none
 |some j,r=>∃e',es'[j-i0]?=some e'/\i0<=j/\r=some (j,e'.val)

theorem zOK{kt:TypeId}{k:Value}:∀(es:List (Value×Value)) (es':List MapEntry) (i:Nat) (r:Option Nat),zBA P kt k es i=some r->EntR Z es es' ->
  ∃r',(∀w,(Instr.findAsking kt k es' i).run P w=.ok r' w)/\wFM es' i r r'
 |[],[],i,r,h,_=>by simp[zBA]at h;subst h;exact⟨none,λw=>rfl,rfl⟩
 |[],_::_,_,_,_,h=>by have:=h.size;simp at this
 |_::_,[],_,_,_,h=>by have:=h.size;simp at this
 |(k0,v0)::es,e'::es',i,r,h,hE=>by
  obtain⟨hk,hv⟩:=hE.head;simp only at hk;simp only[zBA]at h;cases hp:yL P (Op.equal kt k k0)with
  |none=>simp[hp]at h
  |some b =>
   have hrun:=uJ _ hp;rw[hp]at h;cases b with
   |true =>
    simp at h;subst h;exact⟨some (i,e'.val),λw=>by simp[Instr.findAsking,hk,hrun],⟨e',by simp,Nat.le_refl _,rfl⟩⟩
   |false =>
    simp only at h;obtain⟨r',h1,h2⟩:=zOK es es' (i+1) r h hE.tail;refine⟨r',λw=>by simp[Instr.findAsking,hk,hrun,h1], ?_⟩
    cases r with
    |none=>exact h2
    |some j =>
     obtain⟨x,a1,a2,a3⟩:=h2;exact⟨x,by rw[show j-i=(j-(i+1))+1 by omega];simpa using a1,by omega,a3⟩

theorem yIL{kt:TypeId}{d:TypeDesc}{k:Value}(hd:P.underlying kt=some d):∀(es:List (Value×Value)) (es':List MapEntry) (i:Nat) (r:Option Nat) (q:Option (Nat×Value)),
  zBA P kt k es i=some r->EntR Z es es'->Instr.findNow d k es' i=some q->wFM es' i r q
 |[],[],i,r,q,h,_,hq=>by simp[zBA]at h;subst h;simp[Instr.findNow]at hq;exact hq.symm
 |[],_::_,_,_,_,_,h,_=>by have:=h.size;simp at this
 |_::_,[],_,_,_,_,h,_=>by have:=h.size;simp at this
 |(k0,v0)::es,e'::es',i,r,q,h,hE,hq=>by
  obtain⟨hk,hv⟩:=hE.head;simp only at hk;simp only[zBA]at h;simp only[Instr.findNow,hk]at hq;cases hp:yL P (Op.equal kt k k0)with
  |none=>simp[hp]at h
  |some b =>
   rw[hp]at h;cases hs:Instr.sameNow d k k0 with
   |none=>simp[hs]at hq
   |some b' =>
    have:=yLQ hd hs hp;subst this;rw[hs]at hq;cases b' with
    |true=>simp at h hq;subst h;subst hq;exact⟨e',by simp,Nat.le_refl _,rfl⟩
    |false =>
     simp only at h hq;have h2:=yIL hd es es' (i+1) r q h hE.tail hq;cases r with
     |none=>exact h2
     |some j =>
      obtain⟨x,a1,a2,a3⟩:=h2;exact⟨x,by rw[show j-i=(j-(i+1))+1 by omega];simpa using a1,by omega,a3⟩

theorem yBZ{r:Option Nat}(hd:P.underlying kt=some d)(h:zBA P kt k es 0=some r)(hE:EntR Z es es') :
  ∃r',(∀w,(Instr.findKey kt k es').run P w=.ok r' w)/\wFM es' 0 r r':=by
 cases hq:Instr.findNow d k es' 0 with
 |some q=>exact⟨q,λw=>by simp[Instr.findKey,run_underlying hd,hq],yIL hd es es' 0 r q h hE hq⟩
 |none =>
  obtain⟨r',h1,h2⟩:=zOK es es' 0 r h hE;exact⟨r',λw=>by simp[Instr.findKey,run_underlying hd,hq,h1],h2⟩

theorem zYH{empty:Bool}(h:zIF P empty kt k=true):yI RD k=true/\(∀w,(Instr.checkKey empty 10000 kt k).run P w=.ok () w)/\∃d,P.underlying kt=some d:=by
 unfold zIF at h;simp only[Bool.and_eq_true]at h;obtain⟨h1,h2⟩:=h;cases hp:yL P (Instr.checkKey empty 10000 kt k)with
 |none=>simp[hp]at h2
 |some u =>
  have hr:=uJ _ hp;refine⟨h1,hr, ?_⟩
  cases hd:P.underlying kt with
  |some d=>exact⟨d,rfl⟩
  |none =>
   have h3 : (Instr.checkKey empty 10000 kt k).run P default = .halt (.stuck "no such type") default := yLX hd 9999 empty k default
   rw[hr default]at h3;cases h3

theorem zKQ{t:TypeId}{k e:TypeId}(h:zCH P t=some (k,e)):P.underlying t=some (.map k e):=by
 unfold zCH at h;split at h <;> simp_all

theorem yTT{b:Nat}(hr:Rep Z E w)(hb:yP E.heap b=some (.map es))(hl:Z.loc b 0=some L) :
  ∃arr clock,w.heap[L.c]?=some (.map arr clock)/\EntR Z es arr.toList/\Z.own L.c=some b:=by
 cases (hr.blk _ _ hb).2 with
 |map loc own row size ents =>
  rw[hl]at loc;cases loc;exact⟨_,_,row,⟨by simp[size],λi e he=>by obtain⟨e',a1,a2,a3⟩:=ents i e he;exact⟨e',by simpa using a1,a2,a3⟩⟩,own⟩

theorem uZ{c:Nat}{arr:Array MapEntry}{clock:Nat}(h:w.heap[c]?=some (.map arr clock)):(getObj c).run P w=.ok (.map arr clock) w:=by
 simp[getObj,Sem.run,h]

theorem zRL(h:xG E a n=some cs)(hr:Rep Z E w)(hl:Z.loc a.block (yO a)=some L)(hlo:L.lo<=a.off) :
  ∃cs',cs.length=n/\VRs Z cs cs'/\(loadCells (L.at a.off) n).run P w=.ok ⟨cs'⟩ w:=by
 obtain⟨cs',h1,h2,h3⟩:=zHA h hr hl hlo;have:=run_loadCells_list (P:=P) (w:=w) (L.at a.off) cs' h3;rw[<- h2.length,h1]at this;exact⟨cs',h1,h2,this⟩
theorem zSY{A:Addr}(h:xG E a n=some cs)(hr:Rep Z E w)(hl:Z.loc a.block (yO a)=some L)(hlo:L.lo<=a.off)(hA:A=L.at a.off\/n=0) :
  ∃cs',cs.length=n/\VRs Z cs cs'/\(loadCells A n).run P w=.ok ⟨cs'⟩ w:=by
 rcases hA with rfl|rfl
 .exact zRL h hr hl hlo
 .obtain⟨cs',h1,h2,_⟩:=zRL (P:=P) h hr hl hlo;have:cs'=[]:=List.eq_nil_of_length_eq_zero (by rw[<- h2.length,h1]);subst this;exact⟨[],h1,h2,by simp[loadCells,loadCellsFrom]⟩
theorem yTV{o:Oper}{ev ev':Operand->Value}{v:Value}(hz:zAX P)(h:xJ P ev E o.op=some v)(hr:Rep Z E w)(hev:∀x∈o.op.operands,VR Z (ev x) (ev' x)) :
  ∃v',(execOp ev' o).run P w=.ok (.value v') w/\VR Z v v':=by
 unfold xJ at h;split at h
 .rename_i t a ho;have ha:=hev a (by simp[ho,Op.operands]);split at h
  .rename_i a0 ha0;rw[ha0]at ha;obtain⟨L,hl,hlo,e⟩:=ha.ptr_inv;obtain⟨v',h1,h2⟩:=yBY h hr hl hlo;exact⟨v',by simp[execOp,ho,e,Instr.loadAt,Instr.sureAddr,h1],h2⟩
  .cases h
 .rename_i t x lo hi mx ho;have optR:∀(q:Option Operand),(∀y,q=some y->y∈o.op.operands)->OptR Z (q.map ev) (q.map ev'):=by
   intro q hq;cases q with
   |none=>exact⟨λx hx=>by simp at hx,λ_=>rfl⟩
   |some y=>exact⟨λx hx=>by simp at hx;subst hx;exact⟨ev' y,rfl,hev y (hq y rfl)⟩,λh=>by simp at h⟩
  obtain⟨v',h1,h2⟩:=ySO (P:=P) h hr (hev x (by simp[ho,Op.operands]))
   (optR lo (λy hy=>by simp[ho,Op.operands,hy])) (optR hi (λy hy=>by simp[ho,Op.operands,hy])) (optR mx (λy hy=>by simp[ho,Op.operands,hy]))
  exact⟨v',by simp[execOp,ho,h1],h2⟩
 .rename_i t m i ok ho;have hm:=hev m (by simp[ho,Op.operands]);have hi:=hev i (by simp[ho,Op.operands]);cases hmo:zCH P t with
  |none=>simp[hmo]at h
  |some ke =>
   obtain⟨kt,et⟩:=ke;have hd:=zKQ hmo;simp only[hmo]at h;cases hze:uO P et with
   |none=>simp[hze]at h
   |some z =>
    simp only[hze]at h;have hzr:VR Z z z:=.refl_rigid _ (hz et z hze);have fin:∀{u u':Value} {b:Bool},VR Z u u'->VR Z (bif ok then .tuple ⟨[u,.bool b]⟩else u) (if ok then .tuple #[u',.bool b]else u'):=by
     intro u u' b hu;cases ok
     .exact hu
     .exact .tuple' (.cons hu (.cons (.bool b) .nil))
    split at h
    .rename_i hm0;rw[hm0]at hm;have e:=hm.map_none;cases hk:zIF P true kt (ev i)with
     |false=>rw[hk,cond_false]at h;cases h
     |true =>
      rw[hk,cond_true]at h;simp at h;subst h;obtain⟨k1,k2,d,hkd⟩:=zYH hk;have ei:=hi.rigid _ k1;rw[ei]at k2;refine⟨_, ?_,fin hzr⟩
      simp[execOp,ho,e,Instr.lookup,run_underlying hd,k2,Instr.findKey,run_underlying hkd,Instr.findNow,zCO hze]
    .rename_i r hm0;rw[hm0]at hm;obtain⟨L,hl,e⟩:=hm.map_inv;split at h
     .rename_i es hb;obtain⟨arr,clock,hrow,hE,_⟩:=yTT hr hb hl;cases hk:zIF P es.isEmpty kt (ev i)with
      |false=>rw[hk,cond_false]at h;cases h
      |true =>
       rw[hk,cond_true]at h;obtain⟨k1,k2,d,hkd⟩:=zYH hk;have ei:=hi.rigid _ k1;have hem:arr.isEmpty=es.isEmpty:=by
        have:=hE.size;cases es with
        |nil=>simp at this;simp[Array.isEmpty,this.symm]
        |cons x es=>simp at this;simp[Array.isEmpty,<- this]
       rw[ei]at k2 h;cases hkx:zBA P kt (ev' i) es 0 with
       |none=>simp[hkx]at h
       |some r0 =>
        rw[hkx]at h;obtain⟨r',f1,f2⟩:=yBZ hkd hkx hE;cases r0 with
        |none =>
         simp at h;subst h;have:r'=none:=f2;subst this;refine⟨_, ?_,fin hzr⟩
         simp[execOp,ho,e,Instr.lookup,run_underlying hd,uZ hrow,hem,k2,f1,zCO hze]
        |some j =>
         obtain⟨e1,g1,_,g2⟩:=f2;simp only at h;cases hej:es[j]? with
         |none=>simp[hej]at h
         |some x =>
          simp[hej]at h;subst h;obtain⟨e2,q1,q2,q3⟩:=hE.ent j x hej;rw[show j-0=j from rfl]at g1;rw[q1]at g1;cases g1;subst g2;refine⟨_, ?_,fin q3⟩
          simp[execOp,ho,e,Instr.lookup,run_underlying hd,uZ hrow,hem,k2,f1]
     .cases h
    .cases h
 .rename_i c ho;have hargs:=zED c.args.toList (ev:=ev) (ev':=ev') (λx hx=>hev x (by simp[ho,Op.operands,Call.operands]at hx ⊢;exact .inr hx));have eargs:c.args.map ev'=(⟨c.args.toList.map ev'⟩:Array Value):=by apply Array.ext';simp
  split at h
  .rename_i hcal;split at h
   .rename_i t x l ht hl;rw[hl]at hargs;have ht0:c.argTypes[0]?=some t:=by simpa using ht
    split at h
    .rename_i ke r hmo;obtain⟨kt,et⟩:=ke;have hd:=zKQ hmo;split at h
     .rename_i es hb;simp at h;subst h;generalize hl':c.args.toList.map ev'=l' at hargs eargs;cases hargs with
      |cons hx hrest =>
       rename_i x' rest';obtain⟨L,hl0,rfl⟩:=hx.map_inv;obtain⟨arr,clock,hrow,hE,_⟩:=yTT hr hb hl0;refine⟨goInt es.length, ?_,.int _ _⟩
       have hsz:arr.size=es.length:=by have:=hE.size;simpa using this.symm
       simp only[execOp,ho,resolve,hcal,eargs];simp[invoke,builtin,Builtin.len_,ht0,run_underlying hd,uZ hrow,hsz]
     .cases h
    .cases h
   .cases h
  .cases h
 .cases h
end
end Go.Lay

namespace Go.Lay
open Go
variable{esz m n:Nat}{cs cs':List Value}{elem:TypeId}{a:Addr}{L:Loc}{E':St}
section
variable{P:Program}{Z:Inj}{E:St}{w:World}

theorem xD{ie:Type}(E:St)(esz:Nat)(cs:List Value)(k:Addr->St->ie):newRow E esz cs k=k ⟨E.j,0,none⟩ (E.add (.cells cs esz [(0,cs.length)] 1 false)):=by
 simp[newRow,zCV,vC,St.new_eq]

theorem zWE{tail:List Value}(hr:Rep Z E w)(hf:yCS Z E.j (E.j+1))(hc:VRs Z cs cs') :
  Good Z E w (Z.add E.j w.heap.size (cs.length+tail.length) esz) (E.add (.cells cs esz [(0,cs.length)] 1 false)) (World.push w (.cells ⟨cs'++tail⟩ elem)):=by
 have e:=Inj.add_ext (n:=cs.length+tail.length) (z:=esz) hr hf;refine Good.addBlk hr hf (λ_ _ _ h=>by cases h;rfl) (.cells (λs x hm=>?_) (by simp) (λiI iJ iE iC iH iG iz iB iD iA _=>?_) (λs hs=>?_))
 .simp at hm;obtain⟨rfl,rfl⟩:=hm;refine⟨by omega,Nat.le_refl _,⟨w.heap.size,0,0,_⟩,Inj.add_loc _ _ _ _,⟨⟨cs'++tail⟩,elem,(0,0),World.push_new _ _,by simp[Inj.add,hc.length],λ_=>rfl,by simp[hc.length],λj _ hj=>?_⟩,by simp[Inj.add],Nat.zero_le _,by simp[Inj.add]⟩
  obtain⟨v',h1,h2⟩:=hc.get_some (i:=j) (v:=cs[j]) (by simp[hj]);refine⟨cs[j],v',by simp[hj], ?_,h2.ext e⟩
  have hj':j<cs'.length:=by rw[<- hc.length];exact hj
  simp only[Nat.zero_add,Nat.sub_zero];show(⟨cs'++tail⟩:Array Value)[j]?=_;rw[show(⟨cs'++tail⟩:Array Value)[j]?=(cs'++tail)[j]? by simp,List.getElem?_append_left hj'];exact h1
 .simp at iz iB;obtain⟨rfl,_⟩:=iz;obtain⟨rfl,_⟩:=iB;rw[iD]at iA;cases iA;rfl
 .simp only[Inj.add];rw[if_neg (by omega)];exact hf _ _ (Nat.le_refl _) (by omega)
theorem zGK(hr:Rep Z E w)(hf:yCS Z E.j (E.j+1))(hc:VRs Z cs cs') :
  Good Z E w (Z.add E.j w.heap.size cs.length esz) (E.add (.cells cs esz [(0,cs.length)] 1 false)) (World.push w (.cells ⟨cs'⟩ elem)):=by
 have:=zWE (tail:=[]) (esz:=esz) (elem:=elem) hr hf hc;simpa using this

theorem zKO{len cap cap':Nat}(hc:zOV cap cap')(hs:cap'*esz<=m) :
  VR (Z.add E.j w.heap.size m esz) (.slice (some ⟨E.j,0,none⟩) len cap) (.slice (some ⟨w.heap.size,0,none⟩) len cap') :=
 .slice (a:=⟨E.j,0,none⟩) (L:=⟨w.heap.size,0,0,_⟩) (Inj.add_loc _ _ _ _) (Nat.zero_le _) (.inl rfl) hc (by simp[Inj.add];exact hs)
theorem yHT :
  VR (Z.add E.j w.heap.size n esz) (.pointer (some ⟨E.j,0,none⟩)) (.pointer (some ⟨w.heap.size,0,none⟩)) :=
 .ptr (a:=⟨E.j,0,none⟩) (L:=⟨w.heap.size,0,0,_⟩) (Inj.add_loc _ _ _ _) (Nat.zero_le _)

theorem zFI(elem:TypeId)(cs:List Value)(w:World):(_root_.Go.newRow elem (⟨cs⟩:Array Value)).run P w=.ok ⟨w.heap.size,0,none⟩ (World.push w (.cells ⟨cs⟩ elem)):=by
 simp[_root_.Go.newRow,World.push]

theorem zIC{l:List Value}(h:l.all cellB=true):∀v∈l,v.oneCell'=true:=by
 intro v hv;have:=List.all_eq_true.1 h v hv;cases v <;> simp_all [cellB,Value.oneCell']

theorem zSP(a b:List Value)(off n:Nat)(h1:off+n<=a.length)(h2:b.length=n)(i:Nat) :
  (a.take off++(b++a.drop (off+n)))[i]?=if i<off then a[i]? else if i<off+n then b[i-off]? else a[i]?:=by
 have hl:(a.take off).length=off:=by simp;omega
 by_cases hi:i<off
 .rw[if_pos hi,List.getElem?_append_left (by omega),List.getElem?_take_of_lt hi]
 .rw[if_neg hi,List.getElem?_append_right (by omega),hl];by_cases hj:i<off+n
  .rw[if_pos hj,List.getElem?_append_left (by omega)]
  .rw[if_neg hj,List.getElem?_append_right (by omega),List.getElem?_drop];congr 1;omega

theorem yGG{vs vs':List Value}(h:wS E a vs=some E')(hr:Rep Z E w)(hl:Z.loc a.block (yO a)=some L)(hlo:L.lo<=a.off)(hv:VRs Z vs vs') :
  ∃w',(storeCells (L.at a.off) vs').run P w=.ok () w'/\Good Z E w Z E' w':=by
 unfold wS at h;split at h
 .rename_i bc esz log nx ro hb;split at h
  .rename_i s e rest;cases hcond:Nat.beq s (yO a)&&Nat.ble (a.off+vs.length) e&&!ro&&vs.all cellB with
   |false=>rw[hcond,cond_false]at h;cases h
   |true =>
    rw[hcond,cond_true,zCV,St.write_eq]at h;simp only[Bool.and_eq_true,Bool.not_eq_true']at hcond;obtain⟨⟨⟨c1,c2⟩,c3⟩,c4⟩:=hcond;have c1:=Nat.eq_of_beq_eq_true c1;have c2:=(yJ _ _).1 c2;simp at h;subst h;subst c1;cases (hr.blk _ _ hb).2 with
    |cells rows sorted same fresh =>
     obtain⟨hs1,hs2,M,hM⟩:=rows (yO a) e (by simp);have hML:M=L:=by have:=hM.loc;rw[hl]at this;cases this;rfl
     subst hML;obtain⟨arr,elem,fr,r1,r2,r3,r4,r5⟩:=hM.row;have hfr:=r3 c3;subst hfr;have hlen:=hv.length;have hel:e<=bc.length:=hs2;have hsplen:M.base+(a.off-M.lo)+0+vs'.length<=arr.size:=by omega
     have hc4:vs'.all cellB=true:=by rw[<- hv.cellB];exact c4
     have hrun:=run_storeCells_at (P:=P) M.c (M.base+(a.off-M.lo)) elem vs' 0 arr w r1 hsplen (zIC hc4);refine⟨_,hrun, ?_⟩
     simp only[Nat.add_zero]at hrun ⊢;have hown:Z.own M.c=some a.block:=by rw[hM.own,c3];rfl
     refine Good.putBlk hr hb (Ext.refl _ _ _) (λ_ _ _=>rfl) (λb s L h=>by simpa using hr.lt b s L h) (λc b h=>by simpa using hr.ownlt c b h) (by simp)
      (λc _ hc=>setRow_other w M.c c _ (λhcc=>hc (by rw[hcc];exact hown))) ⟨rfl,rfl,rfl⟩ (.one M.c (λc hc=>setRow_other w M.c c _ hc) (λ_ _ _ h=>by rw[setRow_heap w M.c arr _ elem (0,0) r1]at h;cases h;rfl)) ?_
     refine .cells (λs' e' hm=>?_) (by simp) (λiI iJ iE iC iH iG iz iB iD iA _=>?_) fresh
     .simp at hm;obtain⟨rfl,rfl⟩:=hm;have hl1:(bc.take a.off++(vs++bc.drop (a.off+vs.length))).length=bc.length:=by simp;omega
      refine⟨hs1,by rw[hl1];exact hs2,M,hM.loc,⟨_,elem,(0,0),setRow_heap w M.c arr _ elem (0,0) r1, ?_,λ_=>rfl, ?_,λj j1 j2=>?_⟩,hM.cz,hM.lo,hM.own⟩
      .rw[<- r2];simp;omega
      .simp;omega
      .obtain⟨v,v',q1,q2,q3⟩:=r5 j j1 j2;rw[zSP bc vs a.off vs.length (by omega) rfl];have e2:(arr.toList.take (M.base+(a.off-M.lo))++vs'++arr.toList.drop (M.base+(a.off-M.lo)+vs'.length)).toArray[M.base+(j-M.lo)]? =
         if M.base+(j-M.lo)<M.base+(a.off-M.lo)then arr.toList[M.base+(j-M.lo)]? else if M.base+(j-M.lo)<M.base+(a.off-M.lo)+vs'.length then vs'[M.base+(j-M.lo)-(M.base+(a.off-M.lo))]? else arr.toList[M.base+(j-M.lo)]?:=by
        rw[<- zSP arr.toList vs' (M.base+(a.off-M.lo)) vs'.length (by simp;omega) rfl]
        simp
       rw[e2];by_cases x1:j<a.off
       .have y1:M.base+(j-M.lo)<M.base+(a.off-M.lo):=by omega
        rw[if_pos x1,if_pos y1];exact⟨v,v',q1,by simpa using q2,q3⟩
       .have y1:¬M.base+(j-M.lo)<M.base+(a.off-M.lo):=by omega
        rw[if_neg x1,if_neg y1];by_cases x2:j<a.off+vs.length
        .have y2:M.base+(j-M.lo)<M.base+(a.off-M.lo)+vs'.length:=by omega
         rw[if_pos x2,if_pos y2];have hj:j-a.off<vs.length:=by omega
         obtain⟨u',u1,u2⟩:=hv.get_some (i:=j-a.off) (v:=vs[j-a.off]) (by simp[hj]);refine⟨vs[j-a.off],u',by simp[hj], ?_,u2⟩
         rw[show M.base+(j-M.lo)-(M.base+(a.off-M.lo))=j-a.off by omega];exact u1
        .have y2:¬M.base+(j-M.lo)<M.base+(a.off-M.lo)+vs'.length:=by omega
         rw[if_neg x2,if_neg y2];exact⟨v,v',q1,by simpa using q2,q3⟩
     .simp at iz iB;obtain⟨rfl,_⟩:=iz;obtain⟨rfl,_⟩:=iB;rw[iD]at iA;cases iA;rfl
  .cases h
 .cases h

theorem xAU{t:TypeId}{v v':Value}(h:zCN P E t a v=some E')(hr:Rep Z E w)(hl:Z.loc a.block (yO a)=some L)(hlo:L.lo<=a.off)(hv:VR Z v v') :
  ∃w',(storeVar t (L.at a.off) v').run P w=.ok () w'/\Good Z E w Z E' w':=by
 unfold zCN at h;split at h
 .rename_i n hs;cases hb:Nat.beq v.cells.toList.length n with
  |false=>rw[hb,cond_false]at h;cases h
  |true =>
   rw[hb,cond_true]at h;have:=Nat.eq_of_beq_eq_true hb;obtain⟨w',h1,h2⟩:=yGG (P:=P) h hr hl hlo hv.cells;refine⟨w', ?_,h2⟩
   have hsz:v'.cells.size=n:=by rw[<- this,hv.cells.length];simp
   simp[storeVar,xQ hs,hsz,h1]
 .cases h

theorem vX(z:List Value):∀n,(xL z n).length=n*z.length
 |0=>by simp[xL]
 |n+1=>by simp[xL,vX z n,Nat.add_mul];omega
theorem yEV(z:List Value):∀(n i:Nat),i<n*z.length->(xL z n)[i]?=z[i % z.length]?
 |0,i,h=>by simp at h
 |n+1,i,h=>by
  simp only[xL];by_cases hi:i<z.length
  .rw[List.getElem?_append_left hi,Nat.mod_eq_of_lt hi]
  .rw[List.getElem?_append_right (by omega),yEV z n (i-z.length) (by rw[Nat.add_mul]at h;omega)];have hp:0<z.length:=by
    rcases Nat.eq_zero_or_pos z.length with h0|h0
    .rw[h0]at h;simp at h
    .exact h0
   rw[Nat.mod_eq_sub_mod (a:=i) (by omega)]
theorem VRs.refl_rigid:∀{l:List Value},l.all (yI RD)=true->VRs Z l l
 |[],_=>.nil
 |v::l,h=>by
  simp only[List.all_cons,Bool.and_eq_true]at h;exact .cons (.refl_rigid _ h.1) (VRs.refl_rigid h.2)
theorem zNT{z:List Value}(hz:z.length=n)(hm:0<m*n->0<n) :
  (Array.range (m*n)).map ((⟨z⟩:Array Value)[· % (⟨z⟩:Array Value).size]!)=(⟨xL z m⟩:Array Value):=by
 apply Array.ext';apply List.ext_getElem?;intro i;by_cases hi:i<m*n
 .have hp:0<n:=hm (by omega);have hmod:i % z.length<z.length:=Nat.mod_lt _ (by omega);rw[yEV z m i (by rw[hz];exact hi)];simp[hi,hmod]
 .have h1:(xL z m).length<=i:=by rw[vX,hz];omega
  rw[List.getElem?_eq_none h1];simp;omega
end
end Go.Lay

namespace Go.Lay
open Go
variable{n cnt b len cap':Nat}{x x' z:Value}{cs:List Value}{xd:TypeDesc}{i:Int}{st xt e ty:TypeId}{info:TypeInfo}{base:Option Addr}{new:Array Value}
section
variable{P:Program}{Z:Inj}{E:St}{w:World}

def drew(w:World):World:={ w with drawn:=w.drawn+1 }
theorem Good.drew(hr:Rep Z E w):Good Z E w Z E (drew w) :=
 ⟨Ext.refl _ _ _,hr.grown (Nat.le_refl _) (λ_ _=>rfl),⟨Nat.le_refl _,λ_ _ _=>rfl,rfl,rfl,rfl,λ_ arr elem _ h=>.inl ⟨arr,elem,h⟩⟩,Nat.le_refl _,Nat.le_refl _⟩

theorem yGS(h:uD E n x=some (cnt,cs))(hr:Rep Z E w)(hx:VR Z x x')(hn:cs.length=cnt*n) :
  ∃cs',VRs Z cs cs'/\(∀w,(Builtin.lenOf x').run P w=.ok cnt w)/\(Builtin.firstCells n cnt x').run P w=.ok ⟨cs'⟩ w:=by
 unfold uD at h;split at h
 .rename_i len cap;cases hb:Nat.beq len 0 with
  |false=>rw[hb,cond_false]at h;cases h
  |true =>
   rw[hb,cond_true]at h;have:=Nat.eq_of_beq_eq_true hb;subst this;simp at h;obtain⟨rfl,rfl⟩:=h;have:=hx.slice_none;subst this;exact⟨[],.nil,λw=>by simp[Builtin.lenOf],by simp[Builtin.firstCells]⟩
 .rename_i a len cap;obtain⟨L,c',A,hl,hlo,hA,_,_,rfl⟩:=hx.slice_inv;cases hrr:xG E a (len*n)with
  |none=>simp[hrr]at h
  |some cs0 =>
   simp[hrr]at h;obtain⟨rfl,rfl⟩:=h;obtain⟨cs',h1,h2,h3⟩:=zSY (P:=P) hrr hr hl hlo (hA.imp id (λx=>by rw[x.1];simp));exact⟨cs',h2,λw=>by simp[Builtin.lenOf],by simp[Builtin.firstCells,h3]⟩
 .rename_i s;have:=hx.string_inv;subst this;simp at h;obtain⟨rfl,rfl⟩:=h;refine⟨s.data.toList.map λb=>.int .u8 b.toNat,VRs.refl_rigid (by rw[List.all_map];exact List.all_eq_true.2 (λb _=>rfl)),λw=>by simp[Builtin.lenOf], ?_⟩
  have he:s.extract 0 s.size=s:=by
   apply ByteArray.ext;simp
  simp[Builtin.firstCells,he];apply Array.ext';simp
 .cases h

def zNO(n:Nat)(z:Value)(xd:TypeDesc)(x':Value)(cnt:Nat):Sem (Array Value) :=
 match xd with
 |.int _=>if cnt*n=0 then pure #[]else pure (Builtin.zeroCells z.cells cnt)
 |_=>Builtin.firstCells n cnt x'

theorem zLO(h:zBC E n z xd x=some (cnt,cs))(hr:Rep Z E w)(hx:VR Z x x')(hn:cs.length=cnt*n)(hz:yI RD z=true) :
  ∃cs',VRs Z cs cs'/\(zNO n z xd x' cnt).run P w=.ok ⟨cs'⟩ w /\
   ((∃k,xd=.int k/\∃q i,x'=.int q i/\0<=i/\i<=1073741824/\cnt=i.toNat)\/((∀k,xd≠.int k)/\∀w,(Builtin.lenOf x').run P w=.ok cnt w)):=by
 unfold zBC at h;split at h
 .rename_i k;split at h
  .rename_i q i;have:=hx.int_inv;subst this;cases hb:leI 0 i&&leI i 1073741824&&Nat.beq z.cells.toList.length n&&Nat.blt 0 n with
   |false=>rw[hb,cond_false]at h;cases h
   |true =>
    rw[hb,cond_true]at h;simp only[Bool.and_eq_true,vN]at hb;obtain⟨⟨⟨b1,b2⟩,b3⟩,b4⟩:=hb;have b3:=Nat.eq_of_beq_eq_true b3;have b4:0<n:=(yJ 1 n).1 b4;simp at h;obtain⟨rfl,rfl⟩:=h;have hzr:z.cells.toList.all (yI RD)=true\/True:=.inr trivial;refine⟨xL z.cells.toList i.toNat, ?_, ?_,.inl ⟨k,rfl,q,i,rfl,b1,b2,rfl⟩⟩
    .have hzz:=(VR.refl_rigid (Z:=Z) RD hz).cells;have:∀m,VRs Z (xL z.cells.toList m) (xL z.cells.toList m):=by
      intro m;induction m with
      |zero=>exact .nil
      |succ m ih=>exact VRs.append hzz ih
     exact this _
    .simp only[zNO];have hz2:=zNT (z:=z.cells.toList) (m:=i.toNat) (n:=n) b3 (λ_=>b4);by_cases h0:i.toNat*n=0
     .rw[if_pos h0];have:xL z.cells.toList i.toNat=[]:=by
       apply List.eq_nil_of_length_eq_zero;rw[vX,b3];exact h0
      rw[this];rfl
     .rw[if_neg h0];simp only[Builtin.zeroCells];have e1:z.cells.size=n:=by rw[<- b3];simp
      rw[e1];have e2:(⟨z.cells.toList⟩:Array Value)=z.cells:=vT _;rw[e2,e1]at hz2;rw[hz2];rfl
  .cases h
 .rename_i hni;obtain⟨cs',h1,h2,h3⟩:=yGS (P:=P) h hr hx hn;refine⟨cs',h1, ?_,.inr ⟨λk hk=>hni k hk,h2⟩⟩
  unfold zNO;split
  .rename_i k;exact absurd rfl (hni k)
  .exact h3

theorem yOT(L:Nat):∀(r c:Nat),Builtin.growBy L r c<=max c (L+(L+768) / 4)
 |0,c=>by simp only[Builtin.growBy];omega
 |r+1,c=>by
  simp only[Builtin.growBy];split
  .omega
  .have:=yOT L r (c+(c+768) / 4);omega
theorem yCV{need cap:Nat}(h:¬need<=cap):Builtin.nextslicecap need cap<=2*need+1000:=by
 unfold Builtin.nextslicecap;split
 .omega
 .split
  .omega
  .have:=yOT need 4 cap;omega

structure AppC(P:Program)(st xt e:TypeId)(n:Nat)(xd:TypeDesc)(info:TypeInfo)(z:Value)(x':Value)(len cnt:Nat):Prop where
 st:P.underlying st=some (.slice e)
 size:yR P e=some n
 xt:P.underlying xt=some xd
 ei:P.info? e=some info
 zero:info.zero=some z
 zs:z.cells.size=n
 room:len+cnt<=1073741824
 bytes:info.bytes<=4096
 src:(∃k,xd=.int k/\∃q i,x'=.int q i/\0<=i/\i<=1073741824/\cnt=i.toNat)\/((∀k,xd≠.int k)/\∀w,(Builtin.lenOf x').run P w=.ok cnt w)

theorem zJY(h0:0<=i)(h1:i<=1073741824):IntKind.i64.wrap i=i:=by
 have e1:(2:Int) ^ 64=18446744073709551616:=by decide
 have e2:(2:Int) ^ (64-1)=9223372036854775808:=by decide
 simp only[IntKind.wrap,IntKind.bits,IntKind.signed,e1,e2,Bool.true_and,decide_eq_true_eq];split <;> omega

theorem yTS(h0:0<=i)(h1:i<=1073741824)(hb:b<=4096):¬(2:Int) ^ 48<i*b:=by
 have a1:i*b<=1073741824*4096:=Int.mul_le_mul h1 (by omega) (by omega) (by omega);have a2:(1073741824*4096:Int)<=2 ^ 48:=by decide
 omega
theorem wAQ{c:Nat}(hc:c<=4294967296)(hb:b<=4096):¬2 ^ 48<c*b:=by
 have a1:c*b<=4294967296*4096:=Nat.mul_le_mul hc hb;have a2:4294967296*4096<=2 ^ 48:=by decide
 omega

theorem zCD{w':World}
  (h:AppC P st xt e n xd info z x' len cnt) (hle:len+cnt<=cap') (hs:(zNO n z xd x' cnt).run P w=.ok new w)
  (hw:match base with|some a=>(storeCells (a.add (len*n)) new.toList).run P w=.ok () w'|none=>w'=w) :
  (Builtin.append_ #[st,xt] ty #[.slice base len cap',x']).run P w=.ok (.slice base (len+cnt) cap') w':=by
 have hz:(zeroValue e).run P w=.ok z w:=by simp[zeroValue,typeInfo,h.ei,h.zero]
 rcases h.src with ⟨k,rfl,q,i,rfl,h0,h1,rfl⟩|⟨hk,hlen⟩
 .have hw1:=zJY h0 h1;have hb:=yTS h0 h1 h.bytes;have hneg:¬i<0:=by omega
  have hs2:(if(!true)=true then Builtin.firstCells n i.toNat (.int q i)else if i.toNat*n=0 then pure #[]else do pure (Builtin.zeroCells (<- zeroValue e).cells i.toNat):Sem (Array Value)).run P w=.ok new w:=by
   simp only[zNO]at hs;simp only[Bool.not_true,Bool.false_eq_true,if_false];split
   .rename_i h0;rw[if_pos h0]at hs;exact hs
   .rename_i h0;rw[if_neg h0]at hs;rw[Sem.run_bind,hz];exact hs
  unfold Builtin.append_;simp only[List.getElem?_toArray,List.getElem?_cons_zero,List.getElem?_cons_succ,Sem.run_bind,run_underlying h.st,run_underlying h.xt,xQ h.size,Result.andThen_ok,Sem.run_pure];simp only[asInt,asIntOf,pure_bind,Sem.run_bind,Sem.run_pure,Result.andThen_ok,hw1,uY h.ei];rw[if_pos trivial,if_neg hneg,Sem.run_bind,uY h.ei,Result.andThen_ok,if_neg hb];simp only[if_pos hle,Sem.run_bind,hs2,Result.andThen_ok];cases base with
  |none=>simp only at hw;subst hw;rfl
  |some a=>simp only at hw ⊢;rw[Sem.run_bind,hw];rfl
 .have hs2:(if(!false)=true then Builtin.firstCells n cnt x' else if cnt*n=0 then pure #[]else do pure (Builtin.zeroCells (<- zeroValue e).cells cnt):Sem (Array Value)).run P w=.ok new w:=by
   rw[Bool.not_false,if_pos rfl];cases xd with
   |int k=>exact absurd rfl (hk k)
   |_=>exact hs
  unfold Builtin.append_;simp only[List.getElem?_toArray,List.getElem?_cons_zero,List.getElem?_cons_succ,Sem.run_bind,run_underlying h.st,run_underlying h.xt,xQ h.size,Result.andThen_ok,Sem.run_pure];cases xd with
  |int k=>exact absurd rfl (hk k)
  |_ =>
   rw[if_neg (by simp),Sem.run_bind,hlen,Result.andThen_ok];simp only[if_pos hle,Sem.run_bind,hs2,Result.andThen_ok];cases base with
   |none=>simp only at hw;subst hw;rfl
   |some a=>simp only at hw ⊢;rw[Sem.run_bind,hw];rfl

theorem yCQ{old:Array Value}
  (h:AppC P st xt e n xd info z x' len cnt) (hgt:¬len+cnt<=cap') (ho:(Builtin.firstCells n len (.slice base len cap')).run P (drew w)=.ok old (drew w))
  (hs:(zNO n z xd x' cnt).run P (drew w)=.ok new (drew w)) :
  ∃newCap,len+cnt<=newCap/\(Builtin.append_ #[st,xt] ty #[.slice base len cap',x']).run P w =
   .ok (.slice (some ⟨w.heap.size,0,none⟩) (len+cnt) newCap) (World.push (drew w) (.cells (old++new++Builtin.zeroCells z.cells (newCap-(len+cnt))) e)):=by
 have hz:(zeroValue e).run P (drew w)=.ok z (drew w):=by simp[zeroValue,typeInfo,h.ei,h.zero]
 have hroom:=h.room;have hmax:¬((len+cnt:Nat):Int) > IntKind.i64.max:=by
  have:IntKind.i64.max=9223372036854775807:=by decide
  rw[this];omega
 have hnext:=yCV hgt;have hbig:=wAQ (c:=Builtin.nextslicecap (len+cnt) cap') (b:=info.bytes) (by omega) h.bytes;refine⟨(Question.appendCap (len+cnt) cap' e).cut (w.tape w.drawn (.appendCap (len+cnt) cap' e)),by simp[Question.cut], ?_⟩
 have hch:(choose (.appendCap (len+cnt) cap' e)).run P w=.ok ((Question.appendCap (len+cnt) cap' e).cut (w.tape w.drawn (.appendCap (len+cnt) cap' e))) (drew w):=by
  simp[Question.forced,drew]
 generalize (Question.appendCap (len+cnt) cap' e).cut (w.tape w.drawn (.appendCap (len+cnt) cap' e))=newCap at hch ⊢;rcases h.src with ⟨k,rfl,q,i,rfl,h0,h1,rfl⟩|⟨hk,hlen⟩
 .have hw1:=zJY h0 h1;have hb:=yTS h0 h1 h.bytes;have hneg:¬i<0:=by omega
  have hs2:(if(!true)=true then Builtin.firstCells n i.toNat (.int q i)else if i.toNat*n=0 then pure #[]else do pure (Builtin.zeroCells (<- zeroValue e).cells i.toNat):Sem (Array Value)).run P (drew w)=.ok new (drew w):=by
   simp only[zNO]at hs;simp only[Bool.not_true,Bool.false_eq_true,if_false];split
   .rename_i h0;rw[if_pos h0]at hs;exact hs
   .rename_i h0;rw[if_neg h0]at hs;rw[Sem.run_bind,hz];exact hs
  unfold Builtin.append_;simp only[List.getElem?_toArray,List.getElem?_cons_zero,List.getElem?_cons_succ,Sem.run_bind,run_underlying h.st,run_underlying h.xt,xQ h.size,Result.andThen_ok,Sem.run_pure];simp only[asInt,asIntOf,pure_bind,Sem.run_bind,Sem.run_pure,Result.andThen_ok,hw1,uY h.ei];rw[if_pos trivial,if_neg hneg,Sem.run_bind,uY h.ei,Result.andThen_ok,if_neg hb];simp only[if_neg hgt,Sem.run_bind,uY h.ei,Result.andThen_ok];rw[if_neg (λx=>hmax x.1)];simp only[Sem.run_bind,uY h.ei,Result.andThen_ok];rw[if_neg hbig];simp only[Sem.run_bind,hch,uY h.ei,Result.andThen_ok,run_askRoom,ho,hs2,hz];rfl
 .have hs2:(if(!false)=true then Builtin.firstCells n cnt x' else if cnt*n=0 then pure #[]else do pure (Builtin.zeroCells (<- zeroValue e).cells cnt):Sem (Array Value)).run P (drew w)=.ok new (drew w):=by
   rw[Bool.not_false,if_pos rfl];cases xd with
   |int k=>exact absurd rfl (hk k)
   |_=>exact hs
  unfold Builtin.append_;simp only[List.getElem?_toArray,List.getElem?_cons_zero,List.getElem?_cons_succ,Sem.run_bind,run_underlying h.st,run_underlying h.xt,xQ h.size,Result.andThen_ok,Sem.run_pure];cases xd with
  |int k=>exact absurd rfl (hk k)
  |_ =>
   rw[if_neg (by simp),Sem.run_bind,hlen,Result.andThen_ok];simp only[if_neg hgt,Sem.run_bind,uY h.ei,Result.andThen_ok];rw[if_neg (λx=>hmax x.1)];simp only[Sem.run_bind,uY h.ei,Result.andThen_ok];rw[if_neg hbig];simp only[Sem.run_bind,hch,uY h.ei,Result.andThen_ok,run_askRoom,ho,hs2,hz];rfl
end
end Go.Lay

namespace Go.Lay
open Go
section
variable{P:Program}{Z:Inj}{E:St}{w:World}

theorem vS:∀{log:List (Nat×Nat)} {s:Nat} {x:Nat×Nat},x∈vE log s->x∈log
 |[],_,_,h=>by simp[vE]at h
 |(k,e)::r,s,x,h=>by
  simp only[vE]at h;cases hk:Nat.beq k s with
  |true=>rw[hk,cond_true]at h;exact h
  |false=>rw[hk,cond_false]at h;exact List.mem_cons_of_mem _ (vS h)
theorem zCS{R:Nat×Nat->Nat×Nat->Prop}:∀{log:List (Nat×Nat)} {s:Nat},log.Pairwise R->(vE log s).Pairwise R
 |[],_,_=>by simp[vE]
 |(k,e)::r,s,h=>by
  simp only[vE];cases hk:Nat.beq k s with
  |true=>rw[cond_true];exact h
  |false=>rw[cond_false];exact zCS (List.pairwise_cons.1 h).2
theorem zFO:∀{log:List (Nat×Nat)} {s e:Nat} {x:Nat×Nat},log.Pairwise (λx y=>y.1<x.1/\y.2<=x.2)->vP log s=some e->x∈vE log s->x.2<=e
 |[],_,_,_,_,h,_=>by simp[vP]at h
 |(k,e0)::r,s,e,x,hp,he,hx=>by
  simp only[vE]at hx;simp only[vP]at he;cases hk:Nat.beq k s with
  |true =>
   rw[hk,cond_true]at hx he;cases he
   rcases List.mem_cons.1 hx with rfl|hx
   .exact Nat.le_refl _
   .exact((List.pairwise_cons.1 hp).1 x hx).2
  |false =>
   rw[hk,cond_false]at hx he;exact zFO (List.pairwise_cons.1 hp).2 he hx

def Inj.stamp(Z:Inj)(b s:Nat)(L:Loc):Inj:={ Z with loc:=λb' s'=>if b'=b/\s'=s then some L else Z.loc b' s' }
def Inj.stampNew(Z:Inj)(b s:Nat)(L:Loc)(n:Nat):Inj :=
 {loc:=λb' s'=>if b'=b/\s'=s then some L else Z.loc b' s'
  own:=λc'=>if c'=L.c then some b else Z.own c'
  csz:=λc'=>if c'=L.c then n else Z.csz c' }

theorem zFZ(a b:List Value)(ex:Nat)(h:ex<=a.length)(i:Nat):(a.take ex++b)[i]?=if i<ex then a[i]? else b[i-ex]?:=by
 have hl:(a.take ex).length=ex:=by simp;omega
 by_cases hi:i<ex
 .rw[if_pos hi,List.getElem?_append_left (by omega),List.getElem?_take_of_lt hi]
 .rw[if_neg hi,List.getElem?_append_right (by omega),hl]

theorem yUV{need cap':Nat}(h:need<=cap'):zOV (need+uQ) cap':=by
 unfold zOV;have:xR (need+uQ)=false:=by rw[Bool.eq_false_iff];intro e;have:=(xN _).1 e;omega
 rw[if_neg (by rw[this];simp)];unfold xC;rw[if_pos (by omega)];omega

theorem yMA{st xt e:TypeId}{n:Nat}{xd:TypeDesc}{info:TypeInfo}{z x' v:Value}{len cnt cap':Nat}{a:Addr}{L:Loc}{cs cs':List Value}{ty:TypeId}{known:Nat}{E':St}
    (h:zLP E n a len known cnt cs=some (v,E')) (hr:Rep Z E w) (hC:AppC P st xt e n xd info z x' len cnt) (hkn:known<=cap') (hneed:known<len+cnt)
    (hl:Z.loc a.block (yO a)=some L) (hlo:L.lo<=a.off) {A:Addr} (hA:A=L.at a.off\/(len=0/\cap'=0)) (hsz:L.base+(a.off-L.lo)+cap'*L.z<=Z.csz L.c) (hv:VRs Z cs cs') (hcc:cs.all cellB=true) (hcl:cs.length=cnt*n)
    (hs:∀w,Rep Z E w->(∃u,(zNO n z xd x' cnt).run P w=.ok ⟨u⟩ w/\VRs Z cs u)) :
    ∃v' w' Z',(Builtin.append_ #[st,xt] ty #[.slice (some A) len cap',x']).run P w=.ok v' w'/\VR Z' v v'/\Good Z E w Z' E' w':=by
  unfold zLP at h;split at h
  . rename_i bc esz log nx ro hb;split at h
    . rename_i ex hex;cases hcond:Nat.beq len known&&Nat.beq (a.off+len*n) ex&&Nat.beq esz n&&!ro&&Nat.blt 0 n with
      |false=>rw[hcond,cond_false]at h;cases h
      |true =>
        rw[hcond,cond_true,zCV,vC,vC,St.write_eq]at h;simp only[Bool.and_eq_true,Bool.not_eq_true']at hcond;obtain⟨⟨⟨⟨c1,c2⟩,c3⟩,c4⟩,c5⟩:=hcond;have c1:=Nat.eq_of_beq_eq_true c1;have c2:=Nat.eq_of_beq_eq_true c2;have c3:=Nat.eq_of_beq_eq_true c3;have c5:0<n:=(yJ 1 n).1 c5;simp at h;obtain⟨rfl,rfl⟩:=h;subst c4 c3;have hblk:=hr.blk _ _ hb;cases hblk.2 with
        |cells rows sorted same fresh =>
          obtain⟨hs1,hs2,M,hM⟩:=rows _ _ (zCW hex);have hML:M=L:=by have:=hM.loc;rw[hl]at this;cases this;rfl
          subst hML;obtain⟨arr,elem,fr,r1,r2,r3,r4,r5⟩:=hM.row;have hfr:=r3 rfl;subst hfr;have hcz:=hM.cz;have hown:Z.own M.c=some a.block:=by rw[hM.own];rfl
          rw[hcz]at hsz;have hnxn:Z.loc a.block nx=none:=fresh nx (Nat.le_refl _);have hmul:(len+cnt)*esz=len*esz+cnt*esz:=Nat.add_mul _ _ _;have hbl:(bc.take ex++cs).length=ex+cnt*esz:=by simp;omega
          by_cases hle:len+cnt<=cap'
          .
            have hA:A=M.at a.off:=hA.elim id (λx=>by exfalso;have:=x.2;omega);subst hA;obtain⟨u,hu,hvu⟩:=hs w hr;have hul:u.length=cnt*esz:=by rw[<- hvu.length];exact hcl
            have hcap:(len+cnt)*esz<=cap'*esz:=Nat.mul_le_mul_right _ hle;have huc:u.all cellB=true:=by rw[<- hvu.cellB];exact hcc
            have hst:=run_storeCells_at (P:=P) M.c (M.base+(a.off+len*esz-M.lo)) elem u 0 arr w r1 (by omega) (zIC huc);have hadd:(M.at a.off).add (len*esz)=⟨M.c,M.base+(a.off+len*esz-M.lo),none⟩:=by rw[zLN _ _ _ hlo];rfl
            have hrun:=zCD (P:=P) (w:=w) (ty:=ty) (base:=some (M.at a.off)) (new:=⟨u⟩) hC hle hu (by simp only[hadd];exact hst);refine⟨_,_,Z.stamp a.block nx M,hrun, ?_, ?_⟩
            . refine .slice (a:=⟨a.block,a.off,some nx⟩) (L:=M) (by simp[Inj.stamp,yO]) hlo (.inl rfl) (yUV hle) (by simp only[Inj.stamp];rw[hcz];exact hsz)
            . have ext:Ext Z (Z.stamp a.block nx M) w.heap.size E.j:=by
                refine⟨λb s L0 h0=>?_,λ_ _ _ _=>rfl,λb s h0 hb0=>?_,λ_ _=>rfl,λ_ _=>rfl,λb s L0 h0 _=>?_⟩
                . simp only[Inj.stamp];rw[if_neg];exact h0;rintro⟨rfl,rfl⟩;rw[hnxn]at h0;cases h0
                . simp only[Inj.stamp];rw[if_neg];exact h0;rintro⟨rfl,rfl⟩;have:=hblk.1;omega
                . simp only[Inj.stamp]at h0;split at h0
                  . cases h0;exact⟨_,_,_,hl,rfl⟩
                  . exact⟨_,_,_,h0,rfl⟩
              refine Good.putBlk hr hb ext (λb' s hne=>by simp[Inj.stamp,hne]) (λb s L0 h0=>?_) (λc b h0=>by simpa using hr.ownlt c b h0) (by simp)
                (λc _ hc=>setRow_other w M.c c _ (λhcc=>hc (by rw[hcc];exact hown))) ⟨rfl,rfl,rfl⟩ (.one M.c (λc hc=>setRow_other w M.c c _ hc) (λ_ _ _ h=>by rw[setRow_heap w M.c arr _ elem (0,0) r1]at h;cases h;rfl)) ?_
              . simp only[Inj.stamp]at h0;split at h0
                . cases h0;simpa using hr.lt _ _ _ hl
                . simpa using hr.lt _ _ _ h0
              .
                have arrget:∀ i,(arr.toList.take (M.base+(a.off+len*esz-M.lo)+0)++u++arr.toList.drop (M.base+(a.off+len*esz-M.lo)+0+u.length)).toArray[i]? =
                    if i<M.base+(ex-M.lo)then arr[i]? else if i<M.base+(ex-M.lo)+u.length then u[i-(M.base+(ex-M.lo))]? else arr[i]?:=by
                  intro i
                  have:=zSP arr.toList u (M.base+(ex-M.lo)) u.length (by simp;omega) rfl i
                  rw[<- c2]at this ⊢
                  simp only[Nat.add_zero]
                  simpa using this
                refine .cells (λs' e' hm=>?_) ?_ (λiI iJ iE iC iH iG iz iB iD iA hc=>?_) (λs' hs'=>?_)
                . rcases List.mem_cons.1 hm with hm|hm
                  . simp at hm;obtain⟨rfl,rfl⟩:=hm;refine⟨by omega,by rw[hbl];exact Nat.le_refl _,M,by simp[Inj.stamp],⟨_,elem,(0,0),setRow_heap w M.c arr _ elem (0,0) r1, ?_,λ_=>rfl, ?_,λj j1 j2=>?_⟩,hcz,by have:=hM.lo;omega,hM.own⟩
                    . simp only[Inj.stamp];rw[<- r2];simp;omega
                    . simp;omega
                    . rw[zFZ _ _ _ hs2,arrget];by_cases x1:j<ex
                      . have y1:M.base+(j-M.lo)<M.base+(ex-M.lo):=by have:=hM.lo;omega
                        rw[if_pos x1,if_pos y1];obtain⟨v,v',q1,q2,q3⟩:=r5 j j1 x1;exact⟨v,v',q1,q2,q3.ext ext⟩
                      . have y1:¬M.base+(j-M.lo)<M.base+(ex-M.lo):=by omega
                        have y2:M.base+(j-M.lo)<M.base+(ex-M.lo)+u.length:=by have:=hM.lo;omega
                        rw[if_neg x1,if_neg y1,if_pos y2];have hj:j-ex<cs.length:=by omega
                        obtain⟨u',u1,u2⟩:=hvu.get_some (i:=j-ex) (v:=cs[j-ex]) (by simp[hj]);refine⟨cs[j-ex],u',by simp[hj], ?_,u2.ext ext⟩
                        have hloex:=hM.lo;rw[show M.base+(j-M.lo)-(M.base+(ex-M.lo))=j-ex by omega];exact u1
                  . have hmem:=vS hm;have hle2:e'<=ex:=zFO (x:=(s',e')) sorted hex hm;obtain⟨a1,a2,N,hN⟩:=rows s' e' hmem;obtain⟨arr2,elem2,fr2,n1,n2,n3,n4,n5⟩:=hN.row;refine⟨by omega,by rw[hbl];omega,N,ext.loc _ _ _ hN.loc, ?_,hN.cz,hN.lo,hN.own⟩
                    by_cases hcc2:N.c=M.c
                    . have hsm:=same _ _ _ _ _ _ hmem (zCW hex) hN.loc hM.loc hcc2;have n1':=n1;rw[hcc2,r1]at n1';cases n1'
                      refine⟨_,elem,(0,0),by rw[hcc2];exact setRow_heap w M.c arr _ elem (0,0) r1, ?_,λ_=>rfl, ?_,λj j1 j2=>?_⟩
                      . simp only[Inj.stamp];rw[<- n2];simp;omega
                      . simp;omega
                      . obtain⟨v,v',q1,q2,q3⟩:=n5 j j1 j2;rw[zFZ _ _ _ hs2,arrget];have x1:j<ex:=by omega
                        have y1:N.base+(j-N.lo)<M.base+(ex-M.lo):=by have:=hM.lo;omega
                        rw[if_pos x1,if_pos y1];exact⟨v,v',q1,q2,q3.ext ext⟩
                    . refine⟨arr2,elem2,fr2,by rw[setRow_other _ _ _ _ hcc2];exact n1,n2,n3,n4,λj j1 j2=>?_⟩
                      obtain⟨v,v',q1,q2,q3⟩:=n5 j j1 j2;rw[zFZ _ _ _ hs2,if_pos (by omega)];exact⟨v,v',q1,q2,q3.ext ext⟩
                . refine List.pairwise_cons.2 ⟨λy hy=>?_,zCS sorted⟩;have h1:=zFO sorted hex hy;obtain⟨h2,_,_⟩:=rows y.1 y.2 (vS hy);exact⟨h2,by simp;omega⟩
                .
                  have find:∀ {s e L},(s,e)∈(nx,ex+cnt*esz)::vE log (yO a)->(Z.stamp a.block nx M).loc a.block s=some L ->
                      ∃s' e',(s',e')∈log/\Z.loc a.block s'=some L:=by
                    intro s e L hm hL
                    rcases List.mem_cons.1 hm with hm|hm
                    . simp at hm;obtain⟨rfl,rfl⟩:=hm;simp[Inj.stamp]at hL;subst hL;exact⟨_,_,zCW hex,hl⟩
                    . obtain⟨_,_,N,hN⟩:=rows _ _ (vS hm);have:=ext.loc _ _ _ hN.loc;rw[hL]at this;cases this;exact⟨_,_,vS hm,hN.loc⟩
                  obtain⟨jl,e1',iU,iN⟩:=find iz iD;obtain⟨s2',e2',iQ,iS⟩:=find iB iA;exact same _ _ _ _ _ _ iU iQ iN iS hc
                . simp only[Inj.stamp];rw[if_neg (by omega)];exact fresh s' (by omega)
          .
            have hgood:=Good.drew hr;obtain⟨u,hu,hvu⟩:=hs (drew w) hgood.rep;have hul:u.length=cnt*esz:=by rw[<- hvu.length];exact hcl
            have hread:xG E a (len*esz)=some ((bc.drop a.off).take (len*esz)):=by
              unfold xG;simp only[hb,hex];rw[(yJ _ _).2 (by omega)];rfl
            obtain⟨old,o1,o2,o3⟩:=zSY (P:=P) (w:=drew w) hread hgood.rep hl hlo (hA.imp id (λx=>by rw[x.1];simp));obtain⟨newCap,k1,k2⟩:=yCQ (P:=P) (w:=w) (ty:=ty) (base:=some A) (old:=⟨old⟩) (new:=⟨u⟩) hC hle (by simp[Builtin.firstCells,o3]) hu;have hzl:(Builtin.zeroCells z.cells (newCap-(len+cnt))).size=(newCap-(len+cnt))*esz:=by simp[Builtin.zeroCells,hC.zs]
            have htot:((⟨old⟩:Array Value)++⟨u⟩++Builtin.zeroCells z.cells (newCap-(len+cnt))).size=newCap*esz:=by
              simp only[Array.size_append,hzl];have e1:(⟨old⟩:Array Value).size=len*esz:=by show old.length=_;rw[<- o2.length];exact o1
              have e2:(⟨u⟩:Array Value).size=cnt*esz:=hul;rw[e1,e2,<- Nat.add_mul,<- Nat.add_mul];congr 1;omega
            refine⟨_,_,Z.stampNew a.block nx ⟨w.heap.size,a.off,0,esz⟩ (newCap*esz),k2, ?_, ?_⟩
            . have:=VR.slice (Z:=Z.stampNew a.block nx ⟨w.heap.size,a.off,0,esz⟩ (newCap*esz)) (a:=⟨a.block,a.off,some nx⟩) (L:=⟨w.heap.size,a.off,0,esz⟩) (len:=len+cnt) (cap:=len+cnt+uQ) (cap':=newCap)
                (by simp[Inj.stampNew,yO]) (Nat.le_refl _) (.inl rfl) (yUV k1) (by simp[Inj.stampNew])
              simpa [Loc.at] using this
            . have ext:Ext Z (Z.stampNew a.block nx ⟨w.heap.size,a.off,0,esz⟩ (newCap*esz)) w.heap.size E.j:=by
                refine⟨λb s L0 h0=>?_,λb s L0 h0=>?_,λb s h0 hb0=>?_,λc hc=>?_,λc hc=>?_,λb s L0 h0 hc=>?_⟩
                . simp only[Inj.stampNew];rw[if_neg];exact h0;rintro⟨rfl,rfl⟩;rw[hnxn]at h0;cases h0
                . have:=hr.lt _ _ _ h0;have hne:L0.c≠w.heap.size:=by omega
                  simp[Inj.stampNew,hne]
                . simp only[Inj.stampNew];rw[if_neg];exact h0;rintro⟨rfl,rfl⟩;have:=hblk.1;omega
                . have hne:c≠w.heap.size:=by omega
                  simp[Inj.stampNew,hne]
                . have hne:c≠w.heap.size:=by omega
                  simp[Inj.stampNew,hne]
                . simp only[Inj.stampNew]at h0;split at h0
                  . cases h0;simp at hc
                  . exact⟨_,_,_,h0,rfl⟩
              have hold:∀c,c<w.heap.size->(World.push (drew w) (.cells (⟨old⟩++⟨u⟩++Builtin.zeroCells z.cells (newCap-(len+cnt))) e)).heap[c]?=w.heap[c]?:=λc hc=>World.push_old (drew w) _ hc
              refine Good.putBlk hr hb ext (λb' s hne=>by simp[Inj.stampNew,hne]) (λb s L0 h0=>?_) (λc b h0=>?_) (by simp[drew]) (λc hc _=>hold c hc) ⟨rfl,rfl,rfl⟩ (zDA.push (drew w) (λ_ _ _ h=>by cases h;rfl)) ?_
              . simp only[Inj.stampNew]at h0;split at h0
                . cases h0;simp[drew]
                . have:=hr.lt _ _ _ h0;simp[drew];omega
              . simp only[Inj.stampNew]at h0;split at h0
                . rename_i hc0;have:=hblk.1;cases h0;simp[drew];omega
                . have:=hr.ownlt _ _ h0;simp[drew];omega
              . refine .cells (λs' e' hm=>?_) ?_ (λiI iJ iE iC iH iG iz iB iD iA hc=>?_) (λs' hs'=>?_)
                . rcases List.mem_cons.1 hm with hm|hm
                  . simp at hm;obtain⟨rfl,rfl⟩:=hm;refine⟨by omega,by rw[hbl];exact Nat.le_refl _,⟨w.heap.size,a.off,0,esz⟩,by simp[Inj.stampNew],⟨_,e,(0,0),World.push_new (drew w) _, ?_,λ_=>rfl, ?_,λj j1 j2=>?_⟩,by simp[Inj.stampNew],by simp;omega,by simp[Inj.stampNew]⟩
                    . rw[htot];simp[Inj.stampNew]
                    . rw[htot];have:(len+cnt)*esz<=newCap*esz:=Nat.mul_le_mul_right _ k1;simp;omega
                    . simp only at j1;rw[zFZ _ _ _ hs2];have hol:old.length=len*esz:=by rw[<- o2.length];exact o1
                      have hget:((⟨old⟩:Array Value)++⟨u⟩++Builtin.zeroCells z.cells (newCap-(len+cnt)))[0+(j-a.off)]?=(old++u)[j-a.off]?:=by
                        rw[Nat.zero_add,<- Array.getElem?_toList];simp only[Array.toList_append];rw[List.getElem?_append_left (by simp;omega)]
                      rw[hget];by_cases x1:j<ex
                      . rw[if_pos x1,List.getElem?_append_left (by omega)];have hj:(bc.drop a.off).take (len*esz)=(bc.drop a.off).take (len*esz):=rfl;have hbj:j<bc.length:=by omega
                        have e1:((bc.drop a.off).take (len*esz))[j-a.off]?=some bc[j]:=by
                          rw[List.getElem?_take_of_lt (by omega),List.getElem?_drop];rw[show a.off+(j-a.off)=j by omega];simp[hbj]
                        obtain⟨v',q1,q2⟩:=o2.get_some e1;exact⟨bc[j],v',by simp[hbj],q1,q2.ext ext⟩
                      . rw[if_neg x1,List.getElem?_append_right (by omega)];have hj:j-ex<cs.length:=by omega
                        obtain⟨u',u1,u2⟩:=hvu.get_some (i:=j-ex) (v:=cs[j-ex]) (by simp[hj]);refine⟨cs[j-ex],u',by simp[hj], ?_,u2.ext ext⟩
                        rw[show j-a.off-old.length=j-ex by omega];exact u1
                  . have hmem:=vS hm;have hle2:e'<=ex:=zFO (x:=(s',e')) sorted hex hm;obtain⟨a1,a2,N,hN⟩:=rows s' e' hmem;obtain⟨arr2,elem2,fr2,n1,n2,n3,n4,n5⟩:=hN.row;have hNlt:=hr.lt _ _ _ hN.loc;refine⟨by omega,by rw[hbl];omega,N,ext.loc _ _ _ hN.loc,⟨arr2,elem2,fr2,by rw[hold _ hNlt];exact n1,by rw[ext.sz _ _ _ hN.loc];exact n2,n3,n4,λj j1 j2=>?_⟩,hN.cz,hN.lo,by rw[ext.own _ hNlt];exact hN.own⟩
                    obtain⟨v,v',q1,q2,q3⟩:=n5 j j1 j2;rw[zFZ _ _ _ hs2,if_pos (by omega)];exact⟨v,v',q1,q2,q3.ext ext⟩
                . refine List.pairwise_cons.2 ⟨λy hy=>?_,zCS sorted⟩;have h1:=zFO sorted hex hy;obtain⟨h2,_,_⟩:=rows y.1 y.2 (vS hy);exact⟨h2,by simp;omega⟩
                . have find:∀ {s e0 L0},(s,e0)∈(nx,ex+cnt*esz)::vE log (yO a)->(Z.stampNew a.block nx ⟨w.heap.size,a.off,0,esz⟩ (newCap*esz)).loc a.block s=some L0 ->
                      L0=⟨w.heap.size,a.off,0,esz⟩\/((s,e0)∈log/\Z.loc a.block s=some L0/\L0.c<w.heap.size):=by
                    intro s e0 L0 hm hL
                    rcases List.mem_cons.1 hm with hm|hm
                    . simp at hm;obtain⟨rfl,rfl⟩:=hm;simp[Inj.stampNew]at hL;exact .inl hL.symm
                    . obtain⟨_,_,N,hN⟩:=rows _ _ (vS hm);have:=ext.loc _ _ _ hN.loc;rw[hL]at this;cases this;exact .inr ⟨vS hm,hN.loc,hr.lt _ _ _ hN.loc⟩
                  rcases find iz iD with rfl|⟨iU,iN,jk⟩ <;> rcases find iB iA with rfl|⟨iQ,iS,jm⟩
                  . rfl
                  . simp at hc;omega
                  . simp at hc;omega
                  . exact same _ _ _ _ _ _ iU iQ iN iS hc
                . simp only[Inj.stampNew];rw[if_neg (by omega)];exact fresh s' (by omega)
    . cases h
  . cases h
end
end Go.Lay

namespace Go.Lay
open Go
variable{r clock:Nat}{es:List (Value×Value)}{x x':Value}{E':St}
section
variable{P:Program}{Z:Inj}{E:St}{w:World}

inductive NextV:Next->Value->Prop
 |value (v:Value):NextV (.value v) v
 |skip:NextV .skip undef

def yJQ(P:Program)(Z:Inj)(E:St)(w:World)(v:Value)(E':St)(s:Sem Next):Prop :=
 ∃nx v' w' Z',s.run P w=.ok nx w'/\NextV nx v'/\VR Z' v v'/\Good Z E w Z' E' w'

theorem xOB{es2:List (Value×Value)}{L:Loc}{arr2:Array MapEntry}(hr:Rep Z E w)(hb:yP E.heap r=some (.map es))(hl:Z.loc r 0=some L)
  (hE:EntR Z es2 arr2.toList):Good Z E w Z (E.put r (.map es2)) { w with heap:=w.heap.setIfInBounds L.c (.map arr2 clock) }:=by
 obtain⟨arr,ck,hrow,_,hown⟩:=yTT hr hb hl;have hlt:=hr.lt _ _ _ hl;refine Good.putBlk hr hb (Ext.refl _ _ _) (λ_ _ _=>rfl) (λb s L h=>by simpa using hr.lt b s L h) (λc b h=>by simpa using hr.ownlt c b h) (by simp)
  (λc _ hc=>?_) ⟨rfl,rfl,rfl⟩ (.one L.c (λc hc=>by simp[Array.getElem?_setIfInBounds_ne (Ne.symm hc)]) (λ_ _ _ h=>by simp[hlt]at h)) ?_
 .have hne:L.c≠c:=λe=>hc (by rw[<- e];exact hown)
  simp[Array.getElem?_setIfInBounds_ne hne]
 .refine .map hl hown (arr:=arr2) (clock:=clock) (by simp[hlt]) (by have:=hE.size;simpa using this.symm) (λi e he=>?_);obtain⟨e',h1,h2,h3⟩:=hE.ent i e he;exact⟨e',by simpa using h1,h2,h3⟩

theorem zNP{c:Nat}{arr:Array MapEntry}(o:Obj)(h:w.heap[c]?=some (.map arr clock)):(setObj c o).run P w=.ok () { w with heap:=w.heap.setIfInBounds c o }:=by
 simp[setObj,Sem.run,h]

theorem EntR.push{es:List (Value×Value)}{arr:Array MapEntry}{k v v':Value}{b:Nat}(h:EntR Z es arr.toList)(hv:VR Z v v'):EntR Z (es++[(k,v)]) (arr.push { key:=k,val:=v',born:=b }).toList:=by
 have hs:=h.size;refine⟨by simp at hs ⊢;omega,λi e he=>?_⟩
 by_cases hi:i<es.length
 .rw[List.getElem?_append_left hi]at he;obtain⟨e',h1,h2,h3⟩:=h.ent i e he;refine⟨e', ?_,h2,h3⟩
  rw[Array.toList_push,List.getElem?_append_left (by omega)];exact h1
 .rw[List.getElem?_append_right (by omega)]at he;have hi2:i-es.length=0:=by
   have:=(List.getElem?_eq_some_iff.1 he).1;simp at this;omega
  rw[hi2]at he;simp at he;subst he;refine⟨⟨k,v',b⟩, ?_,rfl,hv⟩
  rw[Array.toList_push,List.getElem?_append_right (by omega)];rw[show i-arr.toList.length=0 by omega];rfl

theorem EntR.set{es:List (Value×Value)}{arr:Array MapEntry}{k v v':Value}{j:Nat}(h:EntR Z es arr.toList)(hv:VR Z v v') :
  EntR Z (es.set j (k,v)) (arr.modify j λe=>{ e with key:=k,val:=v' }).toList:=by
 have hs:=h.size;refine⟨by simp at hs ⊢;omega,λi e he=>?_⟩
 have hlt:i<es.length:=by have:=(List.getElem?_eq_some_iff.1 he).1;simpa using this
 have hlt':i<arr.size:=by simp at hs;omega
 by_cases hij:j=i
 .subst hij;rw[List.getElem?_set_self hlt]at he;cases he
  obtain⟨e',h1,_,_⟩:=h.ent j es[j] (by simp[hlt]);refine⟨{ e' with key:=k,val:=v' }, ?_,rfl,hv⟩
  have h1':arr[j]?=some e':=by simpa using h1
  simp[Array.getElem?_modify,h1']
 .rw[List.getElem?_set_ne hij]at he;obtain⟨e',h1,h2,h3⟩:=h.ent i e he;refine⟨e', ?_,h2,h3⟩
  have h1':arr[i]?=some e':=by simpa using h1
  simp[Array.getElem?_modify,hij,h1']

theorem zLT{t:TypeId}{kt et:TypeId}{m m' k k':Value}(hm:zCH P t=some (kt,et))(hmv:m=.map (some r))(hM:VR Z m m')(hK:VR Z k k')(hX:VR Z x x')
    (hb:yP E.heap r=some (.map es)) (hk:zIF P false kt k=true) (hr:Rep Z E w)
    (h : (match zBA P kt k es 0 with
          |some (some i)=>match es[i]? with
            |some e=>bif Instr.sameBits 10000 e.1 k then E.write r (.map (es.set i (k,x))) λE=>some (undef,E)else none
            |none=>none
          |some none=>E.write r (.map (es++[(k,x)])) λE=>some (undef,E)
          |none=>none)=some (undef,E')):∃w',(Instr.mapUpdate t m' k' x').run P w=.ok () w'/\Good Z E w Z E' w':=by
  subst hmv
  obtain⟨L,hl,rfl⟩:=hM.map_inv
  have hd:=zKQ hm
  obtain⟨arr,clock,hrow,hE,hown⟩:=yTT hr hb hl
  obtain⟨k1,k2,d,hkd⟩:=zYH hk
  have ek:=hK.rigid _ k1;subst ek
  cases hkx:zBA P kt k es 0 with
  |none=>simp[hkx]at h
  |some r0 =>
    obtain⟨r',f1,f2⟩:=yBZ hkd hkx hE;rw[hkx]at h;cases r0 with
    |none =>
      have:r'=none:=f2;subst this;simp only[St.write_eq,Option.some.injEq,Prod.mk.injEq,true_and]at h;subst h;refine⟨_, ?_,xOB (arr2:=arr.push { key:=k,val:=x',born:=clock }) (clock:=clock+1) hr hb hl (hE.push hX)⟩
      simp[Instr.mapUpdate,run_underlying hd,uZ hrow,k2,f1,zNP _ hrow]
    |some j =>
      obtain⟨e1,g1,_,g2⟩:=f2;simp only at h;cases hej:es[j]? with
      |none=>simp[hej]at h
      |some e =>
        simp only[hej]at h;cases hsb:Instr.sameBits 10000 e.1 k with
        |false=>rw[hsb,cond_false]at h;cases h
        |true =>
          rw[hsb,cond_true,St.write_eq]at h;simp at h;subst h;obtain⟨e2,q1,q2,q3⟩:=hE.ent j e hej;rw[show j-0=j from rfl]at g1;rw[q1]at g1;cases g1;subst g2;have q1':arr[j]?=some e1:=by simpa using q1
          refine⟨_, ?_,xOB (arr2:=arr.modify j λe=>{ e with key:=k,val:=x' }) (clock:=clock) hr hb hl (hE.set hX)⟩
          simp[Instr.mapUpdate,run_underlying hd,uZ hrow,k2,f1,q1',q2,Instr.keyThatStays,hsb,zNP _ hrow]

theorem yLZ{st xt ty:TypeId}{s s' v:Value}(hz:zAX P)(h:xO P st xt s x E=some (v,E'))(hr:Rep Z E w)(hf:yCS Z E.j E'.j)(hs:VR Z s s')(hx:VR Z x x') :
  ∃v' w' Z',(Builtin.append_ #[st,xt] ty #[s',x']).run P w=.ok v' w'/\VR Z' v v'/\Good Z E w Z' E' w':=by
 unfold xO at h;split at h
 .rename_i e n xd base len cap hes hxd;have hst:P.underlying st=some (.slice e)/\yR P e=some n:=by
   unfold wY at hes;split at hes
   .rename_i e0 hd;cases hsz:yR P e0 with
    |none=>simp[hsz]at hes
    |some n0=>simp[hsz]at hes;obtain⟨rfl,rfl⟩:=hes;exact⟨hd,hsz⟩
   .cases hes
  split at h
  .rename_i ei hei;split at h
   .rename_i z hzero;split at h
    .rename_i cnt cs hsrc;cases hcond:zBH (len+cnt) n ei.bytes&&cs.all cellB&&Nat.beq cs.length (cnt*n)&&yI RD z&&Nat.beq z.cells.toList.length n with
     |false=>rw[hcond,cond_false]at h;cases h
     |true =>
      rw[hcond,cond_true]at h;simp only[Bool.and_eq_true]at hcond;obtain⟨⟨⟨⟨c1,c2⟩,c3⟩,c4⟩,c5⟩:=hcond;have c3:=Nat.eq_of_beq_eq_true c3;have c5:=Nat.eq_of_beq_eq_true c5;simp only[zBH,Bool.and_eq_true]at c1;have r1:=(yJ _ _).1 c1.1.1;have r2:=(yJ _ _).1 c1.1.2;have r3:=(yJ _ _).1 c1.2;obtain⟨cs',hcv,hcr,hsx⟩:=zLO (P:=P) hsrc hr hx c3 c4;have hC:AppC P st xt e n xd ei z x' len cnt:=⟨hst.1,hst.2,hxd,hei,hzero,by simpa using c5,r1,r3,hsx⟩;have hcl:cs'.length=cnt*n:=by rw[<- hcv.length];exact c3
      unfold uC at h;cases hle:Nat.ble (len+cnt) (xC cap)with
      |true =>
       rw[hle,cond_true]at h;have hle:=(yJ _ _).1 hle;cases base with
       |none =>
        have e1:=hs.slice_none;subst e1;simp only at h;cases hc0:Nat.beq cnt 0 with
        |false=>rw[hc0,cond_false]at h;cases h
        |true =>
         rw[hc0,cond_true]at h;simp at h;obtain⟨rfl,rfl⟩:=h;have hle2:len+cnt<=cap:=by unfold xC at hle;split at hle <;> omega
         refine⟨_,w,Z,zCD (w':=w) hC hle2 hcr rfl,.atom rfl,.refl hr⟩
       |some a =>
        obtain⟨L,cap',A,hl,hlo,hA,hc,hsz,rfl⟩:=hs.slice_inv;have hle2:len+cnt<=cap':=Nat.le_trans hle (zEK hc);simp only at h;cases hc0:Nat.beq cnt 0 with
        |true =>
         rw[hc0,cond_true]at h;have hc0:=Nat.eq_of_beq_eq_true hc0;simp at h;obtain⟨rfl,rfl⟩:=h;have:cs'=[]:=List.eq_nil_of_length_eq_zero (by rw[hcl,hc0];simp);subst this;refine⟨_,w,Z,zCD (w':=w) hC hle2 hcr ?_, ?_,.refl hr⟩
         .simp[storeCells]
         .exact .slice hl hlo (hA.imp id (λx=>⟨by have:=x.2.2;omega,x.2.1,x.2.2⟩)) hc hsz
        |false =>
         rw[hc0,cond_false]at h;have hA:A=L.at a.off:=hA.elim id (λx=>by
          exfalso;have h0:cnt=0:=by have:=x.2.2;omega
          rw[h0]at hc0;cases hc0)
         subst hA;cases hw:wS E (zO a (len*n)) cs with
         |none=>simp[hw]at h
         |some E1 =>
          simp[hw]at h;obtain⟨rfl,rfl⟩:=h;obtain⟨w',g1,g2⟩:=yGG (P:=P) (a:=zO a (len*n)) (L:=L) hw hr hl (by simp[zO];omega) hcv;refine⟨_,w',Z,zCD (w':=w') hC hle2 hcr ?_,.slice hl hlo (.inl rfl) hc hsz,g2⟩
          simp only[zLN _ _ _ hlo];exact g1
      |false =>
       rw[hle,cond_false]at h;have hgt:¬len+cnt<=xC cap:=λe=>by rw[(yJ _ _).2 e]at hle;cases hle
       cases hex:xR cap with
       |true =>
        rw[hex,cond_true]at h;have hcapl:xC cap=cap:=by have:=(xN cap).1 hex;unfold xC;rw[if_neg (by omega)]
        rw[hcapl]at hgt;have hg:=Good.drew hr;have hzl:∀m,(Builtin.zeroCells z.cells m).size=m*n:=λm=>by
         have:z.cells.size=n:=by simpa using c5
         simp[Builtin.zeroCells,this]
        have fin:∀{old old':List Value} {base':Option Addr},VRs Z old old'->old.length=len*n ->
          (Builtin.firstCells n len (.slice base' len cap)).run P (Lay.drew w)=.ok ⟨old'⟩ (Lay.drew w) ->
          E'=E.add (.cells (old++cs) n [(0,(old++cs).length)] 1 false) ->
          ∃v' w' Z',(Builtin.append_ #[st,xt] ty #[.slice base' len cap,x']).run P w=.ok v' w'/\VR Z' (.slice (some ⟨E.j,0,none⟩) (len+cnt) (len+cnt+uQ)) v'/\Good Z E w Z' E' w':=by
         intro old old' base' ho hol hrun iw
         subst iw
         obtain⟨cs2,hcv2,hcr2,_⟩:=zLO (P:=P) hsrc hg.rep hx c3 c4
         obtain⟨newCap,k1,k2⟩:=yCQ (P:=P) (w:=w) (ty:=ty) (base:=base') (old:=⟨old'⟩) (new:=⟨cs2⟩) hC hgt hrun hcr2
         have hgood:=zWE (esz:=n) (elem:=e) (tail:=(Builtin.zeroCells z.cells (newCap-(len+cnt))).toList) hg.rep hf (VRs.append ho hcv2)
         have hlen:(old++cs).length+(Builtin.zeroCells z.cells (newCap-(len+cnt))).toList.length=newCap*n:=by
          simp only[List.length_append,Array.length_toList,hzl,hol,c3];rw[<- Nat.add_mul,<- Nat.add_mul];congr 1;omega
         refine⟨_,_,Z.add E.j (Lay.drew w).heap.size (newCap*n) n,k2,zKO (E:=E) (w:=Lay.drew w) (m:=newCap*n) (esz:=n) (yUV k1) (Nat.le_refl _), ?_⟩
         rw[hlen]at hgood
         have e1:((⟨old'⟩:Array Value)++⟨cs2⟩++Builtin.zeroCells z.cells (newCap-(len+cnt)))=⟨old'++cs2++(Builtin.zeroCells z.cells (newCap-(len+cnt))).toList⟩:=by
          apply Array.ext';simp
         rw[e1]
         exact hg.trans hgood
        cases base with
        |none =>
         have e1:=hs.slice_none;subst e1;simp only at h;cases hl0:Nat.beq len 0 with
         |false=>rw[hl0,cond_false]at h;cases h
         |true =>
          rw[hl0,cond_true,xD]at h;have hl0:=Nat.eq_of_beq_eq_true hl0;simp at h;obtain⟨rfl,rfl⟩:=h;exact fin (old:=[]) (old':=[]) .nil (by simp[hl0]) (by simp[Builtin.firstCells]) rfl
        |some a =>
         obtain⟨L,cap',A,hl,hlo,hA,hc,hsz,rfl⟩:=hs.slice_inv;have:cap'=cap:=by unfold zOV at hc;rw[if_pos hex]at hc;exact hc
         subst this;simp only at h;cases hrd:xG E a (len*n)with
         |none=>simp[hrd]at h
         |some old =>
          simp only[hrd,xD]at h;simp at h;obtain⟨rfl,rfl⟩:=h;obtain⟨old',o1,o2,o3⟩:=zSY (P:=P) (w:=Lay.drew w) hrd hg.rep hl hlo (hA.imp id (λx=>by rw[x.1];simp));exact fin o2 o1 (by simp[Builtin.firstCells,o3]) (by simp)
       |false =>
        rw[hex,cond_false]at h;cases base with
        |none=>simp at h
        |some a =>
         obtain⟨L,cap',A,hl,hlo,hA,hc,hsz,rfl⟩:=hs.slice_inv;simp only at h;exact yMA (P:=P) h hr hC (zEK hc) (by omega) hl hlo (hA.imp id (λx=>⟨x.1,x.2.2⟩)) hsz hcv c2 c3 (λw2 hr2=>by
          obtain⟨u,u1,u2,_⟩:=zLO (P:=P) (w:=w2) hsrc hr2 hx c3 c4;exact⟨u,u2,u1⟩)
    .cases h
   .cases h
  .cases h
 .cases h
end
end Go.Lay

namespace Go.Lay
open Go
variable{fv:Value}{args as args':List Value}{r:FnRef}
section
variable{P:Program}{Z:Inj}{E:St}{w:World}

theorem xIN(h:zRJ fv args=some (r,as)) :
  (∃f first cap,fv=.func (.func f) first cap/\r=.func f/\as=first.toList++(args++cap.toList))\/(∃l first cap,fv=.func (.yield l) first cap/\r=.yield l/\as=first.toList++args):=by
 unfold zRJ at h;split at h
 .simp at h;exact .inl ⟨_,_,_,rfl,h.1.symm,h.2.symm⟩
 .simp at h;exact .inr ⟨_,_,_,rfl,h.1.symm,h.2.symm⟩
 .cases h

theorem yJE{fv':Value}(h:zRJ fv args=some (r,as))(hf:VR Z fv fv')(ha:VRs Z args args') :
  ∃as',VRs Z as as'/\((∃f cap,r=.func f/\∃d,(∀w,(Deferred.ofValue fv' ⟨args'⟩).run P w=.ok d w)/\d.target=.fn (.func f) cap/\d.args++cap=⟨as'⟩) \/
   (∃l L cap,r=.yield l/\Z.loc l 0=some L/\∃d,(∀w,(Deferred.ofValue fv' ⟨args'⟩).run P w=.ok d w)/\d.target=.fn (.yield L.c) cap/\d.args=⟨as'⟩)):=by
 rcases xIN h with ⟨f,first,cap,rfl,rfl,rfl⟩|⟨l,first,cap,rfl,rfl,rfl⟩
 .obtain⟨fn',f',c',rfl,hfn,h1,h2⟩:=hf.func_inv;cases hfn
  refine⟨f'.toList++(args'++c'.toList),VRs.append h1 (VRs.append ha h2),.inl ⟨f,c',rfl,_,λw=>rfl,rfl, ?_⟩⟩
  apply Array.ext';simp
 .obtain⟨fn',f',c',rfl,hfn,h1,h2⟩:=hf.func_inv;cases hfn with
  |yield hl =>
   refine⟨f'.toList++args',VRs.append h1 ha,.inr ⟨l,_,c',rfl,hl,_,λw=>rfl,rfl, ?_⟩⟩
   apply Array.ext';simp


theorem xVS{U:Type}{c:Bool}{x:Option U}{z:U}(h:(bif c then x else none)=some z):c=true/\x=some z:=by cases c <;> simp_all
theorem wCN{f:Operand}{v:Value}(h:wII P f E r args=some v)(hr:Rep Z E w)(ha:VRs Z args args') :
  ∃g,r=.func g/\(callFunc g ⟨args'⟩).run P w=.ok (.value v) w/\VR Z v v:=by
 have:=(xVS h).2;cases this
end
end Go.Lay

namespace Go.Lay
open Go
variable{v:Value}{E':St}{o:Oper}{ev ev':Operand->Value}
section
variable{P:Program}{Z:Inj}{E:St}{w:World}

theorem zLX{place:Nat->Option (Nat×Nat)}:∀{parts:List (Nat×Value)} {cells out:Array Value},Instr.fill place cells parts=some out->out.size=cells.size
 |[],cells,out,h=>by simp[Instr.fill]at h;rw[h]
 |(i,v)::rest,cells,out,h=>by
  simp only[Instr.fill]at h;split at h
  .cases h
  .split at h
   .cases h
   .rw[zLX h];rename_i off size _ _;have:∀(l:List (Value×Nat)) (c:Array Value),(l.foldl (λcs (x:Value×Nat)=>cs.setIfInBounds (off+x.2) x.1) c).size=c.size:=by
     intro l;induction l with
     |nil=>intro c;rfl
     |cons x l ih=>intro c;rw[List.foldl_cons,ih];simp
    rw[<- Array.foldl_toList];exact this _ _

theorem yHA(elem:TypeId)(v:Value)(w:World):(newVar elem v).run P w=.ok ⟨w.heap.size,0,none⟩ (World.push w (.cells ⟨v.cells.toList⟩ elem)):=by
 unfold newVar;have:=zFI (P:=P) elem v.cells.toList w;rw[vT]at this ⊢;exact this

theorem zIG{t:TypeId}{e:TypeId}{n:Nat}(h:wY P t=some (e,n)):P.underlying t=some (.slice e)/\yR P e=some n:=by
 unfold wY at h;split at h
 .rename_i e0 hd;cases hsz:yR P e0 with
  |none=>simp[hsz]at h
  |some n0=>simp[hsz]at h;obtain⟨rfl,rfl⟩:=h;exact⟨hd,hsz⟩
 .cases h

theorem zCK{z:Value}(h:yI RD z=true):∀m,VRs Z (xL z.cells.toList m) (xL z.cells.toList m)
 |0=>.nil
 |m+1=>VRs.append (VR.refl_rigid RD h).cells (zCK h m)

theorem yBX(hr:Rep Z E w)(hf:yCS Z E.j (E.j+1)) :
  Good Z E w (Z.add E.j w.heap.size 0 0) (E.add (.map [])) (World.push w (.map #[] 0)) :=
 Good.addBlk hr hf (λ_ _ _ h=>by cases h) (.map (Inj.add_loc _ _ _ _) (by simp[Inj.add]) (World.push_new _ _) rfl (λi e he=>by simp at he))

theorem yHU(hr:Rep Z E w):VR (Z.add E.j w.heap.size 0 0) (.map (some E.j)) (.map (some w.heap.size)) :=
 .map (L:=⟨w.heap.size,0,0,_⟩) (Inj.add_loc _ _ _ _)

def yVO(P:Program)(Z:Inj)(E:St)(w:World)(v:Value)(E':St)(s:Sem Next):Prop :=
 ∃nx v' obj y m z,s.run P w=.ok nx (World.push w obj)/\NextV nx v'/\VR (Z.add E.j w.heap.size m z) v v'/\E'=E.add y/\Good Z E w (Z.add E.j w.heap.size m z) E' (World.push w obj)
theorem yVO.eff{s:Sem Next}(h:yVO P Z E w v E' s):yJQ P Z E w v E' s:=by
 obtain⟨nx,v',obj,y,m,z,h1,h2,h3,h4,h5⟩:=h;exact⟨nx,v',_,_,h1,h2,h3,h5⟩

theorem yHV(hz:zAX P)(hm:uE o.op=true)(h:yN P ev E o.op=some (v,E'))(hr:Rep Z E w)
  (hev:∀x∈o.op.operands,VR Z (ev x) (ev' x)):yVO P Z E w v E' (execOp ev' o):=by
 have hf:=hr.free (E.j+1);unfold yN at h;split at h
 .rename_i t ho;cases hzt:uO P t with
  |none=>simp[hzt]at h
  |some z =>
   simp only[hzt,xD,vC]at h;simp at h;obtain⟨rfl,rfl⟩:=h;have hzr:=hz t z hzt;refine⟨_,_,_,_,_,_, ?_,.value _,yHT,rfl,zGK (elem:=t) hr hf (VR.refl_rigid RD hzr).cells⟩
   .simp only[execOp,ho];simp[Instr.alloc,zCO hzt,yHA]
 .rename_i t x ho;simp only[xD,vC]at h;simp at h;obtain⟨rfl,rfl⟩:=h;have hx:=hev x (by simp[ho,Op.operands]);refine⟨_,_,_,_,_,_, ?_,.value _,yHT,rfl,zGK (elem:=t) hr hf hx.cells⟩
  .simp only[execOp,ho];simp[Instr.box,yHA]
 .rename_i t len ps ho;split at h
  .rename_i e n hes;obtain⟨hd,hsz⟩:=zIG hes;cases hzt:uO P e with
   |none=>simp[hzt]at h
   |some z =>
    simp only[hzt]at h;cases hc:Nat.ble (len*n) 16777216&&Nat.beq z.cells.toList.length n with
    |false=>rw[hc,cond_false]at h;cases h
    |true =>
     rw[hc,cond_true]at h;simp only[Bool.and_eq_true]at hc;have c1:=(yJ _ _).1 hc.1;have c2:=Nat.eq_of_beq_eq_true hc.2;split at h
     .rename_i cs hfill;simp only[xD]at h;simp at h;obtain⟨rfl,rfl⟩:=h;have hzr:=hz e z hzt;obtain⟨cs',f1,f2⟩:=zOL (Z:=Z) (parts':=ps.toList.map λp=>(p.1,ev' p.2)) hfill (zCK hzr len) (by simp[List.map_map,Function.comp_def])
       (by
        have:=zED (ps.toList.map (·.2)) (ev:=ev) (ev':=ev') (λx hx=>hev x (by simp[ho,Op.operands]at hx ⊢;exact hx));simpa [List.map_map,Function.comp_def] using this)
      have hlen:cs'.length=len*n:=by
       have:=zLX f1;simpa [vX,c2] using this
      refine⟨_,_,_,_,_,_, ?_,.value _,zKO (m:=cs.length) (zEJ len) (by rw[f2.length,hlen];exact Nat.le_refl _),rfl,zGK (elem:=e) hr hf f2⟩
      .have e1:ps.map (λ(i,x)=>(i,ev' x))=(⟨ps.toList.map λp=>(p.1,ev' p.2)⟩:Array (Nat×Value)):=by
        apply Array.ext';simp
       have e3:(Array.range (len*n)).map ((if len*n=0 then #[]else z.cells)[· % (if len*n=0 then #[]else z.cells).size]!)=(⟨xL z.cells.toList len⟩:Array Value):=by
        by_cases h0:len*n=0
        .have:xL z.cells.toList len=[]:=List.eq_nil_of_length_eq_zero (by rw[vX,c2];exact h0);rw[this,h0];simp
        .rw[if_neg h0];have:=zNT (z:=z.cells.toList) (m:=len) (n:=n) c2 (λhp=>by
          rcases Nat.eq_zero_or_pos n with h1|h1
          .rw[h1]at h0;simp at h0
          .exact h1)
         rw[vT]at this;exact this
       simp only[execOp,ho,e1,Instr.buildSlice,Sem.run_bind,run_underlying hd,xQ hsz,Result.andThen_ok];rw[if_neg (by omega)];by_cases h0:len*n=0
       .rw[if_pos h0]at e3;rw[if_pos h0];simp only[Sem.run_bind,Sem.run_pure,Result.andThen_ok,e3,f1,zFI]
       .rw[if_neg h0]at e3;rw[if_neg h0];simp only[Sem.run_bind,Sem.run_pure,Result.andThen_ok,zCO hzt,e3,f1,zFI]
     .cases h
  .cases h
 .rename_i t r ho;split at h
  .split at h
   .rename_i ke hmo;simp only[St.new_eq]at h;simp at h;obtain⟨rfl,rfl⟩:=h;refine⟨_,_,_,_,_,_, ?_,.value _,yHU hr,rfl,yBX hr hf⟩
    simp only[execOp,ho];simp[Instr.makeMap,World.push]
   .cases h
  .rename_i x;have hx:=hev x (by simp[ho,Op.operands]);split at h
   .rename_i ke k i hmo hxi;rw[hxi]at hx;have e:=hx.int_inv;simp only[St.new_eq]at h;simp at h;obtain⟨rfl,rfl⟩:=h;refine⟨_,_,_,_,_,_, ?_,.value _,yHU hr,rfl,yBX hr hf⟩
    simp only[execOp,ho];have hd:=zKQ (P:=P) (t:=t) (k:=ke.1) (e:=ke.2) hmo;simp[Instr.makeMap,World.push,e,run_underlying hd,asInt,asIntOf]
   .cases h
 .rename_i t l c ho;have hl:=hev l (by simp[ho,Op.operands]);have hc:=hev c (by simp[ho,Op.operands]);split at h
  .rename_i e n kl li kc ci hes hle hce;rw[hle]at hl;rw[hce]at hc;have el:=hl.int_inv;have ec:=hc.int_inv;obtain⟨hd,hsz⟩:=zIG hes;split at h
   .rename_i z ei hzt hei;cases hcond:leI 0 li&&leI li ci&&leI ci 1073741824&&zBH ci.toNat n ei.bytes&&Nat.beq z.cells.toList.length n&&Nat.blt 0 n with
    |false=>rw[hcond,cond_false]at h;cases h
    |true =>
     rw[hcond,cond_true,xD]at h;simp only[Bool.and_eq_true,vN]at hcond;obtain⟨⟨⟨⟨⟨c1,c2⟩,c3⟩,c4⟩,c5⟩,c6⟩:=hcond;simp only[zBH,Bool.and_eq_true]at c4;have r3:=(yJ _ _).1 c4.2;have c5:=Nat.eq_of_beq_eq_true c5;have c6:0<n:=(yJ 1 n).1 c6;simp at h;obtain⟨rfl,rfl⟩:=h;have hzr:=hz e z hzt;have c0:0<=ci:=by omega
     refine⟨_,_,_,_,_,_, ?_,.value _,zKO (m:=(xL z.cells.toList ci.toNat).length) (zEJ ci.toNat) (by rw[vX,c5];exact Nat.le_refl _),rfl,zGK (elem:=e) hr hf (zCK hzr _)⟩
     .have w1:=zJY (i:=ci) c0 c3;have w2:=zJY (i:=li) c1 (by omega);have hb:=yTS (i:=ci) (b:=ei.bytes) c0 c3 r3;have hb':¬(2:Int) ^ 48<(ei.bytes:Int)*ci:=by rw[Int.mul_comm];exact hb
      have e3:(Array.range (ci.toNat*n)).map ((if ci.toNat*n=0 then #[]else z.cells)[· % (if ci.toNat*n=0 then #[]else z.cells).size]!)=(⟨xL z.cells.toList ci.toNat⟩:Array Value):=by
       by_cases h0:ci.toNat*n=0
       .have:xL z.cells.toList ci.toNat=[]:=List.eq_nil_of_length_eq_zero (by rw[vX,c5];exact h0);rw[this,h0];simp
       .rw[if_neg h0];have:=zNT (z:=z.cells.toList) (m:=ci.toNat) (n:=n) c5 (λ_=>c6);rw[vT]at this;exact this
      have hcondF:((decide (ci<0)||decide ((2:Int) ^ 48<(ei.bytes:Int)*ci))||decide (li<0)||decide (ci<li))=false:=by
       simp[hb'];omega
      simp only[execOp,ho,el,ec,Instr.makeSlice,Sem.run_bind,run_underlying hd,xQ hsz,Result.andThen_ok,asInt,asIntOf,Sem.run_pure,uY hei,w1,w2,gt_iff_lt];rw[if_neg (by simpa using hcondF)];simp only[Sem.run_bind,Sem.run_pure,Result.andThen_ok,run_askRoom,xQ hsz];by_cases h0:ci.toNat*n=0
      .rw[if_pos h0]at e3;rw[if_pos h0];simp only[Sem.run_bind,Sem.run_pure,Result.andThen_ok,e3,zFI]
      .rw[if_neg h0]at e3;rw[if_neg h0];simp only[Sem.run_bind,Sem.run_pure,Result.andThen_ok,zCO hzt,e3,zFI]
   .cases h
  .cases h
 all_goals (exfalso;simp_all [uE])

theorem xDD(hz:zAX P)(h:yN P ev E o.op=some (v,E'))(hr:Rep Z E w)(_hf:yCS Z E.j E'.j)
  (hev:∀x∈o.op.operands,VR Z (ev x) (ev' x)):yJQ P Z E w v E' (execOp ev' o):=by
 cases hm:uE o.op with
 |true=>exact(yHV hz hm h hr hev).eff
 |false =>
 unfold yN at h;split at h
 .simp_all [uE]
 .simp_all [uE]
 .simp_all [uE]
 .simp_all [uE]
 .simp_all [uE]
 .rename_i t a x ho;have ha:=hev a (by simp[ho,Op.operands]);have hx:=hev x (by simp[ho,Op.operands]);split at h
  .rename_i a0 ha0;rw[ha0]at ha;obtain⟨L,hl,hlo,e⟩:=ha.ptr_inv;cases hs:zCN P E t a0 (ev x)with
   |none=>simp[hs]at h
   |some E1 =>
    simp[hs]at h;obtain⟨rfl,rfl⟩:=h;obtain⟨w',h1,h2⟩:=xAU hs hr hl hlo hx;refine⟨_,_,w',Z, ?_,.skip,.undef,h2⟩
    simp[execOp,ho,e,Instr.storeAt,Instr.sureAddr,h1]
  .cases h
 .rename_i t m k x ho;split at h
  .rename_i kt et r hmo hmv;split at h
   .rename_i es hb;cases hk:zIF P false kt (ev k)with
    |false=>rw[hk,cond_false]at h;cases h
    |true =>
     rw[hk,cond_true]at h;have hv:v=undef:=by
      split at h
      .split at h
       .rename_i e _;cases hsb:Instr.sameBits 10000 e.1 (ev k)with
        |false=>rw[hsb,cond_false]at h;cases h
        |true=>rw[hsb,cond_true,St.write_eq]at h;simp at h;exact h.1.symm
       .cases h
      .rw[St.write_eq]at h;simp at h;exact h.1.symm
      .cases h
     subst hv;obtain⟨w',h1,h2⟩:=zLT hmo hmv (hev m (by simp[ho,Op.operands])) (hev k (by simp[ho,Op.operands])) (hev x (by simp[ho,Op.operands])) hb hk hr h;refine⟨_,_,w',Z, ?_,.skip,.undef,h2⟩
     simp[execOp,ho,h1]
   .cases h
  .cases h
 .rename_i t m k x ho;split at h
  .rename_i kt et r hmo hmv;split at h
   .rename_i es hb;cases hk:zIF P false kt (ev k)with
    |false=>rw[hk,cond_false]at h;cases h
    |true =>
     rw[hk,cond_true]at h;have hv:v=undef:=by
      split at h
      .split at h
       .rename_i e _;cases hsb:Instr.sameBits 10000 e.1 (ev k)with
        |false=>rw[hsb,cond_false]at h;cases h
        |true=>rw[hsb,cond_true,St.write_eq]at h;simp at h;exact h.1.symm
       .cases h
      .rw[St.write_eq]at h;simp at h;exact h.1.symm
      .cases h
     subst hv;obtain⟨w',h1,h2⟩:=zLT hmo hmv (hev m (by simp[ho,Op.operands])) (hev k (by simp[ho,Op.operands])) (hev x (by simp[ho,Op.operands])) hb hk hr h;refine⟨_,_,w',Z, ?_,.skip,.undef,h2⟩
     simp[execOp,ho,h1]
   .cases h
  .cases h
 .rename_i c ho;have hargs:=zED c.args.toList (ev:=ev) (ev':=ev') (λx hx=>hev x (by simp[ho,Op.operands,Call.operands]at hx ⊢;exact .inr hx));have eargs:c.args.map ev'=(⟨c.args.toList.map ev'⟩:Array Value):=by apply Array.ext';simp
  have run:∀{b:Builtin} {v':Value} {w':World},c.callee=.builtin b->(∀consts,(builtin b c.argTypes o.type consts ⟨c.args.toList.map ev'⟩).run P w=.ok (.value v') w') ->
    (execOp ev' o).run P w=.ok (.value v') w':=by
   intro b v' w' hb hr
   simp only[execOp,ho,resolve,hb,eargs]
   simp[invoke,hr]
  split at h
  .rename_i hcal;split at h
   .rename_i st xt s x ht hl;rw[hl]at hargs;generalize hl':c.args.toList.map ev'=l' at hargs run;cases hargs with
    |cons hs hrest =>
     cases hrest with
     |cons hx hrest =>
      cases hrest
      rename_i s' x';obtain⟨v',w',Z',h1,h2,h3⟩:=yLZ (ty:=o.type) hz h hr _hf hs hx;refine⟨_,v',w',Z',run hcal (λconsts=>?_),.value _,h2,h3⟩
      have eT:c.argTypes=#[st,xt]:=by apply Array.ext';simpa using ht
      simp only[builtin,eT];simp[h1]
   .cases h
  .rename_i f hcal;split at h
   .rename_i r as href;simp only[Option.map_eq_some_iff]at h;obtain⟨v0,h1,h2⟩:=h;simp at h2;obtain⟨rfl,rfl⟩:=h2;have hf:=hev f (by simp[ho,Op.operands,Call.operands,hcal]);obtain⟨as',has,hcase⟩:=yJE (P:=P) href hf hargs;obtain⟨g,rfl,hrun,hv⟩:=wCN (P:=P) h1 hr has;rcases hcase with ⟨g',cap,hg,d,hd1,hd2,hd3⟩|⟨l,L,cap,hg,_⟩
    .cases hg
     refine⟨_,_,w,Z, ?_,.value _,hv,.refl hr⟩
     simp only[execOp,ho,resolve,hcal,eargs,Sem.run_bind,hd1,Result.andThen_ok,hd2,invoke,hd3,hrun]
    .cases hg
   .cases h
  .cases h
 .cases h
end
end Go.Lay
