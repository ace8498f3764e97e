
import Derived.Test.YtflfajphjmajpaaGreatOk
import Derived.Test.YtflfajphjmajpaaGreatLayC
namespace Go.Proofs.YtflfajphjmajpaaGreat
open Go Go.Lay
noncomputable abbrev tP:=Tryz.prog
open Tryz renaming prog -> Pg
theorem krf{A:Type}{a b:A}(h:a=b:=by kernel_rfl):a=b:=h
@[simp,reducible] def zK(x0 x1 x2 x3:Int):List Value:=[.int .i64 x0,.int .i64 x1,.int .i64 x2,.int .i64 x3]
@[simp,reducible] def zP(x0 x1 x2 x3 x4:Int):List Value:=[.int .i64 x0,.int .i64 x1,.int .i64 x2,.int .i64 x3,.int .i64 x4]
@[simp,reducible] def zS(x0 x1 x2 x3 x4 x5:Int):List Value:=[.int .i64 x0,.int .i64 x1,.int .i64 x2,.int .i64 x3,.int .i64 x4,.int .i64 x5]
@[simp,reducible] def zRM(x0 x1 x2 x3 x4 x5 x6:Int):List Value:=[.int .i64 x0,.int .i64 x1,.int .i64 x2,.int .i64 x3,.int .i64 x4,.int .i64 x5,.int .i64 x6]
@[simp,reducible] def zLV(x0 x1 x2 x3 x4 x5 x6 x7:Int):List Value:=[.int .i64 x0,.int .i64 x1,.int .i64 x2,.int .i64 x3,.int .i64 x4,.int .i64 x5,.int .i64 x6,.int .i64 x7]
@[simp,reducible] def rcd(k a b:Int):List Value:=[.int .u8 k,.int .i64 a,.int .i64 b]
@[simp,reducible] def yH(p:Option Addr)(l c:Nat)(q:Option Addr)(m d:Nat)(r:Option Addr)(n e:Nat)(x y z:Int):List Value:=[.slice p l c,.slice q m d,.slice r n e,.int .i64 x,.int .i64 y,.int .i64 z]
@[simp,reducible] def wkc(a:Int)(p:Option Addr)(l c:Nat)(q:Option Addr)(m d:Nat)(x y z:Int):List Value:=[.int .i64 a,.slice p l c,.slice q m d,.int .i64 x,.int .i64 y,.int .i64 z]
structure Lw where
 p:Int
 d:Int
 s:Int
 b:Int
 o:Int
 f:Int
 l:Int
 n:Int
@[simp,reducible] def lwL(L:Lw):List Value:=zLV L.p L.d L.s L.b L.o L.f L.l L.n
@[simp,reducible] def dnc(L:Lw)(b:Option Addr)(bl bc:Nat)(k:Option Addr)(kl kc:Nat):List Value:=[.int .i64 L.p,.int .i64 L.d,.int .i64 L.s,.int .i64 L.b,.int .i64 L.o,.int .i64 L.f,.int .i64 L.l,.int .i64 L.n,.slice b bl bc,.slice k kl kc]
@[simp,reducible] def pgc(L:Lw)(b:Option Addr)(bl bc:Nat)(k:Option Addr)(kl kc:Nat)(g:Option Addr)(gl gc:Nat):List Value:=[.int .i64 L.p,.int .i64 L.d,.int .i64 L.s,.int .i64 L.b,.int .i64 L.o,.int .i64 L.f,.int .i64 L.l,.int .i64 L.n,.slice b bl bc,.slice k kl kc,.slice g gl gc]
structure Rl where
 p:Int
 lo:Int
 hi:Int
 deriving DecidableEq,Inhabited
@[simp,reducible] def rlL(r:Rl):List Value:=[.int .i64 r.p,.int .i64 r.lo,.int .i64 r.hi]
structure Pc where
 b:Int
 a:Int
 c:Int
 e:Int
 f:Int
 deriving DecidableEq,Inhabited
@[simp,reducible] def pcL(y:Pc):List Value:=[.int .i64 y.b,.int .i64 y.a,.int .i64 y.c,.int .i64 y.e,.int .i64 y.f]
structure Pd where
 b:Int
 f:Int
 t:Int
 n:Int
 deriving DecidableEq,Inhabited
@[simp,reducible] def pdL(y:Pd):List Value:=[.int .i64 y.b,.int .i64 y.f,.int .i64 y.t,.int .i64 y.n]
structure Wo where
 p:Option Addr
 pl:Nat
 pc:Nat
 b:Option Addr
 bl:Nat
 bc:Nat
 r:Option Addr
 rl:Nat
 rc:Nat
 s:Int
@[simp,reducible] def woL(W:Wo):List Value:=[.slice W.p W.pl W.pc,.slice W.b W.bl W.bc,.slice W.r W.rl W.rc,.int .i64 W.s]
@[simp,reducible] def bsc(x c y:Int)(ok:Bool):List Value:=[.int .u16 x,.int .i64 c,.int .i64 y,.bool ok]
abbrev Ix(i:Int)(n:Nat):Prop:=0<=i/\i<(n:Int)
abbrev I6(n:Int):Prop:=-9223372036854775808<=n/\n<=9223372036854775807
theorem nlt(n i j:Nat)(h:Nat.blt i j=true):n+i<n+j:=Nat.add_lt_add_left (Nat.le_of_ble_eq_true h) n
theorem vQ{b n:Nat}(h:b<n)(j:Nat):b<n+j:=Nat.lt_of_lt_of_le h (Nat.le_add_right n j)
theorem nle{a b:Nat}(h:Nat.ble a b=true):a<=b:=Nat.le_of_ble_eq_true h
theorem nne(n i j:Nat)(h:Nat.beq i j=false):n+i≠n+j:=λe=>by rw[Nat.add_left_cancel e,Nat.beq_refl]at h;cases h
theorem zFY{n l c:Nat}{p:Option Addr}(h:∀a,p=some a->a.block<n)(j:Nat):yQ RD (n+j) (.slice p l c)=true:=xH λa e=>vQ (h a e) j
theorem w64{n:Int}(h:-9223372036854775808<=n/\n<=9223372036854775807):vG .i64 n=n:=xHT h.1 h.2
theorem an2{A0 A1 A2:Prop}(a0:A0)(a1:A1)(a2:A2):A0/\A1/\A2:=⟨a0,a1,a2⟩
theorem an3{A0 A1 A2 A3:Prop}(a0:A0)(a1:A1)(a2:A2)(a3:A3):A0/\A1/\A2/\A3:=⟨a0,a1,a2,a3⟩
theorem kd{a b:Prop}(x:b)(h:a=b:=by kernel_rfl):a:=h.mpr x
def yLS:List Alt->Nat->Alt
 |[],_=>⟨Unit,.normal,λ_=>[],λ_=>[],λ_ _=>False⟩
 |a::_,0=>a
 |_::l,k+1=>yLS l k
theorem xKJ:∀{l:List Alt} {k:Nat},Nat.blt k l.length=true->In (yLS l k) l
 |[],k,h=>by cases k <;> cases h
 |_::_,0,_=>in0
 |_::l,k+1,h=>inS (xKJ (l:=l) (k:=k) h)
section
variable{P:Program}{R:Nat->Rec}{rd:Option Nat}{c:Code}{n:Nat}{l:List (Nat×Value)}{ms:List Nat}{alts:List Alt}{E E':St}
end
abbrev LDz(E:St)(t:TypeId)(a:Addr)(v:Value):Prop:=zJ Pg E t a=some v
abbrev CPz(f:FuncId)(x:List Value)(E:St)(v:Value):Prop:=zW Pg f x E v E
abbrev CAz(f:FuncId)(x:List Value)(E:St)(v:Value)(E':St):Prop:=zW Pg f x E v E'
abbrev APz(t u:TypeId)(x y:Value)(E:St)(v:Value)(E':St):Prop:=xO Pg t u x y E=some (v,E')
abbrev SOz(E:St)(t:TypeId)(a:Addr)(v:Value)(E':St):Prop:=yN Pg (evL [.pointer (some a),v]) E (.store t (.tmp 0) (.tmp 1))=some (undef,E')
inductive Ev
 |gs (n:Nat)
 |k (a:Ans)
 |p {p:Prop} (h:p)
 |m (a:Ans) (p:Prop) (h:p)
namespace Ev
def g:Ev:=.gs 1
def g2:Ev:=.gs 2
def g3:Ev:=.gs 3
def g4:Ev:=.gs 4
def g5:Ev:=.gs 5
def g6:Ev:=.gs 6
def g7:Ev:=.gs 7
def l{x:Option Value}{v:Value}(h:x=some v):Ev:=.m (.l v) _ h
def v{x:Option Value}{v:Value}(h:x=some v):Ev:=.m (.v v) _ h
def e{x:Option (Value×St)}{v:Value}{E:St}(h:x=some (v,E)):Ev:=.m (.e v E) _ h
def c{P:Program}{f:FuncId}{args:List Value}{E E':St}{v:Value}(h:zW P f args E v E'):Ev:=.m (.c v E') _ h
def y{P:Program}{f:Nat}{args:List Value}{E E':St}{v:Value}(h:zZN P f args E v E'):Ev:=.m (.c v E') _ h
def x{R:Nat->Rec}{f:FnRef}{args:List Value}{E E':St}{v:Value}(h:uR R f args E v E'):Ev:=.m (.c v E') _ h
def b{x b:Bool}(h:x=b):Ev:=.m (.b b) _ h
def n{x z:Int}(h:x=z):Ev:=.m (.n z) _ h
def w{n:Int}(h:-9223372036854775808<=n/\n<=9223372036854775807):Ev:=.m (.n n) (vG .i64 n=n) (xHT h.1 h.2)
def i{p:Prop}(h:p):Ev:=.m .i p h
end Ev
inductive Bs
 |r (cs:List Value) (n:Nat)
 |o (i:Nat) (cs:List Value) (n:Nat)
def bsN:List Bs->Nat
 |[]=>0
 |.r _ _::l=>bsN l+1
 |.o _ _ _::l=>bsN l
def zCB(E:St):List Bs->St
 |[]=>E
 |.r cs n::l=>(zCB E l).row cs n
 |.o i cs n::l=>(zCB E l).own (E.j+i) cs n
def zYZ:List Bs->Nat->Option (List Value×Nat)
 |[],_=>none
 |.r cs n::l,i=>bif Nat.beq i (bsN l)then some (cs,n)else zYZ l i
 |.o j cs n::l,i=>bif Nat.beq i j then(match zYZ l i with|some (_,m)=>bif Nat.beq n m then some (cs,n)else none|none=>none)else zYZ l i
theorem zQJ{E:St}:∀l,(zCB E l).j=E.j+bsN l
 |[]=>rfl
 |.r _ _::l=>congrArg (·+1) (zQJ l)
 |.o _ _ _::l=>zQJ l
theorem zYY{E:St}{i n:Nat}{cs:List Value}:∀l,zYZ l i=some (cs,n)->Own (zCB E l) (E.j+i) cs n
 |[],h=>by cases h
 |.r ds m::l,h=>by
  unfold zYZ at h;cases e:Nat.beq i (bsN l)with
  |true =>
   rw[e]at h;cases h
   have:=zX (zCB E l) cs n;rw[zQJ,<- Nat.eq_of_beq_eq_true e]at this;exact this
  |false=>rw[e]at h;exact(zYY l h).row
 |.o j ds m::l,h=>by
  unfold zYZ at h;cases e:Nat.beq i j with
  |true =>
   rw[e]at h;obtain rfl:=Nat.eq_of_beq_eq_true e;cases e2:zYZ l i with
   |none=>rw[e2]at h;cases h
   |some x =>
    obtain⟨cs',m'⟩:=x;rw[e2]at h;cases e3:Nat.beq m m' with
    |false=>simp[e3]at h
    |true =>
     obtain rfl:=Nat.eq_of_beq_eq_true e3;simp at h;obtain⟨rfl,rfl⟩:=h;exact(zYY l e2).put
  |false =>
   rw[e]at h;refine(zYY l h).own ?_
   intro e';obtain rfl:i=j:=by omega
   rw[Nat.beq_refl]at e;cases e
def wJI(l:List Bs)(i k:Nat):Option Value:=match zYZ l i with
 |some (cs,_)=>cs[k]?
 |none=>none
def xOV(l:List Bs)(i k m:Nat):Option (List Value):=match zYZ l i with
 |some (cs,_)=>bif Nat.ble (k+m) cs.length then some (bif Nat.beq k 0&&Nat.beq m cs.length then cs else(cs.drop k).take m)else none
 |none=>none
def wNR(l:List Bs)(i k m:Nat)(v:Value):Option (List Value×Nat):=match zYZ l i with
 |some (cs,n)=>bif Nat.ble (k+m) cs.length&&(Nat.beq v.cells.toList.length m&&v.cells.toList.all cellB)then some (cs.take k++(v.cells.toList++cs.drop (k+m)),n)else none
 |none=>none
theorem wKZ{P:Program}{E:St}{l:List Bs}{i k t:Nat}{v:Value}(ha:xI P t=some false)(h:wJI l i k=some v):zJ P (zCB E l) t ⟨E.j+i,k,none⟩=some v:=by
 unfold wJI at h;cases e:zYZ l i with
 |none=>rw[e]at h;cases h
 |some x=>rw[e]at h;exact(zYY l e).rw.ld ha h
theorem wDO{P:Program}{E:St}{l:List Bs}{i k t m:Nat}{ds:List Value}(ha:xI P t=some true)(hs:yR P t=some m)(h:xOV l i k m=some ds):zJ P (zCB E l) t ⟨E.j+i,k,none⟩=some (.agg ⟨ds⟩):=by
 unfold xOV at h;cases e:zYZ l i with
 |none=>rw[e]at h;cases h
 |some x =>
  obtain⟨cs,n⟩:=x;rw[e]at h;cases e2:Nat.ble (k+m) cs.length with
  |false=>simp[e2]at h
  |true =>
   have hk:=Nat.le_of_ble_eq_true e2;simp[e2]at h;refine(zYY l e).rw.ldN ha hs ?_ ?_ hk
   .rw[<- h];cases e3:(Nat.beq k 0&&Nat.beq m cs.length)with
    |false=>simp[e3]
    |true =>
     rw[Bool.and_eq_true]at e3;obtain rfl:=Nat.eq_of_beq_eq_true e3.1;obtain rfl:=Nat.eq_of_beq_eq_true e3.2;simp
   .rw[<- h];cases e3:(Nat.beq k 0&&Nat.beq m cs.length)with
    |false=>simp[e3];omega
    |true =>
     rw[Bool.and_eq_true]at e3;simp[Nat.eq_of_beq_eq_true e3.1,Nat.eq_of_beq_eq_true e3.2]
theorem wPP{P:Program}{E:St}{l:List Bs}{i k t m n:Nat}{v:Value}{ds:List Value}(hs:yR P t=some m)(h:wNR l i k m v=some (ds,n)):yN P (evL [.pointer (some ⟨E.j+i,k,none⟩),v]) (zCB E l) (.store t (.tmp 0) (.tmp 1))=some (undef,(zCB E l).own (E.j+i) ds n):=by
 unfold wNR at h;cases e:zYZ l i with
 |none=>rw[e]at h;cases h
 |some x =>
  obtain⟨cs,n'⟩:=x;rw[e]at h;cases e2:(Nat.ble (k+m) cs.length&&(Nat.beq v.cells.toList.length m&&v.cells.toList.all cellB))with
  |false=>simp only[e2,cond_false]at h;cases h
  |true =>
   simp only[e2,cond_true]at h;obtain⟨rfl,rfl⟩:cs.take k++(v.cells.toList++cs.drop (k+m))=ds/\n'=n:=by simpa using h
   rw[Bool.and_eq_true,Bool.and_eq_true]at e2;have e3:=Nat.eq_of_beq_eq_true e2.2.1;exact(zYY l e).store rfl (by rw[e3];exact hs) e2.2.2 (by rw[e3];exact Nat.le_of_ble_eq_true e2.1) (by rw[e3])
namespace Ev
def f{P:Program}{t:Nat}(E:St)(l:List Bs)(i k:Nat)(ha:xI P t=some false):Ev:=match h:wJI l i k with
 |some v=>.m (.l v) (zJ P (zCB E l) t ⟨E.j+i,k,none⟩=some v) (wKZ ha h)
 |none=>.gs 0
def F{P:Program}{t m:Nat}(E:St)(l:List Bs)(i k:Nat)(ha:xI P t=some true)(hs:yR P t=some m):Ev:=match h:xOV l i k m with
 |some ds=>.m (.l (.agg ⟨ds⟩)) (zJ P (zCB E l) t ⟨E.j+i,k,none⟩=some (.agg ⟨ds⟩)) (wDO ha hs h)
 |none=>.gs 0
def s{P:Program}{t m:Nat}(E:St)(l:List Bs)(i k:Nat)(hs:yR P t=some m)(v:Value):Ev:=match h:wNR l i k m v with
 |some (ds,n)=>.m (.e undef ((zCB E l).own (E.j+i) ds n)) (yN P (evL [.pointer (some ⟨E.j+i,k,none⟩),v]) (zCB E l) (.store t (.tmp 0) (.tmp 1))=some (undef,(zCB E l).own (E.j+i) ds n)) (wPP hs h)
 |none=>.gs 0
def q(E:St)(l:List Bs)(i k:Nat):Ev:=if h:Nat.blt i (bsN l)=true then .p (p:=zL (zCB E l).j [.pointer (some ⟨E.j+i,k,none⟩)]) (by rw[zQJ];exact zI (zR (Nat.add_lt_add_left (Nat.le_of_ble_eq_true h) _)) zM)else .gs 0
def u{P:Program}{t:Nat}(E:St)(l:List Bs)(i k:Nat)(ha:xI P t=some false):Ev:=match h:wJI l i k with
 |some v=>if hv:Nat.blt i (bsN l)=true/\zN RD v=true then .p (p:=((⟨E.j+i,k,none⟩:Addr).block<(zCB E l).j/\zN RD v=true)/\zJ P (zCB E l) t ⟨E.j+i,k,none⟩=some v) ⟨⟨by rw[zQJ];exact Nat.add_lt_add_left (Nat.le_of_ble_eq_true hv.1) _,hv.2⟩,wKZ ha h⟩else .gs 0
 |none=>.gs 0
def U4{P:Program}{t m:Nat}(E:St)(l:List Bs)(i k:Nat)(ha:xI P t=some true)(hs:yR P t=some m):Ev:=match h:xOV l i k m with
 |some ds=>if hv:Nat.blt i (bsN l)=true/\zN RD (.agg ⟨ds⟩)=true then .p (p:=((⟨E.j+i,k,none⟩:Addr).block<(zCB E l).j/\zN RD (.agg ⟨ds⟩)=true)/\zJ P (zCB E l) t ⟨E.j+i,k,none⟩=some (.agg ⟨ds⟩)) ⟨⟨by rw[zQJ];exact Nat.add_lt_add_left (Nat.le_of_ble_eq_true hv.1) _,hv.2⟩,wDO ha hs h⟩else .gs 0
 |none=>.gs 0
end Ev
def evG:Nat->List Ans->List Ans
 |0,x=>x
 |n+1,x=>.g::evG n x
def evA:List Ev->List Ans->List Ans
 |[],x=>x
 |.gs n::l,x=>evG n (evA l x)
 |.k a::l,x=>a::evA l x
 |.p _::l,x=>evA l x
 |.m a _ _::l,x=>a::evA l x
def evC:List Ev->Prop->Prop
 |[],F=>F
 |.gs _::l,F=>evC l F
 |.k _::l,F=>evC l F
 |.p (p:=p) _::l,F=>p/\evC l F
 |.m _ p _::l,F=>p/\evC l F
theorem evX{F:Prop}(f:F):∀l:List Ev,evC l F
 |[]=>f
 |.gs _::l=>evX f l
 |.k _::l=>evX f l
 |.p h::l=>⟨h,evX f l⟩
 |.m _ _ h::l=>⟨h,evX f l⟩
section
variable{P:Program}{R:Nat->Rec}{rd:Option Nat}{c:Code}{n:Nat}{l:List (Nat×Value)}{ms:List Nat}{alts:List Alt}{E E':St}
theorem eO(k:Nat)(t:(yLS alts k).T)(ys:List Ev)(nx:(yLS alts k).Q t E')(hk:Nat.blt k alts.length=true:=by rfl)
  (h:∀g:Nat->Value,Hid (wpE P R rd c (evA ys [.fin (yLS alts k) t]) ⟨Fm n (ov l g),ms⟩ E (zHG n alts))=evC ys (FIN alts (yLS alts k) t E'):=by intro g;kernel_rfl):yT P R rd c n l ms alts E :=
 xOW _ λg=>(h g).mpr (evX (fin _ t nx (xKJ hk)) ys)
theorem eB(ys:List Ev){B:Prop}(x:B)(h:∀g:Nat->Value,Hid (wpE P R rd c (evA ys []) ⟨Fm n (ov l g),ms⟩ E (zHG n alts))=evC ys B:=by intro g;kernel_rfl):yT P R rd c n l ms alts E:=xOW _ λg=>(h g).mpr (evX x ys)
theorem eK{H:(Nat->Value)->List Ans->Prop}(ys:List Ev){B:Prop}(x:B)(h:∀g,H g (evA ys [])=evC ys B:=by intro g;kernel_rfl):∀g,∃an,H g an:=λg=>⟨_,(h g).mpr (evX x ys)⟩
theorem eF{p:List Nat}{e:Exit}{fr:(Nat->Value)->Fr}(k:Nat)(t:(yLS alts k).T)(ys:List Ev)(nx:(yLS alts k).Q t E')(hk:Nat.blt k alts.length=true:=by rfl)
  (h:∀g:Nat->Value,Hid (kAt P R rd c p (zHG n alts) e (fr g) E (evA ys [.fin (yLS alts k) t]))=evC ys (FIN alts (yLS alts k) t E'):=by intro g;kernel_rfl):∀g:Nat->Value,∃an,Hid (kAt P R rd c p (zHG n alts) e (fr g) E an) :=
 λg=>⟨_,(h g).mpr (evX (fin _ t nx (xKJ hk)) ys)⟩
theorem eQ{f:FuncId}{args:List Value}{Q:Value->St->Prop}(ys:List Ev){B:Prop}(x:B)(h:Hid (yNF P (zZ P) f args (evA ys []) E Q)=evC ys B:=by kernel_rfl):zQ P f args E Q:=xYX _ (h.mpr (evX x ys))
theorem eT{aw f:FuncId}{args:List Value}{Q:Value->St->Prop}(ys:List Ev){B:Prop}(x:B)(h:Hid (yNF P (topR P aw) f args (evA ys []) E Q)=evC ys B:=by kernel_rfl):zTP P aw f args E Q:=wGI _ (h.mpr (evX x ys))
end
theorem kz{P:St->Prop}{K:St->(Nat->Value)->Prop}(k:∀E,P E->∀g,K E g):∀(g:Nat->Value) (E:St),P E->K E g:=λg E h=>k E h g
theorem kz0{P:St->Prop}{K:St->(Nat->Value)->Prop}(k:∀E,P E->∀g,K E g):∀(t:Unit) (g:Nat->Value) (E:St),P E->K E g:=λt g E h=>k E h g
theorem kz1{T0:Type}{P:T0->St->Prop}{K:T0->St->(Nat->Value)->Prop}(k:∀a0 E,P a0 E->∀g,K a0 E g):∀(t:T0) (g:Nat->Value) (E:St),P t E->K t E g:=λt g E h=>k t E h g
theorem kz2{T0 T1:Type}{P:T0->T1->St->Prop}{K:T0->T1->St->(Nat->Value)->Prop}(k:∀a0 a1 E,P a0 a1 E->∀g,K a0 a1 E g):∀(t:T0×T1) (g:Nat->Value) (E:St),P t.1 t.2 E->K t.1 t.2 E g:=λt g E h=>k t.1 t.2 E h g
theorem kz3{T0 T1 T2:Type}{P:T0->T1->T2->St->Prop}{K:T0->T1->T2->St->(Nat->Value)->Prop}(k:∀a0 a1 a2 E,P a0 a1 a2 E->∀g,K a0 a1 a2 E g):∀(t:T0×T1×T2) (g:Nat->Value) (E:St),P t.1 t.2.1 t.2.2 E->K t.1 t.2.1 t.2.2 E g:=λt g E h=>k t.1 t.2.1 t.2.2 E h g
abbrev NX1{T0:Type}(Inv:Nat->T0->St->Prop)(k:Nat):T0->St->Prop:=λa0 E=>∃k',k' < k/\Inv k' a0 E
theorem xE{P:Program}{R:Nat->Rec}{rd:Option Nat}{c:Code}{n:Nat}{alts:List Alt}{T0:Type}{lf:T0->List (Nat×Value)}{mf:T0->List Nat}{Inv:Nat->T0->St->Prop}(hne:yQB alts)(hb:∀k a0 E,Inv k a0 E->yT P R rd c n (lf a0) (mf a0) (⟨T0,.normal,λt=>lf t,λt=>mf t,λt E=>NX1 Inv k t E⟩::alts) E):∀k a0 E,Inv k a0 E->yW P R rd c n (lf a0) (mf a0) alts E :=
 λk a0 E h=>zQB (T:=T0) (lf:=λt=>lf t) (mf:=λt=>mf t) (Inv:=λk t E=>Inv k t E) hne (λk t E h=>hb k t E h) k a0 E h
abbrev NX2{T0 T1:Type}(Inv:Nat->T0->T1->St->Prop)(k:Nat):T0->T1->St->Prop:=λa0 a1 E=>∃k',k' < k/\Inv k' a0 a1 E
theorem zFM{P:Program}{R:Nat->Rec}{rd:Option Nat}{c:Code}{n:Nat}{alts:List Alt}{T0 T1:Type}{lf:T0->T1->List (Nat×Value)}{mf:T0->T1->List Nat}{Inv:Nat->T0->T1->St->Prop}(hne:yQB alts)(hb:∀k a0 a1 E,Inv k a0 a1 E->yT P R rd c n (lf a0 a1) (mf a0 a1) (⟨T0×T1,.normal,λt=>lf t.1 t.2,λt=>mf t.1 t.2,λt E=>NX2 Inv k t.1 t.2 E⟩::alts) E):∀k a0 a1 E,Inv k a0 a1 E->yW P R rd c n (lf a0 a1) (mf a0 a1) alts E :=
 λk a0 a1 E h=>zQB (T:=T0×T1) (lf:=λt=>lf t.1 t.2) (mf:=λt=>mf t.1 t.2) (Inv:=λk t E=>Inv k t.1 t.2 E) hne (λk t E h=>hb k t.1 t.2 E h) k (a0,a1) E h
abbrev NX4{T0 T1 T2 T3:Type}(Inv:Nat->T0->T1->T2->T3->St->Prop)(k:Nat):T0->T1->T2->T3->St->Prop:=λa0 a1 a2 a3 E=>∃k',k' < k/\Inv k' a0 a1 a2 a3 E
theorem zKS{P:Program}{R:Nat->Rec}{rd:Option Nat}{c:Code}{n:Nat}{alts:List Alt}{T0 T1 T2 T3:Type}{lf:T0->T1->T2->T3->List (Nat×Value)}{mf:T0->T1->T2->T3->List Nat}{Inv:Nat->T0->T1->T2->T3->St->Prop}(hne:yQB alts)(hb:∀k a0 a1 a2 a3 E,Inv k a0 a1 a2 a3 E->yT P R rd c n (lf a0 a1 a2 a3) (mf a0 a1 a2 a3) (⟨T0×T1×T2×T3,.normal,λt=>lf t.1 t.2.1 t.2.2.1 t.2.2.2,λt=>mf t.1 t.2.1 t.2.2.1 t.2.2.2,λt E=>NX4 Inv k t.1 t.2.1 t.2.2.1 t.2.2.2 E⟩::alts) E):∀k a0 a1 a2 a3 E,Inv k a0 a1 a2 a3 E->yW P R rd c n (lf a0 a1 a2 a3) (mf a0 a1 a2 a3) alts E :=
 λk a0 a1 a2 a3 E h=>zQB (T:=T0×T1×T2×T3) (lf:=λt=>lf t.1 t.2.1 t.2.2.1 t.2.2.2) (mf:=λt=>mf t.1 t.2.1 t.2.2.1 t.2.2.2) (Inv:=λk t E=>Inv k t.1 t.2.1 t.2.2.1 t.2.2.2 E) hne (λk t E h=>hb k t.1 t.2.1 t.2.2.1 t.2.2.2 E h) k (a0,a1,a2,a3) E h
abbrev NX5{T0 T1 T2 T3 T4:Type}(Inv:Nat->T0->T1->T2->T3->T4->St->Prop)(k:Nat):T0->T1->T2->T3->T4->St->Prop:=λa0 a1 a2 a3 a4 E=>∃k',k' < k/\Inv k' a0 a1 a2 a3 a4 E
theorem xKA{P:Program}{R:Nat->Rec}{rd:Option Nat}{c:Code}{n:Nat}{alts:List Alt}{T0 T1 T2 T3 T4:Type}{lf:T0->T1->T2->T3->T4->List (Nat×Value)}{mf:T0->T1->T2->T3->T4->List Nat}{Inv:Nat->T0->T1->T2->T3->T4->St->Prop}(hne:yQB alts)(hb:∀k a0 a1 a2 a3 a4 E,Inv k a0 a1 a2 a3 a4 E->yT P R rd c n (lf a0 a1 a2 a3 a4) (mf a0 a1 a2 a3 a4) (⟨T0×T1×T2×T3×T4,.normal,λt=>lf t.1 t.2.1 t.2.2.1 t.2.2.2.1 t.2.2.2.2,λt=>mf t.1 t.2.1 t.2.2.1 t.2.2.2.1 t.2.2.2.2,λt E=>NX5 Inv k t.1 t.2.1 t.2.2.1 t.2.2.2.1 t.2.2.2.2 E⟩::alts) E):∀k a0 a1 a2 a3 a4 E,Inv k a0 a1 a2 a3 a4 E->yW P R rd c n (lf a0 a1 a2 a3 a4) (mf a0 a1 a2 a3 a4) alts E :=
 λk a0 a1 a2 a3 a4 E h=>zQB (T:=T0×T1×T2×T3×T4) (lf:=λt=>lf t.1 t.2.1 t.2.2.1 t.2.2.2.1 t.2.2.2.2) (mf:=λt=>mf t.1 t.2.1 t.2.2.1 t.2.2.2.1 t.2.2.2.2) (Inv:=λk t E=>Inv k t.1 t.2.1 t.2.2.1 t.2.2.2.1 t.2.2.2.2 E) hne (λk t E h=>hb k t.1 t.2.1 t.2.2.1 t.2.2.2.1 t.2.2.2.2 E h) k (a0,a1,a2,a3,a4) E h
theorem zU:xI Pg 3=some false:=krf
theorem vL:yR Pg 3=some 1:=krf
theorem zXI:xI Pg 4=some false:=krf
theorem wQJ:xI Pg 5=some false:=krf
theorem wLF:xI Pg 23=some true:=krf
theorem ySS:yR Pg 23=some 8:=krf
theorem yJM:xI Pg 24=some false:=krf
theorem zPF:xI Pg 25=some false:=krf
theorem wL:xI Pg 27=some true:=krf
theorem xM:yR Pg 27=some 10:=krf
theorem zGB:xI Pg 28=some false:=krf
theorem wMC:yR Pg 28=some 1:=krf
theorem zGA:xI Pg 29=some false:=krf
theorem zPE:xI Pg 31=some true:=krf
theorem zDU:yR Pg 31=some 6:=krf
theorem xEM:xI Pg 42=some true:=krf
theorem yGW:yR Pg 42=some 8:=krf
theorem zXH:xI Pg 43=some false:=krf
theorem wMB:yR Pg 43=some 1:=krf
theorem zGO:xI Pg 45=some true:=krf
theorem zAO:yR Pg 45=some 10:=krf
theorem xF:xI Pg 48=some false:=krf
theorem ySR:yR Pg 48=some 1:=krf
theorem wPW:xI Pg 53=some true:=krf
theorem ySQ:yR Pg 53=some 4:=krf
theorem xID:yR Pg 56=some 2:=krf
theorem wPV:xI Pg 58=some true:=krf
theorem xYR:yR Pg 58=some 3:=krf
theorem zSQ:yR Pg 62=some 5:=krf
theorem wMA:yR Pg 64=some 4:=krf
theorem zXG:xI Pg 69=some false:=krf
theorem wLZ:yR Pg 69=some 1:=krf
theorem zLW:xI Pg 70=some false:=krf
theorem wLY:yR Pg 70=some 1:=krf
theorem zAD:xI Pg 72=some true:=krf
theorem vB:yR Pg 72=some 6:=krf
theorem wEP:xI Pg 76=some false:=krf
theorem wLX:yR Pg 76=some 1:=krf
theorem wLE:xI Pg 83=some true:=krf
theorem zBW:yR Pg 83=some 6:=krf
theorem wPU:xI Pg 84=some false:=krf
theorem xYQ:yR Pg 87=some 2:=krf
theorem wLD:xI Pg 89=some true:=krf
theorem ySP:yR Pg 89=some 3:=krf
theorem wPT:xI Pg 90=some false:=krf
theorem wPS:xI Pg 91=some true:=krf
theorem xYP:yR Pg 91=some 2:=krf
theorem zXF:xI Pg 93=some true:=krf
theorem zAN:yR Pg 93=some 5:=krf
theorem xEL:xI Pg 94=some true:=krf
theorem zKH:yR Pg 94=some 6:=krf
theorem zPD:xI Pg 96=some false:=krf
theorem wLC:xI Pg 98=some false:=krf
theorem wLW:yR Pg 98=some 1:=krf
theorem yJO:xI Pg 104=some true:=krf
theorem zEC:yR Pg 104=some 2:=krf
theorem yJN:xI Pg 106=some true:=krf
theorem vY:yR Pg 106=some 4:=krf
theorem zLQ:xI Pg 115=some true:=krf
theorem zAV:yR Pg 115=some 2:=krf
theorem yVL:xI Pg 116=some false:=krf
theorem zTO:xI Pg 118=some true:=krf
theorem zEB:yR Pg 118=some 4:=krf
theorem wOM:xI Pg 121=some true:=krf
theorem xNH:yR Pg 121=some 2:=krf
theorem zAQ:xI Pg 126=some true:=krf
theorem wK:yR Pg 126=some 6:=krf
theorem wOL:xI Pg 128=some false:=krf
theorem wOK:xI Pg 138=some false:=krf
theorem yVK:xI Pg 139=some false:=krf
theorem wGU:yR Pg 139=some 1:=krf
theorem xMH:xI Pg 143=some true:=krf
theorem zKJ:yR Pg 143=some 4:=krf
theorem wEU:xI Pg 144=some false:=krf
theorem wGT:yR Pg 144=some 1:=krf
theorem yVJ:xI Pg 145=some false:=krf
theorem wGS:yR Pg 145=some 1:=krf
theorem wET:xI Pg 149=some false:=krf
theorem xMG:xI Pg 154=some true:=krf
theorem zKI:yR Pg 154=some 5:=krf
theorem wOJ:xI Pg 156=some false:=krf
theorem xMF:xI Pg 158=some true:=krf
theorem ySU:yR Pg 158=some 1:=krf
theorem wES:xI Pg 161=some false:=krf
theorem wOI:xI Pg 163=some false:=krf
theorem wOH:xI Pg 165=some false:=krf
theorem zAE:xI Pg 167=some false:=krf
theorem wOG:xI Pg 168=some false:=krf
theorem yVI:xI Pg 172=some true:=krf
theorem uN:yR Pg 172=some 8:=krf
theorem uI:xI Pg 175=some true:=krf
theorem xS:yR Pg 175=some 4:=krf
theorem wER:xI Pg 177=some true:=krf
theorem yST:yR Pg 177=some 24:=krf
theorem wOF:xI Pg 180=some true:=krf
theorem wGR:yR Pg 180=some 25:=krf
theorem xME:xI Pg 188=some false:=krf
theorem zTN:xI Pg 190=some true:=krf
theorem zEA:yR Pg 190=some 2:=krf
theorem wOE:xI Pg 192=some true:=krf
theorem wGQ:yR Pg 192=some 3:=krf
theorem wOD:xI Pg 199=some false:=krf
theorem wOC:xI Pg 200=some false:=krf
theorem wOB:xI Pg 205=some false:=krf
theorem wGP:yR Pg 205=some 1:=krf
theorem wEQ:xI Pg 206=some false:=krf
theorem wGO:yR Pg 206=some 1:=krf
theorem wGN:yR Pg 216=some 2:=krf
theorem wOA:xI Pg 224=some false:=krf
theorem ai{a b:Prop}(h:a)(k:b):a/\b:=And.intro h k
abbrev iV(n:Int):Value:=.int .i64 n
abbrev I6a(n:Int):Prop:=-9223372036854775808<=n/\n<=9223372036854775807
abbrev zLq(s:St)(t:Nat)(a:Addr)(v:Value):Prop:=(a.block<s.j/\zN RD v=true)/\zJ Pg s t a=some v
abbrev oAa:=Option Addr
abbrev lNa:=List (Nat×Value)
abbrev vPa:=Value->St->Prop
abbrev lVa:=List Value
def kZ(R:Nat->Rec)(c:Code)(p:List Nat)(K:Exit->Fr->St->List Ans->Prop)(e:Exit)(n:Nat)(l:List (Nat×Value))(E:St):Prop:=∀g:Nat->Value,∃an,Hid (kAt Pg R none c p K e ⟨Fm n (ov l g),[]⟩ E an)
abbrev qe(b o:Nat):Addr:=⟨b,o,none⟩
abbrev pz(a:Addr):Value:=.pointer (some a)
abbrev pq(b o:Nat):Value:=.pointer (some ⟨b,o,none⟩)
abbrev qf(l:List Value):Value:=.agg ⟨l⟩
end Go.Proofs.YtflfajphjmajpaaGreat
