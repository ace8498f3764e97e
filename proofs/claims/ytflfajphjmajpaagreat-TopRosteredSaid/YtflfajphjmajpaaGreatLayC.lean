
import Derived.ChangeArms
import Derived.ReadAgain
import Derived.ChangeBears
import Derived.Below
import Derived.Test.YtflfajphjmajpaaGreatLayB
set_option linter.unusedVariables false
set_option linter.unusedSimpArgs false
namespace Go.Lay
open Go

def ov:List (Nat×Value)->(Nat->Value)->Nat->Value
 |[],g,i=>g i
 |(k,v)::l,g,i=>bif Nat.beq k i then v else ov l g i
def trF(g:Nat->Value):Nat->Nat->Nat->Bool->Tr Value
 |0,_,_,_=>.leaf
 |d+1,w,a,c=>.node (some (bif c then g a else undef)) (trF g d (w*2) a false) (trF g d (w*2) (a+w) true)
def Fm(n:Nat)(g:Nat->Value):Tm:=⟨n,trF g ((way n).length+1) 1 0 true⟩
structure Alt where
 T:Type
 e:Exit
 l:T->List (Nat×Value)
 ms:T->List Nat
 Q:T->St->Prop

inductive Ans
 |g
 |b (t:Bool)
 |n (z:Int)
 |l (v:Value)
 |i
 |v (v:Value)
 |e (v:Value) (E:St)
 |c (v:Value) (E:St)
 |lp (e:Exit) (fr:Fr) (E:St)
 |lf (n:Nat) (l:List (Nat×Value)) (alts:List Alt)
 |rf (n:Nat) (l:List (Nat×Value)) (alts:List (Exit×(St->Prop)))
 |fin (a:Alt) (t:a.T)
 |cut (n:Nat) (l:List (Nat×Value)) (alts:List Alt)

def St.row(E:St)(cs:List Value)(esz:Nat):St:=E.add (.cells cs esz [(0,cs.length)] 1 false)

def xMC(P:Program)(ev:Operand->Value)(E:St)(o:Op):Option (Value×St) :=
 match o with
 |.alloc t=>match uO P t with
  |some z=>some (.pointer (some ⟨E.j,0,none⟩),E.row z.cells.toList (wIJ P t z.cells.toList.length))
  |none=>none
 |.box t x=>some (.pointer (some ⟨E.j,0,none⟩),E.row (ev x).cells.toList (wIJ P t (ev x).cells.toList.length))
 |.buildSlice t len ps =>
  match wY P t with
  |some (e,n)=>match uO P e with
   |some z =>
    bif Nat.ble (len*n) 16777216&&Nat.beq z.cells.toList.length n then
     match zRO (λi=>some (i*n,n)) (xL z.cells.toList len) (ps.toList.map λp=>(p.1,ev p.2))with
     |some cs=>some (.slice (some ⟨E.j,0,none⟩) len len,E.row cs n)
     |none=>none
    else none
   |none=>none
  |none=>none
 |.makeMap t none=>match zCH P t with
  |some _=>some (.map (some E.j),E.add (.map []))
  |none=>none
 |o=>match wR P ev o with
  |some v=>some (v,E)
  |none=>none

def evL(l:List Value):Operand->Value
 |.tmp i=>l.getD i undef
 |_=>undef
def wT(n:Nat):List Operand:=(List.range n).map .tmp
def xCQ(i:Int)(len:Nat):Prop:=0<=i/\i<(len:Int)

def wKK(P:Program)(f:Tm)(E:St)(o:Op)(v:Value):Prop :=
 match o with
 |.slice t x lo hi mx=>uM P E t (yV f x) (lo.map (yV f)) (hi.map (yV f)) (mx.map (yV f))=some v
 |.lookup t m k ok=>xJ P (evL [yV f m,yV f k]) E (.lookup t (.tmp 0) (.tmp 1) ok)=some v
 |.index t x k=>zTB P t (yV f x) (yV f k)=some v
 |.binOp op t x y _=>wW P op t x y (yV f x) (yV f y)=some v
 |.convert s d x=>wA P (evL [yV f x]) E (.convert s d (.tmp 0))=some v
 |.call c=>wA P (evL (c.args.toList.map (yV f))) E (.call { c with args:=⟨wT c.args.toList.length⟩ })=some v
 |o=>wA P (yV f) E o=some v
def wKL(P:Program)(f:Tm)(E:St)(o:Op)(v:Value)(E':St):Prop :=
 match o with
 |.store t a x=>yN P (evL [yV f a,yV f x]) E (.store t (.tmp 0) (.tmp 1))=some (v,E')
 |.mapUpdate t m k x=>yN P (evL [yV f m,yV f k,yV f x]) E (.mapUpdate t (.tmp 0) (.tmp 1) (.tmp 2))=some (v,E')
 |.insert t m k x=>yN P (evL [yV f m,yV f k,yV f x]) E (.insert t (.tmp 0) (.tmp 1) (.tmp 2))=some (v,E')
 |.makeSlice t l c=>yN P (evL [yV f l,yV f c]) E (.makeSlice t (.tmp 0) (.tmp 1))=some (v,E')
 |.call c=>match c.callee,c.argTypes.toList,c.args.toList.map (yV f)with
  |.builtin .append,[st,xt],[s,x]=>xO P st xt s x E=some (v,E')
  |_,_,_=>yN P (yV f) E (.call c)=some (v,E')
 |o=>yN P (yV f) E o=some (v,E')

abbrev zXP:=FnRef->List Value->St->Value->St->Prop
abbrev zXC(rec:Rec):zXP:=λr args E v E'=>uT rec r args E=some (v,E')
def yGI(P:Program)(C:zXP)(f:Tm)(E:St)(o:Op):List Ans->(Value->St->List Ans->Prop)->Prop
 |.g::as,K=>match xMC P (yV f) E o with
  |some (v,E')=>K v E' as
  |none=>False
 |.b t::as,K=>match wR P (yV f) o with
  |some (.bool e)=>e=t/\K (.bool t) E as
  |_=>False
 |.n z::as,K=>match wR P (yV f) o with
  |some (.int k e)=>e=z/\K (.int k z) E as
  |_=>False
 |.l v::as,K=>match o with
  |.load t x=>match yV f x with
   |.pointer (some a)=>zJ P E t a=some v/\K v E as
   |_=>False
  |_=>False
 |.i::as,K=>match o with
  |.indexAddr t x k=>match yV f k,yV f x,P.underlying t with
   |.int _ i,.pointer (some a),some (.array len elem)=>match yR P elem with
    |some n=>xCQ i len/\K (.pointer (some (zO a (i.toNat*n)))) E as
    |none=>False
   |.int _ i,.slice (some a) len _,some (.slice elem)=>match yR P elem with
    |some n=>xCQ i len/\K (.pointer (some (zO a (i.toNat*n)))) E as
    |none=>False
   |_,_,_=>False
  |_=>False
 |.v v::as,K=>wKK P f E o v/\K v E as
 |.e v E'::as,K=>wKL P f E o v E'/\K v E' as
 |.c v E'::as,K=>match o with
  |.call c=>match c.callee with
   |.value fx=>match zRJ (yV f fx) (c.args.toList.map (yV f))with
    |some (r,args)=>match wII P fx E r args with
     |none=>C r args E v E'/\K v E' as
     |some _=>False
    |none=>False
   |_=>False
  |_=>False
 |_,_=>False

def zHS(P:Program)(C:zXP)(ops:Array Oper):List Oper->List Ans->Tm->St->List Seen->(Tm->St->List Seen->List Ans->Prop)->Prop
 |[],as,f,E,l,K=>K f E l as
 |o::rest,as,f,E,l,K =>
  match zHC ops f o with
  |some true=>yGI P C f E o.op as λv E' as=>zHS P C ops rest as (zQO f o.dst v) E' (l++[⟨f,v,true,E,E'⟩]) K
  |some false=>zHS P C ops rest as (zQO f o.dst undef) E (l++[⟨f,undef,false,E,E⟩]) K
  |none=>False

def zN:Nat->Value->Bool
 |0,_=>false
 |n+1,.agg cs=>cs.toList.all (zN n)
 |n+1,.tuple cs=>cs.toList.all (zN n)
 |n+1,.iface _ v=>zN n v
 |n+1,.func (.func _) f c=>f.toList.all (zN n)&&c.toList.all (zN n)
 |_+1,.int k _=>zFH k k
 |_+1,.bool _|_+1,.string _|_+1,.pointer _|_+1,.slice _ _ _|_+1,.map _|_+1,.nilFunc|_+1,.nilIface=>true
 |_+1,_=>false
structure Lk where
 want:Bool
 need:Bool
 low:Prop
 look:St->Prop
 before:St
 after:St
def zL(n:Nat)(vs:List Value):Prop:=vs.all (yQ RD n)=true
def wHL(f:Tm):Option Operand->List Value
 |some x=>[yV f x]
 |none=>[]
def xOC(P:Program)(f:Tm)(o:Op)(v:Value)(E:St):Prop :=
 match o with
 |.load t x=>match yV f x with
  |.pointer (some a)=>(a.block<E.j/\zN RD v=true)/\zJ P E t a=some v
  |_=>False
 |.slice t x lo hi mx=>(zL E.j (yV f x::(wHL f lo++(wHL f hi++wHL f mx)))/\zN RD v=true)/\uM P E t (yV f x) (lo.map (yV f)) (hi.map (yV f)) (mx.map (yV f))=some v
 |.lookup t m k ok=>(zL E.j [yV f m,yV f k]/\zN RD v=true)/\xJ P (evL [yV f m,yV f k]) E (.lookup t (.tmp 0) (.tmp 1) ok)=some v
 |.convert s d x=>(zL E.j [yV f x]/\zN RD v=true)/\wA P (evL [yV f x]) E (.convert s d (.tmp 0))=some v
 |.call c=>(zL E.j (c.args.toList.map (yV f))/\zN RD v=true)/\c.callee=.builtin .len/\wA P (evL (c.args.toList.map (yV f))) E (.call { c with args:=⟨wT c.args.toList.length⟩ })=some v
 |_=>False
def xNA:Value->Bool
 |.bool _|.int ..|.string _|.nilFunc|.nilIface=>true
 |_=>false
def wAJ(f:Tm)(o:Op):List Value:=(o.operands.toList.filter λx=>!wHZ x).map (yV f)
def wNB(f:Tm)(o:Op):Bool:=(wM o||zCQ o)&&!(wAJ f o).all xNA
def zDS(P:Program)(C:zXP)(ops:Array Oper):List Oper->List Ans->Tm->St->List Lk->(Tm->St->List Lk->List Ans->Prop)->Prop
 |[],as,f,E,l,K=>K f E l as
 |o::rest,as,f,E,l,K =>
  match zHC ops f o with
  |some true=>yGI P C f E o.op as λv E' as=>zDS P C ops rest as (zQO f o.dst v) E' (l++[⟨true,wNB f o.op,zL E.j (wAJ f o.op),xOC P f o.op v,E,E'⟩]) K
  |some false=>zDS P C ops rest as (zQO f o.dst undef) E (l++[⟨false,false,True,λ_=>True,E,E⟩]) K
  |none=>False
def uW(l:List Lk):List (Nat×Nat)->Prop->Prop
 |[],K=>K
 |p::ps,K=>match l[p.1]?,l[p.2]? with
  |some sj,some sk=>match sj.want with
   |true=>sj.look sk.before/\sj.look sk.after/\uW l ps K
   |false=>uW l ps K
  |_,_=>False
def zFW:List Lk->Prop->Prop
 |[],K=>K
 |s::ss,K=>match s.need with
  |true=>s.low/\zFW ss K
  |false=>zFW ss K

def zLS(P:Program)(C:zXP)(ops:Array Oper)(draw:Bool)(as:List Ans)(fr:Fr)(E:St)(K:Exit->Fr->St->List Ans->Prop):Prop :=
 match draw with
 |false=>zHS P C ops ops.toList as fr.f E [] λf E _ as=>K .normal ⟨f,fr.marks⟩ E as
 |true=>match yUO ops (CheckFast.beforeF ops),yHO ops (CheckFast.beforeF ops),wKX ops (CheckFast.beforeF ops)with
  |true,[],false=>zHS P C ops ops.toList as fr.f E [] λf E _ as=>K .normal ⟨f,fr.marks⟩ E as
  |true,ps,_=>zDS P C ops ops.toList as fr.f E [] λf E l as=>zFW l (uW l ps (K .normal ⟨f,fr.marks⟩ E as))
  |false,_,_=>False

def wpC(P:Program)(rec:Rec)(N:Nat)(rd:Option Nat):Code->List Ans->Fr->St->(Exit->Fr->St->List Ans->Prop)->Prop
 |.skip,as,fr,E,K=>K .normal fr E as
 |.label _,as,fr,E,K=>K .normal fr E as
 |.ret,as,fr,E,K=>K .ret fr E as
 |.exit id,as,fr,E,K=>K (.exit id) fr E as
 |.seq x y,as,fr,E,K=>wpC P rec N rd x as fr E λe fr E as=>match e with
  |.normal=>wpC P rec N rd y as fr E K
  |e=>K e fr E as
 |.cond c x y,as,fr,E,K=>match yV fr.f c with
  |.bool true=>wpC P rec N rd x as fr E K
  |.bool false=>wpC P rec N rd y as fr E K
  |_=>False
 |.block id c,as,fr,E,K=>wpC P rec N rd c as fr E λe fr E as=>match e with
  |.exit i=>match Nat.beq i id with
   |true=>K .normal fr E as
   |false=>K (.exit i) fr E as
  |e=>K e fr E as
 |.scope c,as,fr,E,K=>wpC P rec N rd c as fr E K
 |.region _ ops d,as,fr,E,K=>zLS P (zXC rec) ops d as fr E K
 |.loop c,.lp e fr' E'::as,fr,E,K=>zFN (xK P rec N rd c) N fr E=some (e,fr',E')/\K e fr' E' as
 |.rangeFunc g ps a bo,.lp e fr' E'::as,fr,E,K=>zSV rec rd g ps a bo fr E=some (e,fr',E')/\K e fr' E' as
 |_,_,_,_,_=>False

section
variable{P:Program}{rec:Rec}

theorem yVE{o:Op}{f:Tm}{E:St}{r:Value×St}(h:xMC P (yV f) E o=some r):opA P rec (yV f) E o=some r:=by
 unfold xMC at h;split at h
 .split at h
  .rename_i z hz;simp[opA,zKW,yN,hz,xD,vC]at h ⊢;exact h
  .cases h
 .simp[opA,zKW,yN,xD,vC]at h ⊢;exact h
 .split at h
  .rename_i e n hes;split at h
   .rename_i z hz;obtain⟨hc,h⟩:=wV h;split at h
    .rename_i cs hf;simp only[opA,zKW,yN,hes,hz,hc,cond_true,hf,xD];exact h
    .cases h
   .cases h
  .cases h
 .split at h
  .rename_i ke hmo;simp only[opA,zKW,yN,hmo,cond_true,St.new_eq];exact h
  .cases h
 .rename_i hn1 hn2 hn3 hn4;split at h
  .rename_i v hv;cases h
   unfold opA;split
   .rename_i c;unfold zTK;split
    .rename_i fx hc;exfalso;simp only[wR]at hv;split at hv <;> simp_all
    .rename_i hc;exfalso;simp[wR,hc]at hv
    .rename_i hc;exfalso;simp[wR,hc]at hv
    .rename_i hc;rw[hv]
    .rename_i hc;rw[hv];rfl
    .rename_i hc;exfalso;simp[wR,hc]at hv
   .simp[wR]at hv
   .simp[wR]at hv
   .simp[wR]at hv
   .rw[hv]
   .have:zKW o=false:=by
     cases o <;> first|rfl|(simp[wR]at hv;done)|(exfalso;rename_i hx _ _ _ _;exact hx _ rfl)
    rw[this,hv];rfl
  .cases h
end
end Go.Lay

namespace Go.Lay
open Go
variable{o:Op}{ev:Operand->Value}{E:St}{v:Value}{f:Tm}{as:List Ans}{n:Nat}{s:Seen}
section
variable{P:Program}{rec:Rec}

theorem zAG(hv:wR P ev o=some v):opA P rec ev E o=some (v,E):=by
 unfold opA;split
 .rename_i c;unfold zTK;split
  .rename_i fx hc;exfalso;simp only[wR]at hv;split at hv <;> simp_all
  .rename_i hc;exfalso;simp[wR,hc]at hv
  .rename_i hc;exfalso;simp[wR,hc]at hv
  .rename_i hc;rw[hv]
  .rename_i hc;rw[hv];rfl
  .rename_i hc;exfalso;simp[wR,hc]at hv
 .simp[wR]at hv
 .simp[wR]at hv
 .simp[wR]at hv
 .rw[hv]
 .have:zKW o=false:=by
   cases o <;> first|rfl|(simp[wR]at hv;done)|(exfalso;rename_i hx _ _ _ _;exact hx _ rfl)
  rw[this,hv];rfl

theorem zCR(hv:wR P ev o=none)(hl:xJ P ev E o=some v):opA P rec ev E o=some (v,E):=by
 unfold opA;split
 .rename_i c;unfold zTK;split
  .rename_i fx hc;exfalso;simp only[xJ,hc]at hl;cases hl
  .rename_i hc;exfalso;simp only[xJ,hc]at hl;cases hl
  .rename_i hc;exfalso;simp only[xJ,hc]at hl;cases hl
  .rename_i hc;rw[hv,hl];rfl
  .rename_i b _ _ hb hc;exfalso;simp only[xJ,hc]at hl;cases b <;> first|(simp at hl;done)|exact hb rfl
  .rename_i hc;exfalso;simp only[xJ,hc]at hl;cases hl
 .rw[hl];rfl
 .rw[hl];rfl
 .rw[hl];rfl
 .rw[hv,hl];rfl
 .exfalso;cases o <;> first|(simp[xJ]at hl;done)|(rename_i h1 h2 h3 h4 h5;first|exact h1 _ rfl|exact h2 _ _ rfl|exact h3 _ _ _ _ rfl|exact h4 _ _ _ _ _ rfl|exact h5 _ _ _ rfl)

theorem xUU{E':St}(h:yN P ev E o=some (v,E')):opA P rec ev E o=some (v,E'):=by
 unfold opA;split
 .rename_i c;unfold zTK;split
  .rename_i fx hc;simp only[yN,hc]at h;split at h
   .rename_i r as href;simp only[Option.map_eq_some_iff]at h;obtain⟨v0,h1,h2⟩:=h;simp only[h1];rw[h2]
   .cases h
  .exact h
  .exact h
  .rename_i hc;exfalso;simp only[yN,hc]at h;cases h
  .rename_i b ha hcp _ hc;exfalso;simp only[yN,hc]at h;cases b <;> first|(simp at h;done)|exact ha rfl|exact hcp rfl
  .rename_i hc;exfalso;simp only[yN,hc]at h;cases h
 .simp[yN]at h
 .simp[yN]at h
 .simp[yN]at h
 .simp[yN]at h
 .have:zKW o=true:=by
   cases o <;> first|rfl|(simp[yN]at h;done)|(exfalso;rename_i hx _ _ _ _;exact hx _ rfl)
  rw[this];exact h

theorem wCO(l:List Value):(wT l.length).map (evL l)=l:=by
 apply List.ext_getElem
 .simp[wT]
 .intro i h1 h2;simp[wT,evL,List.getD,h2]
theorem yGZ{c:Call}(h:wA P (evL (c.args.toList.map ev)) E (.call { c with args:=⟨wT c.args.toList.length⟩ })=some v):wA P ev E (.call c)=some v:=by
 have e:(wT c.args.toList.length).map (evL (c.args.toList.map ev))=c.args.toList.map ev:=by
  have:=wCO (c.args.toList.map ev);rwa [List.length_map]at this
 simp only[wA,wR,xJ,e]at h ⊢;exact h

theorem yGH{K:Value->St->List Ans->Prop}(h:yGI P (zXC rec) f E o as K):∃v E' as',opA P rec (yV f) E o=some (v,E')/\K v E' as':=by
 unfold yGI at h;split at h
 .split at h
  .rename_i v E' ho;exact⟨v,E',_,yVE ho,h⟩
  .exact h.elim
 .split at h
  .rename_i e he;obtain⟨rfl,h⟩:=h;exact⟨_,_,_,zAG he,h⟩
  .exact h.elim
 .split at h
  .rename_i k e he;obtain⟨rfl,h⟩:=h;exact⟨_,_,_,zAG he,h⟩
  .exact h.elim
 .split at h
  .split at h
   .rename_i a ha;exact⟨_,_,_,zCR rfl (by simp only[xJ,ha];exact h.1),h.2⟩
   .exact h.elim
  .exact h.elim
 .split at h
  .rename_i t x k;split at h
   .rename_i kd i a len elem hk hx hd;split at h
    .rename_i n hn;refine⟨_,_,_,zAG (v:=.pointer (some (zO a (i.toNat*n)))) ?_,h.2⟩
     have h1:leI 0 i=true:=(vN 0 i).2 h.1.1;have h2:ltI i (.ofNat len)=true:=(zKR i _).2 h.1.2;simp only[wR,zFS,hk,hx,hd,hn,h1,h2,Bool.and_self,cond_true]
    .exact h.elim
   .rename_i kd i a len cp elem hk hx hd;split at h
    .rename_i n hn;refine⟨_,_,_,zAG (v:=.pointer (some (zO a (i.toNat*n)))) ?_,h.2⟩
     have h1:leI 0 i=true:=(vN 0 i).2 h.1.1;have h2:ltI i (.ofNat len)=true:=(zKR i _).2 h.1.2;simp only[wR,zFS,hk,hx,hd,hn,h1,h2,Bool.and_self,cond_true]
    .exact h.elim
   .exact h.elim
  .exact h.elim
 .obtain⟨hs,h⟩:=h;refine⟨_,_,_, ?_,h⟩
  unfold wKK at hs;split at hs
  .exact zCR rfl hs
  .exact zCR rfl hs
  .exact zAG hs
  .exact zAG hs
  .unfold wA at hs;split at hs
   .rename_i v0 hv;cases hs;exact zAG hv
   .rename_i hv;exact zCR hv hs
  .have hs:=yGZ hs;unfold wA at hs;split at hs
   .rename_i v0 hv;cases hs;exact zAG hv
   .rename_i hv;exact zCR hv hs
  .unfold wA at hs;split at hs
   .rename_i v0 hv;cases hs;exact zAG hv
   .rename_i hv;exact zCR hv hs
 .obtain⟨he,h⟩:=h;refine⟨_,_,_,xUU ?_,h⟩
  unfold wKL at he;split at he
  .exact he
  .exact he
  .exact he
  .exact he
  .split at he
   .rename_i hc ht ha;simp only[yN,hc,ht,ha];exact he
   .exact he
  .exact he
 .split at h
  .split at h
   .rename_i fx hc;split at h
    .rename_i r args href;split at h
     .rename_i hx;refine⟨_,_,_, ?_,h.2⟩
      simp only[opA,zTK,hc,href,hx];exact h.1
     .exact h.elim
    .exact h.elim
   .exact h.elim
  .exact h.elim
 .exact h.elim

theorem zGH{ops:Array Oper}:∀(rest:List Oper) (as:List Ans) (f:Tm) (E:St) (l:List Seen) (K:Tm->St->List Seen->List Ans->Prop),zHS P (zXC rec) ops rest as f E l K ->
  ∃l' t O as',zBG P rec ops rest f E=some (l',t,O)/\K t O (l++l') as'
 |[],as,f,E,l,K,h=>⟨[],f,E,as,rfl,by rw[List.append_nil];exact h⟩
 |o::rest,as,f,E,l,K,h=>by
  unfold zHS at h;split at h
  .rename_i hg;obtain⟨v,E',as',h1,h2⟩:=yGH h;obtain⟨l',t,O,as2,h3,h4⟩:=zGH rest _ _ _ _ _ h2;exact⟨⟨f,v,true,E,E'⟩::l',t,O,as2,by simp[zBG,hg,h1,zON,vZ,h3],by rw[List.append_assoc]at h4;exact h4⟩
  .rename_i hg;obtain⟨l',t,O,as2,h3,h4⟩:=zGH rest _ _ _ _ _ h;exact⟨⟨f,undef,false,E,E⟩::l',t,O,as2,by simp[zBG,hg,vZ,h3],by rw[List.append_assoc]at h4;exact h4⟩
  .exact h.elim

theorem zFG{ops:Array Oper}:∀(rest:List Oper) (f:Tm) (E:St) (l:List Seen) (t:Tm) (O:St),zBG P rec ops rest f E=some (l,t,O)->zQP P rec ops rest f E=some (t,O)
 |[],f,E,l,t,O,h=>by simp[zBG]at h;simp[zQP,h.2.1,h.2.2]
 |o::rest,f,E,l,t,O,h=>by
  unfold zBG at h;split at h
  .rename_i hg;split at h
   .rename_i v E' hop;rw[zON,vZ]at h;split at h
    .rename_i l' t' O' hs;simp at h;obtain⟨_,rfl,rfl⟩:=h;have:=zFG rest _ _ _ _ _ hs;simp[zQP,hg,hop,vZ,this]
    .cases h
   .cases h
  .rename_i hg;rw[vZ]at h;split at h
   .rename_i l' t' O' hs;simp at h;obtain⟨_,rfl,rfl⟩:=h;have:=zFG rest _ _ _ _ _ hs;simp[zQP,hg,vZ,this]
   .cases h
  .cases h

theorem xXV:∀(n:Nat) (v:Value),zN n v=true->veq n v v=true:=by
 intro n;induction n with
 |zero=>intro v h;simp[zN]at h
 |succ n ih =>
  have lists:∀(l:List Value),l.all (zN n)=true->veq.veqs n l l=true:=by
   intro l;induction l with
   |nil=>intro _;rfl
   |cons x l ihl =>
    intro h;simp only[List.all_cons,Bool.and_eq_true]at h;simp only[veq.veqs,Bool.and_eq_true];exact⟨ih x h.1,ihl h.2⟩
  intro v h;cases v with
  |agg cs=>simp only[zN]at h;simp only[veq];exact lists _ h
  |tuple cs=>simp only[zN]at h;simp only[veq];exact lists _ h
  |iface t x=>simp only[zN]at h;simp only[veq,Bool.and_eq_true];exact⟨Nat.beq_refl _,ih x h⟩
  |func fn f c =>
   cases fn with
   |func g=>simp only[zN,Bool.and_eq_true]at h;simp only[veq,Bool.and_eq_true];exact⟨⟨Nat.beq_refl _,lists _ h.1⟩,lists _ h.2⟩
   |_=>simp[zN]at h
  |bool b=>simp[veq]
  |int k n=>simp only[zN]at h;simp only[veq,yUH,Bool.and_eq_true];exact⟨h,by simp⟩
  |string s=>simp[veq]
  |pointer a=>simp[veq]
  |slice a l c=>simp[veq]
  |map a=>simp[veq]
  |nilFunc=>rfl
  |nilIface=>rfl
  |_=>simp[zN]at h

structure LkOk(P:Program)(o:Oper)(k:Lk)(s:Seen):Prop where
 want:k.want=s.want
 before:k.before=s.before
 after:k.after=s.after
 low:(k.need=true->k.low)->(!s.want||zDQ s.before.j s.f o||!(wM o.op||zCQ o.op))=true
 look:s.want=true->∀E,k.look E->steady P o s E=true
inductive LkAll(P:Program):List Oper->List Lk->List Seen->Prop
 |nil:LkAll P [] [] []
 |cons {o:Oper} {k:Lk} {s:Seen} {os:List Oper} {ks:List Lk} {ss:List Seen} (h:LkOk P o k s) (t:LkAll P os ks ss):LkAll P (o::os) (k::ks) (s::ss)
theorem LkAll.get{os:List Oper}{ks:List Lk}{ss:List Seen}(h:LkAll P os ks ss):∀(i:Nat) (k:Lk),ks[i]?=some k->∃o s,os[i]?=some o/\ss[i]?=some s/\LkOk P o k s:=by
 induction h with
 |nil=>intro i k h;simp at h
 |cons h _ ih =>
  intro i k hk;cases i with
  |zero=>simp at hk;subst hk;exact⟨_,_,rfl,rfl,h⟩
  |succ i=>simpa using ih i k (by simpa using hk)

theorem zFX{o:Oper}(h:zL n (o.op.operands.toList.map (yV f))):zDQ n f o=true:=by
 unfold zL at h;rw[List.all_map]at h;exact h
theorem xHY{vs:List Value}(h:vs.all xNA=true):zL n vs:=by
 refine List.all_eq_true.2 (λv hv=>?_);have:=List.all_eq_true.1 h v hv;cases v <;> first|rfl|(simp[xNA]at this;done)
theorem yJK{o:Oper}(h:zL n (wAJ f o.op)):zDQ n f o=true:=by
 refine List.all_eq_true.2 (λx hx=>?_);cases hx2:wHZ x with
 |true=>cases x <;> first|(simp[wHZ]at hx2;done)|rfl
 |false =>
  have:=List.all_eq_true.1 h (yV f x) (List.mem_map_of_mem (List.mem_filter.2 ⟨hx,by rw[hx2];rfl⟩));exact this
theorem zHT{o:Oper}(h1:zDQ E.j s.f o=true)(h2:zN RD s.v=true)(h3:wA P (yV s.f) E o.op=some s.v):steady P o s E=true:=by
 unfold steady;cases hw:s.want with
 |true=>rw[cond_true,h1,Bool.true_and,h3];exact xXV _ _ h2
 |false=>rfl
theorem xCH{o:Oper}(h:xOC P s.f o.op s.v E):steady P o s E=true:=by
 unfold xOC at h;split at h
 .rename_i t x ho;split at h
  .rename_i a ha;refine zHT ?_ h.1.2 (by rw[ho];simp only[wA,wR,xJ,ha];exact h.2);refine zFX (n:=E.j) ?_
   unfold zL;rw[ho];simp only[Op.operands,List.map_cons,List.map_nil,ha,List.all_cons,List.all_nil,Bool.and_true];exact(xY _ _).2 h.1.1
  .exact h.elim
 .rename_i t x lo hi mx ho;refine zHT ?_ h.1.2 (by rw[ho];exact h.2);refine zFX (n:=E.j) ?_
  have h1:=h.1.1;unfold zL at h1 ⊢;rw[ho];cases lo <;> cases hi <;> cases mx <;> simpa [Op.operands,wHL] using h1
 .rename_i t m k ok ho;refine zHT ?_ h.1.2 (by rw[ho];exact h.2);refine zFX (n:=E.j) ?_
  have h1:=h.1.1;unfold zL at h1 ⊢;rw[ho];simpa [Op.operands] using h1
 .rename_i t m k ho;refine zHT ?_ h.1.2 (by rw[ho];exact h.2);refine zFX (n:=E.j) ?_
  have h1:=h.1.1;unfold zL at h1 ⊢;rw[ho];simpa [Op.operands] using h1
 .rename_i c ho;refine zHT ?_ h.1.2 (by rw[ho];exact yGZ h.2.2);refine zFX (n:=E.j) ?_
  have h1:=h.1.1;unfold zL at h1 ⊢;rw[ho];simpa [Op.operands,Call.operands,h.2.1] using h1
 .exact h.elim

theorem zKB{ops:Array Oper}:∀(rest:List Oper) (as:List Ans) (f:Tm) (E:St) (l:List Lk) (K:Tm->St->List Lk->List Ans->Prop),zDS P (zXC rec) ops rest as f E l K ->
  ∃l' t O as' lk,zBG P rec ops rest f E=some (l',t,O)/\LkAll P rest lk l'/\K t O (l++lk) as'
 |[],as,f,E,l,K,h=>⟨[],f,E,as,[],rfl,.nil,by rw[List.append_nil];exact h⟩
 |o::rest,as,f,E,l,K,h=>by
  unfold zDS at h;split at h
  .rename_i hg;obtain⟨v,E',as',h1,h2⟩:=yGH h;obtain⟨l',t,O,as2,lk,h3,h4,h5⟩:=zKB rest _ _ _ _ _ h2;refine⟨⟨f,v,true,E,E'⟩::l',t,O,as2,⟨true,wNB f o.op,zL E.j (wAJ f o.op),xOC P f o.op v,E,E'⟩::lk,by simp[zBG,hg,h1,zON,vZ,h3],.cons ⟨rfl,rfl,rfl,λhl=>?_,λ_ V1 hl=>xCH (s:=⟨f,v,true,E,E'⟩) hl⟩ h4,by rw[List.append_assoc]at h5;exact h5⟩
   simp only at hl;cases ha:wM o.op||zCQ o.op with
   |false=>simp
   |true =>
    have hb:zDQ E.j f o=true:=by
     cases ht:(wAJ f o.op).all xNA with
     |true=>exact yJK (xHY ht)
     |false=>exact yJK (hl (by unfold wNB;rw[ha,ht];rfl))
    simp only[hb];simp
  .rename_i hg;obtain⟨l',t,O,as2,lk,h3,h4,h5⟩:=zKB rest _ _ _ _ _ h;exact⟨⟨f,undef,false,E,E⟩::l',t,O,as2,⟨false,false,True,λ_=>True,E,E⟩::lk,by simp[zBG,hg,vZ,h3],.cons ⟨rfl,rfl,rfl,λ_=>rfl,λh=>by cases h⟩ h4,by rw[List.append_assoc]at h5;exact h5⟩
  .exact h.elim

theorem zLM:∀{os:List Oper} {ks:List Lk} {ss:List Seen} {K:Prop},LkAll P os ks ss->zFW ks K->zIN os ss=true/\K
 |[],_,_,_,.nil,hb=>⟨rfl,hb⟩
 |_::_,k::_,_::_,K,.cons h t,hb=>by
  simp only[zFW]at hb;simp only[zIN,Bool.and_eq_true];cases hn:k.need with
  |true =>
   rw[hn]at hb;obtain⟨h1,h2⟩:=zLM t hb.2;exact⟨⟨h.low (λ_=>hb.1),h1⟩,h2⟩
  |false =>
   rw[hn]at hb;obtain⟨h1,h2⟩:=zLM t hb;exact⟨⟨h.low (λe=>by rw[hn]at e;cases e),h1⟩,h2⟩
theorem zFF{ops:Array Oper}{ks:List Lk}{l:List Seen}{K:Prop}(h:LkAll P ops.toList ks l):∀(ps:List (Nat×Nat)),uW ks ps K->ps.all (yTQ P ops l)=true/\K
 |[],hk=>⟨rfl,hk⟩
 |p::ps,hs=>by
  simp only[uW]at hs;rw[List.all_cons,Bool.and_eq_true];unfold yTQ;split at hs
  .rename_i sj sk e1 e2;obtain⟨oj,s1,a1,a2,a3⟩:=h.get _ _ e1;obtain⟨_,s2,_,b2,b3⟩:=h.get _ _ e2;have a1:ops[p.1]?=some oj:=by simpa using a1
   rw[a1,a2,b2];simp only;cases hw:s1.want with
   |true =>
    rw[a3.want,hw]at hs;simp only at hs;rw[b3.before,b3.after]at hs;obtain⟨g1,g2⟩:=zFF h ps hs.2.2;rw[a3.look hw _ hs.1,a3.look hw _ hs.2.1];exact⟨⟨rfl,g1⟩,g2⟩
   |false =>
    rw[a3.want,hw]at hs;obtain⟨g1,g2⟩:=zFF h ps hs;exact⟨⟨by simp[steady,hw],g1⟩,g2⟩
  .exact hs.elim

theorem xHU(N:Nat)(rd:Option Nat){id:Nat}{ops:Array Oper}{draw:Bool}{as:List Ans}{fr:Fr}{E:St}{K:Exit->Fr->St->List Ans->Prop}(h:zLS P (zXC rec) ops draw as fr E K) :
  ∃e fr' E' as',xK P rec N rd (.region id ops draw) fr E=some (e,fr',E')/\K e fr' E' as':=by
 cases draw with
 |false =>
  simp only[zLS]at h;obtain⟨l',t,O,as',h1,h2⟩:=zGH _ _ _ _ _ _ h;exact⟨.normal,⟨t,fr.marks⟩,O,as',by simp only[xK,zPY,zFG _ _ _ _ _ _ h1],h2⟩
 |true =>
  simp only[zLS]at h;split at h
  .rename_i h0 hp hf;obtain⟨l',t,O,as',h1,h2⟩:=zGH _ _ _ _ _ _ h;refine⟨.normal,⟨t,fr.marks⟩,O,as', ?_,h2⟩
   simp only[xK,zPY,yIN,h0,hp,hf,cond_true,zFG _ _ _ _ _ _ h1]
  .rename_i ps _ h0 hno;obtain⟨l',t,O,as',lk,h1,hlk,h2⟩:=zKB _ _ _ _ _ _ h;rw[List.nil_append]at h2;obtain⟨h3,h2⟩:=zLM hlk h2;obtain⟨h4,h2⟩:=zFF hlk _ h2;refine⟨.normal,⟨t,fr.marks⟩,O,as', ?_,h2⟩
   have hd:yIN P rec ops fr.f E=some (t,O):=by
    unfold yIN;rw[h0,cond_true];split
    .exact zFG _ _ _ _ _ _ h1
    .rw[h1];simp only;rw[h3,h4];rfl
   simp only[xK,zPY,hd]
  .exact h.elim
def zVN:List Nat->St->(St->Prop)->Prop
 |[],E,K=>K E
 |d::ds,E,K=>yP E.heap d=some .defd/\zVN ds (E.shut d) K
def xAI(P:Program)(f:Tm)(E:St):List ResultVar->List Ans->List Value->(List Value->Prop)->Prop
 |[],_,vs,K=>K vs
 |.tmp t::rs,as,vs,K=>xAI P f E rs as (vs++[f.nth t]) K
 |.cell a t::rs,as,vs,K=>match as,f.nth a with
  |.l v::as,.pointer (some a)=>zJ P E t a=some v/\xAI P f E rs as (vs++[v]) K
  |_,_=>False
def wAL:List Value->Value
 |[v]=>v
 |vs=>.tuple ⟨vs⟩
def zNM(P:Program)(fn:Func)(fr:Fr)(E:St)(as:List Ans)(K:Value->St->Prop):Prop :=
 zVN fr.marks E λE=>xAI P fr.f E fn.results.toList as [] λvs=>K (wAL vs) E
def wQO(P:Program)(n:Nat)(f:FuncId)(args:List Value)(as:List Ans)(E:St)(K:Value->St->Prop):Prop :=
 match P.funcs[f]? with
 |some fn=>match fn.body with
  |some c=>wpC P (zZ P n) n none c as ⟨(Tm.args 0 args).foldl (λf p=>f.set p.1 p.2) (fresh (args.length+(fn.ntmps-args.length))),[]⟩ E λe fr E as=>match e with
   |.normal=>zNM P fn fr E as K
   |.ret=>zNM P fn fr E as K
   |_=>False
  |none=>False
 |none=>False

theorem zRD:∀(ms:List Nat) (E:St) (K:St->Prop),zVN ms E K->∃E',zCX ms E=some E'/\K E'
 |[],E,K,h=>⟨E,rfl,h⟩
 |d::ds,E,K,h=>by
  obtain⟨E',h1,h2⟩:=zRD ds _ K h.2;exact⟨E',by simp only[zCX,h.1,St.drop_eq,h1],h2⟩
theorem zNJ{f:Tm}{E:St}:∀(rs:List ResultVar) (as:List Ans) (vs:List Value) (K:List Value->Prop),xAI P f E rs as vs K->∃ws,zAH P f E rs=some ws/\K (vs++ws)
 |[],as,vs,K,h=>⟨[],rfl,by rw[List.append_nil];exact h⟩
 |.tmp t::rs,as,vs,K,h=>by
  obtain⟨ws,h1,h2⟩:=zNJ rs as _ K h;exact⟨f.nth t::ws,by simp only[zAH,zVZ,h1],by rw[List.append_assoc]at h2;exact h2⟩
 |.cell a t::rs,as,vs,K,h=>by
  unfold xAI at h;split at h
  .rename_i v as' a0 ha;obtain⟨ws,h1,h2⟩:=zNJ rs _ _ K h.2;exact⟨v::ws,by simp only[zAH,zVZ,ha,h.1,h1],by rw[List.append_assoc]at h2;exact h2⟩
  .exact h.elim
theorem ySI{fn:Func}{fr:Fr}{K:Value->St->Prop}(h:zNM P fn fr E as K):∃v E',yCC P fn fr E=some (v,E')/\K v E':=by
 obtain⟨E',h1,h2⟩:=zRD _ _ _ h;obtain⟨ws,h3,h4⟩:=zNJ _ _ _ _ h2;rw[List.nil_append]at h4;refine⟨wAL ws,E', ?_,h4⟩
 have:zHU P fn fr.f E'=some (wAL ws):=by
  unfold zHU;rw[h3];match ws with
  |[]=>rfl
  |[v]=>rfl
  |_::_::_=>rfl
 simp only[yCC,h1,this,zON]
end
end Go.Lay

namespace Go.Lay
open Go
variable{n b k:Nat}{s:Option Nat}

theorem wQD(a b:Int):(leI a b=true/\a<=b)\/(leI a b=false/\b<a):=by
 by_cases h:a<=b
 .exact .inl ⟨(vN a b).2 h,h⟩
 .exact .inr ⟨by rw[yTW];simp;omega,by omega⟩
theorem wQC(a b:Int):(ltI a b=true/\a<b)\/(ltI a b=false/\b<=a):=by
 by_cases h:a<b
 .exact .inl ⟨(zKR a b).2 h,h⟩
 .exact .inr ⟨by rw[yTU];simp;omega,by omega⟩
theorem xOS(a b:Int):eqI a b=true↔a=b:=by rw[yUH];simp
theorem xHT{n:Int}(h1:-9223372036854775808<=n)(h2:n<=9223372036854775807):vG .i64 n=n:=by
 have e1:(2:Int) ^ 64=18446744073709551616:=by decide
 have e2:(2:Int) ^ (64-1)=9223372036854775808:=by decide
 rw[uU];simp only[IntKind.wrap,IntKind.bits,IntKind.signed,e1,e2,Bool.true_and,decide_eq_true_eq];split <;> omega

structure Row(E:St)(a:Addr)(cs:List Value):Prop where
 rd:xG E a cs.length=some cs
 lt:a.block<E.j
structure Le(E E':St):Prop where
 j:E.j<=E'.j
 get:∀b,b<E.j->yP E'.heap b=yP E.heap b
def St.re(E:St):St:=⟨E.heap,E.j,E.j⟩

section
variable{P:Program}{E E':St}{a:Addr}{cs:List Value}
theorem Le.refl(E:St):Le E E:=⟨Nat.le_refl _,λ_ _=>rfl⟩
theorem Le.trans{V1 il iK:St}(h:Le V1 il)(k:Le il iK):Le V1 iK:=⟨Nat.le_trans h.j k.j,λb hb=>(k.get b (Nat.lt_of_lt_of_le hb h.j)).trans (h.get b hb)⟩
theorem Le.add(E:St)(y:Blk):Le E (E.add y):=⟨by simp,λb hb=>by rw[St.add_get,if_neg (Nat.ne_of_lt hb)]⟩
theorem Le.row(E:St)(cs:List Value)(n:Nat):Le E (E.row cs n):=Le.add _ _
theorem xIO(h:Le E E')(hb:a.block<E.j)(n:Nat):xG E' a n=xG E a n:=by
 unfold xG;rw[h.get _ hb]
theorem Row.le(h:Row E a cs)(l:Le E E'):Row E' a cs:=⟨by rw[xIO l h.lt];exact h.rd,Nat.lt_of_lt_of_le h.lt l.j⟩
theorem Row.row(h:Row E a cs){ds:List Value}{n:Nat}:Row (E.row ds n) a cs:=h.le (Le.row _ _ _)
theorem Row.re(h:Row E a cs):Row E.re a cs:=⟨h.rd,h.lt⟩
theorem Le.re'(h:Le E E'):Le E E'.re:=⟨h.j,h.get⟩
theorem wB(E:St)(cs:List Value)(n:Nat):Row (E.row cs n) ⟨E.j,0,none⟩ cs:=by
 refine⟨?_,by simp[St.row]⟩
 have h1:yP (E.row cs n).heap E.j=some (.cells cs n [(0,cs.length)] 1 false):=by
  show yP (E.add _).heap E.j=_;rw[St.add_get,if_pos rfl]
 have h2:Nat.ble (0+cs.length) cs.length=true:=(yJ _ _).2 (by omega);have h3:Nat.beq 0 0=true:=rfl;unfold xG;simp only[h1,yO,Option.getD_none,vP,h3,cond_true,h2,List.drop_zero,List.take_length]
theorem Row.part(h:Row E a cs){k m:Nat}(hk:k+m<=cs.length):Row E (zO a k) ((cs.drop k).take m):=by
 have hl:((cs.drop k).take m).length=m:=by simp;omega
 refine⟨?_,h.lt⟩
 have hr:=h.rd;rw[hl];unfold xG at hr;split at hr
 .rename_i bc esz log nx ro hb;split at hr
  .rename_i e he;obtain⟨hle,hr⟩:=wV hr;have hle:=(yJ _ _).1 hle;have key:xG E (zO a k) m=bif Nat.ble (a.off+k+m) e then some ((bc.drop (a.off+k)).take m)else none:=by
    unfold xG;rw[show yP E.heap (zO a k).block=some (.cells bc esz log nx ro)from hb];show(match vP log (yO a)with|some e=>bif Nat.ble (a.off+k+m) e then some ((bc.drop (a.off+k)).take m)else none|none=>none)=_;rw[he]
   rw[key,(yJ (a.off+k+m) e).2 (by omega),cond_true];have hr2:(bc.drop a.off).take cs.length=cs:=by simpa using hr
   congr 1;rw[show(cs.drop k).take m=((((bc.drop a.off).take cs.length)).drop k).take m from by rw[hr2]];rw[List.drop_take,List.drop_drop,List.take_take];congr 1;omega
  .cases hr
 .cases hr
theorem Row.load1(h:Row E a cs){t:TypeId}(ht:xI P t=some false){k:Nat}{v:Value}(hv:cs[k]?=some v):zJ P E t (zO a k)=some v:=by
 have hk:k<cs.length:=(List.getElem?_eq_some_iff.1 hv).1;have hp:=(h.part (k:=k) (m:=1) (by omega)).rd;have e:(cs.drop k).take 1=[v]:=by
  rw[List.drop_eq_getElem_cons hk];have:=(List.getElem?_eq_some_iff.1 hv).2;simp[this]
 rw[e]at hp;unfold zJ;simp only[ht];have hp:xG E (zO a k) 1=some [v]:=hp;rw[hp]
theorem Row.loadN(h:Row E a cs){t:TypeId}{n:Nat}(ht:xI P t=some true)(hs:yR P t=some n){k:Nat}{ds:List Value}(hd:(cs.drop k).take n=ds)(hl:ds.length=n)(hk:k+n<=cs.length):zJ P E t (zO a k)=some (.agg ⟨ds⟩):=by
 have hp:=(h.part (k:=k) (m:=n) hk).rd;rw[hd,hl]at hp;unfold zJ;simp only[ht,hs,hp,Option.map_some]
theorem Row.ld(h:Row E ⟨b,0,s⟩ cs){t:TypeId}(ht:xI P t=some false){v:Value}(hv:cs[k]?=some v):zJ P E t ⟨b,k,s⟩=some v:=by
 have:=h.load1 (P:=P) ht hv;simpa [zO] using this
theorem Row.ldN(h:Row E ⟨b,0,s⟩ cs){t:TypeId}(ht:xI P t=some true)(hs:yR P t=some n){ds:List Value}(hd:(cs.drop k).take n=ds)(hl:ds.length=n)(hk:k+n<=cs.length):zJ P E t ⟨b,k,s⟩=some (.agg ⟨ds⟩):=by
 have:=h.loadN (P:=P) ht hs hd hl hk;simpa [zO] using this

structure Own(E:St)(b:Nat)(cs:List Value)(n:Nat):Prop where
 get:yP E.heap b=some (.cells cs n [(0,cs.length)] 1 false)
 lt:b<E.j
def St.own(E:St)(b:Nat)(cs:List Value)(n:Nat):St:=E.put b (.cells cs n [(0,cs.length)] 1 false)
theorem zX(E:St)(cs:List Value)(n:Nat):Own (E.row cs n) E.j cs n:=⟨by
 show yP (E.add _).heap E.j=_
 rw[St.add_get,if_pos rfl],by simp[St.row]⟩
theorem Own.le(h:Own E b cs n)(l:Le E E'):Own E' b cs n:=⟨by rw[l.get _ h.lt];exact h.get,Nat.lt_of_lt_of_le h.lt l.j⟩
theorem Own.row{b n:Nat}(h:Own E b cs n){ds:List Value}{m:Nat}:Own (E.row ds m) b cs n:=h.le (Le.row _ _ _)
theorem Own.add{b n:Nat}(h:Own E b cs n){y:Blk}:Own (E.add y) b cs n:=h.le (Le.add _ _)
theorem Own.re{b n:Nat}(h:Own E b cs n):Own E.re b cs n:=⟨h.get,h.lt⟩
theorem Own.own{b n c m:Nat}(h:Own E b cs n){ds:List Value}(hne:b≠c):Own (E.own c ds m) b cs n:=⟨by
 show yP (E.put _ _).heap b=_
 rw[St.put_get,if_neg hne];exact h.get,h.lt⟩
theorem Own.put{b n:Nat}(h:Own E b cs n){ds:List Value}:Own (E.own b ds n) b ds n:=⟨by
 show yP (E.put _ _).heap b=_
 rw[St.put_get,if_pos rfl],h.lt⟩
theorem Own.rw(h:Own E b cs n):Row E ⟨b,0,none⟩ cs:=by
 refine⟨?_,h.lt⟩
 have h2:Nat.ble (0+cs.length) cs.length=true:=(yJ _ _).2 (by omega);have h3:Nat.beq 0 0=true:=rfl;unfold xG;simp only[h.get,yO,Option.getD_none,vP,h3,cond_true,h2,List.drop_zero,List.take_length]
theorem Row.own{b n:Nat}(h:Row E a cs){ds:List Value}(hne:a.block≠b):Row (E.own b ds n) a cs:=⟨by
 have hr:=h.rd
 unfold xG at hr ⊢
 rw[show yP (E.own b ds n).heap a.block=yP E.heap a.block from by
  show yP (E.put _ _).heap a.block=_;rw[St.put_get,if_neg hne]]
 exact hr,h.lt⟩
theorem Own.store{b n k:Nat}(h:Own E b cs n){t:TypeId}{v:Value}{vs ds:List Value}(hv:v.cells.toList=vs)(hs:yR P t=some vs.length)(hc:vs.all cellB=true)(hk:k+vs.length<=cs.length)(hd:cs.take k++(vs++cs.drop (k+vs.length))=ds) :
  yN P (evL [.pointer (some ⟨b,k,none⟩),v]) E (.store t (.tmp 0) (.tmp 1))=some (undef,E.own b ds n):=by
 have h1:Nat.beq v.cells.toList.length vs.length=true:=by rw[hv];exact Nat.beq_refl _
 have h2:(Nat.beq 0 0&&Nat.ble (k+vs.length) cs.length&&!false&&vs.all cellB)=true:=by
  rw[(yJ _ _).2 hk,hc];rfl
 have hl:ds.length=cs.length:=by rw[<- hd];simp;omega
 have hw:wS E ⟨b,k,none⟩ vs=some (E.own b ds n):=by
  unfold wS;simp only[h.get,yO,Option.getD_none,h2,cond_true,zCV,St.write_eq,hd];unfold St.own;rw[hl]
 have:zCN P E t ⟨b,k,none⟩ v=some (E.own b ds n):=by
  unfold zCN;rw[hv]at h1 ⊢;simp only[hs,h1,cond_true,hw]
 show(zCN P E t ⟨b,k,none⟩ v).map _=_;rw[this];rfl
@[simp] theorem St.own_next(E:St)(b:Nat)(cs:List Value)(n:Nat):(E.own b cs n).j=E.j:=rfl
@[simp] theorem St.own_low(E:St)(b:Nat)(cs:List Value)(n:Nat):(E.own b cs n).low=min E.low b:=rfl
@[simp] theorem St.row_next(E:St)(cs:List Value)(n:Nat):(E.row cs n).j=E.j+1:=rfl
@[simp] theorem St.row_low(E:St)(cs:List Value)(n:Nat):(E.row cs n).low=E.low:=rfl

def SlP(E:St)(n:Nat)(p:Option Addr)(len:Nat)(l:List Value):Prop :=
 l.length=len*n/\match p with
  |none=>len=0
  |some a=>Row E a l
theorem SlP.le{n len:Nat}{p:Option Addr}{l:List Value}(h:SlP E n p len l)(k:Le E E'):SlP E' n p len l:=by
 refine⟨h.1, ?_⟩
 cases p with
 |none=>exact h.2
 |some a=>exact Row.le h.2 k
theorem SlP.row{n len:Nat}{p:Option Addr}{l:List Value}(h:SlP E n p len l){ds:List Value}{m:Nat}:SlP (E.row ds m) n p len l:=h.le (Le.row _ _ _)
theorem SlP.re{n len:Nat}{p:Option Addr}{l:List Value}(h:SlP E n p len l):SlP E.re n p len l:=h.le (Le.re' (Le.refl _))
theorem SlP.own{n len:Nat}{p:Option Addr}{l:List Value}(h:SlP E n p len l){b m:Nat}{ds:List Value}(hb:E.j<=b\/∀a,p=Option.some a->a.block≠b):SlP (E.own b ds m) n p len l:=by
 refine⟨h.1, ?_⟩
 cases p with
 |none=>exact h.2
 |some a =>
  have hr:Row E a l:=h.2;exact hr.own (by rcases hb with hb|hb;exact(have:=hr.lt;by omega);exact hb a rfl)
theorem SlP.some{n len:Nat}{p:Option Addr}{l:List Value}(h:SlP E n p len l)(hl:0<len):∃a,p=.some a/\Row E a l:=by
 cases p with
 |none=>have:=h.2;omega
 |some a=>exact⟨a,rfl,h.2⟩
theorem SlP.nil(E:St)(n:Nat):SlP E n none 0 []:=⟨by simp,rfl⟩

def wOP(P:Program)(f:FuncId)(args:List Value)(E:St)(v:Value)(E':St):Prop:=∃N0,∀N,N0<=N->zZ P N (.func f) args E=some (v,E')
def zW(P:Program)(f:FuncId)(args:List Value)(E:St)(v:Value)(E':St):Prop:=∃N0,∀N,N0<=N->uT (zZ P N) (.func f) args E=some (v,E')
end
end Go.Lay

namespace Go.Lay
open Go
variable{st xt n t i:Nat}{v:Value}{vs:List Value}

def Code.part:List Nat->Code->Code
 |0::p,.seq a _=>Code.part p a
 |1::p,.seq _ b=>Code.part p b
 |0::p,.cond _ a _=>Code.part p a
 |1::p,.cond _ _ b=>Code.part p b
 |0::p,.block _ c=>Code.part p c
 |0::p,.scope c=>Code.part p c
 |0::p,.loop c=>Code.part p c
 |0::p,.rangeFunc _ _ a _=>Code.part p a
 |1::p,.rangeFunc _ _ _ b=>Code.part p b
 |_,c=>c
def zV(P:Program)(f:FuncId):Code:=match P.funcs[f]? with|some fn=>(match fn.body with|some c=>c|none=>.skip)|none=>.skip

def wLG(P:Program)(rd:Option Nat)(c:Code)(fr:Fr)(E:St)(e:Exit)(fr':Fr)(E':St):Prop :=
 ∃N0,∀N,N0<=N->xK P (zZ P N) N rd c fr E=some (e,fr',E')
def xER(P:Program)(rd:Option Nat)(c:Code)(fr:Fr)(E:St)(e:Exit)(fr':Fr)(E':St):Prop :=
 ∃N0,∀N m,N0<=N->N0<=m->zFN (xK P (zZ P N) N rd c) m fr E=some (e,fr',E')
section
variable{P:Program}{rd:Option Nat}{c:Code}{fr fr' iF:Fr}{E E' V1:St}{e:Exit}
theorem xER.step(h:wLG P rd c fr E .normal iF V1)(k:xER P rd c iF V1 e fr' E'):xER P rd c fr E e fr' E':=by
 obtain⟨N1,h1⟩:=h;obtain⟨N2,h2⟩:=k;refine⟨N1+N2+1,λN m hN hm=>?_⟩
 obtain⟨m,rfl⟩:∃m',m=m'+1:=⟨m-1,by omega⟩;simp only[zFN,h1 N (by omega)];exact h2 N m (by omega) (by omega)
theorem xER.exit(h:wLG P rd c fr E e fr' E')(he:e≠.normal):xER P rd c fr E e fr' E':=by
 obtain⟨N1,h1⟩:=h;refine⟨N1+1,λN m hN hm=>?_⟩
 obtain⟨m,rfl⟩:∃m',m=m'+1:=⟨m-1,by omega⟩;simp only[zFN,h1 N (by omega)];split
 .rename_i heq;cases heq;exact absurd rfl he
 .rfl
end

structure Keep(n0:Nat)(E E':St):Prop where
 j:E.j<=E'.j
 get:∀b,b<n0->yP E'.heap b=yP E.heap b
 low:min E.low n0<=E'.low
section
variable{P:Program}{E E':St}{a:Addr}{cs:List Value}{n0:Nat}
theorem Keep.add(hn:n0<=E.j)(y:Blk):Keep n0 E (E.add y):=⟨by simp,λb hb=>by rw[St.add_get,if_neg (by omega)],by simp;omega⟩
theorem Keep.put{b:Nat}(hb:n0<=b)(y:Blk):Keep n0 E (E.put b y):=⟨by simp,λc hc=>by rw[St.put_get,if_neg (by omega)],by simp;omega⟩
inductive App(E:St)(n0 n:Nat):Value->Nat->List Value->Prop
 |nil:App E n0 n (.slice none 0 0) 0 []
 |more {b s nx len:Nat} {cs:List Value} {sp:Option Nat} {log:List (Nat×Nat)} (h:yP E.heap b=some (.cells cs n ((s,cs.length)::log) nx false)) (hs:sp.getD 0=s) (hb:n0<=b) (hlt:b<E.j) (hl:cs.length=len*n) (hp:0<len) (hsn:s<nx) :
   App E n0 n (.slice (some ⟨b,0,sp⟩) len (len+uQ)) len cs

def wBD:TypeDesc->Bool
 |.int _=>true
 |_=>false
structure AppT(P:Program)(st xt e n:Nat):Prop where
 el:wY P st=some (e,n)
 src:∃xd,P.underlying xt=some xd/\wBD xd=false
 info:∃ei z,P.info? e=some ei/\ei.zero=some z/\ei.bytes<=4096/\yI RD z=true/\Nat.beq z.cells.toList.length n=true
 le:n<=4096
 pos:0<n
def wLB(P:Program)(st xt e n:Nat):Bool :=
 (match wY P st with|some (e',n')=>Nat.beq e e'&&Nat.beq n n'|none=>false) &&
 (match P.underlying xt with|some xd=>!wBD xd|none=>false) &&
 (match P.info? e with|some ei=>(match ei.zero with|some z=>Nat.ble ei.bytes 4096&&yI RD z&&Nat.beq z.cells.toList.length n|none=>false)|none=>false) &&
 Nat.ble n 4096&&Nat.blt 0 n
theorem zAW{P:Program}{e:Nat}(h:wLB P st xt e n=true):AppT P st xt e n:=by
 unfold wLB at h;simp only[Bool.and_eq_true]at h;obtain⟨⟨⟨⟨h1,h2⟩,h3⟩,h4⟩,h5⟩:=h;refine⟨?_, ?_, ?_,(yJ _ _).1 h4,(yJ _ _).1 h5⟩
 .split at h1
  .rename_i e' n' he;simp only[Bool.and_eq_true]at h1;rw[he,Nat.eq_of_beq_eq_true h1.1,Nat.eq_of_beq_eq_true h1.2]
  .cases h1
 .split at h2
  .rename_i xd hx;exact⟨xd,hx,by simpa using h2⟩
  .cases h2
 .split at h3
  .rename_i ei hi;split at h3
   .rename_i z hz;simp only[Bool.and_eq_true]at h3;exact⟨ei,z,hi,hz,(yJ _ _).1 h3.1.1,h3.1.2,h3.2⟩
   .cases h3
  .cases h3

theorem zBK(x:Nat):xC (x+uQ)=x:=by unfold xC;rw[if_pos (by omega)];omega
theorem zHF(x:Nat):xR (x+uQ)=false:=by rw[Bool.eq_false_iff];intro e;have:=(xN _).1 e;omega
theorem uF:0<uQ:=by unfold uQ;decide

theorem xMD{e m k len:Nat}{a2:Addr}{xs:List Value}(T:AppT P st xt e n)(hA:App E n0 n v len cs)(hr:Row E a2 xs)(hm:xs.length=m*n)(hp:0<m)(hroom:len+m<=1073741824)(hc:xs.all cellB=true)(hn0:n0<=E.j) :
  ∃v' E',xO P st xt v (.slice (some a2) m k) E=some (v',E')/\App E' n0 n v' (len+m) (cs++xs)/\Keep n0 E E':=by
 obtain⟨xd,hxd,hxi⟩:=T.src;obtain⟨ei,z,hei,hz,hby,hrz,hzl⟩:=T.info;have hrd:=hr.rd;rw[hm]at hrd;have hsrc:zBC E n z xd (.slice (some a2) m k)=some (m,xs):=by
  unfold zBC;cases xd with
  |int _=>cases hxi
  |_=>simp only[uD,hrd,Option.map_some]
 have hcond:(zBH (len+m) n ei.bytes&&xs.all cellB&&Nat.beq xs.length (m*n)&&yI RD z&&Nat.beq z.cells.toList.length n)=true:=by
  unfold zBH;rw[(yJ _ _).2 hroom,(yJ _ _).2 T.le,(yJ _ _).2 hby,hc,hm,Nat.beq_refl,hrz,hzl];rfl
 have hble:∀x:Nat,Nat.ble (x+m) x=false:=λx=>by rw[Bool.eq_false_iff];intro e;have:=(yJ _ _).1 e;omega
 cases hA with
 |nil =>
  refine⟨.slice (some ⟨E.j,0,none⟩) (0+m) (0+m+uQ),E.add (.cells xs n [(0,xs.length)] 1 false), ?_, ?_,Keep.add hn0 _⟩
  .have hc0:xC 0=0:=by unfold xC;have:=uF;rw[if_neg (by omega)]
   have hc1:xR 0=true:=(xN 0).2 uF;unfold xO;simp only[T.el,hxd,hei,hz,hsrc,hcond,cond_true,uC,hc0,hble,cond_false,hc1,Nat.beq_refl,xD]
  .have e1:0+m=m:=Nat.zero_add m;rw[e1,List.nil_append];exact .more (b:=E.j) (s:=0) (nx:=1) (log:=[]) (by rw[St.add_get,if_pos rfl]) rfl hn0 (by simp) hm hp (by omega)
 |@more b s nx _ _ sp log h hs hb hlt hl hpp hsn =>
  have hex:vP ((s,cs.length)::log) (yO ⟨b,0,sp⟩)=some cs.length:=by
   have:Nat.beq s (yO ⟨b,0,sp⟩)=true:=by unfold yO;simp only[hs];exact Nat.beq_refl _
   simp only[vP,this,cond_true]
  have hlf:vE ((s,cs.length)::log) (yO ⟨b,0,sp⟩)=(s,cs.length)::log:=by
   have:Nat.beq s (yO ⟨b,0,sp⟩)=true:=by unfold yO;simp only[hs];exact Nat.beq_refl _
   simp only[vE,this,cond_true]
  have hg:(Nat.beq len len&&Nat.beq (0+len*n) cs.length&&Nat.beq n n&&!false&&Nat.blt 0 n)=true:=by
   rw[Nat.beq_refl,Nat.zero_add,hl,Nat.beq_refl,Nat.beq_refl,(xY 0 n).2 T.pos];rfl
  refine⟨.slice (some ⟨b,0,some nx⟩) (len+m) (len+m+uQ),E.put b (.cells (cs.take cs.length++xs) n ((nx,cs.length+m*n)::(s,cs.length)::log) (nx+1) false), ?_, ?_,Keep.put hb _⟩
  .unfold xO;simp only[T.el,hxd,hei,hz,hsrc,hcond,cond_true,uC,zBK,hble,cond_false,zHF,zLP,h,hex,hg,zCV,vC,St.write_eq,hlf]
  .refine .more (b:=b) (s:=nx) (nx:=nx+1) (log:=(s,cs.length)::log) ?_ rfl hb hlt ?_ (by omega) (by omega)
   .rw[St.put_get,if_pos rfl,List.take_length];simp[hm]
   .simp[hl,hm,Nat.add_mul]
theorem App.sl{len:Nat}(h:App E n0 n v len cs):∃p cap,v=.slice p len cap/\SlP E n p len cs:=by
 cases h with
 |nil=>exact⟨none,0,rfl,SlP.nil _ _⟩
 |@more b s nx _ _ sp log h hs hb hlt hl hp hsn =>
  refine⟨_,_,rfl,hl, ?_,hlt⟩
  have hex:vP ((s,cs.length)::log) (yO ⟨b,0,sp⟩)=some cs.length:=by
   have:Nat.beq s (yO ⟨b,0,sp⟩)=true:=by unfold yO;simp only[hs];exact Nat.beq_refl _
   simp only[vP,this,cond_true]
  have h2:Nat.ble (0+cs.length) cs.length=true:=(yJ _ _).2 (by omega);unfold xG;simp only[h,hex,h2,cond_true,List.drop_zero,List.take_length]
theorem App.keep{len:Nat}(h:App E n0 n v len cs)(hk:Le E E'):App E' n0 n v len cs:=by
 cases h with
 |nil=>exact .nil
 |more h hs hb hlt hl hp hsn=>exact .more (by rw[hk.get _ hlt];exact h) hs hb (Nat.lt_of_lt_of_le hlt hk.j) hl hp hsn
def wD(vs:List Value):List Value:=vs.flatMap λv=>v.cells.toList
def zDV(P:Program)(t:TypeId)(n:Nat)(v:Value):Prop :=
 (xI P t=some false/\n=1/\v.cells.toList=[v])\/(xI P t=some true/\yR P t=some n/\∃cs:List Value,v=.agg ⟨cs⟩/\cs.length=n)
theorem zDV.len(h:zDV P t n v):v.cells.toList.length=n:=by
 rcases h with ⟨_,h1,h2⟩|⟨_,_,ds,rfl,h⟩
 .rw[h2,h1];rfl
 .exact h
theorem yIK{t n:Nat}:∀{vs:List Value},(∀v∈vs,zDV P t n v)->(wD vs).length=vs.length*n
 |[],_=>by simp[wD]
 |v::vs,h=>by
  have h1:=(h v (by simp)).len;have h2:=yIK (vs:=vs) (λx hx=>h x (by simp[hx]));unfold wD at h2 ⊢;rw[List.flatMap_cons,List.length_append,h1,h2,List.length_cons,Nat.add_mul];omega
theorem zWR{t n:Nat}:∀{vs:List Value} {i:Nat} {v:Value},(∀v∈vs,zDV P t n v)->vs[i]?=some v->((wD vs).drop (i*n)).take n=v.cells.toList/\i*n+n<=(wD vs).length
 |[],i,v,_,h=>by simp at h
 |x::vs,0,v,hv,h=>by
  simp at h;subst h;have h1:=(hv x (by simp)).len;unfold wD;rw[List.flatMap_cons,Nat.zero_mul,List.drop_zero,Nat.zero_add,List.length_append];exact⟨by rw[<- h1,List.take_left'  rfl],by omega⟩
 |x::vs,i+1,v,hv,h=>by
  have h1:=(hv x (by simp)).len;have ih:=zWR (vs:=vs) (i:=i) (v:=v) (λx hx=>hv x (by simp[hx])) (by simpa using h);unfold wD at ih ⊢;rw[List.flatMap_cons,Nat.add_mul,Nat.one_mul,List.length_append];refine⟨?_,by omega⟩
  rw[show i*n+n=x.cells.toList.length+i*n by omega,List.drop_append];simp only[Nat.add_sub_cancel_left];rw[List.drop_of_length_le (by omega),List.nil_append];exact ih.1
theorem Row.el(h:Row E a (wD vs))(he:∀v∈vs,zDV P t n v)(hv:vs[i]?=some v):zJ P E t (zO a (i*n))=some v:=by
 obtain⟨h1,h2⟩:=zWR he hv;rcases he v (List.mem_of_getElem? hv)with ⟨g1,g2,g3⟩|⟨g1,g2,ds,rfl,g3⟩
 .subst g2;refine h.load1 g1 ?_
  rw[g3]at h1;have:=congrArg (λl=>l[0]?) h1;simp only[List.getElem?_cons_zero]at this;rw[List.getElem?_take_of_lt (by omega),List.getElem?_drop]at this;simpa using this
 .exact h.loadN g1 g2 h1 g3 h2
def SlV(P:Program)(E:St)(t n:Nat)(p:Option Addr)(len:Nat)(vs:List Value):Prop:=SlP E n p len (wD vs)/\vs.length=len/\∀v∈vs,zDV P t n v
theorem SlV.le{t n len:Nat}{p:Option Addr}{vs:List Value}(h:SlV P E t n p len vs)(k:Le E E'):SlV P E' t n p len vs:=⟨h.1.le k,h.2⟩
theorem SlV.row{t n len:Nat}{p:Option Addr}{vs:List Value}(h:SlV P E t n p len vs){ds:List Value}{m:Nat}:SlV P (E.row ds m) t n p len vs:=⟨h.1.row,h.2⟩
theorem SlV.re{t n len:Nat}{p:Option Addr}{vs:List Value}(h:SlV P E t n p len vs):SlV P E.re t n p len vs:=⟨h.1.re,h.2⟩
theorem SlV.own{t n len:Nat}{p:Option Addr}{vs:List Value}(h:SlV P E t n p len vs){b m:Nat}{ds:List Value}(hb:E.j<=b\/∀a,p=Option.some a->a.block≠b):SlV P (E.own b ds m) t n p len vs:=⟨h.1.own hb,h.2⟩
theorem SlV.some{t n len i:Nat}{p:Option Addr}{vs:List Value}(h:SlV P E t n p len vs)(hi:i<len):∃a,p=.some a/\Row E a (wD vs):=h.1.some (by omega)
theorem SlV.at{len:Nat}{p:Option Addr}{a:Addr}(h:SlV P E t n p len vs)(hp:p=Option.some a)(hv:vs[i]?=Option.some v):zJ P E t (zO a (Int.toNat (i:Int)*n))=Option.some v:=by
 subst hp;have hr:Row E a (wD vs):=h.1.2;rw[Int.toNat_natCast];exact hr.el h.2.2 hv
theorem vU(h:xI P t=some false)(k:IntKind)(n:Int):zDV P t 1 (.int k n):=.inl ⟨h,rfl,rfl⟩

end
end Go.Lay

namespace Go.Lay
open Go

def zNQ(Z:Inj)(b c o z:Nat):Inj:={ Z with loc:=λb' s=>if b'=b/\s=0 then some ⟨c,0,o,z⟩else Z.loc b' s }
structure Ro(Z:Inj)(w:World):Prop where
 own:∀c,Z.own c=none
 csz:∀(c:Nat) arr el fr,w.heap[c]?=some (.cells arr el fr)->Z.csz c=arr.size
def xBE(w:World):Inj:={ loc:=λ_ _=>none,own:=λ_=>none,csz:=λc=>match w.heap[c]? with|some (.cells arr _ _)=>arr.size|_=>0 }
theorem xZC(w:World):Rep (xBE w) wAR w/\Ro (xBE w) w :=
 ⟨⟨λb y h=>by simp[wAR,yP,Tr.getP_leaf]at h,λ_ _ _ h=>by simp[xBE]at h,λ_ _ h=>by simp[xBE]at h,λ_ _ _=>rfl⟩,⟨λ_=>rfl,λc arr el fr h=>by simp[xBE,h]⟩⟩

section
variable{P:Program}{w:World}{Z:Inj}{E E':St}

theorem yNN(hr:Rep Z E w)(c o z:Nat):Sub Z (zNQ Z E.j c o z):=by
 refine⟨λb s L h=>?_,λ_ _ _ _=>rfl⟩
 simp only[zNQ];rw[if_neg];exact h;rintro⟨rfl,rfl⟩;rw[hr.fresh _ _ (Nat.le_refl _)]at h;cases h

theorem wON(hr:Rep Z E w)(ho:Ro Z w){c o:Nat}{arr:Array Value}{el:TypeId}{fr:Nat×Nat}(hc:w.heap[c]?=some (.cells arr el fr)){rs:List Value}(z:Nat)(hl:o+rs.length<=arr.size)
  (hv:∀(j:Nat) v,rs[j]?=some v->∃v',arr[o+j]?=some v'/\VR Z v v') :
  Rep (zNQ Z E.j c o z) (E.add (.cells rs z [(0,rs.length)] 1 true)) w/\Ro (zNQ Z E.j c o z) w:=by
 have hs:=yNN hr c o z;have hcw:c<w.heap.size:=by
  have:=(Array.getElem?_eq_some_iff.1 hc).1;exact this
 refine⟨⟨λb y hb=>?_,λb s L h=>?_,λc' b h=>?_,λb s h=>?_⟩,⟨ho.own,ho.csz⟩⟩
 .rw[St.add_get]at hb;by_cases hbn:b=E.j
  .rw[if_pos hbn]at hb;cases hb;subst hbn;refine⟨by simp,.cells (λs e hm=>?_) (by simp) (λiI iJ iE iC iH iG iz iB iD iA _=>?_) (λs hs'=>?_)⟩
   .simp at hm;obtain⟨rfl,rfl⟩:=hm;refine⟨by omega,Nat.le_refl _,⟨c,0,o,z⟩,by simp[zNQ],⟨arr,el,fr,hc,(ho.csz _ _ _ _ hc).symm,by simp,by simpa using hl,λj _ h2=>?_⟩,rfl,Nat.zero_le _,by simpa [zNQ] using ho.own c⟩
    obtain⟨v',g1,g2⟩:=hv j rs[j] (by simp[h2]);exact⟨rs[j],v',by simp[h2],by simpa using g1,g2.sub hs⟩
   .simp at iz iB;obtain⟨rfl,_⟩:=iz;obtain⟨rfl,_⟩:=iB;rw[iD]at iA;cases iA;rfl
   .simp only[zNQ];rw[if_neg (by omega)];exact hr.fresh _ _ (Nat.le_refl _)
  .rw[if_neg hbn]at hb;have h:=hr.blk b y hb;refine⟨by simp;omega,h.2.keepS hs (λs L _=>rfl) (λ_ _ _ _=>rfl) (λcs esz log next ro hyy s hs'=>?_)⟩
   have:=h.2;subst hyy;cases this with
   |cells _ _ _ fresh =>
    simp only[zNQ];rw[if_neg (λe=>hbn e.1)];exact fresh s hs'
 .simp only[zNQ]at h;split at h
  .cases h;exact hcw
  .exact hr.lt _ _ _ h
 .have:Z.own c'=some b:=h;rw[ho.own c']at this;cases this
 .simp only[zNQ];simp at h;rw[if_neg (by omega)];exact hr.fresh _ _ (by omega)

def zYW(P:Program):List Field->Nat->Nat->Bool
 |[],o,tot=>Nat.beq o tot
 |f::fs,o,tot=>Nat.beq f.offset o&&zYW P fs (o+P.cellsOf f.type) tot
def zKN(P:Program):Nat->TypeId->Bool
 |0,_=>false
 |n+1,t=>match P.underlying t with
  |some .bool=>true
  |some (.int _)=>true
  |some .string=>true
  |some (.slice e)=>Nat.blt 0 (P.cellsOf e)&&zKN P n e
  |some (.struct fs)=>zYW P fs.toList 0 (P.cellsOf t)&&fs.toList.all λf=>zKN P n f.type
  |_=>false
def WT(P:Program)(E:St):Nat->TypeId->List Value->Prop
 |0,_,_=>False
 |n+1,t,cs=>match P.underlying t with
  |some .bool=>∃b,cs=[.bool b]
  |some (.int k)=>∃i,cs=[.int k i]/\k.min<=i/\i<=k.max
  |some .string=>∃s:ByteArray,cs=[.string s]/\s.size<=maxLen
  |some (.slice e)=>cs=[.slice none 0 0]\/∃b len cap rs,cs=[.slice (some ⟨b,0,none⟩) len cap]/\len<=maxLen/\(len<=xC cap/\xR cap=true)/\rs.length=len*P.cellsOf e /\
    yP E.heap b=some (.cells rs (P.cellsOf e) [(0,rs.length)] 1 true)/\b<E.j/\∀i,i<len->WT P E n e ((rs.drop (i*P.cellsOf e)).take (P.cellsOf e))
  |some (.struct fs)=>cs.length=P.cellsOf t/\∀f∈fs.toList,f.offset+P.cellsOf f.type<=cs.length/\WT P E n f.type ((cs.drop f.offset).take (P.cellsOf f.type))
  |_=>False

theorem WT.le:∀{n:Nat} {t:TypeId} {cs:List Value},WT P E n t cs->Le E E'->WT P E' n t cs:=by
 intro n;induction n with
 |zero=>intro t cs h;exact h.elim
 |succ n ih =>
  intro t cs h k;unfold WT at h ⊢;split at h <;> rename_i hu
  .exact h
  .exact h
  .exact h
  .rcases h with h|⟨b,len,cap,rs,h1,h2,h3,h4,h5,h6,h7⟩
   .exact .inl h
   .exact .inr ⟨b,len,cap,rs,h1,h2,h3,h4,by rw[k.get _ h6];exact h5,Nat.lt_of_lt_of_le h6 k.j,λi hi=>ih (h7 i hi) k⟩
  .exact⟨h.1,λf hf=>⟨(h.2 f hf).1,ih (h.2 f hf).2 k⟩⟩
  .exact h.elim

theorem xDX{a:Addr}{arr:Array Value}{el:TypeId}{fr:Nat×Nat}(hc:w.heap[a.block]?=some (.cells arr el fr))(hs:a.spot=none)(m i:Nat):w.cell? ((a.add m).add i)=arr[a.off+m+i]?:=by
 have key:∀(x:Addr) (j:Nat),x.spot=none->(x.add j).block=x.block/\(x.add j).off=x.off+j/\(x.add j).spot=none:=by
  intro x j hx;unfold Addr.add;split
  .rename_i e;subst e;exact⟨rfl,rfl,hx⟩
  .exact⟨rfl,rfl,rfl⟩
 obtain⟨k1,k2,k3⟩:=key a m hs;obtain⟨k4,k5,k6⟩:=key (a.add m) i k3;simp only[World.cell?,k4,k1,hc,k6,k5,k2,Option.isSome_none];rfl

variable{H:Type}{enc:TypeId×Value->H}{held:Bool}

def zTQ(w:World)(cs':List Value):Prop:=∀A len cap,Value.slice (some A) len cap∈cs'->∃(c:Nat) (arr:Array Value) (el:TypeId) (fr:Nat×Nat),w.heap[c]?=some (.cells arr el fr)
def yQA(P:Program)(w:World)(Z:Inj)(E:St)(cs':List Value)(Q:St->List Value->Prop):Prop :=
 ∃Z' E' cs,Rep Z' E' w/\Ro Z' w/\Sub Z Z'/\Le E E'/\VRs Z' cs cs'/\Q E' cs

theorem yPJ:∀{fs:List Field} {o tot:Nat},zYW P fs o tot=true->o<=tot
 |[],o,tot,h=>by have:=Nat.eq_of_beq_eq_true h;omega
 |f::fs,o,tot,h=>by
  simp only[zYW,Bool.and_eq_true]at h;have:=yPJ h.2;omega

theorem xBY{n fuel:Nat}
  (ih:∀t,zKN P n t=true->∀fuel cs' x Z E,DataW.trod enc P w 0 (λ_=>true) held fuel t cs'=some x->Rep Z E w->Ro Z w->zTQ w cs'->yQA P w Z E cs' λE' cs=>WT P E' n t cs) {cs':List Value} (hrow:zTQ w cs') :
  ∀(fs:List Field) (o:Nat) (Z:Inj) (E:St),zYW P fs o cs'.length=true->(∀f∈fs,zKN P n f.type=true)->(∀f∈fs,∃x,DataW.trod enc P w 0 (λ_=>true) held fuel f.type ((cs'.drop f.offset).take (P.cellsOf f.type))=some x) ->
   Rep Z E w->Ro Z w->yQA P w Z E (cs'.drop o) λE' cs=>∀f∈fs,o<=f.offset/\f.offset+P.cellsOf f.type<=cs'.length/\WT P E' n f.type ((cs.drop (f.offset-o)).take (P.cellsOf f.type)):=by
 intro fs;induction fs with
 |nil =>
  intro o Z E hc _ _ hr ho;have:=Nat.eq_of_beq_eq_true hc;refine⟨Z,E,[],hr,ho,Sub.refl _,Le.refl _, ?_,λf hf=>by cases hf⟩
  rw[List.drop_of_length_le (by omega)];exact .nil
 |cons f fs ihf =>
  intro o Z E hc hp ht hr ho;simp only[zYW,Bool.and_eq_true]at hc;have hoff:=Nat.eq_of_beq_eq_true hc.1;have hle:=yPJ hc.2;obtain⟨x,hx⟩:=ht f (by simp);obtain⟨ig,V1,c1,r1,o1,s1,l1,v1,w1⟩:=ih f.type (hp f (by simp)) _ _ _ Z E hx hr ho (λA len cap hm=>hrow A len cap (List.mem_of_mem_drop (List.mem_of_mem_take hm)));obtain⟨ip,il,c2,r2,o2,s2,l2,v2,w2⟩:=ihf (o+P.cellsOf f.type) ig V1 hc.2 (λg hg=>hp g (by simp[hg])) (λg hg=>ht g (by simp[hg])) r1 o1;have hlen:c1.length=P.cellsOf f.type:=by rw[v1.length];simp;omega
  refine⟨ip,il,c1++c2,r2,o2,s1.trans s2,l1.trans l2, ?_,λg hg=>?_⟩
  .have e:cs'.drop o=(cs'.drop f.offset).take (P.cellsOf f.type)++cs'.drop (o+P.cellsOf f.type):=by
    rw[hoff,<- List.drop_drop,List.take_append_drop]
   rw[e];exact VRs.append (v1.sub s2) v2
  .rcases List.mem_cons.1 hg with rfl|hg
   .refine⟨by omega,by omega, ?_⟩
    rw[hoff,Nat.sub_self,List.drop_zero,<- hlen,List.take_left']
    .exact w1.le l2
    .rfl
   .obtain⟨g1,g2,g3⟩:=w2 g hg;refine⟨by omega,g2, ?_⟩
    have e:(c1++c2).drop (g.offset-o)=c2.drop (g.offset-(o+P.cellsOf f.type)):=by
     rw[List.drop_append,List.drop_of_length_le (by omega),List.nil_append];congr 1;omega
    rw[e];exact g3

theorem yHP{n fuel:Nat}{e:TypeId}{a:Addr}{arr:Array Value}{el:TypeId}{fr:Nat×Nat}(hc:w.heap[a.block]?=some (.cells arr el fr))(hs:a.spot=none)
  (ih:∀fuel cs' x Z E,DataW.trod enc P w 0 (λ_=>true) held fuel e cs'=some x->Rep Z E w->Ro Z w->zTQ w cs'->yQA P w Z E cs' λE' cs=>WT P E' n e cs) (hr:Rep Z E w) (ho:Ro Z w) :
  ∀(k:Nat),(∀i,i<k->∃x,(w.cells? 0 (a.add (i*P.cellsOf e)) (P.cellsOf e)).bind (DataW.trod enc P w 0 (λ_=>true) held fuel e)=some x) ->
   ∃(Z':Inj) (E':St) (rs:List Value),Rep Z' E' w/\Ro Z' w/\Sub Z Z'/\Le E E'/\rs.length=k*P.cellsOf e/\(∀i,i<k->WT P E' n e ((rs.drop (i*P.cellsOf e)).take (P.cellsOf e))) /\
    ∀(j:Nat) v,rs[j]?=some v->∃v',arr[a.off+j]?=some v'/\VR Z' v v'
 |0,_=>⟨Z,E,[],hr,ho,Sub.refl _,Le.refl _,by simp,λi hi=>by omega,λj v h=>by simp at h⟩
 |k+1,ht=>by
  obtain⟨ig,V1,rs,r1,o1,s1,l1,n1,w1,v1⟩:=yHP hc hs ih hr ho k (λi hi=>ht i (by omega));obtain⟨x,hx⟩:=ht k (by omega);simp only[Option.bind_eq_some_iff]at hx;obtain⟨chunk,hch,hx⟩:=hx;obtain⟨_,hlen,hcells⟩:=World.cells?_some hch;obtain⟨ip,il,c,r2,o2,s2,l2,v2,w2⟩:=ih _ _ _ ig V1 hx r1 o1 (λ_ _ _ _=>⟨_,_,_,_,hc⟩);have hcl:c.length=P.cellsOf e:=by rw[v2.length];exact hlen
  refine⟨ip,il,rs++c,r2,o2,s1.trans s2,l1.trans l2,by rw[List.length_append,n1,hcl,Nat.add_mul];omega,λi hi=>?_,λj v hj=>?_⟩
  .by_cases hik:i<k
   .have h1:i*P.cellsOf e+P.cellsOf e<=rs.length:=by
     rw[n1,show i*P.cellsOf e+P.cellsOf e=(i+1)*P.cellsOf e by rw[Nat.add_mul,Nat.one_mul]];exact Nat.mul_le_mul_right _ hik
    have e1:((rs++c).drop (i*P.cellsOf e)).take (P.cellsOf e)=(rs.drop (i*P.cellsOf e)).take (P.cellsOf e):=by
     rw[List.drop_append_of_le_length (by omega),List.take_append_of_le_length (by simp;omega)]
    rw[e1];exact(w1 i hik).le l2
   .have:i=k:=by omega
    subst this;rw[<- n1,List.drop_left' rfl,List.take_of_length_le (by omega)];exact w2
  .by_cases hjr:j<rs.length
   .rw[List.getElem?_append_left hjr]at hj;obtain⟨v',g1,g2⟩:=v1 j v hj;exact⟨v',g1,g2.sub s2⟩
   .rw[List.getElem?_append_right (by omega)]at hj;obtain⟨v',g1,g2⟩:=v2.get_some hj;have hjc:j-rs.length<P.cellsOf e:=by rw[<- hcl];exact(List.getElem?_eq_some_iff.1 hj).1
    refine⟨v', ?_,g2⟩
    have:=hcells (j-rs.length) hjc;rw[xDX hc hs,g1]at this;rw[<- this,<- n1];congr 1;omega

theorem xJW:∀(n:Nat) (t:TypeId),zKN P n t=true->∀(fuel:Nat) (cs':List Value) (x:DataW H×List MemPlace) (Z:Inj) (E:St),DataW.trod enc P w 0 (λ_=>true) held fuel t cs'=some x->Rep Z E w->Ro Z w->zTQ w cs' ->
  yQA P w Z E cs' λE' cs=>WT P E' n t cs:=by
 intro n;induction n with
 |zero=>intro t h;simp[zKN]at h
 |succ n ih =>
  intro t hp fuel cs' x Z E h hr ho hrow;have one:∀(v:Value),yI RD v=true->cs'=[v]->WT P E (n+1) t [v]->yQA P w Z E cs' λE' cs=>WT P E' (n+1) t cs :=
   λv hv e hw=>⟨Z,E,[v],hr,ho,Sub.refl _,Le.refl _,by rw[e];exact .cons (.refl_rigid _ hv) .nil,hw⟩
  unfold zKN at hp;split at hp <;> rename_i hu
  .obtain⟨b,e,_⟩:=DataW.trod_bool hu h;exact one _ rfl e (by unfold WT;rw[hu];exact⟨b,rfl⟩)
  .obtain⟨i,e,_,hw⟩:=DataW.trod_int hu h;exact one _ rfl e (by unfold WT;rw[hu];exact⟨i,rfl,by simpa [Lit.wf] using hw⟩)
  .obtain⟨s,e,_,hw⟩:=DataW.trod_string hu h;exact one _ rfl e (by unfold WT;rw[hu];exact⟨s,rfl,hw⟩)
  .rename_i e;simp only[Bool.and_eq_true]at hp;have hpos:0<P.cellsOf e:=(xY _ _).1 hp.1;rcases DataW.trod_slice hu h with ⟨hcs,_⟩|⟨a,len,cap,elems,rest,m,rfl,hcs,_,_,hle,hmax,hel,hget,hrest,_⟩
   .exact one _ rfl hcs (by unfold WT;rw[hu];exact .inl rfl)
   .have hx:xR cap=true:=(xN cap).2 (by unfold uQ;unfold maxLen at hmax;omega);obtain⟨capA,hcapR,hcl,hc0⟩:∃capA,zOV capA cap/\(len<=xC capA/\xR capA=true)/\(cap=0->capA=0) :=
     ⟨cap,by unfold zOV;rw[if_pos hx],⟨by have:=(xN cap).1 hx;unfold xC;rw[if_neg (by omega)];exact hle,hx⟩,λe=>e⟩
    have fin:∀{ig:Inj} {V1:St} {rs:List Value} {c o:Nat} {arr:Array Value} {el:TypeId} {fr:Nat×Nat},Rep ig V1 w->Ro ig w->Sub Z ig->Le E V1->w.heap[c]?=some (.cells arr el fr)->rs.length=len*P.cellsOf e ->
      (∀i,i<len->WT P V1 n e ((rs.drop (i*P.cellsOf e)).take (P.cellsOf e)))->(∀(j:Nat) v,rs[j]?=some v->∃v',arr[o+j]?=some v'/\VR ig v v')->o+cap*P.cellsOf e<=arr.size ->
      (a=⟨c,o,none⟩\/(len=0/\capA=0/\cap=0))->yQA P w Z E cs' λE' cs=>WT P E' (n+1) t cs:=by
     intro ig V1 rs c o arr el fr hr1 ho1 hs1 hl1 hc hlen hw hv hsz hA
     have hlo:len*P.cellsOf e<=cap*P.cellsOf e:=Nat.mul_le_mul_right _ hle
     obtain⟨g1,g2⟩:=wON hr1 ho1 hc (P.cellsOf e) (by omega) hv
     have hsub:=yNN hr1 c o (P.cellsOf e)
     refine⟨_,_,[.slice (some ⟨V1.j,0,none⟩) len capA],g1,g2,hs1.trans hsub,hl1.trans (Le.add _ _), ?_, ?_⟩
     .rw[hcs];refine .cons (.slice (L:=⟨c,0,o,P.cellsOf e⟩) (by simp[zNQ,yO]) (Nat.zero_le _) ?_ hcapR ?_) .nil
      .rcases hA with rfl|hA
       .exact .inl (by simp[Loc.at])
       .exact .inr ⟨hA.1,by rw[hA.2.1];unfold xC;split <;> omega,hA.2.2⟩
      .show o+(0-0)+cap*P.cellsOf e<=ig.csz c;rw[ho1.csz _ _ _ _ hc];omega
     .unfold WT;rw[hu];refine .inr ⟨V1.j,len,capA,rs,rfl,by omega,hcl,hlen,by rw[St.add_get,if_pos rfl],by simp,λi hi=>(hw i hi).le (Le.add _ _)⟩
    by_cases hcap:cap=0
    .subst hcap;have hl0:len=0:=by omega
     have hca:capA=0:=hc0 rfl;obtain⟨c,arr,el,fr,hc⟩:=hrow a len 0 (by rw[hcs];simp);exact fin (rs:=[]) (o:=0) hr ho (Sub.refl _) (Le.refl _) hc (by rw[hl0];simp) (λi hi=>by omega) (λj v hj=>by simp at hj) (by omega) (.inr ⟨hl0,hca,rfl⟩)
    .have hall:∀i,i<cap->∃x,(w.cells? 0 (a.add (i*P.cellsOf e)) (P.cellsOf e)).bind (DataW.trod enc P w 0 (λ_=>true) held m e)=some x:=by
      intro i hi;by_cases hil:i<len
      .exact⟨elems[i]'(by omega),by rw[hget i hil];simp⟩
      .obtain⟨r1,r2⟩:=hrest rfl;have:=r2 (i-len) (by omega);rw[show len+(i-len)=i by omega]at this;exact⟨rest[i-len]'(by omega),by rw[this];simp⟩
     obtain⟨x0,hx0⟩:=hall 0 (by omega);simp only[Option.bind_eq_some_iff]at hx0;obtain⟨ch0,hc0,_⟩:=hx0;obtain⟨_,hl0,hcell0⟩:=World.cells?_some hc0;have h00:=hcell0 0 hpos;have ha0:(a.add (0*P.cellsOf e)).add 0=a:=by simp[Addr.add]
     rw[ha0]at h00;have hsome:∃v,w.cell? a=some v:=⟨ch0[0]'(by omega),by rw[h00];simp⟩;obtain⟨v0,hv0⟩:=hsome;obtain⟨arr,el,fr,hc,hsp⟩:∃arr el fr,w.heap[a.block]?=some (.cells arr el fr)/\a.spot=none:=by
      unfold World.cell? at hv0;split at hv0
      .rename_i arr el fr hc;refine⟨arr,el,fr,hc, ?_⟩
       cases hs:a.spot with
       |none=>rfl
       |some s=>rw[hs]at hv0;simp at hv0
      .cases hv0
     obtain⟨ig,V1,rs,r1,o1,s1,l1,n1,w1,v1⟩:=yHP hc hsp (λfuel cs' x Z E=>ih e hp.2 fuel cs' x Z E) hr ho len (λi hi=>hall i (by omega));refine fin r1 o1 s1 l1 hc n1 w1 v1 ?_ (.inl ?_)
     .obtain⟨x1,hx1⟩:=hall (cap-1) (by omega);simp only[Option.bind_eq_some_iff]at hx1;obtain⟨ch1,hc1,_⟩:=hx1;obtain⟨_,hl1,hcell1⟩:=World.cells?_some hc1;have h1:=hcell1 (P.cellsOf e-1) (by omega);rw[xDX hc hsp]at h1;have hb:a.off+(cap-1)*P.cellsOf e+(P.cellsOf e-1)<arr.size:=by
       rcases Nat.lt_or_ge (a.off+(cap-1)*P.cellsOf e+(P.cellsOf e-1)) arr.size with hlt|hge
       .exact hlt
       .rw[Array.getElem?_eq_none hge]at h1;have:ch1[P.cellsOf e-1]?=some (ch1[P.cellsOf e-1]'(by omega)):=by simp
        rw[this]at h1;cases h1
      have e1:(cap-1)*P.cellsOf e+P.cellsOf e=cap*P.cellsOf e:=by
       rw[show cap*P.cellsOf e=(cap-1+1)*P.cellsOf e by rw[Nat.sub_add_cancel (by omega)],Nat.add_mul,Nat.one_mul]
      omega
     .cases a with|mk b o s=>simp at hsp;subst hsp;rfl
  .rename_i fs;simp only[Bool.and_eq_true]at hp;obtain⟨xs,m,rfl,_,hl,hxl,hget⟩:=DataW.trod_struct hu h;obtain⟨ig,V1,c,r1,o1,s1,l1,v1,w1⟩:=xBY (fuel:=m) ih hrow fs.toList 0 Z E (by rw[hl];exact hp.1) (λf hf=>List.all_eq_true.1 hp.2 f hf) (λf hf=>by
    obtain⟨i,hi⟩:=List.getElem?_of_mem hf;have hi2:fs[i]?=some f:=by simpa using hi
    have hlt:i<xs.length:=by rw[hxl];exact(Array.getElem?_eq_some_iff.1 hi2).1
    exact⟨xs[i],by rw[hget i f hi2];simp[hlt]⟩) hr ho
   refine⟨ig,V1,c,r1,o1,s1,l1,by simpa using v1, ?_⟩
   unfold WT;rw[hu];have hcl:c.length=cs'.length:=by have:=v1.length;simpa using this
   refine⟨by rw[hcl,hl],λf hf=>?_⟩
   obtain⟨_,g2,g3⟩:=w1 f hf;exact⟨by omega,by simpa using g3⟩
  .cases hp
end
end Go.Lay

namespace Go.Lay
open Go
variable{t n len i k t' m l n0:Nat}{a b:Int}{vs cs args:List Value}{v:Value}{p:Option Addr}{f:FuncId}

def zCI(P:Program)(R:Nat->Rec)(rd:Option Nat)(c:Code)(fr:Fr)(E:St)(e:Exit)(fr':Fr)(E':St):Prop:=∃N0,∀N,N0<=N->xK P (R N) N rd c fr E=some (e,fr',E')
def yCR(P:Program)(R:Nat->Rec)(rd:Option Nat)(c:Code)(fr:Fr)(E:St)(e:Exit)(fr':Fr)(E':St):Prop :=
 ∃N0,∀N m,N0<=N->N0<=m->zFN (xK P (R N) N rd c) m fr E=some (e,fr',E')
section
variable{P:Program}{R:Nat->Rec}{rd:Option Nat}{c:Code}{fr fr' iF:Fr}{E E' V1:St}{e:Exit}
theorem yCR.step(h:zCI P R rd c fr E .normal iF V1)(k:yCR P R rd c iF V1 e fr' E'):yCR P R rd c fr E e fr' E':=by
 obtain⟨N1,h1⟩:=h;obtain⟨N2,h2⟩:=k;refine⟨N1+N2+1,λN m hN hm=>?_⟩
 obtain⟨m,rfl⟩:∃m',m=m'+1:=⟨m-1,by omega⟩;simp only[zFN,h1 N (by omega)];exact h2 N m (by omega) (by omega)
theorem yCR.exit(h:zCI P R rd c fr E e fr' E')(he:e≠.normal):yCR P R rd c fr E e fr' E':=by
 obtain⟨N1,h1⟩:=h;refine⟨N1+1,λN m hN hm=>?_⟩
 obtain⟨m,rfl⟩:∃m',m=m'+1:=⟨m-1,by omega⟩;simp only[zFN,h1 N (by omega)];split
 .rename_i heq;cases heq;exact absurd rfl he
 .rfl
end

section
variable{P:Program}{E E':St}
theorem zPU{a:Addr}{x:Value}(h:SlV P E t n (some a) len vs)(hv:vs[i]?=some (.agg ⟨cs⟩))(hx:cs[k]?=some x)(ht':xI P t'=some false) :
  zJ P E t' (zO a (Int.toNat (i:Int)*n+k))=some x:=by
 obtain⟨h1,h2⟩:=zWR h.2.2 hv;have hr:Row E a (wD vs):=h.1.2;rw[Int.toNat_natCast];have hk:k<n:=by
  have:=(h.2.2 _ (List.mem_of_getElem? hv)).len;have h3:=(List.getElem?_eq_some_iff.1 hx).1;have e:(Value.agg ⟨cs⟩).cells.toList=cs:=rfl;rw[e]at this;omega
 refine hr.load1 ht' ?_
 have e:(Value.agg ⟨cs⟩).cells.toList=cs:=rfl;rw[e]at h1;rw[<- h1,List.getElem?_take_of_lt hk,List.getElem?_drop]at hx;exact hx
theorem zVT{a:Addr}{ds:List Value}(h:SlV P E t n (some a) len vs)(hv:vs[i]?=some (.agg ⟨cs⟩))(hx:(cs.drop k).take m=ds)(hl:ds.length=m)(hk:k+m<=n)(ht':xI P t'=some true)(hs:yR P t'=some m) :
  zJ P E t' (zO a (Int.toNat (i:Int)*n+k))=some (.agg ⟨ds⟩):=by
 obtain⟨h1,h2⟩:=zWR h.2.2 hv;have hr:Row E a (wD vs):=h.1.2;rw[Int.toNat_natCast];refine hr.loadN ht' hs ?_ hl (by omega);have e:(Value.agg ⟨cs⟩).cells.toList=cs:=rfl;rw[e]at h1;rw[<- hx,<- h1,List.drop_take,List.take_take,List.drop_drop];congr 1;omega
theorem Own.ld{b n k:Nat}{cs:List Value}{s:Option Nat}(h:Own E b cs n)(hs:s=none){t:TypeId}(ht:xI P t=some false){v:Value}(hv:cs[k]?=some v):zJ P E t ⟨b,k,s⟩=some v:=by subst hs;exact h.rw.ld ht hv
theorem Own.ldN{b n k m:Nat}{cs ds:List Value}(h:Own E b cs n){t:TypeId}(ht:xI P t=some true)(hs:yR P t=some m)(hd:(cs.drop k).take m=ds)(hl:ds.length=m)(hk:k+m<=cs.length):zJ P E t ⟨b,k,none⟩=some (.agg ⟨ds⟩) :=
 h.rw.ldN ht hs hd hl hk

theorem Row.ld1{a:Addr}(h:Row E a [v]){t:TypeId}(ht:xI P t=some false):zJ P E t a=some v:=by
 have:=h.load1 (P:=P) ht (k:=0) (v:=v) rfl;simpa [zO] using this
theorem yX(h:yI RD v=true):yQ RD n v=true:=by
 have key:∀(d:Nat) (v:Value),yI d v=true->yQ d n v=true:=by
  intro d;induction d with
  |zero=>intro v h;simp[yI]at h
  |succ d ih =>
   intro v h;have lists:∀(l:List Value),l.all (yI d)=true->l.all (yQ d n)=true:=λl hl=>List.all_eq_true.2 (λx hx=>ih x (List.all_eq_true.1 hl x hx))
   cases v with
   |agg cs=>simp only[yI]at h;simp only[yQ];exact lists _ h
   |tuple cs=>simp only[yI]at h;simp only[yQ];exact lists _ h
   |iface t x=>simp only[yI]at h;simp only[yQ];exact ih x h
   |pointer a=>cases a with|none=>rfl|some _=>simp[yI,zAC]at h
   |slice a l c=>cases a with|none=>rfl|some _=>simp[yI,zAC]at h
   |map a=>cases a with|none=>rfl|some _=>simp[yI,zAC]at h
   |func fn f c =>
    cases fn with
    |func g=>simp only[yI,Bool.and_eq_true]at h;simp only[yQ,Bool.and_eq_true];exact⟨⟨trivial,lists _ h.1⟩,lists _ h.2⟩
    |_=>simp[yI,zAC]at h
   |_=>rfl
 exact key RD v h
theorem zR{a:Addr}(h:a.block<n):yQ RD n (.pointer (some a))=true:=(xY _ _).2 h
theorem vM{c:Nat}{a:Addr}(h:a.block<n):yQ RD n (.slice (some a) l c)=true:=(xY _ _).2 h
theorem xH{c:Nat}(h:∀a,p=some a->a.block<n):yQ RD n (.slice p l c)=true:=by
 cases p with
 |none=>rfl
 |some a=>exact vM (h a rfl)
theorem zM:zL n []:=rfl
theorem zI(h:yQ RD n v=true)(t:zL n vs):zL n (v::vs):=by
 unfold zL at t ⊢;rw[List.all_cons,h,t];rfl
theorem Le.own{b n:Nat}{ds:List Value}(h:Le E E')(hb:E.j<=b):Le E (E'.own b ds n):=⟨h.j,λc hc=>by
 show yP (E'.put _ _).heap c=_;rw[St.put_get,if_neg (by omega)];exact h.get c hc⟩
theorem uX(h:SlV P E t n none len vs):SlV P E' t n none len vs:=⟨⟨h.1.1,h.1.2⟩,h.2⟩
theorem xW(h:SlV P E t n p len vs):∀a,p=some a->a.block<E.j:=by
 intro a e;subst e;exact(show Row E a (wD vs)from h.1.2).lt
theorem zBJ(xs ys:List Value):wD (xs++ys)=wD xs++wD ys:=by simp[wD]
theorem zAJ(xs:List Int)(k:IntKind):wD (xs.map λx=>.int k x)=xs.map λx=>.int k x:=by
 induction xs with
 |nil=>rfl
 |cons x xs ih =>
  rw[List.map_cons,show(Value.int k x::xs.map λx=>Value.int k x)=[Value.int k x]++xs.map λx=>Value.int k x from rfl,zBJ,ih];rfl
theorem App.ge{c:Nat}(h:App E n0 n (.slice p len c) len cs):∀a,p=some a->n0<=a.block:=by
 intro a e;subst e;cases h with
 |more h hs hb hlt hl hp hsn=>exact hb
theorem wED{st xt e:Nat}{a2:Addr}{c:Nat}{xs:List Value}(T:AppT P st xt e n)(hA:App E n0 n (.slice p len c) len cs)(hr:Row E a2 xs)(hm:xs.length=m*n)(hp:0<m)(hroom:len+m<=1073741824)
  (hc:xs.all cellB=true) (hn0:n0<=E.j):∃p' c' E',xO P st xt (.slice p len c) (.slice (some a2) m k) E=some (.slice p' (len+m) c',E')/\App E' n0 n (.slice p' (len+m) c') (len+m) (cs++xs)/\Keep n0 E E':=by
 obtain⟨v',E',h1,h2,h3⟩:=xMD (k:=k) T hA hr hm hp hroom hc hn0;obtain⟨p',c',rfl,_⟩:=h2.sl;exact⟨p',c',E',h1,h2,h3⟩
theorem App.slv{c:Nat}(h:App E n0 n (.slice p len c) len (wD vs))(hl:vs.length=len)(he:∀v∈vs,zDV P t n v):SlV P E t n p len vs:=by
 obtain⟨p',c',e,hs⟩:=h.sl;cases e
 exact⟨hs,hl,he⟩
theorem App.lt{c:Nat}(h:App E n0 n (.slice p len c) len cs):∀a,p=some a->a.block<E.j:=by
 intro a e;subst e;cases h with
 |more h hs hb hlt hl hp hsn=>exact hlt
theorem zYC(h:wOP P f args E.re v E')(hl:E.j<=E'.low)(hv:yI RD v=true):zW P f args E v E:=by
 obtain⟨N0,hN⟩:=h;refine⟨N0,λN hNN=>?_⟩
 have h1:=hN N hNN;unfold uT;rw[show(⟨E.heap,E.j,E.j⟩:St)=E.re from rfl,h1];show zAB E v E'=_;unfold zAB;rw[(yJ _ _).2 hl,hv];rfl
structure New(E E':St):Prop where
 le:Le E E'
 low:∀m,m<=E.low->m<=E.j->m<=E'.low
theorem New.refl(E:St):New E E:=⟨Le.refl _,λ_ h _=>h⟩
theorem New.trans{V1 il iK:St}(h:New V1 il)(k:New il iK):New V1 iK:=⟨h.le.trans k.le,λm h1 h2=>k.low m (h.low m h1 h2) (Nat.le_trans h2 h.le.j)⟩
theorem New.row(E:St)(cs:List Value)(n:Nat):New E (E.row cs n):=⟨Le.row _ _ _,λ_ h _=>h⟩
theorem New.add(E:St)(y:Blk):New E (E.add y):=⟨Le.add _ _,λ_ h _=>h⟩
theorem wPB{Q:Value->St->Prop}(h:wOP P f args E.re v E')(hn:New E.re E')(hq:Q v E')(hQ:∀s s',Q v s->Le s s'->Q v s')(hr:yI RD v=true->Q v E) :
  ∃v E'',zW P f args E v E''/\New E E''/\Q v E'':=by
 obtain⟨N0,hN⟩:=h;have h2:E.j<=E'.low:=hn.low _ (Nat.le_refl _) (Nat.le_refl _);have h3:E.j<=E'.j:=hn.le.j;cases hrv:yI RD v with
 |true =>
  refine⟨v,E,⟨N0,λN hNN=>?_⟩,New.refl _,hr hrv⟩
  have h1:=hN N hNN;unfold uT;rw[show(⟨E.heap,E.j,E.j⟩:St)=E.re from rfl,h1];show zAB E v E'=_;unfold zAB;rw[(yJ _ _).2 h2,hrv];rfl
 |false =>
  refine⟨v,⟨E'.heap,E'.j,min E.low E'.low⟩,⟨N0,λN hNN=>?_⟩,⟨⟨h3,λb hb=>hn.le.get b hb⟩,λm h4 h5=>?_⟩,hQ _ _ hq ⟨Nat.le_refl _,λ_ _=>rfl⟩⟩
  .have h1:=hN N hNN;unfold uT;rw[show(⟨E.heap,E.j,E.j⟩:St)=E.re from rfl,h1];show zAB E v E'=_;unfold zAB;rw[hrv,Bool.and_false,cond_false,(yJ _ _).2 h3,cond_true,vC,zBZ]
  .show m<=min E.low E'.low;omega
theorem xV(h:a<=b):leI a b=true:=(vN a b).2 h
theorem xX(h:¬a<=b):leI a b=false:=by rw[yTW];simp;omega
theorem zT(h:a<b):ltI a b=true:=(zKR a b).2 h
theorem zY(h:¬a<b):ltI a b=false:=by rw[yTU];simp;omega
theorem wU(h:a=b):eqI a b=true:=(xOS a b).2 h
theorem wG(h:¬a=b):eqI a b=false:=by rw[Bool.eq_false_iff];exact λe=>h ((xOS a b).1 e)
theorem uA(h:¬a=b):(!eqI a b)=true:=by rw[wG h];rfl
theorem yY(h:a=b):(!eqI a b)=false:=by rw[wU h];rfl
end
end Go.Lay

namespace Go.Lay
open Go
variable{aw:FuncId}{t:TypeId}{v:Value}
section
variable{P:Program}{rec:Rec}{Z:Inj}{E E':St}{w:World}

def xZZ(aw:FuncId)(rec:Rec):Rec:=λr args E=>match r with
 |.func f=>match args with
  |[]=>bif Nat.beq f aw then some (.bool true,E)else rec (.func f) [] E
  |a::l=>rec (.func f) (a::l) E
 |.yield l=>rec (.yield l) args E
def topR(P:Program)(aw:FuncId)(N:Nat):Rec:=xZZ aw (zZ P N)
structure ShutF(P:Program)(aw:FuncId):Prop where
 ok : ∀ (Z : Inj) (E : St) (w : World), Rep Z E w → (∃ fn, P.funcs[aw]? = some fn ∧ fn.body.isSome = true ∧ fn.name ≠ "runtime.NumGoroutine") ∧ ∀ n, CallsIn (Fw none) n P aw ⟨[]⟩ w (zPH Z E w (.bool true) E)
theorem xBU(h:RecSound P rec)(hc:ShutF P aw):RecSound P (xZZ aw rec):=by
 refine⟨λf args E v E' hr Z w args' hrep ha=>?_,λl args E v E' hr=>h.yield l args E v E' hr⟩
 cases args with
 |cons a l=>exact h.func f (a::l) E v E' hr Z w args' hrep ha
 |nil =>
  have hr:(bif Nat.beq f aw then some (.bool true,E)else rec (.func f) [] E)=some (v,E'):=hr;rcases zCZ hr with ⟨hf,hr⟩|⟨_,hr⟩
  .have hf:=Nat.eq_of_beq_eq_true hf;simp at hr;obtain⟨rfl,rfl⟩:=hr;subst hf;cases ha
   exact hc.ok Z E w hrep
  .exact h.func f [] E v E' hr Z w args' hrep ha
theorem xHZ(hP:ProgOk P){aw:FuncId}(hc:ShutF P aw)(N:Nat):RecSound P (topR P aw N):=xBU (zKK hP N) hc
theorem xVM(hP:ProgOk P){l:List Ent}(hl:xMR P l){N:Nat}{f:FuncId}(h:okB (zRR P (wAT l (zZ P N)) N f [] wAR)=true):ShutF P f:=by
 refine⟨λZ E w hr=>?_⟩
 obtain⟨E',hb⟩:=wAP h;obtain⟨h1,h2⟩:=yCO hP (xJY hP hl N) hb (wMH w) .nil;refine⟨h1,λn=>CallsIn.mono (h2 n) (λe w' hR=>?_)⟩
 cases e with
 |returned v' =>
  obtain⟨Z',hv,hg⟩:=hR;have hs:∀c,c<w.heap.size->w'.heap[c]?=w.heap[c]?:=λc hc=>hg.pres.same c hc (λb hb=>by simp[xNY]at hb)
  have hv:=hv.bool_inv;subst hv;exact⟨Z,.bool true,Ext.refl _ _ _,hr.grown hg.pres.size hs,⟨hg.pres.size,λc hc _=>hs c hc,hg.pres.tape,hg.pres.os,hg.pres.output,hg.pres.fr⟩,Nat.le_refl _,Nat.le_refl _⟩
 |panicked _=>exact hR.elim
 |outgrown=>exact hR.elim
theorem xSL{N:Nat}:uT (topR P aw N) (.func aw) [] E=some (.bool true,E):=by
 unfold uT;have e:topR P aw N (.func aw) [] ⟨E.heap,E.j,E.j⟩=some (.bool true,⟨E.heap,E.j,E.j⟩):=by
  show(bif Nat.beq aw aw then _ else _)=_;rw[Nat.beq_refl];rfl
 rw[e];show zAB E _ _=_;unfold zAB;rw[(yJ _ _).2 (Nat.le_refl _)];rfl

variable{H:Type}{enc:TypeId×Value->H}{held:Bool}
def WTs(P:Program)(E:St)(n:Nat):List TypeId->List Value->Prop
 |[],[]=>True
 |t::ts,v::vs=>WT P E n t v.cells.toList/\WTs P E n ts vs
 |_,_=>False
theorem xJV{n:Nat}{d:DataW H}{ps:List MemPlace}(hp:zKN P n t=true)(h:DataW.Trod enc P w 0 (λ_=>true) held t v d ps)(hr:Rep Z E w)(ho:Ro Z w)(hrow:zTQ w v.cells.toList) :
  ∃Z' E' av,Rep Z' E' w/\Ro Z' w/\Sub Z Z'/\Le E E'/\VR Z' av v/\WT P E' n t av.cells.toList:=by
 obtain⟨fuel,h⟩:=h;obtain⟨Z',E',cs,r1,o1,s1,l1,v1,w1⟩:=xJW n t hp fuel _ _ Z E h hr ho hrow;have one:(∀c,v≠.agg c)->v.cells.toList=[v]->∃Z' E' av,Rep Z' E' w/\Ro Z' w/\Sub Z Z'/\Le E E'/\VR Z' av v/\WT P E' n t av.cells.toList:=by
  intro hna e;rw[e]at v1;cases v1 with
  |cons hx hn =>
   cases hn
   rename_i x;refine⟨Z',E',x,r1,o1,s1,l1,hx, ?_⟩
   have hc:=hx.cells;rw[e]at hc;have:x.cells.toList=[x]:=by
    cases x with
    |agg cs =>
     exfalso;cases hx with
     |atom hat=>exact absurd hat (by simp[zAC])
     |agg _ _=>exact hna _ rfl
    |_=>rfl
   rw[this];exact w1
 cases v with
 |agg c =>
  refine⟨Z',E',.agg ⟨cs⟩,r1,o1,s1,l1, ?_,w1⟩
  cases c with|mk l=>exact VR.agg' v1
 |_=>exact one (by simp) rfl
theorem xBZ{n:Nat}:∀{ts:List TypeId} {vs:List Value} {ds:List (DataW H)} {ps:List MemPlace} {Z:Inj} {E:St},DataW.TrodAll enc P w 0 (λ_=>true) held ts vs ds ps->(∀t∈ts,zKN P n t=true)->Rep Z E w->Ro Z w->(∀v∈vs,zTQ w v.cells.toList) ->
  ∃Z' E' avs,Rep Z' E' w/\Ro Z' w/\Le E E'/\Sub Z Z'/\VRs Z' avs vs/\WTs P E' n ts avs
 |[],[],[],ps,Z,E,h,_,hr,ho,_=>⟨Z,E,[],hr,ho,Le.refl _,Sub.refl _,.nil,trivial⟩
 |t::ts,v::vs,d::ds,ps,Z,E,h,hp,hr,ho,hrow=>by
  obtain⟨p,q,h1,h2,_⟩:=h;obtain⟨Z1,E1,av,r1,o1,s1,l1,v1,w1⟩:=xJV (hp t (by simp)) h1 hr ho (hrow v (by simp));obtain⟨Z2,ik,avs,r2,o2,l2,s2,v2,w2⟩:=xBZ h2 (λt ht=>hp t (by simp[ht])) r1 o1 (λv hv=>hrow v (by simp[hv]));exact⟨Z2,ik,av::avs,r2,o2,l1.trans l2,s1.trans s2,.cons (v1.sub s2) v2,w1.le l2,w2⟩
 |[],_::_,_,_,_,_,h,_,_,_,_=>h.elim
 |_::_,[],_,_,_,_,h,_,_,_,_=>h.elim
 |[],[],_::_,_,_,_,h,_,_,_,_=>h.elim
 |_::_,_::_,[],_,_,_,h,_,_,_,_=>h.elim

theorem zQF(h:Value.okWide P w .any 0 t v):zTQ w v.cells.toList:=by
  have cell:∀{u:TypeId} {A:Addr} {len cap:Nat},Cell.okWide P w .any 0 u (.slice (some A) len cap)->∃(c:Nat) (arr:Array Value) (el:TypeId) (fr:Nat×Nat),w.heap[c]?=some (.cells arr el fr):=by
    intro u A len cap hc;have hok:Cell.ok P w .any 0 u (.slice (some A) len cap):=by
      unfold Cell.okWide at hc;split at hc <;> first|exact hc|(rename_i heq;cases heq)
    unfold Cell.ok at hok;split at hok <;> first|(rename_i heq;cases heq;done)|skip
    all_goals first
      | (rename_i heq;cases heq;obtain⟨_,_,_,_,row,cells,hs,_⟩:=hok
         unfold World.shape? at hs
         split at hs
         . rename_i c elem hh;exact⟨_,_,_,_,hh⟩
         . cases hs)
      |exact hok.elim
      |skip
  intro A len cap hm;unfold Value.okWide at h;split at h
  . obtain⟨cs,rfl,_,ts,_,_,hc⟩:=h;obtain⟨i,hi⟩:=List.getElem?_of_mem hm;obtain⟨u,_,hu⟩:=hc i _ (by simpa [Value.cells] using hi);exact cell hu
  . obtain⟨cs,rfl,_,ts,_,_,hc⟩:=h;obtain⟨i,hi⟩:=List.getElem?_of_mem hm;obtain⟨u,_,hu⟩:=hc i _ (by simpa [Value.cells] using hi);exact cell hu
  . cases v with
    |slice a l c =>
      simp[Value.cells]at hm;obtain⟨rfl,rfl,rfl⟩:=hm;exact cell h
    |agg cs =>
      exfalso;unfold Cell.okWide at h;split at h <;> first|(rename_i heq;cases heq;done)|skip
      unfold Cell.ok at h;split at h <;> first|(rename_i heq;cases heq;done)|exact h.elim|skip
    |_=>simp[Value.cells]at hm
end
end Go.Lay

namespace Go.Lay
open Go Go.RowKit
variable{W W':World}
theorem zRN(h:Grown W W'){b:Nat}(hb:b<W.heap.size):W'.heap[b]?=W.heap[b]?:=by
 have:=h.1.2.2 b hb;split at this
 .rename_i c t fr c' t' fr' h1 h2;obtain⟨rfl,rfl,hs,hj⟩:=this;rw[h1,h2];have:c'=c:=Array.ext_getElem? (λj=>hj j (λf=>f));rw[this]
 .rename_i h1 h2;rcases this with f|⟨rfl,rfl⟩
  .exact f.elim
  .rw[h1,h2]
 .exact this
theorem yLP(h:Grown W W'){p:MemPlace}(hp:p.block<W.heap.size):W.sameAt W' p:=by
 cases p with
 |cell b o=>exact World.cell?_of_block (w:=W) (zRN h hp)
 |map b=>exact zRN h hp
section
variable{H:Type}{enc:TypeId×Value->H}{P:Program}{w w':World}{b:Nat}{sp:Nat->Bool}{held:Bool}
theorem zRF:∀{ts:List TypeId} {vs:List Value} {ds:List (DataW H)} {ps:List MemPlace},DataW.TrodAll enc P w b sp held ts vs ds ps->(∀p∈ps,w.sameAt w' p)->DataW.TrodAll enc P w' b sp held ts vs ds ps
 |[],[],[],_,h,_=>h
 |_::_,_::_,_::_,_,⟨p,q,⟨n,h1⟩,h2,e⟩,hs=>⟨p,q,⟨n,DataW.trod_carry _ _ _ _ h1 (λx hx=>hs x (by rw[e];exact List.mem_append_left _ hx))⟩,zRF h2 (λx hx=>hs x (by rw[e];exact List.mem_append_right _ hx)),e⟩
theorem xWB(K:Kids P (· < P.types.size))(hz:∀(t:Nat) (e:TypeId),t<P.types.size->P.underlying t=some (.slice e)->0<P.cellsOf e){ts:List TypeId}{vs:List Value}{ds:List (DataW H)}{ps:List MemPlace}
  (hT:∀t∈ts,t<P.types.size) (h:DataW.TrodAll enc P w 0 (λ_=>true) true ts vs ds ps) (hg:Grown w w') (hlt:∀p∈ps,p.block<w.heap.size) (hs:∀p∈ps,sp p.block=true):DataW.TrodAll enc P w' 0 sp true ts vs ds ps :=
 zRF (DataW.TrodAll.respare K hz hT h hs) (λp hp=>yLP hg (hlt p hp))
end
end Go.Lay

namespace Go.Lay
open Go
section
variable{P:Program}{R:Nat->Rec}{rd:Option Nat}{c:Code}{fr fr':Fr}{E E':St}{e:Exit}{aw:FuncId}
def zZN(P:Program)(l:Nat)(args:List Value)(E:St)(v:Value)(E':St):Prop:=∃N0,∀N,N0<=N->uT (zZ P N) (.yield l) args E=some (v,E')
end
end Go.Lay

namespace Go.Lay
open Go
section
variable{P:Program}{E E':St}{cs:List Value}
end
end Go.Lay

namespace Go.Lay
open Go
variable{len:Nat}{p:Option Addr}
structure Only(S:Nat->Prop)(E E':St):Prop where
 j:E.j<=E'.j
 get:∀b,b<E.j->¬S b->yP E'.heap b=yP E.heap b
 low:∀m,m<=E.low->m<=E.j->(∀b,b<E.j->S b->m<=b)->m<=E'.low
section
variable{P:Program}{S T:Nat->Prop}{E E' V1 il iK:St}{cs:List Value}{n b:Nat}
theorem Only.refl(S:Nat->Prop)(E:St):Only S E E:=⟨Nat.le_refl _,λ_ _ _=>rfl,λ_ h _ _=>h⟩
theorem Only.trans(h:Only S V1 il)(k:Only T il iK)(hT:∀b,b<V1.j->T b->S b)(hT2:∀m,m<=V1.j->(∀b,b<V1.j->S b->m<=b)->∀b,b<il.j->T b->m<=b:=by intro m h1 h2 b h3 h4;(first|exact h4.elim|omega)):Only S V1 iK :=
 ⟨Nat.le_trans h.j k.j,λb hb hs=>(k.get b (Nat.lt_of_lt_of_le hb h.j) (λht=>hs (hT b hb ht))).trans (h.get b hb hs),λm h1 h2 h3=>k.low m (h.low m h1 h2 h3) (Nat.le_trans h2 h.j) (hT2 m h2 h3)⟩
theorem Only.trans'(h:Only S V1 il)(k:Only T il iK)(hT:∀b,b<il.j->T b->S b\/V1.j<=b):Only S V1 iK :=
 ⟨Nat.le_trans h.j k.j,λb hb hs=>(k.get b (Nat.lt_of_lt_of_le hb h.j) (λht=>(hT b (Nat.lt_of_lt_of_le hb h.j) ht).elim hs (λh=>by omega))).trans (h.get b hb hs),λm h1 h2 h3=>k.low m (h.low m h1 h2 h3) (Nat.le_trans h2 h.j) (λb hb ht=>by
  rcases hT b hb ht with h4|h4
  .by_cases hb':b<V1.j
   .exact h3 b hb' h4
   .omega
  .omega)⟩
theorem Only.mono(h:Only S E E')(hT:∀b,b<E.j->S b->T b):Only T E E':=⟨h.j,λb hb hs=>h.get b hb (λk=>hs (hT b hb k)),λm h1 h2 h3=>h.low m h1 h2 (λb hb k=>h3 b hb (hT b hb k))⟩
theorem New.only(h:New E E'):Only S E E':=⟨h.le.j,λb hb _=>h.le.get b hb,λm h1 h2 _=>h.low m h1 h2⟩
theorem Only.add(E:St)(y:Blk):Only S E (E.add y):=(New.add E y).only
theorem Only.row(E:St)(cs:List Value)(n:Nat):Only S E (E.row cs n):=(New.row E cs n).only
theorem Only.put{y:Blk}(hs:E.j<=b\/S b):Only S E (E.put b y):=⟨Nat.le_refl _,λc hc hs'=>by rw[St.put_get,if_neg (by rintro rfl;rcases hs with h|h;omega;exact hs' h)],λm h1 h2 h3=>by
 simp only[St.put_low];rcases hs with h|h
 .omega
 .by_cases hb:b<E.j
  .have:=h3 b hb h;omega
  .omega⟩
theorem Only.own(hs:E.j<=b\/S b):Only S E (E.own b cs n):=Only.put hs
theorem Only.re(E:St):Only S E E.re:=⟨Nat.le_refl _,λ_ _ _=>rfl,λ_ _ h _=>h⟩
theorem Only.own'(h:Only S E E')(k:Own E b cs n)(hs:¬S b):Own E' b cs n:=⟨by rw[h.get b k.lt hs];exact k.get,Nat.lt_of_lt_of_le k.lt h.j⟩
theorem Only.rw'{a:Addr}(h:Only S E E')(k:Row E a cs)(hs:¬S a.block):Row E' a cs:=⟨by
 have:=k.rd
 unfold xG at this ⊢
 rw[h.get _ k.lt hs];exact this,Nat.lt_of_lt_of_le k.lt h.j⟩
theorem Only.slp'(h:Only S E E')(k:SlP E n p len cs)(hs:∀a,p=some a->¬S a.block):SlP E' n p len cs:=by
 refine⟨k.1, ?_⟩
 cases p with
 |none=>exact k.2
 |some a=>exact h.rw' (show Row E a cs from k.2) (hs a rfl)
theorem Only.slv'{t:Nat}{vs:List Value}(h:Only S E E')(k:SlV P E t n p len vs)(hs:∀a,p=some a->¬S a.block):SlV P E' t n p len vs:=⟨h.slp' k.1 hs,k.2⟩
theorem Only.app'{n0:Nat}{v:Value}(h:Only S E E')(k:App E n0 n v len cs)(hs:∀a l c,v=.slice (some a) l c->¬S a.block):App E' n0 n v len cs:=by
 cases k with
 |nil=>exact .nil
 |more g1 g2 g3 g4 g5 g6 g7=>exact .more (by rw[h.get _ g4 (hs _ _ _ rfl)];exact g1) g2 g3 (Nat.lt_of_lt_of_le g4 h.j) g5 g6 g7
def wOQ(P:Program)(R:Nat->Rec)(g:Operand)(ps:Array Tmp)(as bo:Code)(fr:Fr)(E:St)(e:Exit)(fr':Fr)(E':St):Prop:=∃N0,∀N,N0<=N->zSV (R N) none g ps as bo fr E=some (e,fr',E')
def xEN(ms:List Nat)(E E':St):Prop:=zVN ms E λs=>s=E'
theorem zKC:∀{ms:List Nat} {E:St} {K:St->Prop},xEN ms E E'->K E'->zVN ms E K
 |[],_,_,h,k=>by cases h;exact k
 |_::_,_,_,h,k=>⟨h.1,zKC h.2 k⟩
theorem zVU:∀{ms:List Nat} {E:St},(∀d∈ms,yP E.heap d=some .defd)->ms.Nodup->∃E',xEN ms E E'/\E'.j=E.j/\(∀b,b ∉ ms->yP E'.heap b=yP E.heap b)/\∀m,m<=E.low->(∀d∈ms,m<=d)->m<=E'.low
 |[],E,_,_=>⟨E,rfl,rfl,λ_ _=>rfl,λ_ h _=>h⟩
 |d::ms,E,h,hn=>by
  have hn:=List.nodup_cons.1 hn;obtain⟨E',h1,h2,h3,h4⟩:=zVU (ms:=ms) (E:=E.shut d) (λc hc=>by
   rw[St.shut_get,if_neg (by rintro rfl;exact hn.1 hc)];exact h c (by simp[hc])) hn.2
  refine⟨E',⟨h d (by simp),h1⟩,h2,λb hb=>?_,λm hm hd=>h4 m ?_ (λc hc=>hd c (by simp[hc]))⟩
  .simp at hb;rw[h3 b hb.2,St.shut_get,if_neg hb.1]
  .have:=hd d (by simp);simp;omega
end
end Go.Lay

namespace Go.Lay
open Go
variable{n b i:Nat}{t:TypeId}{v:Value}
section
variable{P:Program}{E E':St}{cs:List Value}
def AtP(p:Option Addr)(b:Nat):Prop:=∃a,p=some a/\a.block=b
theorem AtP.none{b:Nat}:¬AtP none b:=by rintro⟨a,h,_⟩;cases h
theorem yPR{st xt e m k len n0:Nat}{a2:Addr}{p:Option Addr}{c:Nat}{xs:List Value}(T:AppT P st xt e n)(hA:App E n0 n (.slice p len c) len cs)(hr:Row E a2 xs)(hm:xs.length=m*n)(hp:0<m)(hroom:len+m<=1073741824)
  (hc:xs.all cellB=true) (hn0:n0<=E.j):∃p' c' E',xO P st xt (.slice p len c) (.slice (some a2) m k) E=some (.slice p' (len+m) c',E')/\App E' n0 n (.slice p' (len+m) c') (len+m) (cs++xs)/\Only (AtP p) E E'/\(∀b,AtP p' b->AtP p b\/E.j<=b):=by
 obtain⟨p',c',E',h1,h2,h3⟩:=wED (k:=k) T hA hr hm hp hroom hc hn0;refine⟨p',c',E',h1,h2, ?_⟩
 obtain⟨xd,hxd,hxi⟩:=T.src;obtain⟨ei,z,hei,hz,hby,hrz,hzl⟩:=T.info;have hrd:=hr.rd;rw[hm]at hrd;have hsrc:zBC E n z xd (.slice (some a2) m k)=some (m,xs):=by
  unfold zBC;cases xd with
  |int _=>cases hxi
  |_=>simp only[uD,hrd,Option.map_some]
 have hcond:(zBH (len+m) n ei.bytes&&xs.all cellB&&Nat.beq xs.length (m*n)&&yI RD z&&Nat.beq z.cells.toList.length n)=true:=by
  unfold zBH;rw[(yJ _ _).2 hroom,(yJ _ _).2 T.le,(yJ _ _).2 hby,hc,hm,Nat.beq_refl,hrz,hzl];rfl
 have hble:∀x:Nat,Nat.ble (x+m) x=false:=λx=>by rw[Bool.eq_false_iff];intro e;have:=(yJ _ _).1 e;omega
 cases hA with
 |nil =>
  have hc0:xC 0=0:=by unfold xC;have:=uF;rw[if_neg (by omega)]
  have hc1:xR 0=true:=(xN 0).2 uF;unfold xO at h1;simp only[T.el,hxd,hei,hz,hsrc,hcond,cond_true,uC,hc0,hble,cond_false,hc1,Nat.beq_refl,xD,Option.some.injEq,Prod.mk.injEq,Value.slice.injEq]at h1;obtain⟨⟨rfl,_,_⟩,rfl⟩:=h1;exact⟨Only.add _ _,λb' hb=>.inr (by obtain⟨a,e,rfl⟩:=hb;cases e;exact Nat.le_refl _)⟩
 |@more b' s nx _ _ sp log h hs hb hlt hl hpp hsn =>
  have hex:vP ((s,cs.length)::log) (yO ⟨b',0,sp⟩)=some cs.length:=by
   have:Nat.beq s (yO ⟨b',0,sp⟩)=true:=by unfold yO;simp only[hs];exact Nat.beq_refl _
   simp only[vP,this,cond_true]
  have hlf:vE ((s,cs.length)::log) (yO ⟨b',0,sp⟩)=(s,cs.length)::log:=by
   have:Nat.beq s (yO ⟨b',0,sp⟩)=true:=by unfold yO;simp only[hs];exact Nat.beq_refl _
   simp only[vE,this,cond_true]
  have hg:(Nat.beq len len&&Nat.beq (0+len*n) cs.length&&Nat.beq n n&&!false&&Nat.blt 0 n)=true:=by
   rw[Nat.beq_refl,Nat.zero_add,hl,Nat.beq_refl,Nat.beq_refl,(xY 0 n).2 T.pos];rfl
  unfold xO at h1;simp only[T.el,hxd,hei,hz,hsrc,hcond,cond_true,uC,zBK,hble,cond_false,zHF,zLP,h,hex,hg,zCV,vC,St.write_eq,hlf,Option.some.injEq,Prod.mk.injEq,Value.slice.injEq]at h1;obtain⟨⟨rfl,_,_⟩,rfl⟩:=h1;exact⟨Only.put (.inr ⟨_,rfl,rfl⟩),λb'' hb=>.inl (by obtain⟨a,e,rfl⟩:=hb;cases e;exact⟨_,rfl,rfl⟩)⟩
theorem Own.ldI(h:Own E b cs n)(ht:xI P t=some false)(hi:cs[i]?=some v):zJ P E t (zO ⟨b,0,none⟩ (Int.toNat (i:Int)*1))=some v:=by
 rw[Int.toNat_natCast,Nat.mul_one];have:=h.rw.load1 (P:=P) ht (k:=i) hi;exact this
theorem Own.stI(h:Own E b cs n)(hv:v.cells.toList=[v])(hs:yR P t=some 1)(hc:cellB v=true)(hi:i<cs.length) :
  yN P (evL [.pointer (some (zO ⟨b,0,none⟩ (Int.toNat (i:Int)*1))),v]) E (.store t (.tmp 0) (.tmp 1))=some (undef,E.own b (cs.set i v) n):=by
 have e:zO ⟨b,0,none⟩ (Int.toNat (i:Int)*1)=⟨b,i,none⟩:=by rw[Int.toNat_natCast,Nat.mul_one];simp[zO]
 rw[e];refine h.store (k:=i) hv hs (by simp[hc]) (by simp;omega) ?_
 rw[List.set_eq_take_append_cons_drop,if_pos hi];rfl
end
end Go.Lay

namespace Go.Lay
open Go
variable{n:Nat}{f:Tm}{l:List (Nat×Value)}{E E1:St}{o:Op}{as:List Ans}{K:Value->St->List Ans->Prop}{fr fr1:Fr}{x y c:Code}{e:Exit}
def yTY:Value->Bool
 |.tuple ⟨[]⟩=>true
 |_=>false
theorem xKF{v:Value}(h:yTY v=true):v=undef:=by
 unfold yTY at h;split at h
 .rfl
 .cases h
def shp:Nat->Bool->Tr Value->Bool
 |0,_,.leaf=>true
 |d+1,c,.node (some v) l r=>(c||yTY v)&&(shp d false l&&shp d true r)
 |_,_,_=>false
def zFD:List Bool->Nat
 |[]=>0
 |b::p=>(bif b then 1 else 0)+2*zFD p
def wDM:Bool->List Bool->Prop
 |c,[]=>c=true
 |_,b::p=>wDM b p
theorem xIE{g:Nat->Value}:∀(d:Nat) (c:Bool) (t:Tr Value) (w a:Nat),shp d c t=true->(∀p v,wDM c p->Tr.getP p t=some v->g (a+w*zFD p)=v)->t=trF g d w a c
 |0,c,.leaf,w,a,_,_=>rfl
 |0,c,.node _ _ _,w,a,h,_=>by simp[shp]at h
 |d+1,c,.leaf,w,a,h,_=>by simp[shp]at h
 |d+1,c,.node none l r,w,a,h,_=>by simp[shp]at h
 |d+1,c,.node (some v) l r,w,a,h,hg=>by
  simp only[shp,Bool.and_eq_true]at h;obtain⟨h1,h2,h3⟩:=h;have e1:v=bif c then g a else undef:=by
   cases c with
   |true =>
    have:=hg [] v rfl rfl;simp[zFD]at this;simp[this]
   |false=>simpa using xKF (by simpa using h1)
  have e2:=xIE d false l (w*2) a h2 (λp x hp hx=>by
   have:=hg (false::p) x (by cases p <;> exact hp) hx;simp[zFD]at this;rw[<- this];congr 1;rw[Nat.mul_assoc])
  have e3:=xIE d true r (w*2) (a+w) h3 (λp x hp hx=>by
   have:=hg (true::p) x (by cases p <;> exact hp) hx;simp only[zFD,cond_true]at this;rw[<- this];congr 1;rw[Nat.mul_add,Nat.mul_one,Nat.mul_assoc,Nat.add_assoc])
  rw[e2,e3,e1];rfl
theorem xEC:∀(p:List Bool),wDM true p->∀f,zFD p<=f->bits f (zFD p)=p
 |[],_,f,_=>by
  cases f with
  |zero=>rfl
  |succ f=>simp[bits,zFD]
 |b::p,hp,f,hf=>by
  have hp:wDM b p:=hp;have hpos:0<(bif b then 1 else 0)+2*zFD p:=by
   cases p with
   |nil =>
    have:b=true:=hp;subst this;simp[zFD]
   |cons b2 q =>
    have key:∀(q:List Bool) (b:Bool),wDM b q->b=true\/0<zFD q:=by
     intro q;induction q with
     |nil=>intro b h;exact .inl h
     |cons c q ih =>
      intro b h;rcases ih c h with h1|h1
      .right;simp[zFD,h1];omega
      .right;simp only[zFD];omega
    rcases key q b2 hp with h1|h1
    .simp[zFD,h1];omega
    .simp only[zFD];omega
  simp only[zFD]at hf ⊢;match f with
  |0=>omega
  |f+1 =>
   have ih:bits f (zFD p)=p:=by
    cases p with
    |nil=>cases f <;> simp[bits,zFD]
    |cons b2 q=>exact xEC (b2::q) hp f (by cases b <;> simp at hf <;> omega)
   have hb:Nat.beq ((bif b then 1 else 0)+2*zFD p) 0=false:=by
    rw[Bool.eq_false_iff];intro e;have:=Nat.eq_of_beq_eq_true e;omega
   have h2:((bif b then 1 else 0)+2*zFD p) / 2=zFD p:=by cases b <;> simp <;> omega
   have h3:Nat.beq (((bif b then 1 else 0)+2*zFD p) % 2) 1=b:=by
    cases b
    .rw[Bool.eq_false_iff];intro e;have:=Nat.eq_of_beq_eq_true e;simp at this
    .have:((bif true then 1 else 0)+2*zFD p) % 2=1:=by simp
     rw[this];rfl
   simp only[bits,hb,cond_false,h3,h2,ih]
def yUD(n:Nat)(f:Tm):Bool:=Nat.beq f.n n&&shp ((way n).length+1) true f.t
def AG(f:Tm):List (Nat×Value)->Prop
 |[]=>True
 |(i,v)::l=>f.nth i=v/\AG f l
def ARf:List (Nat×Value)->Prop
 |[]=>True
 |(_,v)::l=>v=v/\ARf l
theorem arf:∀l:List (Nat×Value),ARf l
 |[]=>trivial
 |(_,_)::l=>⟨rfl,arf l⟩
theorem wKR{f:Tm}:∀{l:List (Nat×Value)},AG f l->ov l f.nth=f.nth
 |[],_=>rfl
 |(i,v)::l,h=>by
  have ih:=wKR h.2;funext j;unfold ov;cases hb:Nat.beq i j with
  |false=>rw[cond_false,ih]
  |true=>rw[cond_true,<- Nat.eq_of_beq_eq_true hb,h.1]
theorem xCZ(h:yUD n f=true)(hl:AG f l):f=Fm n (ov l f.nth):=by
 unfold yUD at h;simp only[Bool.and_eq_true]at h;obtain⟨h1,h2⟩:=h;have h1:=Nat.eq_of_beq_eq_true h1;subst h1;rw[wKR hl];have:=xIE (g:=f.nth) ((way f.n).length+1) true f.t 1 0 h2 (λp v hp hv=>by
  rw[Nat.zero_add,Nat.one_mul];unfold Tm.nth way;rw[xEC p hp _ (Nat.le_refl _),hv])
 cases f with
 |mk n t=>unfold Fm;exact congrArg (Tm.mk n) this

def uR(R:Nat->Rec):zXP:=λr args E v E'=>∃N0,∀N,N0<=N->uT (R N) r args E=some (v,E')
def xEO(n:Nat):List Alt->Exit->Fr->St->Prop
 |[],_,_,_=>False
 |a::as,e,fr,E=>(e=a.e/\∃t g,fr=⟨Fm n (ov (a.l t) g),a.ms t⟩/\a.Q t E)\/xEO n as e fr E
def yPZ:List (Exit×(St->Prop))->Exit->St->Prop
 |[],_,_=>False
 |a::as,e,E=>(e=a.1/\a.2 E)\/yPZ as e E
def yQE(n:Nat):List Alt->(Exit->Fr->St->Prop)->Prop
 |[],_=>True
 |a::as,K=>(∀(t:a.T) (g:Nat->Value) (E:St),a.Q t E->K a.e ⟨Fm n (ov (a.l t) g),a.ms t⟩ E)/\yQE n as K
def xMS(n:Nat)(l:List (Nat×Value))(ms:List Nat):List (Exit×(St->Prop))->(Exit->Fr->St->Prop)->Prop
 |[],_=>True
 |a::as,K=>(∀(g:Nat->Value) (E:St),a.2 E->K a.1 ⟨Fm n (ov l g),ms⟩ E)/\xMS n l ms as K
theorem zYV{n:Nat}{K:Exit->Fr->St->Prop}{e:Exit}{fr:Fr}{E:St}:∀{l:List Alt},yQE n l K->xEO n l e fr E->K e fr E
 |[],_,h=>h.elim
 |a::as,hc,h=>by
  rcases h with ⟨rfl,t,g,rfl,hq⟩|h
  .exact hc.1 t g E hq
  .exact zYV hc.2 h
theorem yIQ{n:Nat}{l0:List (Nat×Value)}{ms:List Nat}{K:Exit->Fr->St->Prop}{e:Exit}{g:Nat->Value}{E:St}:∀{l:List (Exit×(St->Prop))},xMS n l0 ms l K->yPZ l e E->K e ⟨Fm n (ov l0 g),ms⟩ E
 |[],_,h=>h.elim
 |a::as,hc,h=>by
  rcases h with ⟨rfl,hq⟩|h
  .exact hc.1 g E hq
  .exact yIQ hc.2 h
section
variable(P:Program)(R:Nat->Rec)
def yT(rd:Option Nat)(c:Code)(n:Nat)(l:List (Nat×Value))(ms:List Nat)(alts:List Alt)(E:St):Prop :=
 ∀g:Nat->Value,∃e fr' E',zCI P R rd c ⟨Fm n (ov l g),ms⟩ E e fr' E'/\xEO n alts e fr' E'
def yW(rd:Option Nat)(c:Code)(n:Nat)(l:List (Nat×Value))(ms:List Nat)(alts:List Alt)(E:St):Prop :=
 ∀g:Nat->Value,∃e fr' E',yCR P R rd c ⟨Fm n (ov l g),ms⟩ E e fr' E'/\xEO n alts e fr' E'
def zPI(gx:Operand)(ps:Array Tmp)(a b:Code)(n:Nat)(l:List (Nat×Value))(alts:List (Exit×(St->Prop)))(E:St):Prop :=
 ∀(g:Nat->Value) (ms:List Nat),∃e E',wOQ P R gx ps a b ⟨Fm n (ov l g),ms⟩ E e ⟨Fm n (ov l g),E.j::ms⟩ E'/\yPZ alts e E'
def wpE(rd:Option Nat):Code->List Ans->Fr->St->(Exit->Fr->St->List Ans->Prop)->Prop
 |.skip,as,fr,E,K=>K .normal fr E as
 |.label _,as,fr,E,K=>K .normal fr E as
 |.ret,as,fr,E,K=>K .ret fr E as
 |.exit id,as,fr,E,K=>K (.exit id) fr E as
 |.seq x y,as,fr,E,K=>wpE rd x as fr E λe fr E as=>match e with
  |.normal=>wpE rd y as fr E K
  |e=>K e fr E as
 |.cond c x y,as,fr,E,K=>match as with
  |.cut n l alts::_=>(yUD n fr.f=true/\AG fr.f l/\yT P R rd (.cond c x y) n l fr.marks alts E)/\yQE n alts λe fr E=>∃as,K e fr E as
  |as=>match yV fr.f c with
   |.bool true=>wpE rd x as fr E K
   |.bool false=>wpE rd y as fr E K
   |_=>False
 |.block id c,as,fr,E,K=>match as with
  |.cut n l alts::_=>(yUD n fr.f=true/\AG fr.f l/\yT P R rd (.block id c) n l fr.marks alts E)/\yQE n alts λe fr E=>∃as,K e fr E as
  |as=>wpE rd c as fr E λe fr E as=>match e with
   |.exit i=>match Nat.beq i id with
    |true=>K .normal fr E as
    |false=>K (.exit i) fr E as
   |e=>K e fr E as
 |.scope c,as,fr,E,K=>wpE rd c as fr E K
 |.region _ ops d,as,fr,E,K=>zLS P (uR R) ops d as fr E K
 |.loop c,as,fr,E,K=>match as with
  |.lf n l alts::_=>(yUD n fr.f=true/\AG fr.f l/\yW P R rd c n l fr.marks alts E)/\yQE n alts λe fr E=>∃as,K e fr E as
  |_=>False
 |.rangeFunc g ps a b,as,fr,E,K=>match as,rd with
  |.rf n l alts::_,none=>(yUD n fr.f=true/\AG fr.f l/\zPI P R g ps a b n l alts E)/\xMS n l (E.j::fr.marks) alts λe fr E=>∃as,K e fr E as
  |_,_=>False
 |.goto _,_,_,_,_=>False
 |.refuse _,_,_,_,_=>False
end
section
variable{P:Program}{R:Nat->Rec}{rd:Option Nat}
theorem zPS{C:zXP}{K':Value->St->List Ans->Prop}(h:yGI P C f E o as K)(hk:∀v s a,K v s a->K' v s a):yGI P C f E o as K':=by
 unfold yGI at h ⊢;repeat' split at h
 all_goals first
  |exact h.elim
  |(simp only[*];exact⟨h.1,hk _ _ _ h.2⟩)
  |(simp only[*];exact hk _ _ _ h)
  |exact⟨h.1,hk _ _ _ h.2⟩
  |exact hk _ _ _ h
abbrev At3(v:Value)(E':St)(as':List Ans):Value->St->List Ans->Prop:=λv2 s2 a2=>v2=v/\s2=E'/\a2=as'
theorem yNE(h:yGI P (uR R) f E o as K):∃v E' as',K v E' as'/\∃N0,∀N,N0<=N->yGI P (zXC (R N)) f E o as (At3 v E' as'):=by
 unfold yGI at h;unfold yGI;repeat' split at h
 all_goals first
  |exact h.elim
  |(obtain⟨⟨N0,hN⟩,hk⟩:=h;exact⟨_,_,_,hk,N0,λN hl=>⟨hN N hl,rfl,rfl,rfl⟩⟩)
  |exact⟨_,_,_,h,0,λN _=>⟨rfl,rfl,rfl⟩⟩
  |exact⟨_,_,_,h.2,0,λN _=>by simp only[*];exact⟨h.1,rfl,rfl,rfl⟩⟩
  |exact⟨_,_,_,h,0,λN _=>by simp only[*];exact⟨rfl,rfl,rfl⟩⟩
  |exact⟨_,_,_,h.2,0,λN _=>⟨h.1,rfl,rfl,rfl⟩⟩
theorem zKA{ops:Array Oper}:∀(rest:List Oper) (as:List Ans) (f:Tm) (E:St) (l:List Seen) (K:Tm->St->List Seen->List Ans->Prop),zHS P (uR R) ops rest as f E l K ->
  ∃f' E' l' as',K f' E' l' as'/\∃N0,∀N,N0<=N->zHS P (zXC (R N)) ops rest as f E l λf2 s2 l2 a2=>f2=f'/\s2=E'/\l2=l'/\a2=as'
 |[],as,f,E,l,K,h=>⟨f,E,l,as,h,0,λ_ _=>⟨rfl,rfl,rfl,rfl⟩⟩
 |o::rest,as,f,E,l,K,h=>by
  unfold zHS at h;unfold zHS;split at h
  .rename_i hg;obtain⟨v,E1,as1,h1,N1,k1⟩:=yNE h;obtain⟨f',E',l',as',h2,N2,k2⟩:=zKA rest _ _ _ _ _ h1;refine⟨f',E',l',as',h2,N1+N2,λN hN=>?_⟩
   try simp only[hg]
   refine zPS (k1 N (by omega)) ?_
   rintro _ _ _ ⟨rfl,rfl,rfl⟩;exact k2 N (by omega)
  .rename_i hg;obtain⟨f',E',l',as',h2,N2,k2⟩:=zKA rest _ _ _ _ _ h;exact⟨f',E',l',as',h2,N2,λN hN=>by(try simp only[hg]);exact k2 N hN⟩
  .exact h.elim
theorem zNL{ops:Array Oper}:∀(rest:List Oper) (as:List Ans) (f:Tm) (E:St) (l:List Lk) (K:Tm->St->List Lk->List Ans->Prop),zDS P (uR R) ops rest as f E l K ->
  ∃f' E' l' as',K f' E' l' as'/\∃N0,∀N,N0<=N->zDS P (zXC (R N)) ops rest as f E l λf2 s2 l2 a2=>f2=f'/\s2=E'/\l2=l'/\a2=as'
 |[],as,f,E,l,K,h=>⟨f,E,l,as,h,0,λ_ _=>⟨rfl,rfl,rfl,rfl⟩⟩
 |o::rest,as,f,E,l,K,h=>by
  unfold zDS at h;unfold zDS;split at h
  .rename_i hg;obtain⟨v,E1,as1,h1,N1,k1⟩:=yNE h;obtain⟨f',E',l',as',h2,N2,k2⟩:=zNL rest _ _ _ _ _ h1;refine⟨f',E',l',as',h2,N1+N2,λN hN=>?_⟩
   try simp only[hg]
   refine zPS (k1 N (by omega)) ?_
   rintro _ _ _ ⟨rfl,rfl,rfl⟩;exact k2 N (by omega)
  .rename_i hg;obtain⟨f',E',l',as',h2,N2,k2⟩:=zNL rest _ _ _ _ _ h;exact⟨f',E',l',as',h2,N2,λN hN=>by(try simp only[hg]);exact k2 N hN⟩
  .exact h.elim
theorem zJZ{C:zXP}{ops:Array Oper}:∀(rest:List Oper) (as:List Ans) (f:Tm) (E:St) (l:List Seen) {K K':Tm->St->List Seen->List Ans->Prop},zHS P C ops rest as f E l K->(∀f s l a,K f s l a->K' f s l a)->zHS P C ops rest as f E l K'
 |[],as,f,E,l,K,K',h,hk=>hk _ _ _ _ h
 |o::rest,as,f,E,l,K,K',h,hk=>by
  unfold zHS at h ⊢;split at h
  .rename_i hg;try simp only[hg]
   exact zPS h λv s a hh=>zJZ rest _ _ _ _ hh hk
  .rename_i hg;try simp only[hg]
   exact zJZ rest _ _ _ _ h hk
  .exact h.elim
theorem zNK{C:zXP}{ops:Array Oper}:∀(rest:List Oper) (as:List Ans) (f:Tm) (E:St) (l:List Lk) {K K':Tm->St->List Lk->List Ans->Prop},zDS P C ops rest as f E l K->(∀f s l a,K f s l a->K' f s l a)->zDS P C ops rest as f E l K'
 |[],as,f,E,l,K,K',h,hk=>hk _ _ _ _ h
 |o::rest,as,f,E,l,K,K',h,hk=>by
  unfold zDS at h ⊢;split at h
  .rename_i hg;try simp only[hg]
   exact zPS h λv s a hh=>zNK rest _ _ _ _ hh hk
  .rename_i hg;try simp only[hg]
   exact zNK rest _ _ _ _ h hk
  .exact h.elim
theorem zPA{K K':Prop}:∀{l:List Lk},zFW l K->(K->K')->zFW l K'
 |[],h,hk=>hk h
 |s::ss,h,hk=>by
  unfold zFW at h ⊢;split
  .rename_i hs;(try simp only[hs]at h);exact⟨h.1,zPA h.2 hk⟩
  .rename_i hs;(try simp only[hs]at h);exact zPA h hk
theorem zTL{K:Prop}:∀{l:List Lk},zFW l K->K
 |[],h=>h
 |s::ss,h=>by
  unfold zFW at h;split at h
  .exact zTL h.2
  .exact zTL h
theorem zGW{K K':Prop}{l:List Lk}:∀{ps:List (Nat×Nat)},uW l ps K->(K->K')->uW l ps K'
 |[],h,hk=>hk h
 |p::ps,h,hk=>by
  unfold uW at h ⊢;split at h
  .rename_i sj sk h1 h2;try simp only[h1,h2]
   split at h
   .rename_i hw;exact⟨h.1,h.2.1,zGW h.2.2 hk⟩
   .rename_i hw;exact zGW h hk
  .exact h.elim
theorem zKG{K:Prop}{l:List Lk}:∀{ps:List (Nat×Nat)},uW l ps K->K
 |[],h=>h
 |p::ps,h=>by
  unfold uW at h;split at h
  .split at h
   .exact zKG h.2.2
   .exact zKG h
  .exact h.elim
theorem xAJ{id:Nat}{ops:Array Oper}{d:Bool}{K:Exit->Fr->St->List Ans->Prop}(h:zLS P (uR R) ops d as fr E K) :
  ∃e fr' E' as',zCI P R rd (.region id ops d) fr E e fr' E'/\K e fr' E' as':=by
 have fin:∀(f':Tm) (E':St) (as':List Ans),K .normal ⟨f',fr.marks⟩ E' as'->(∃N0,∀N,N0<=N->zLS P (zXC (R N)) ops d as fr E λe f2 s2 a2=>e=.normal/\f2=⟨f',fr.marks⟩/\s2=E')->∃e fr' E' as',zCI P R rd (.region id ops d) fr E e fr' E'/\K e fr' E' as':=by
  rintro f' E' as' hk ⟨N0,hN⟩;refine⟨.normal,⟨f',fr.marks⟩,E',as',⟨N0,λN hl=>?_⟩,hk⟩
  obtain⟨iC,jj,iE,_,h1,rfl,rfl,rfl⟩:=xHU (id:=id) (rec:=R N) N rd (K:=λe f2 s2 _=>e=.normal/\f2=⟨f',fr.marks⟩/\s2=E') (hN N hl);exact h1
 cases d with
 |false =>
  simp only[zLS]at h;obtain⟨f',E',l',as',h1,N0,hN⟩:=zKA _ _ _ _ _ _ h;refine fin f' E' as' h1 ⟨N0,λN hl=>?_⟩;simp only[zLS];exact zJZ _ _ _ _ _ (hN N hl) (by rintro _ _ _ _ ⟨rfl,rfl,rfl,rfl⟩;refine⟨?_, ?_, ?_⟩ <;> first|rfl|trivial)
 |true =>
  simp only[zLS]at h;split at h
  .rename_i h0 hp hf;obtain⟨f',E',l',as',h1,N0,hN⟩:=zKA _ _ _ _ _ _ h;refine fin f' E' as' h1 ⟨N0,λN hl=>?_⟩;unfold zLS;simp only[];rw[h0,hp,hf];exact zJZ _ _ _ _ _ (hN N hl) (by rintro _ _ _ _ ⟨rfl,rfl,rfl,rfl⟩;refine⟨?_, ?_, ?_⟩ <;> first|rfl|trivial)
  .rename_i ps fb h0 hno;obtain⟨f',E',l',as',h1,N0,hN⟩:=zNL _ _ _ _ _ _ h;refine fin f' E' as' (zKG (zTL h1)) ⟨N0,λN hl=>?_⟩;unfold zLS;dsimp only;have key:=zNK (K':=λf2 s2 l2 a2=>zFW l2 (uW l2 (yHO ops (CheckFast.beforeF ops)) (Exit.normal=Exit.normal/\(⟨f2,fr.marks⟩:Fr)=⟨f',fr.marks⟩/\s2=E'))) _ _ _ _ _ (hN N hl) (by
    rintro _ _ _ _ ⟨rfl,rfl,rfl,rfl⟩;exact zPA h1 (λx=>zGW x (λ_=>⟨rfl,rfl,rfl⟩)))
   split
   .rename_i g0 gp gf;exact absurd gf (hno gp)
   .exact key
   .rename_i g0;rw[h0]at g0;cases g0
  .exact h.elim
theorem zCI.seqN{fr2:Fr}{ik:St}(h1:zCI P R rd x fr E .normal fr1 E1)(h2:zCI P R rd y fr1 E1 e fr2 ik):zCI P R rd (.seq x y) fr E e fr2 ik:=by
 obtain⟨N1,k1⟩:=h1;obtain⟨N2,k2⟩:=h2;refine⟨N1+N2,λN hN=>?_⟩
 simp only[xK,xYU,k1 N (by omega)];exact k2 N (by omega)
theorem zCI.seqX(h1:zCI P R rd x fr E e fr1 E1)(he:e≠.normal):zCI P R rd (.seq x y) fr E e fr1 E1:=by
 obtain⟨N1,k1⟩:=h1;refine⟨N1,λN hN=>?_⟩
 simp only[xK,xYU,k1 N hN];cases e <;> first|rfl|exact absurd rfl he
theorem zCI.mapD(h1:zCI P R rd x fr E e fr1 E1)(h:∀N,xK P (R N) N rd y fr E=xK P (R N) N rd x fr E):zCI P R rd y fr E e fr1 E1:=by
 obtain⟨N1,k1⟩:=h1;exact⟨N1,λN hN=>by rw[h];exact k1 N hN⟩
theorem yCR.code{fr':Fr}{E':St}(h:yCR P R rd c fr E e fr' E'):zCI P R rd (.loop c) fr E e fr' E':=by
 obtain⟨N0,hN⟩:=h;exact⟨N0,λN hl=>by simp only[xK];exact hN N N hl hl⟩
theorem yPG{alts:List Alt}{K:Exit->Fr->St->List Ans->Prop}
  (h:(yUD n fr.f=true/\AG fr.f l/\yT P R rd c n l fr.marks alts E)/\yQE n alts λe fr E=>∃as,K e fr E as):∃e fr' E' as',zCI P R rd c fr E e fr' E'/\K e fr' E' as':=by
 obtain⟨⟨h1,h2,h3⟩,h4⟩:=h;obtain⟨e,fr',E',h5,h6⟩:=h3 fr.f.nth;rw[<- xCZ h1 h2]at h5;obtain⟨as,hk⟩:=zYV h4 h6;exact⟨e,fr',E',as,h5,hk⟩
theorem zEF:∀(c:Code) (as:List Ans) (fr:Fr) (E:St) (K:Exit->Fr->St->List Ans->Prop),wpE P R rd c as fr E K ->
  ∃e fr' E' as',zCI P R rd c fr E e fr' E'/\K e fr' E' as':=by
 intro c;induction c with
 |skip=>intro as fr E K h;exact⟨_,_,_,_,⟨0,λ_ _=>rfl⟩,h⟩
 |label _=>intro as fr E K h;exact⟨_,_,_,_,⟨0,λ_ _=>rfl⟩,h⟩
 |ret=>intro as fr E K h;exact⟨_,_,_,_,⟨0,λ_ _=>rfl⟩,h⟩
 |exit _=>intro as fr E K h;exact⟨_,_,_,_,⟨0,λ_ _=>rfl⟩,h⟩
 |goto _=>intro as fr E K h;simp[wpE]at h
 |refuse _=>intro as fr E K h;simp[wpE]at h
 |seq x y ihx ihy =>
  intro as fr E K h;simp only[wpE]at h;obtain⟨e,fr1,E1,as1,h1,h2⟩:=ihx _ _ _ _ h;cases e with
  |normal =>
   obtain⟨e,fr2,ik,as2,h3,h4⟩:=ihy _ _ _ _ h2;exact⟨e,fr2,ik,as2,h1.seqN h3,h4⟩
  |_=>exact⟨_,fr1,E1,as1,h1.seqX (by simp),h2⟩
 |cond c x y ihx ihy =>
  intro as fr E K h;unfold wpE at h;split at h
  .exact yPG h
  .split at h
   .rename_i hc;obtain⟨e,fr1,E1,as1,h1,h2⟩:=ihx _ _ _ _ h;exact⟨e,fr1,E1,as1,h1.mapD (λN=>by simp only[xK,xDG,hc]),h2⟩
   .rename_i hc;obtain⟨e,fr1,E1,as1,h1,h2⟩:=ihy _ _ _ _ h;exact⟨e,fr1,E1,as1,h1.mapD (λN=>by simp only[xK,xDG,hc]),h2⟩
   .exact h.elim
 |block id c ih =>
  intro as fr E K h;unfold wpE at h;split at h
  .exact yPG h
  .obtain⟨e,fr1,E1,as1,⟨N1,h1⟩,h2⟩:=ih _ _ _ _ h;cases e with
   |exit i =>
    simp only at h2;cases hb:Nat.beq i id with
    |true =>
     rw[hb]at h2;exact⟨_,fr1,E1,as1,⟨N1,λN hN=>by simp only[xK,zZG,h1 N hN,hb,cond_true]⟩,h2⟩
    |false =>
     rw[hb]at h2;exact⟨_,fr1,E1,as1,⟨N1,λN hN=>by simp only[xK,zZG,h1 N hN,hb,cond_false]⟩,h2⟩
   |_=>exact⟨_,fr1,E1,as1,⟨N1,λN hN=>by simp only[xK,zZG,h1 N hN]⟩,h2⟩
 |scope c ih =>
  intro as fr E K h;simp only[wpE]at h;obtain⟨e,fr1,E1,as1,h1,h2⟩:=ih _ _ _ _ h;exact⟨e,fr1,E1,as1,h1.mapD (λN=>by simp only[xK]),h2⟩
 |region id ops d =>
  intro as fr E K h;simp only[wpE]at h;exact xAJ h
 |loop c _ =>
  intro as fr E K h;unfold wpE at h;split at h;rotate_left
  .exact h.elim
  obtain⟨⟨h1,h2,h3⟩,h4⟩:=h;obtain⟨e,fr',E',h5,h6⟩:=h3 fr.f.nth;rw[<- xCZ h1 h2]at h5;obtain⟨as,hk⟩:=zYV h4 h6;exact⟨e,fr',E',as,h5.code,hk⟩
 |rangeFunc g ps a b _ _ =>
  intro as fr E K h;unfold wpE at h;split at h;rotate_left
  .exact h.elim
  obtain⟨⟨h1,h2,h3⟩,h4⟩:=h;obtain⟨e,E',⟨N0,h5⟩,h6⟩:=h3 fr.f.nth fr.marks;rw[<- xCZ h1 h2]at h5;obtain⟨as,hk⟩:=yIQ (g:=fr.f.nth) h4 h6;rw[<- xCZ h1 h2]at hk;exact⟨e,_,E',as,⟨N0,λN hN=>by simp only[xK];exact h5 N hN⟩,hk⟩
end
end Go.Lay

namespace Go.Lay
open Go
variable{a:Alt}{b:Code}{alts:List Alt}{f aw:FuncId}{args:List Value}{Q:Value->St->Prop}
@[simp] theorem wPX(a:Addr)(n:Nat):(zO a n).block=a.block:=rfl
@[simp] theorem wQM(E:St):E.re.j=E.j:=rfl
@[simp] theorem wQN(E:St):E.re.low=E.j:=rfl
theorem tt:true=true:=rfl
@[irreducible] def Hid(p:Prop):Prop:=p
theorem hid{p:Prop}(h:Hid p):p:=by unfold Hid at h;exact h
theorem kc{a b:Prop}(h:a=b)(x:b):a:=h.mpr x
def In(a:Alt):List Alt->Prop
 |[]=>False
 |b::l=>a=b\/In a l
theorem in0{l:List Alt}:In a (a::l):=.inl rfl
theorem inS{b:Alt}{l:List Alt}(h:In a l):In a (b::l):=.inr h
def zHG(n:Nat)(alts:List Alt):Exit->Fr->St->List Ans->Prop:=λe fr E as=>match as with
 |[.fin a t]=>(e=a.e/\yUD n fr.f=true/\AG fr.f (a.l t)/\fr.marks=a.ms t)/\(a.Q t E/\In a alts)
 |_=>False
def FIN(alts:List Alt)(a:Alt)(t:a.T)(E:St):Prop:=(a.e=a.e/\true=true/\ARf (a.l t)/\a.ms t=a.ms t)/\(a.Q t E/\In a alts)
theorem fin(a:Alt)(t:a.T){E:St}(h:a.Q t E)(hi:In a alts):FIN alts a t E:=⟨⟨rfl,rfl,arf _,rfl⟩,h,hi⟩
section
variable{P:Program}{R:Nat->Rec}{rd:Option Nat}{c:Code}{n:Nat}{l:List (Nat×Value)}{ms:List Nat}{alts:List Alt}{E E':St}
theorem xBQ{a:Alt}{t:a.T}{fr:Fr}(h1:yUD n fr.f=true)(h2:AG fr.f (a.l t))(h3:fr.marks=a.ms t)(h4:a.Q t E):∀{alts:List Alt},In a alts->xEO n alts a.e fr E
 |[],h=>h.elim
 |b::as,h=>by
  rcases h with rfl|h
  .refine .inl ⟨rfl,t,fr.f.nth, ?_,h4⟩;rw[<- xCZ h1 h2,<- h3]
  .exact .inr (xBQ h1 h2 h3 h4 h)
theorem xOW(as:List Ans)(h:∀g:Nat->Value,Hid (wpE P R rd c as ⟨Fm n (ov l g),ms⟩ E (zHG n alts))):yT P R rd c n l ms alts E:=by
 intro g;obtain⟨e,fr',E',as',h1,h2⟩:=zEF _ _ _ _ _ (hid (h g));refine⟨e,fr',E',h1, ?_⟩
 unfold zHG at h2;split at h2
 .obtain⟨⟨rfl,k1,k2,k3⟩,k4,k5⟩:=h2;exact xBQ k1 k2 k3 k4 k5
 .exact h2.elim
theorem wF(i:Nat):Exit.exit i≠.normal:=λh=>by cases h
theorem wX:Exit.ret≠.normal:=λh=>by cases h
def yQB:List Alt->Prop
 |[]=>True
 |a::l=>a.e≠.normal/\yQB l
theorem zQB{T:Type}{lf:T->List (Nat×Value)}{mf:T->List Nat}{Inv:Nat->T->St->Prop}(hne:yQB alts)
  (hb:∀k t E,Inv k t E->yT P R rd c n (lf t) (mf t) (⟨T,.normal,lf,mf,λt' E'=>∃k',k' < k/\Inv k' t' E'⟩::alts) E):∀k t E,Inv k t E->yW P R rd c n (lf t) (mf t) alts E:=by
 intro k;induction k using Nat.strongRecOn with
 |ind k ih =>
  intro t E hi g;obtain⟨e,fr',E',h1,h2⟩:=hb k t E hi g;rcases h2 with ⟨rfl,t',g',rfl,k',hk,hi'⟩|h2
  .obtain⟨e2,fr2,ik,h3,h4⟩:=ih k' hk t' E' hi' g';exact⟨e2,fr2,ik,.step h1 h3,h4⟩
  .have he:e≠.normal:=by
    clear h1 ih hb hi;induction alts with
    |nil=>exact h2.elim
    |cons a as ih2 =>
     rcases h2 with ⟨rfl,_⟩|h2
     .exact hne.1
     .exact ih2 hne.2 h2
   exact⟨e,fr',E',.exit h1 he,h2⟩
def kAt(P:Program)(R:Nat->Rec)(rd:Option Nat):Code->List Nat->(Exit->Fr->St->List Ans->Prop)->Exit->Fr->St->List Ans->Prop
 |.seq x y,0::p,K=>kAt P R rd x p λe fr E as=>match e with
  |.normal=>wpE P R rd y as fr E K
  |e=>K e fr E as
 |.seq _ y,1::p,K=>kAt P R rd y p K
 |.cond _ x _,0::p,K=>kAt P R rd x p K
 |.cond _ _ y,1::p,K=>kAt P R rd y p K
 |.block id c,0::p,K=>kAt P R rd c p λe fr E as=>match e with
  |.exit i=>match Nat.beq i id with
   |true=>K .normal fr E as
   |false=>K (.exit i) fr E as
  |e=>K e fr E as
 |.scope c,0::p,K=>kAt P R rd c p K
 |_,_,K=>K
def kFn(P:Program)(f:FuncId)(Q:Value->St->Prop):Exit->Fr->St->List Ans->Prop:=λe fr E as =>
 match P.funcs[f]? with
 |some fn=>match e with
  |.normal=>zNM P fn fr E as Q
  |.ret=>zNM P fn fr E as Q
  |_=>False
 |none=>False
def yNF(P:Program)(R:Nat->Rec)(f:FuncId)(args:List Value)(as:List Ans)(E:St)(K:Value->St->Prop):Prop :=
 match P.funcs[f]? with
 |some fn=>match fn.body with
  |some c=>wpE P R none c as ⟨(Tm.args 0 args).foldl (λf p=>f.set p.1 p.2) (fresh (args.length+(fn.ntmps-args.length))),[]⟩ E λe fr E as=>match e with
   |.normal=>zNM P fn fr E as K
   |.ret=>zNM P fn fr E as K
   |_=>False
  |none=>False
 |none=>False
theorem yBD{as:List Ans}{K:Value->St->Prop}(h:yNF P R f args as E K):∃v E',(∃N0,∀N,N0<=N->zRR P (R N) N f args E=some (v,E'))/\K v E':=by
 unfold yNF at h;split at h
 .rename_i fn hfn;split at h
  .rename_i c hc;obtain⟨e,fr,V1,as',⟨N0,h1⟩,h2⟩:=zEF _ _ _ _ _ h;have fin:∀(h2:zNM P fn fr V1 as' K) (he:e=.normal\/e=.ret),∃v E',(∃N0,∀N,N0<=N->zRR P (R N) N f args E=some (v,E'))/\K v E':=by
    intro h2 he;obtain⟨v,E',h3,h4⟩:=ySI h2;refine⟨v,E',⟨N0,λN hN=>?_⟩,h4⟩
    have key:wCP P fn (xK P (R N) N none c ⟨(Tm.args 0 args).foldl (λf p=>f.set p.1 p.2) (fresh (args.length+(fn.ntmps-args.length))),[]⟩ E)=zRR P (R N) N f args E:=by
     simp only[zRR,hfn,hc,Tm.puts_eq]
    rw[<- key,h1 N hN];rcases he with rfl|rfl <;> exact h3
   cases e with
   |normal=>exact fin h2 (.inl rfl)
   |ret=>exact fin h2 (.inr rfl)
   |_=>exact h2.elim
  .exact h.elim
 .exact h.elim
def zQ(P:Program)(f:FuncId)(args:List Value)(E:St)(Q:Value->St->Prop):Prop:=∃v E',wOP P f args E v E'/\Q v E'
theorem xVR{N:Nat}:zZ P (N+1) (.func f) args E=zRR P (zZ P N) N f args E:=by
 simp only[zZ,zRR];rfl
theorem xYX(as:List Ans)(h:Hid (yNF P (zZ P) f args as E Q)):zQ P f args E Q:=by
 obtain⟨v,E',⟨N0,hN⟩,hq⟩:=yBD (hid h);refine⟨v,E',⟨N0+1,λN hN'=>?_⟩,hq⟩
 obtain⟨N,rfl⟩:∃M,N=M+1:=⟨N-1,by omega⟩;rw[xVR];exact hN N (by omega)
def zTP(P:Program)(aw:FuncId)(f:FuncId)(args:List Value)(E:St)(Q:Value->St->Prop):Prop:=∃N v E',zRR P (topR P aw N) N f args E=some (v,E')/\Q v E'
theorem wGI(as:List Ans)(h:Hid (yNF P (topR P aw) f args as E Q)):zTP P aw f args E Q:=by
 obtain⟨v,E',⟨N0,hN⟩,hq⟩:=yBD (hid h);exact⟨N0,v,E',hN N0 (Nat.le_refl _),hq⟩
theorem yGP:uR (topR P aw) (.func aw) [] E (.bool true) E:=⟨0,λN _=>xSL⟩
theorem zTP.walk{W:World}{Z:Inj}(hP:ProgOk P)(hc:ShutF P aw){f:FuncId}{avs args:List Value}(h:zTP P aw f avs E λv _=>v=.bool true)(hr:Rep Z E W)(ho:Ro Z W)(ha:VRs Z avs args) :
  Calls P f ⟨args⟩ W λe w'=>e=.returned (.bool true)/\RowKit.Grown W w':=by
 obtain⟨N,v,E',hb,rfl⟩:=h;obtain⟨_,h2⟩:=yCO hP (xHZ hP hc N) hb hr ha;refine Calls.mono (callsIn_wide.1 (h2 0)) (λe w' hR=>?_);cases e with
 |returned v' =>
  obtain⟨Z',hv,hg⟩:=hR;exact⟨by rw[hv.bool_inv],wBV hg ho.own⟩
 |panicked _=>exact hR.elim
 |outgrown=>exact hR.elim
theorem zQ.pure{v:Value}(h:zQ P f args E.re λv' s=>v'=v/\E.j<=s.low)(hv:yI RD v=true:=by rfl):zW P f args E v E:=by
 obtain⟨_,E',h1,rfl,h2⟩:=h;exact zYC h1 h2 hv
theorem zQ.new(h:zQ P f args E.re λv s=>New E.re s/\Q v s)(hQ:∀v s s',Q v s->Le s s'->Q v s')(hQ2:∀v s,yI RD v=true->Q v s->Q v E):∃v E',zW P f args E v E'/\New E E'/\Q v E':=by
 obtain⟨v,E',h1,h2,h3⟩:=h;obtain⟨v,E'',k1,k2,k3⟩:=wPB (Q:=Q) h1 h2 h3 (λs s' a b=>hQ _ s s' a b) (λhr=>hQ2 _ _ hr h3);exact⟨v,E'',k1,k2,k3⟩
def wNM(tm:Tm)(ps:List Tmp)(a b:Code)(db:Nat):Exit->Blk
 |.ret=>.loop tm ps a b .done (some .ret) db
 |.exit id=>.loop tm ps a b .done (some (.exit id)) db
 |_=>.loop tm ps a b .ready none db
def yIG:Exit->Bool
 |.normal=>true
 |_=>false
def wPY(alts:List Alt)(e:Exit)(s:St):Prop:=∃a,In a alts/\e=a.e/\∃t,a.Q t s
def xES(alts:List Alt):Exit->Fr->St->List Ans->Prop:=λe _ E as=>match as with
 |[.fin a t]=>e=a.e/\(a.Q t E/\In a alts)
 |_=>False
def wQK(alts:List Alt)(a:Alt)(t:a.T)(E:St):Prop:=a.e=a.e/\(a.Q t E/\In a alts)
theorem wCL(a:Alt)(t:a.T){E:St}(h:a.Q t E)(hi:In a alts):wQK alts a t E:=⟨rfl,h,hi⟩
def KAs(P:Program)(R:Nat->Rec)(lo:Nat)(b:Code)(O O':St)(K:Exit->Fr->St->List Ans->Prop):Exit->Fr->St->List Ans->Prop:=λe fr s an=>(e=.normal/\s=O)/\wpE P R (some lo) b an fr O' K
def zCG(P:Program)(lo:Nat)(args:List Value)(O:St)(tm:Tm)(ps:List Tmp)(a b:Code)(db:Nat)(alts:List Alt):Prop :=
 ∃e s,wPY alts e s/\(e=.normal\/e=.ret\/(∃i,e=.exit i)->lo<O.j->yP s.heap lo=some (.loop tm ps a b .busy none db)->O.j<=s.j->zZN P lo args O (.bool (yIG e)) ⟨(s.put lo (wNM tm ps a b db e)).heap,s.j,min O.low (min s.low lo)⟩)
theorem xZA{lo db:Nat}{tm:Tm}{ps:List Tmp}{a:Code}{O:St}(hl:yP O.heap lo=some (.loop tm ps a b .ready none db))(hn:args.length=ps.length){E1:St}(iw:E1=O.re.put lo (.loop tm ps a b .busy none db))(as:List Ans)
  (h:Hid (wpE P (zZ P) (some lo) a as ⟨(ps.zip args).foldl (λf p=>f.set p.1 p.2) tm,[]⟩ O.re (KAs P (zZ P) lo b O.re E1 (xES alts)))) :
  zCG P lo args O tm ps a b db alts:=by
 subst iw;obtain⟨e1,fr1,s1,an1,⟨N1,h1⟩,⟨rfl,rfl⟩,h2⟩:=zEF _ _ _ _ _ (hid h);obtain⟨e,fr2,s,an2,⟨N2,h3⟩,h4⟩:=zEF _ _ _ _ _ h2;unfold xES at h4;split at h4;rotate_left
 .exact h4.elim
 obtain⟨rfl,h5,h6⟩:=h4;rename_i al t;refine⟨_,s,⟨al,h6,rfl,t,h5⟩,λhe hlt hb hs=>⟨N1+N2+1,λN hN=>?_⟩⟩
 obtain⟨N,rfl⟩:∃N',N=N'+1:=⟨N-1,by omega⟩;have k1:=h1 N (by omega);have k3:=h3 N (by omega);have hr:(⟨O.heap,O.j,O.j⟩:St)=O.re:=rfl;have hlr:yP O.re.heap lo=some (.loop tm ps a b .ready none db):=hl;unfold uT;rw[hr];simp only[zZ,hlr,hn,Nat.beq_refl,cond_true,Tm.puts_eq,k1,zPX,St.write_eq,k3];have key:∀y:Blk,zAB O (.bool (yIG al.e)) (s.put lo y)=some (.bool (yIG al.e),⟨(s.put lo y).heap,s.j,min O.low (min s.low lo)⟩):=by
  intro y;unfold zAB;have e1:Nat.ble O.j (s.put lo y).low=false:=by
   rw[Bool.eq_false_iff];intro e;have:=(yJ _ _).1 e;simp only[St.put_low]at this;omega
  have e2:Nat.ble O.j (s.put lo y).j=true:=(yJ _ _).2 hs;simp only[e1,Bool.false_and,cond_false,e2,cond_true,vC,zBZ];rfl
 rcases he with e|e|⟨i,e⟩ <;> (rw[e]at key ⊢;simp only[zPW,zFJ,hb,St.write_eq];exact key _)
def xOR:Option Code->Exit
 |some .ret=>.ret
 |some (.exit id)=>.exit id
 |_=>.normal
theorem yNO{gx:Operand}{ps:Array Tmp}{a:Code}{xs:List (Exit×(St->Prop))}{fs:List Value}(hg:∀g,yV (Fm n (ov l g)) gx=.func (.func f) ⟨[]⟩ ⟨fs⟩)
  (h:∀g,∃v s st pend,zW P f (.func (.yield (E.j+1)) ⟨[]⟩ ⟨[]⟩::fs) ((E.add .defd).add (.loop (Fm n (ov l g)) ps.toList a b .ready none E.j)) v s/\yP s.heap (E.j+1)=some (.loop (Fm n (ov l g)) ps.toList a b st pend E.j) /\
   ((st=.ready/\pend=none)\/(st=.done/\(pend=some .ret\/∃i,pend=some (.exit i))))/\yPZ xs (xOR pend) (s.put (E.j+1) (.loop (Fm n (ov l g)) ps.toList a b .exhausted pend E.j))):zPI P (zZ P) gx ps a b n l xs E:=by
 intro g ms;obtain⟨v,s,st,pend,⟨N0,hN⟩,hb,hst,hq⟩:=h g;refine⟨xOR pend,_,⟨N0,λN hl=>?_⟩,hq⟩
 have h1:=hN N hl;simp only[zSV,zKL,St.new_eq,hg,zRJ,List.nil_append,List.singleton_append,St.add_next];simp only[h1,zFK,hb,St.write_eq];rcases hst with ⟨rfl,rfl⟩|⟨rfl,rfl|⟨i,rfl⟩⟩ <;> rfl
end
end Go.Lay

namespace Go.Lay
open Go
variable{cs vs:List Value}{n n0 t len c b st xt s:Nat}{p:Option Addr}
section
variable{P:Program}{E O O':St}{S:Nat->Prop}
theorem New.of_only(h:New E O)(k:Only S O O')(hs:∀b,S b->E.j<=b):New E O' :=
  ⟨⟨Nat.le_trans h.le.j k.j,λb hb=>(k.get b (Nat.lt_of_lt_of_le hb h.le.j) (λhS=>by have:=hs b hS;omega)).trans (h.le.get b hb)⟩,
   λm h1 h2=>k.low m (h.low m h1 h2) (Nat.le_trans h2 h.le.j) (λb _ hS=>Nat.le_trans h2 (hs b hS))⟩
theorem New.own{b n:Nat}{cs:List Value}(h:New E O)(hb:E.j<=b):New E (O.own b cs n):=h.of_only (S:=(·=b)) (Only.own (.inr rfl)) (by rintro _ rfl;exact hb)
theorem New.row'(h:New E O):New E (O.row cs n):=h.trans (New.row _ _ _)
theorem New.nx(h:New E O):E.j<=O.j:=h.le.j
theorem New.lw(h:New E.re O):E.j<=O.low:=h.low _ (Nat.le_refl _) (Nat.le_refl _)
structure Gr(P:Program)(E:St)(n0 t n:Nat)(p:Option Addr)(len c:Nat)(vs:List Value):Prop where
 app:App E n0 n (.slice p len c) len (wD vs)
 len_eq:vs.length=len
 el:∀v∈vs,zDV P t n v
theorem Gr.nil{n0 t n:Nat}:Gr P E n0 t n none 0 0 []:=⟨App.nil,rfl,by simp⟩
theorem Gr.le(h:Gr P E n0 t n p len c vs)(k:Le E O):Gr P O n0 t n p len c vs:=⟨h.app.keep k,h.len_eq,h.el⟩
theorem Gr.only(h:Gr P E n0 t n p len c vs)(k:Only S E O)(hs:∀b,AtP p b->¬S b):Gr P O n0 t n p len c vs :=
 ⟨k.app' h.app (by rintro a l c ⟨⟩;exact hs _ ⟨a,rfl,rfl⟩),h.len_eq,h.el⟩
theorem Gr.slv{n0 t n len c:Nat}{p:Option Addr}{vs:List Value}(h:Gr P E n0 t n p len c vs):SlV P E t n p len vs:=h.app.slv h.len_eq h.el
theorem Gr.bd(h:Gr P E n0 t n p len c vs)(hb:AtP p b):n0<=b/\b<E.j:=by
 obtain⟨a,e,rfl⟩:=hb;exact⟨h.app.ge a e,h.app.lt a e⟩
theorem zGM(v:Value){cs:List Value}(T:AppT P st xt t n)(h:Gr P E n0 t n p len c vs)(hle:Le E O)(hv:zDV P t n v)(hroom:len+1<=1073741824)(hn:n0<=E.j)(e:v.cells.toList=cs:=by rfl)(hc:cs.all cellB=true:=by first|rfl|simp) :
  ∃p' c' O',xO P st xt (.slice p len c) (.slice (some ⟨O.j,0,none⟩) 1 1) (O.row cs n)=some (.slice p' (len+1) c',O')/\Gr P O' n0 t n p' (len+1) c' (vs++[v])/\Only (AtP p) (O.row cs n) O'/\(∀b,AtP p' b->AtP p b\/O.j<=b):=by
 subst e;have hl:=hv.len;obtain⟨p',c',O',h1,h2,h3,h4⟩:=yPR (k:=1) (m:=1) T ((h.le hle).app.keep (Le.row _ _ _)) (wB O v.cells.toList n) (by omega) (by omega) hroom hc (by have:=hle.j;simp;omega);refine⟨p',c',O',h1,⟨by rw[zBJ];simpa [wD] using h2,by simp[h.len_eq], ?_⟩,h3,λb hb=>?_⟩
 .intro x hx;simp at hx;rcases hx with hx|rfl
  .exact h.el x hx
  .exact hv
 .rcases h4 b hb with h5|h5
  .exact .inl h5
  .right;simp at h5;omega
theorem wQG{E0:St}(v:Value){cs:List Value}(T:AppT P st xt t n)(h:Gr P E E0.j t n p len c vs)(hN:New E0 E)(hle:New E O)(hv:zDV P t n v)(hroom:len+1<=1073741824)(e:v.cells.toList=cs:=by rfl)(hc:cs.all cellB=true:=by first|rfl|simp) :
  ∃p' c' O',xO P st xt (.slice p len c) (.slice (some ⟨O.j,0,none⟩) 1 1) (O.row cs n)=some (.slice p' (len+1) c',O')/\Gr P O' E0.j t n p' (len+1) c' (vs++[v])/\New E0 O'/\Only (AtP p) (O.row cs n) O'/\(∀b,AtP p' b->AtP p b\/O.j<=b):=by
 obtain⟨p',c',O',h1,h2,h3,h4⟩:=zGM v T h hle.le hv hroom hN.nx e hc;exact⟨p',c',O',h1,h2,((hN.trans hle).row').of_only h3 (λb hb=>(h.bd hb).1),h3,h4⟩
theorem zQ.newSl{f:FuncId}{args:List Value}(h:zQ P f args E.re λv s=>New E.re s/\∃p c,v=.slice p len c/\SlV P s t n p len vs/\∀b,AtP p b->E.j<=b) :
  ∃p c E',zW P f args E (.slice p len c) E'/\New E E'/\SlV P E' t n p len vs/\∀b,AtP p b->E.j<=b:=by
 obtain⟨v,E',h1,h2,p,c,rfl,h3,h4⟩:=zQ.new (Q:=λv s=>∃p c,v=.slice p len c/\SlV P s t n p len vs/\∀b,AtP p b->E.j<=b) h (by
  rintro v s s' ⟨p,c,rfl,g1,g2⟩ hle;exact⟨p,c,rfl,g1.le hle,g2⟩) (by
  rintro v s hr ⟨p,c,rfl,g1,g2⟩;cases p with
  |none=>exact⟨none,c,rfl,uX g1,λb hb=>(AtP.none hb).elim⟩
  |some a=>exact Bool.noConfusion (show false=true from hr))
 exact⟨p,c,E',h1,h2,h3,h4⟩
def wPD(P:Program)(st e n:Nat)(z:Value):Bool :=
 (match wY P st with|some (e',n')=>Nat.beq e e'&&Nat.beq n n'|none=>false)&&(match P.info? e with|some ei=>Nat.ble ei.bytes 4096|none=>false)&&Nat.beq z.cells.toList.length n&&Nat.ble n 4096&&Nat.blt 0 n
theorem wHV{e:Nat}{z:Value}(hb:wPD P st e n z=true)(hz:uO P e=some z){len:Nat}(hl:len<=1073741824) :
  yN P (evL [.int .i64 (len:Int),.int .i64 (len:Int)]) E (.makeSlice st (.tmp 0) (.tmp 1))=some (.slice (some ⟨E.j,0,none⟩) len len,E.row (xL z.cells.toList len) n):=by
 unfold wPD at hb;simp only[Bool.and_eq_true]at hb;obtain⟨⟨⟨⟨h1,h2⟩,h3⟩,h4⟩,h5⟩:=hb;split at h1;rotate_left
 .cases h1
 rename_i e' n' he;simp only[Bool.and_eq_true]at h1;rw[<- Nat.eq_of_beq_eq_true h1.1,<- Nat.eq_of_beq_eq_true h1.2]at he;split at h2;rotate_left
 .cases h2
 rename_i ei hi;have k1:leI 0 (len:Int)=true:=(vN _ _).2 (Int.natCast_nonneg _);have k2:leI (len:Int) (len:Int)=true:=(vN _ _).2 (Int.le_refl _);have k3:leI (len:Int) 1073741824=true:=(vN _ _).2 (by omega);have k4:zBH len n ei.bytes=true:=by unfold zBH;rw[(yJ _ _).2 hl,h4,h2];rfl
 have e0:∀l:List Value,evL l (.tmp 0)=l.getD 0 undef:=λ_=>rfl
 have e1:∀l:List Value,evL l (.tmp 1)=l.getD 1 undef:=λ_=>rfl
 unfold yN;simp only[he,e0,e1,List.getD_cons_zero,List.getD_cons_succ,hz,hi,k1,k2,k3,Int.toNat_natCast,k4,h3,h5,Bool.and_self,cond_true,xD];rfl
def vI(n:Nat)(P:Nat->Int):List Value:=(List.range n).map λs=>.int .i64 (P s)
theorem zBV{P:Nat->Int}:(vI n P).length=n:=by simp[vI]
theorem yGN{P:Nat->Int}(h:s<n):(vI n P)[s]?=some (.int .i64 (P s)):=by simp[vI,h]
theorem xXY{P:Nat->Int}{v:Int}(h:s<n):(vI n P).set s (.int .i64 v)=vI n (λs'=>if s'=s then v else P s'):=by
 apply List.ext_getElem?;intro i;rw[List.getElem?_set];by_cases e:s=i
 .subst e;simp[vI,h]
 .rw[if_neg e];by_cases hi:i<n
  .rw[yGN hi,yGN hi,if_neg (λx=>e x.symm)]
  .rw[List.getElem?_eq_none (by rw[zBV];omega),List.getElem?_eq_none (by rw[zBV];omega)]
theorem zFC{P Q:Nat->Int}(h:∀s,s<n->P s=Q s):vI n P=vI n Q:=by
 unfold vI;apply List.map_congr_left;intro s hs;rw[h s (by simpa using hs)]
theorem Only.lower{m:Nat}(h:Only S E.re O):Only S E ⟨O.heap,O.j,min E.low O.low⟩ :=
 ⟨h.j,h.get,λk h1 h2 h3=>by have:=h.low k h2 h2 h3;show k<=min _ _;omega⟩
theorem Own.at_(h:Own E b cs n)(k:yP O.heap b=yP E.heap b)(hn:E.j<=O.j):Own O b cs n:=⟨by rw[k];exact h.get,Nat.lt_of_lt_of_le h.lt hn⟩
end
end Go.Lay

namespace Go.Lay
open Go
section
variable{P:Program}{E O:St}
theorem yPN{c:Nat}(h:xR c=true):xC c=c:=by
 have:=(xN c).1 h;unfold xC;rw[if_neg (by omega)]
theorem xLY{k:IntKind}{x d top:Nat}{i:Int}(hi:i=(x:Int))(h:x<=top):uG (some (.int k i)) d top=some x:=by
 subst hi;have h1:leI 0 (x:Int)=true:=(vN _ _).2 (by omega);have h2:leI (x:Int) (.ofNat top)=true:=(vN _ _).2 (by show(x:Int)<=(top:Int);omega);show(bif leI 0 (x:Int)&&leI (x:Int) (.ofNat top)then some (x:Int).toNat else none)=some x;rw[h1,h2];rfl
end
end Go.Lay

namespace Go.Lay
open Go
variable{U:Type}{t:TypeId}{d n:Nat}{k:IntKind}{z:Value}
section
variable{P:Program}
theorem xT{ie:Type}(x:Sem U)(f:U->Sem ie):yL P (x >>= f)=(yL P x).bind λa=>yL P (f a):=by
 induction x with
 |pure a=>rfl
 |program k ih=>exact ih P
 |_=>rfl
theorem zWB(a:U):yL P (pure a:Sem U)=some a:=rfl
theorem yTL:yL P program=some P:=rfl
theorem zOA{d:TypeDesc}(h:P.underlying t=some d):yL P (underlying t)=some d:=by
 unfold underlying;rw[xT,yTL];simp only[Option.bind_some,h];rfl
theorem xZJ(h:P.underlying t=some (.int k)):yL P (isAgg t)=some false:=by
 unfold isAgg;rw[xT,zOA h];rfl
theorem xNL(h:P.underlying t=some (.int k)){cs:Array Value}{off:Nat}{v:Value}(hv:cs[off]?=some v):yL P (part t cs off)=some v:=by
 unfold part;rw[xT,xZJ h];simp only[Option.bind_some,Bool.false_eq_true,if_false,hv];rfl
theorem zKM(h:P.underlying t=some (.int k))(q:IntKind)(a b:Int):yL P (Op.equalIn (d+1) t (.int q a) (.int q b))=some (a == b):=by
 unfold Op.equalIn;rw[xT,zOA h];simp only[Option.bind_some,if_true];rfl
def xOD(P:Program):Nat->List Field->Bool
 |_,[]=>true
 | i, f :: fs => (match P.underlying f.type with | some (.int _) => true | _ => false) && Nat.beq f.offset i && (f.name != "_") && xOD P (i + 1) fs
theorem xUD{f:Field}(h:(match P.underlying f.type with|some (.int _)=>true|_=>false)=true):∃k,P.underlying f.type=some (.int k):=by
 split at h
 .exact⟨_,by assumption⟩
 .cases h
theorem yNW{d:Nat}{xs ys:Array Value}{q:Nat->IntKind}:∀(fs:List Field) (i:Nat) (as bs:List Int),xOD P i fs=true->as.length=fs.length->bs.length=fs.length->(∀j x,as[j]?=some x->xs[i+j]?=some (.int (q (i+j)) x))->(∀j x,bs[j]?=some x->ys[i+j]?=some (.int (q (i+j)) x)) ->
  yL P (forIn fs ((none,()):Option Bool×Unit) λf __s =>
   if f.name ≠ "_" then do
    let a <- part f.type xs f.offset
    let b <- part f.type ys f.offset
    let r <- Op.equalIn (d+1) f.type a b
    if(!r)=true then pure (ForInStep.done (some false,()))else pure (ForInStep.yield (none,()))
   else pure (ForInStep.yield (none,())))=some (if as=bs then(none,())else(some false,()))
 |[],i,as,bs,_,ha,hb,_,_=>by
  have h1:as=[]:=by simpa using ha
  have h2:bs=[]:=by simpa using hb
  subst h1 h2;rfl
 |f::fs,i,[],bs,_,ha,_,_,_=>by simp at ha
 |f::fs,i,a::as,[],_,_,hb,_,_=>by simp at hb
 |f::fs,i,a::as,b::bs,h,ha,hb,hx,hy=>by
  simp only [xOD,Bool.and_eq_true] at h;obtain ⟨⟨⟨h1,h2⟩,h3⟩,h4⟩:=h;obtain ⟨ku,hu⟩:=xUD h1;have ho:=Nat.eq_of_beq_eq_true h2;have hn : f.name ≠ "_" := by simpa using h3
  have ea:xs[f.offset]?=some (.int (q i) a):=by rw[ho];simpa using hx 0 a rfl
  have eb:ys[f.offset]?=some (.int (q i) b):=by rw[ho];simpa using hy 0 b rfl
  rw[List.forIn_cons,xT];simp only[if_pos hn];rw[xT,xNL hu ea];simp only[Option.bind_some];rw[xT,xNL hu eb];simp only[Option.bind_some];rw[xT,zKM hu];simp only[Option.bind_some];by_cases e:a=b
  .subst e;simp only[beq_self_eq_true,Bool.not_true,Bool.false_eq_true,if_false,zWB,Option.bind_some];have ih:=yNW (d:=d) (xs:=xs) (ys:=ys) fs (i+1) as bs h4 (by simpa using ha) (by simpa using hb) (λj x hj=>by have:=hx (j+1) x (by simpa using hj);rwa [show i+(j+1)=i+1+j by omega]at this) (λj x hj=>by have:=hy (j+1) x (by simpa using hj);rwa [show i+(j+1)=i+1+j by omega]at this);rw[ih];by_cases e2:as=bs
   .rw[if_pos e2,if_pos (by rw[e2])]
   .rw[if_neg e2,if_neg (by simpa using e2)]
  .have e1:(a == b)=false:=by simpa using e
   simp only[e1,Bool.not_false,if_true,zWB,Option.bind_some];rw[if_neg (by intro k;exact e (by cases k;rfl))]
def xKG(P:Program)(t n:Nat):Bool:=match P.underlying t with
 |some (.struct fs)=>xOD P 0 fs.toList&&Nat.beq fs.size n&&!P.stoodInHeld t
 |_=>false
theorem xNK{t:Nat}(q:Nat->IntKind)(h:xKG P t n=true){as bs:List Int}{xs ys:Array Value}(ha:as.length=n)(hb:bs.length=n)(hx:∀(j:Nat) (x:Int),as[j]?=some x->xs[j]?=some (Value.int (q j) x))(hy:∀(j:Nat) (x:Int),bs[j]?=some x->ys[j]?=some (Value.int (q j) x)):yL P (Op.equalIn (d+2) t (.agg xs) (.agg ys))=some (decide (as=bs)):=by
 unfold xKG at h;split at h;rotate_left
 .cases h
 rename_i fs hu;simp only[Bool.and_eq_true,Bool.not_eq_true']at h;obtain⟨⟨h1,h2⟩,h3⟩:=h;have h2:=Nat.eq_of_beq_eq_true h2;have hl:fs.toList.length=n:=by simpa using h2
 have key:=yNW (d:=d) (xs:=xs) (ys:=ys) (q:=q) fs.toList 0 as bs h1 (by omega) (by omega) (λj x hj=>by simpa using hx j x hj) (λj x hj=>by simpa using hy j x hj);unfold Op.equalIn;rw[xT,zOA hu];simp only[Option.bind_some];rw[xT,yTL];simp only[Option.bind_some,h3,Bool.false_eq_true,if_false];rw[xT,<- Array.forIn_toList];rw[key];simp only[Option.bind_some];by_cases e:as=bs
 .rw[if_pos e];simp[e];rfl
 .rw[if_neg e];simp[e];rfl
theorem wMP{t:Nat}(h:xKG P t n=true){as bs:List Int}(ha:as.length=n)(hb:bs.length=n):yL P (Op.equalIn (d+2) t (.agg ⟨as.map λx=>.int .i64 x⟩) (.agg ⟨bs.map λx=>.int .i64 x⟩))=some (decide (as=bs)) :=
 xNK (λ_=>.i64) h ha hb (λj x hj=>by simp[hj]) (λj x hj=>by simp[hj])
structure KeyT(P:Program)(kt:TypeId){ij:Type}[DecidableEq ij](enc:ij->Value):Prop where
 eq:∀a b,yL P (Op.equal kt (enc a) (enc b))=some (decide (a=b))
 ok:∀e a,zIF P e kt (enc a)=true
 bits:∀a,Instr.sameBits 10000 (enc a) (enc a)=true
section
variable{ij U:Type}[DecidableEq ij]{E O:St}{b kt et mt:Nat}{enc:ij->Value}{vf:U->Value}{F:ij->Option U}
def zOG(m:List (ij×U))(k:ij):Option U:=match m with
 |[]=>none
 |e::m=>if k=e.1 then some e.2 else zOG m k
def yIB(k:ij):List (ij×U)->Nat->Option Nat
 |[],_=>none
 |e::m,i=>if k=e.1 then some i else yIB k m (i+1)
theorem zQC(hk:KeyT P kt enc)(k:ij):∀(m:List (ij×U)) (i:Nat),zBA P kt (enc k) (m.map λe=>(enc e.1,vf e.2)) i=some (yIB k m i)
 |[],i=>rfl
 |e::m,i=>by
  simp only[List.map_cons,zBA,hk.eq,yIB];by_cases h:k=e.1
  .simp[h]
  .simp only[h,decide_false,if_false];exact zQC hk k m (i+1)
theorem zQD{k:ij}:∀{m:List (ij×U)} {i j:Nat},yIB k m i=some j->∃v,i<=j/\m[j-i]?=some (k,v)/\zOG m k=some v
 |[],_,_,h=>by cases h
 |e::m,i,j,h=>by
  unfold yIB at h;split at h
  .rename_i hk;cases h
   exact⟨e.2,Nat.le_refl _,by simp[hk],by simp[zOG,hk]⟩
  .rename_i hk;obtain⟨v,h1,h2,h3⟩:=zQD h;refine⟨v,by omega, ?_,by simp[zOG,hk,h3]⟩
   rw[show j-i=(j-(i+1))+1 by omega,List.getElem?_cons_succ];exact h2
theorem zYO{k:ij}:∀{m:List (ij×U)} {i:Nat},yIB k m i=none->zOG m k=none
 |[],_,_=>rfl
 |e::m,i,h=>by
  unfold yIB at h;split at h
  .cases h
  .rename_i hk;simp[zOG,hk,zYO h]
def zAR(P:Program)(E:St)(b:Nat)(enc:ij->Value)(vf:U->Value)(F:ij->Option U):Prop:=b<E.j/\∃m:List (ij×U),yP E.heap b=some (.map (m.map λe=>(enc e.1,vf e.2)))/\∀k,F k=zOG m k
theorem zAR.le(h:zAR P E b enc vf F)(k:Le E O):zAR P O b enc vf F:=by
 obtain⟨h1,m,h2,h3⟩:=h;exact⟨Nat.lt_of_lt_of_le h1 k.j,m,by rw[k.get _ h1];exact h2,h3⟩
theorem zAR.at_(h:zAR P E b enc vf F)(k:yP O.heap b=yP E.heap b)(hn:E.j<=O.j):zAR P O b enc vf F:=by
 obtain⟨h1,m,h2,h3⟩:=h;exact⟨Nat.lt_of_lt_of_le h1 hn,m,by rw[k];exact h2,h3⟩
theorem zAR.new(E:St):zAR P (E.add (.map [])) E.j enc vf (λ_=>none):=⟨by simp,[],by rw[St.add_get,if_pos rfl];rfl,λ_=>rfl⟩
theorem zAR.look{ok:Bool}(h:zAR P E b enc vf F)(hk:KeyT P kt enc)(hm:zCH P mt=some (kt,et))(hz:uO P et=some z)(k:ij) :
  xJ P (evL [.map (some b),enc k]) E (.lookup mt (.tmp 0) (.tmp 1) ok)=some (let v:=match F k with|some v=>vf v|none=>z;bif ok then .tuple ⟨[v,.bool (F k).isSome]⟩else v):=by
 obtain⟨h1,m,h2,h3⟩:=h;have e0:∀l:List Value,evL l (.tmp 0)=l.getD 0 undef:=λ_=>rfl
 have e1:∀l:List Value,evL l (.tmp 1)=l.getD 1 undef:=λ_=>rfl
 unfold xJ;simp only[hm,hz,e0,e1,List.getD_cons_zero,List.getD_cons_succ,h2,hk.ok,cond_true,zQC hk];rw[h3 k];cases hi:yIB k m 0 with
 |none=>simp only[zYO hi];rfl
 |some j =>
  obtain⟨v,_,g2,g3⟩:=zQD hi;simp only[g3];rw[Nat.sub_zero]at g2;simp[g2]
theorem zAR.look1(h:zAR P E b enc vf F)(hk:KeyT P kt enc)(hm:zCH P mt=some (kt,et))(hz:uO P et=some z){k:ij}{v:U}(hv:F k=some v) :
  xJ P (evL [.map (some b),enc k]) E (.lookup mt (.tmp 0) (.tmp 1) true)=some (.tuple ⟨[vf v,.bool true]⟩):=by rw[h.look hk hm hz k,hv];rfl
theorem zAR.look0(h:zAR P E b enc vf F)(hk:KeyT P kt enc)(hm:zCH P mt=some (kt,et))(hz:uO P et=some z){k:ij}(hv:F k=none) :
  xJ P (evL [.map (some b),enc k]) E (.lookup mt (.tmp 0) (.tmp 1) true)=some (.tuple ⟨[z,.bool false]⟩):=by rw[h.look hk hm hz k,hv];rfl
theorem zAR.lookv(h:zAR P E b enc vf F)(hk:KeyT P kt enc)(hm:zCH P mt=some (kt,et))(hz:uO P et=some z){k:ij}{v:U}(hv:F k=some v) :
  xJ P (evL [.map (some b),enc k]) E (.lookup mt (.tmp 0) (.tmp 1) false)=some (vf v):=by rw[h.look hk hm hz k,hv];rfl
theorem xCX{m:List (ij×U)}{k k':ij}{x:U}(h:zOG m k=none):zOG (m++[(k,x)]) k'=if k'=k then some x else zOG m k':=by
 induction m with
 |nil=>simp[zOG]
 |cons e m ih =>
  simp only[zOG]at h;split at h
  .cases h
  .rename_i hk;simp only[List.cons_append,zOG,ih h];by_cases h1:k'=e.1
   .have:¬k'=k:=λh2=>hk (h2 ▸ h1)
    rw[if_pos h1,if_pos h1,if_neg this]
   .rw[if_neg h1,if_neg h1]
theorem xCW{k k':ij}{x:U}:∀{m:List (ij×U)} {i j:Nat},yIB k m i=some j->zOG (m.set (j-i) (k,x)) k'=if k'=k then some x else zOG m k'
 |[],_,_,h=>by cases h
 |e::m,i,j,h=>by
  unfold yIB at h;split at h
  .rename_i hk;cases h
   simp only[Nat.sub_self,List.set_cons_zero,zOG];by_cases h1:k'=k
   .rw[if_pos h1,if_pos h1]
   .rw[if_neg h1,if_neg h1,if_neg (λh2=>h1 (h2.trans hk.symm))]
  .rename_i hk;obtain⟨v,h1,_,_⟩:=zQD h;rw[show j-i=(j-(i+1))+1 by omega,List.set_cons_succ];simp only[zOG];rw[xCW h];by_cases h2:k'=e.1
   .have:¬k'=k:=λh3=>hk (h3 ▸ h2)
    rw[if_pos h2,if_pos h2,if_neg this]
   .rw[if_neg h2,if_neg h2]
theorem zAR.put(h:zAR P E b enc vf F)(hk:KeyT P kt enc)(hm:zCH P mt=some (kt,et))(k:ij)(x:U) :
  ∃es,yN P (evL [.map (some b),enc k,vf x]) E (.mapUpdate mt (.tmp 0) (.tmp 1) (.tmp 2))=some (undef,E.put b (.map es))/\zAR P (E.put b (.map es)) b enc vf (λk'=>if k'=k then some x else F k'):=by
 obtain⟨h1,m,h2,h3⟩:=h;have e0:∀l:List Value,evL l (.tmp 0)=l.getD 0 undef:=λ_=>rfl
 have e1:∀l:List Value,evL l (.tmp 1)=l.getD 1 undef:=λ_=>rfl
 have e2:∀l:List Value,evL l (.tmp 2)=l.getD 2 undef:=λ_=>rfl
 cases hi:yIB k m 0 with
 |none =>
  refine⟨(m++[(k,x)]).map λe=>(enc e.1,vf e.2), ?_,by simpa using h1,m++[(k,x)],by rw[St.put_get,if_pos rfl],λk'=>?_⟩
  .unfold yN;simp only[hm,e0,e1,e2,List.getD_cons_zero,List.getD_cons_succ,h2,hk.ok,cond_true,zQC hk,hi,St.write_eq,List.map_append,List.map_cons,List.map_nil]
  .show(if k'=k then some x else F k')=_;rw[xCX (zYO hi),h3 k']
 |some j =>
  obtain⟨v,_,g2,g3⟩:=zQD hi;rw[Nat.sub_zero]at g2;refine⟨(m.set j (k,x)).map λe=>(enc e.1,vf e.2), ?_,by simpa using h1,m.set j (k,x),by rw[St.put_get,if_pos rfl],λk'=>?_⟩
  .have g2':(m.map λe=>(enc e.1,vf e.2))[j]?=some (enc k,vf v):=by simp[g2]
   unfold yN;simp only[hm,e0,e1,e2,List.getD_cons_zero,List.getD_cons_succ,h2,hk.ok,cond_true,zQC hk,hi,g2',hk.bits,St.write_eq,List.map_set]
  .have:=xCW (x:=x) (k':=k') hi;rw[Nat.sub_zero]at this;show(if k'=k then some x else F k')=_;rw[this,h3 k']
end
end
end Go.Lay

namespace Go.Lay
open Go
def Keys:List (Nat×Nat)->Nat->Prop
 |[],_=>True
 |(k,_)::l,nx=>k<nx/\Keys l k
theorem Keys.mono:∀{l:List (Nat×Nat)} {m n:Nat},Keys l m->m<=n->Keys l n
 |[],_,_,_,_=>trivial
 |(_,_)::_,_,_,h,hm=>⟨Nat.lt_of_lt_of_le h.1 hm,h.2⟩
theorem Keys.lt:∀{l r:List (Nat×Nat)} {k e m:Nat},Keys (l++(k,e)::r) m->k<m
 |[],_,_,_,_,h=>h.1
 |(_,_)::l,_,_,_,_,h=>Nat.lt_trans (Keys.lt h.2) h.1
theorem Keys.drop:∀{l r:List (Nat×Nat)} {m:Nat},Keys (l++r) m->Keys r m
 |[],_,_,h=>h
 |(_,_)::l,_,_,h=>(Keys.drop h.2).mono (Nat.le_of_lt h.1)
theorem Keys.find:∀{l r:List (Nat×Nat)} {k e m:Nat},Keys (l++(k,e)::r) m->vP (l++(k,e)::r) k=some e/\vE (l++(k,e)::r) k=(k,e)::r
 |[],r,k,e,_,_=>by simp[vP,vE]
 |(k',e')::l,r,k,e,_,h=>by
  have h1:k<k':=Keys.lt h.2;have h2:Nat.beq k' k=false:=by rw[Bool.eq_false_iff];intro e;have:=Nat.eq_of_beq_eq_true e;omega
  obtain⟨h3,h4⟩:=Keys.find h.2;exact⟨by rw[List.cons_append,vP,h2,cond_false];exact h3,by rw[List.cons_append,vE,h2,cond_false];exact h4⟩
def Stk(z:St)(n0:Nat)(p:Option Addr)(len c:Nat)(xs:List Value)(sf:List (Nat×Nat)):Prop :=
 (p=none/\len=0/\c=0/\xs=[]/\sf=[])\/∃b s bc pre r nx,p=some ⟨b,0,s⟩/\c=len+uQ/\xs.length=len/\0<len/\sf=(s.getD 0,len)::r/\n0<=b/\b<z.j/\yP z.heap b=some (.cells bc 1 (pre++sf) nx false)/\bc.take len=xs/\Keys (pre++sf) nx
def Kid(n0:Nat)(p:Option Addr)(len c:Nat)(xs:List Value)(sf:List (Nat×Nat))(p':Option Addr)(xs':List Value)(sf':List (Nat×Nat)):Prop :=
 (p=none/\len=0/\c=0/\xs=[]/\sf=[])\/∃b s s' e r,p=some ⟨b,0,s⟩/\p'=some ⟨b,0,s'⟩/\sf'=e::sf/\sf=(s.getD 0,len)::r/\c=len+uQ/\xs.length=len/\0<len/\xs'.take len=xs/\n0<=b
section
variable{P:Program}{S:Nat->Prop}{z z':St}{n0 len c len' c':Nat}{p p':Option Addr}{xs xs':List Value}{sf sf':List (Nat×Nat)}
theorem Stk.nil:Stk z n0 none 0 0 [] []:=.inl ⟨rfl,rfl,rfl,rfl,rfl⟩
theorem Stk.leq(h:Stk z n0 p len c xs sf):xs.length=len:=by
 rcases h with ⟨_,rfl,_,rfl,_⟩|⟨_,_,_,_,_,_,_,_,h,_⟩
 .rfl
 .exact h
theorem Stk.bd(h:Stk z n0 p len c xs sf):∀b,AtP p b->n0<=b/\b<z.j:=by
 rintro b ⟨a,rfl,rfl⟩;rcases h with ⟨h,_⟩|⟨b,s,bc,pre,r,nx,h1,h2,h3,h4,h5,h6,h7,_⟩
 .cases h
 .cases h1;exact⟨h6,h7⟩
theorem Stk.only(h:Stk z n0 p len c xs sf)(k:Only S z z')(hs:∀b,AtP p b->¬S b):Stk z' n0 p len c xs sf:=by
 rcases h with h|⟨b,s,bc,pre,r,nx,rfl,h2,h3,h4,h5,h6,h7,h8,h9⟩
 .exact .inl h
 .exact .inr ⟨b,s,bc,pre,r,nx,rfl,h2,h3,h4,h5,h6,Nat.lt_of_lt_of_le h7 k.j,by rw[k.get b h7 (hs b ⟨_,rfl,rfl⟩)];exact h8,h9⟩
theorem Stk.le(h:Stk z n0 p len c xs sf)(k:Le z z'):Stk z' n0 p len c xs sf:=by
 rcases h with h|⟨b,s,bc,pre,r,nx,rfl,h2,h3,h4,h5,h6,h7,h8,h9⟩
 .exact .inl h
 .exact .inr ⟨b,s,bc,pre,r,nx,rfl,h2,h3,h4,h5,h6,Nat.lt_of_lt_of_le h7 k.j,by rw[k.get b h7];exact h8,h9⟩
theorem Stk.slp(h:Stk z n0 p len c xs sf):SlP z 1 p len xs:=by
 rcases h with ⟨rfl,rfl,_,rfl,_⟩|⟨b,s,bc,pre,r,nx,rfl,h2,h3,h4,rfl,h6,h7,h8,h9,h10⟩
 .exact SlP.nil _ _
 .refine⟨by omega, ?_,h7⟩
  have hle:Nat.ble (0+len) len=true:=(yJ _ _).2 (by omega);unfold xG;simp only[h8,yO,(Keys.find h10).1,hle,cond_true,List.drop_zero,h3,h9]
theorem Stk.slv{t:Nat}(h:Stk z n0 p len c xs sf)(he:∀v∈xs,zDV P t 1 v/\v.cells.toList=[v]):SlV P z t 1 p len xs:=by
 have hf:wD xs=xs:=by
  have:∀l:List Value,(∀v∈l,v.cells.toList=[v])->wD l=l:=by
   intro l;induction l with
   |nil=>intro _;rfl
   |cons v l ih =>
    intro h;have h1:=h v List.mem_cons_self;have h2:=ih (λx hx=>h x (List.mem_cons_of_mem _ hx));have:wD (v::l)=v.cells.toList++wD l:=by simp[wD]
    rw[this,h1,h2];rfl
  exact this xs (λv hv=>(he v hv).2)
 exact⟨by rw[hf];exact h.slp,h.leq,λv hv=>(he v hv).1⟩
theorem Kid.pop(h:Kid n0 p len c xs sf p' xs' sf')(k:Stk z n0 p' len' c' xs' sf'):Stk z n0 p len c xs sf:=by
 rcases h with h|⟨b,s,s',e,r,rfl,rfl,rfl,rfl,rfl,h1,h2,h3,h4⟩
 .exact .inl h
 .rcases k with ⟨k,_⟩|⟨b',s2,bc,pre,r',nx,k1,k2,k3,k4,k5,k6,k7,k8,k9,k10⟩
  .cases k
  .cases k1
   refine .inr ⟨b,s,bc,pre++[e],r,nx,rfl,rfl,h1,h2,rfl,h4,k7, ?_, ?_, ?_⟩
   .rw[List.append_assoc];exact k8
   .have hl:len<=len':=by
     have:=congrArg List.length h3;simp at this;omega
    rw[<- h3,<- k9,List.take_take,Nat.min_eq_left hl]
   .rw[List.append_assoc];exact k10
theorem Stk.push{st xt e:Nat}{v:Value}(T:AppT P st xt e 1)(h:Stk z n0 p len c xs sf)(hc:cellB v=true)(hroom:len+1<=1073741824)(hn:n0<=z.j) :
  ∃p' c' sf' z',xO P st xt (.slice p len c) (.slice (some ⟨z.j,0,none⟩) 1 1) (z.row [v] 1)=some (.slice p' (len+1) c',z')/\Stk z' n0 p' (len+1) c' (xs++[v]) sf'/\Kid n0 p len c xs sf p' (xs++[v]) sf'/\Only (AtP p) z z'/\z'.low<=z.low/\∀b,AtP p' b->AtP p b\/z.j<=b:=by
 obtain⟨xd,hxd,hxi⟩:=T.src;obtain⟨ei,zv,hei,hz,hby,hrz,hzl⟩:=T.info;have hrow:=wB z [v] 1;have hsrc:zBC (z.row [v] 1) 1 zv xd (.slice (some ⟨z.j,0,none⟩) 1 1)=some (1,[v]):=by
  have:uD (z.row [v] 1) 1 (.slice (some ⟨z.j,0,none⟩) 1 1)=some (1,[v]):=by
   have hrd:=hrow.rd;have hrd:xG (z.row [v] 1) ⟨z.j,0,none⟩ (1*1)=some [v]:=hrd;simp[uD,hrd]
  unfold zBC;cases xd with
  |int _=>cases hxi
  |_=>simp only[this]
 have hcond:(zBH (len+1) 1 ei.bytes&&[v].all cellB&&Nat.beq [v].length (1*1)&&yI RD zv&&Nat.beq zv.cells.toList.length 1)=true:=by
  unfold zBH;have:Nat.beq [v].length (1*1)=true:=rfl;rw[(yJ _ _).2 hroom,(yJ _ _).2 T.le,(yJ _ _).2 hby,this,hrz,hzl];simp[hc]
 have hc0:xC 0=0:=by unfold xC;have:=uF;rw[if_neg (by omega)]
 have hc1:xR 0=true:=(xN 0).2 uF;rcases h with ⟨rfl,rfl,rfl,rfl,rfl⟩|⟨b,s,bc,pre,r,nx,rfl,rfl,h3,h4,rfl,h6,h7,h8,h9,h10⟩
 .refine⟨some ⟨(z.row [v] 1).j,0,none⟩,0+1+uQ,[(0,1)],(z.row [v] 1).add (.cells [v] 1 [(0,1)] 1 false), ?_, ?_,.inl ⟨rfl,rfl,rfl,rfl,rfl⟩, ?_,Nat.le_refl _,λb hb=>.inr (by obtain⟨a,e,rfl⟩:=hb;cases e;simp)⟩
  .have hble:Nat.ble (0+1) 0=false:=rfl;unfold xO;simp only[T.el,hxd,hei,hz,hsrc,hcond,cond_true,uC,hc0,hble,cond_false,hc1,xD];rfl
  .refine .inr ⟨(z.row [v] 1).j,none,[v],[],[],1,rfl,rfl,rfl,by omega,rfl,by simp;omega,by simp, ?_,rfl,⟨by simp,trivial⟩⟩;rw[St.add_get,if_pos rfl];rfl
  .exact(Only.row _ _ _).trans' (Only.add _ _:Only (AtP none) _ _) (λb _ h=>.inl h)
 .obtain⟨f1,f2⟩:=Keys.find h10;have hcx:xR (len+uQ)=false:=by unfold xR;rw[(yJ _ _).2 (by omega)];rfl
  have hcl:xC (len+uQ)=len:=zBK _;have hble:Nat.ble (len+1) len=false:=by rw[Bool.eq_false_iff];intro e;have:=(yJ _ _).1 e;omega
  have hgb:yP (z.row [v] 1).heap b=some (.cells bc 1 (pre++(s.getD 0,len)::r) nx false):=by
   rw[(Le.row z [v] 1).get b h7];exact h8
  have hg:(Nat.beq len len&&Nat.beq (0+len*1) len&&Nat.beq 1 1&&!false&&Nat.blt 0 1)=true:=by
   rw[Nat.beq_refl,show 0+len*1=len by omega,Nat.beq_refl];rfl
  have hbl:(bc.take len).length=len:=by rw[h9];exact h3
  refine⟨some ⟨b,0,some nx⟩,len+1+uQ,(nx,len+1)::(s.getD 0,len)::r,(z.row [v] 1).put b (.cells (bc.take len++[v]) 1 ((nx,len+1)::(s.getD 0,len)::r) (nx+1) false), ?_, ?_, ?_, ?_, ?_,λb' hb=>.inl (by obtain⟨a,e,rfl⟩:=hb;cases e;exact⟨_,rfl,rfl⟩)⟩
  .unfold xO;simp only[T.el,hxd,hei,hz,hsrc,hcond,cond_true,uC,hcl,hble,cond_false,hcx];unfold zLP;simp only[hgb,yO,f1,f2,hg,cond_true,zCV,vC,St.write_eq]
  .refine .inr ⟨b,some nx,bc.take len++[v],[],(s.getD 0,len)::r,nx+1,rfl,rfl,by simp[h3],by omega,rfl,h6,by simp;omega, ?_, ?_,⟨by omega, ?_⟩⟩
   .rw[St.put_get,if_pos rfl];rfl
   .rw[List.take_of_length_le (by simp[hbl]),h9]
   .have:=h10.drop;exact⟨Keys.lt h10,this.2⟩
  .exact .inr ⟨b,s,some nx,(nx,len+1),r,rfl,rfl,rfl,rfl,rfl,h3,h4,by rw[List.take_append_of_le_length (by omega),List.take_of_length_le (by omega)],h6⟩
  .exact(Only.row _ _ _).trans' (Only.put (S:=AtP (some ⟨b,0,s⟩)) (.inr ⟨_,rfl,rfl⟩)) (λb _ h=>.inl h)
  .simp;omega
end
end Go.Lay
