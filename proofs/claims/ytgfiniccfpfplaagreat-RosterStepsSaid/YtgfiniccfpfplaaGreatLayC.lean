
import Derived.ChangeArms
import Derived.ReadAgain
import Derived.ChangeBears
import Derived.Below
import Derived.Test.YtgfiniccfpfplaaGreatLayB
set_option linter.unusedVariables false
set_option linter.unusedSimpArgs false
namespace Go.Lay
open Go

def ov:List (Nat × Value)->(Nat->Value)->Nat->Value
 | [],g,i=>g i
 | (k,v)::l,g,i=>bif Nat.beq k i then v else ov l g i
def trF (g:Nat->Value):Nat->Nat->Nat->Bool->Tr Value
 | 0,_,_,_=>.leaf
 | d+1,w,a,c=>.node (some (bif c then g a else undef)) (trF g d (w*2) a false) (trF g d (w*2) (a+w) true)
def Fm (n:Nat) (g:Nat->Value):Tm:=⟨n,trF g ((way n).length+1) 1 0 true⟩
structure Alt where
 T:Type
 e:Exit
 l:T->List (Nat × Value)
 ms:T->List Nat
 Q:T->St->Prop

inductive Ans
 | g
 | b (t:Bool)
 | n (z:Int)
 | l (v:Value)
 | i
 | v (v:Value)
 | e (v:Value) (Z:St)
 | c (v:Value) (Z:St)
 | lp (e:Exit) (fr:Fr) (Z:St)
 | lf (n:Nat) (l:List (Nat × Value)) (alts:List Alt)
 | rf (n:Nat) (l:List (Nat × Value)) (alts:List (Exit × (St->Prop)))
 | fin (a:Alt) (t:a.T)
 | cut (n:Nat) (l:List (Nat × Value)) (alts:List Alt)

def St.row (Z:St) (cs:List Value) (esz:Nat):St:=Z.add (.cells cs esz [(0,cs.length)] 1 false)

def yZL (P:Program) (ev:Operand->Value) (Z:St) (o:Op):Option (Value × St) :=
 match o with
 | .alloc t=>match uZ P t with
  | some z=>some (.pointer (some ⟨Z.y,0,none⟩),Z.row z.cells.toList (xUO P t z.cells.toList.length))
  | none=>none
 | .box t x=>some (.pointer (some ⟨Z.y,0,none⟩),Z.row (ev x).cells.toList (xUO P t (ev x).cells.toList.length))
 | .buildSlice t len ps =>
  match xV P t with
  | some (e,n)=>match uZ P e with
   | some z =>
    bif Nat.ble (len*n) 16777216 && Nat.beq z.cells.toList.length n then
     match zNF (fun i=>some (i*n,n)) (yW z.cells.toList len) (ps.toList.map fun p=>(p.1,ev p.2)) with
     | some cs=>some (.slice (some ⟨Z.y,0,none⟩) len len,Z.row cs n)
     | none=>none
    else none
   | none=>none
  | none=>none
 | .makeMap t none=>match zEA P t with
  | some _=>some (.map (some Z.y),Z.add (.map []))
  | none=>none
 | o=>match xS P ev o with
  | some v=>some (v,Z)
  | none=>none

def evL (l:List Value):Operand->Value
 | .tmp i=>l.getD i undef
 | _=>undef
def wW (n:Nat):List Operand:=(List.range n).map .tmp
def xOE (i:Int) (len:Nat):Prop:=0<=i/\i<(len:Int)

def xWK (P:Program) (f:Tm) (Z:St) (o:Op) (v:Value):Prop :=
 match o with
 | .slice t x lo hi mx=>uV P Z t (yF f x) (lo.map (yF f)) (hi.map (yF f)) (mx.map (yF f))=some v
 | .lookup t m k ok=>xN P (evL [yF f m,yF f k]) Z (.lookup t (.tmp 0) (.tmp 1) ok)=some v
 | .index t x k=>zAK P t (yF f x) (yF f k)=some v
 | .binOp op t x y _=>uE P op t x y (yF f x) (yF f y)=some v
 | .convert s d x=>xO P (evL [yF f x]) Z (.convert s d (.tmp 0))=some v
 | .call c=>xO P (evL (c.args.toList.map (yF f))) Z (.call { c with args:=⟨wW c.args.toList.length⟩ })=some v
 | o=>xO P (yF f) Z o=some v
def xWL (P:Program) (f:Tm) (Z:St) (o:Op) (v:Value) (Z':St):Prop :=
 match o with
 | .store t a x=>zQ P (evL [yF f a,yF f x]) Z (.store t (.tmp 0) (.tmp 1))=some (v,Z')
 | .mapUpdate t m k x=>zQ P (evL [yF f m,yF f k,yF f x]) Z (.mapUpdate t (.tmp 0) (.tmp 1) (.tmp 2))=some (v,Z')
 | .insert t m k x=>zQ P (evL [yF f m,yF f k,yF f x]) Z (.insert t (.tmp 0) (.tmp 1) (.tmp 2))=some (v,Z')
 | .makeSlice t l c=>zQ P (evL [yF f l,yF f c]) Z (.makeSlice t (.tmp 0) (.tmp 1))=some (v,Z')
 | .call c=>match c.callee,c.argTypes.toList,c.args.toList.map (yF f) with
  | .builtin .append,[st,xt],[s,x]=>yG P st xt s x Z=some (v,Z')
  | _,_,_=>zQ P (yF f) Z (.call c)=some (v,Z')
 | o=>zQ P (yF f) Z o=some (v,Z')

abbrev zRN:=FnRef->List Value->St->Value->St->Prop
abbrev zVL (rec:Rec):zRN:=fun r args Z v Z'=>vX rec r args Z=some (v,Z')
def zXN (P:Program) (C:zRN) (f:Tm) (Z:St) (o:Op):List Ans->(Value->St->List Ans->Prop)->Prop
 | .g::as,K=>match yZL P (yF f) Z o with
  | some (v,Z')=>K v Z' as
  | none=>False
 | .b t::as,K=>match xS P (yF f) o with
  | some (.bool e)=>e=t/\K (.bool t) Z as
  | _=>False
 | .n z::as,K=>match xS P (yF f) o with
  | some (.int k e)=>e=z/\K (.int k z) Z as
  | _=>False
 | .l v::as,K=>match o with
  | .load t x=>match yF f x with
   | .pointer (some a)=>zB P Z t a=some v/\K v Z as
   | _=>False
  | _=>False
 | .i::as,K=>match o with
  | .indexAddr t x k=>match yF f k,yF f x,P.underlying t with
   | .int _ i,.pointer (some a),some (.array len elem)=>match yT P elem with
    | some n=>xOE i len/\K (.pointer (some (zL a (i.toNat*n)))) Z as
    | none=>False
   | .int _ i,.slice (some a) len _,some (.slice elem)=>match yT P elem with
    | some n=>xOE i len/\K (.pointer (some (zL a (i.toNat*n)))) Z as
    | none=>False
   | _,_,_=>False
  | _=>False
 | .v v::as,K=>xWK P f Z o v/\K v Z as
 | .e v Z'::as,K=>xWL P f Z o v Z'/\K v Z' as
 | .c v Z'::as,K=>match o with
  | .call c=>match c.callee with
   | .value fx=>match zNA (yF f fx) (c.args.toList.map (yF f)) with
    | some (r,args)=>match xUN P fx Z r args with
     | none=>C r args Z v Z'/\K v Z' as
     | some _=>False
    | none=>False
   | _=>False
  | _=>False
 | _,_=>False

def zFR (P:Program) (C:zRN) (ops:Array Oper):List Oper->List Ans->Tm->St->List Seen->(Tm->St->List Seen->List Ans->Prop)->Prop
 | [],as,f,Z,l,K=>K f Z l as
 | o::rest,as,f,Z,l,K =>
  match zFM ops f o with
  | some true=>zXN P C f Z o.op as fun v Z' as=>zFR P C ops rest as (zMR f o.dst v) Z' (l++[⟨f,v,true,Z,Z'⟩]) K
  | some false=>zFR P C ops rest as (zMR f o.dst undef) Z (l++[⟨f,undef,false,Z,Z⟩]) K
  | none=>False

def zM:Nat->Value->Bool
 | 0,_=>false
 | n+1,.agg cs=>cs.toList.all (zM n)
 | n+1,.tuple cs=>cs.toList.all (zM n)
 | n+1,.iface _ v=>zM n v
 | n+1,.func (.func _) f c=>f.toList.all (zM n) && c.toList.all (zM n)
 | _+1,.int k _=>zDR k k
 | _+1,.bool _ | _+1,.string _ | _+1,.pointer _ | _+1,.slice _ _ _ | _+1,.map _ | _+1,.nilFunc | _+1,.nilIface=>true
 | _+1,_=>false
structure Lk where
 want:Bool
 need:Bool
 low:Prop
 look:St->Prop
 before:St
 after:St
def zI (n:Nat) (vs:List Value):Prop:=vs.all (yV RD n)=true
def xTR (f:Tm):Option Operand->List Value
 | some x=>[yF f x]
 | none=>[]
def xBR (P:Program) (f:Tm) (o:Op) (v:Value) (Z:St):Prop :=
 match o with
 | .load t x=>match yF f x with
  | .pointer (some a)=>(a.block<Z.y/\zM RD v=true)/\zB P Z t a=some v
  | _=>False
 | .slice t x lo hi mx=>(zI Z.y (yF f x::(xTR f lo++(xTR f hi++xTR f mx)))/\zM RD v=true)/\uV P Z t (yF f x) (lo.map (yF f)) (hi.map (yF f)) (mx.map (yF f))=some v
 | .lookup t m k ok=>(zI Z.y [yF f m,yF f k]/\zM RD v=true)/\xN P (evL [yF f m,yF f k]) Z (.lookup t (.tmp 0) (.tmp 1) ok)=some v
 | .convert s d x=>(zI Z.y [yF f x]/\zM RD v=true)/\xO P (evL [yF f x]) Z (.convert s d (.tmp 0))=some v
 | .call c=>(zI Z.y (c.args.toList.map (yF f))/\zM RD v=true)/\c.callee=.builtin .len/\xO P (evL (c.args.toList.map (yF f))) Z (.call { c with args:=⟨wW c.args.toList.length⟩ })=some v
 | _=>False
def xAJ:Value->Bool
 | .bool _ | .int .. | .string _ | .nilFunc | .nilIface=>true
 | _=>false
def xMJ (f:Tm) (o:Op):List Value:=(o.operands.toList.filter fun x=>!xUE x).map (yF f)
def xYL (f:Tm) (o:Op):Bool:=(xP o || zBP o) && !(xMJ f o).all xAJ
def zCO (P:Program) (C:zRN) (ops:Array Oper):List Oper->List Ans->Tm->St->List Lk->(Tm->St->List Lk->List Ans->Prop)->Prop
 | [],as,f,Z,l,K=>K f Z l as
 | o::rest,as,f,Z,l,K =>
  match zFM ops f o with
  | some true=>zXN P C f Z o.op as fun v Z' as=>zCO P C ops rest as (zMR f o.dst v) Z' (l++[⟨true,xYL f o.op,zI Z.y (xMJ f o.op),xBR P f o.op v,Z,Z'⟩]) K
  | some false=>zCO P C ops rest as (zMR f o.dst undef) Z (l++[⟨false,false,True,fun _=>True,Z,Z⟩]) K
  | none=>False
def uF (l:List Lk):List (Nat × Nat)->Prop->Prop
 | [],K=>K
 | p::ps,K=>match l[p.1]?,l[p.2]? with
  | some sj,some sk=>match sj.want with
   | true=>sj.look sk.before/\sj.look sk.after/\uF l ps K
   | false=>uF l ps K
  | _,_=>False
def zEO:List Lk->Prop->Prop
 | [],K=>K
 | s::ss,K=>match s.need with
  | true=>s.low/\zEO ss K
  | false=>zEO ss K

def zIT (P:Program) (C:zRN) (ops:Array Oper) (draw:Bool) (as:List Ans) (fr:Fr) (Z:St) (K:Exit->Fr->St->List Ans->Prop):Prop :=
 match draw with
 | false=>zFR P C ops ops.toList as fr.f Z [] fun f Z _ as=>K .normal ⟨f,fr.marks⟩ Z as
 | true=>match yKQ ops (CheckFast.beforeF ops),zZO ops (CheckFast.beforeF ops),xWS ops (CheckFast.beforeF ops) with
  | true,[],false=>zFR P C ops ops.toList as fr.f Z [] fun f Z _ as=>K .normal ⟨f,fr.marks⟩ Z as
  | true,ps,_=>zCO P C ops ops.toList as fr.f Z [] fun f Z l as=>zEO l (uF l ps (K .normal ⟨f,fr.marks⟩ Z as))
  | false,_,_=>False

def wpC (P:Program) (rec:Rec) (N:Nat) (rd:Option Nat):Code->List Ans->Fr->St->(Exit->Fr->St->List Ans->Prop)->Prop
 | .skip,as,fr,Z,K=>K .normal fr Z as
 | .label _,as,fr,Z,K=>K .normal fr Z as
 | .ret,as,fr,Z,K=>K .ret fr Z as
 | .exit id,as,fr,Z,K=>K (.exit id) fr Z as
 | .seq x y,as,fr,Z,K=>wpC P rec N rd x as fr Z fun e fr Z as=>match e with
  | .normal=>wpC P rec N rd y as fr Z K
  | e=>K e fr Z as
 | .cond c x y,as,fr,Z,K=>match yF fr.f c with
  | .bool true=>wpC P rec N rd x as fr Z K
  | .bool false=>wpC P rec N rd y as fr Z K
  | _=>False
 | .block id c,as,fr,Z,K=>wpC P rec N rd c as fr Z fun e fr Z as=>match e with
  | .exit i=>match Nat.beq i id with
   | true=>K .normal fr Z as
   | false=>K (.exit i) fr Z as
  | e=>K e fr Z as
 | .scope c,as,fr,Z,K=>wpC P rec N rd c as fr Z K
 | .region _ ops d,as,fr,Z,K=>zIT P (zVL rec) ops d as fr Z K
 | .loop c,.lp e fr' Z'::as,fr,Z,K=>zEC (yJ P rec N rd c) N fr Z=some (e,fr',Z')/\K e fr' Z' as
 | .rangeFunc g ps a bo,.lp e fr' Z'::as,fr,Z,K=>zNW rec rd g ps a bo fr Z=some (e,fr',Z')/\K e fr' Z' as
 | _,_,_,_,_=>False

section
variable {P:Program} {rec:Rec}

theorem yLF {o:Op} {f:Tm} {Z:St} {r:Value × St} (h:yZL P (yF f) Z o=some r):opA P rec (yF f) Z o=some r:=by
 unfold yZL at h;split at h
 ·split at h
  ·rename_i z hz;simp [opA,zHS,zQ,hz,yM,wD] at h ⊢;exact h
  ·cases h
 ·simp [opA,zHS,zQ,yM,wD] at h ⊢;exact h
 ·split at h
  ·rename_i e n hes;split at h
   ·rename_i z hz;obtain ⟨hc,h⟩:=xU h;split at h
    ·rename_i cs hf;simp only [opA,zHS,zQ,hes,hz,hc,cond_true,hf,yM];exact h
    ·cases h
   ·cases h
  ·cases h
 ·split at h
  ·rename_i ke hmo;simp only [opA,zHS,zQ,hmo,cond_true,St.new_eq];exact h
  ·cases h
 ·rename_i hn1 hn2 hn3 hn4;split at h
  ·rename_i v hv;cases h
   unfold opA;split
   ·rename_i c;unfold zOT;split
    ·rename_i fx hc;exfalso;simp only [xS] at hv;split at hv <;> simp_all
    ·rename_i hc;exfalso;simp [xS,hc] at hv
    ·rename_i hc;exfalso;simp [xS,hc] at hv
    ·rename_i hc;rw [hv]
    ·rename_i hc;rw [hv];rfl
    ·rename_i hc;exfalso;simp [xS,hc] at hv
   ·simp [xS] at hv
   ·simp [xS] at hv
   ·simp [xS] at hv
   ·rw [hv]
   ·have:zHS o=false:=by
     cases o <;> first | rfl | (simp [xS] at hv;done) | (exfalso;rename_i hx _ _ _ _;exact hx _ rfl)
    rw [this,hv];rfl
  ·cases h
end
end Go.Lay

namespace Go.Lay
open Go
section
variable {P:Program} {rec:Rec}

theorem uO {o:Op} {ev:Operand->Value} {Z:St} {v:Value} (hv:xS P ev o=some v):opA P rec ev Z o=some (v,Z):=by
 unfold opA;split
 ·rename_i c;unfold zOT;split
  ·rename_i fx hc;exfalso;simp only [xS] at hv;split at hv <;> simp_all
  ·rename_i hc;exfalso;simp [xS,hc] at hv
  ·rename_i hc;exfalso;simp [xS,hc] at hv
  ·rename_i hc;rw [hv]
  ·rename_i hc;rw [hv];rfl
  ·rename_i hc;exfalso;simp [xS,hc] at hv
 ·simp [xS] at hv
 ·simp [xS] at hv
 ·simp [xS] at hv
 ·rw [hv]
 ·have:zHS o=false:=by
   cases o <;> first | rfl | (simp [xS] at hv;done) | (exfalso;rename_i hx _ _ _ _;exact hx _ rfl)
  rw [this,hv];rfl

theorem zBQ {o:Op} {ev:Operand->Value} {Z:St} {v:Value} (hv:xS P ev o=none) (hl:xN P ev Z o=some v):opA P rec ev Z o=some (v,Z):=by
 unfold opA;split
 ·rename_i c;unfold zOT;split
  ·rename_i fx hc;exfalso;simp only [xN,hc] at hl;cases hl
  ·rename_i hc;exfalso;simp only [xN,hc] at hl;cases hl
  ·rename_i hc;exfalso;simp only [xN,hc] at hl;cases hl
  ·rename_i hc;rw [hv,hl];rfl
  ·rename_i b _ _ hb hc;exfalso;simp only [xN,hc] at hl;cases b <;> first | (simp at hl;done) | exact hb rfl
  ·rename_i hc;exfalso;simp only [xN,hc] at hl;cases hl
 ·rw [hl];rfl
 ·rw [hl];rfl
 ·rw [hl];rfl
 ·rw [hv,hl];rfl
 ·exfalso;cases o <;> first | (simp [xN] at hl;done) | (rename_i h1 h2 h3 h4 h5;first | exact h1 _ rfl | exact h2 _ _ rfl | exact h3 _ _ _ _ rfl | exact h4 _ _ _ _ _ rfl | exact h5 _ _ _ rfl)

theorem xHH {o:Op} {ev:Operand->Value} {Z Z':St} {v:Value} (h:zQ P ev Z o=some (v,Z')):opA P rec ev Z o=some (v,Z'):=by
 unfold opA;split
 ·rename_i c;unfold zOT;split
  ·rename_i fx hc;simp only [zQ,hc] at h;split at h
   ·rename_i r as href;simp only [Option.map_eq_some_iff] at h;obtain ⟨v0,h1,h2⟩:=h;simp only [h1];rw [h2]
   ·cases h
  ·exact h
  ·exact h
  ·rename_i hc;exfalso;simp only [zQ,hc] at h;cases h
  ·rename_i b ha hcp _ hc;exfalso;simp only [zQ,hc] at h;cases b <;> first | (simp at h;done) | exact ha rfl | exact hcp rfl
  ·rename_i hc;exfalso;simp only [zQ,hc] at h;cases h
 ·simp [zQ] at h
 ·simp [zQ] at h
 ·simp [zQ] at h
 ·simp [zQ] at h
 ·have:zHS o=true:=by
   cases o <;> first | rfl | (simp [zQ] at h;done) | (exfalso;rename_i hx _ _ _ _;exact hx _ rfl)
  rw [this];exact h

theorem xPG (l:List Value):(wW l.length).map (evL l)=l:=by
 apply List.ext_getElem
 ·simp [wW]
 ·intro i h1 h2;simp [wW,evL,List.getD,h2]
theorem zYF {c:Call} {ev:Operand->Value} {Z:St} {v:Value} (h:xO P (evL (c.args.toList.map ev)) Z (.call { c with args:=⟨wW c.args.toList.length⟩ })=some v):xO P ev Z (.call c)=some v:=by
 have e:(wW c.args.toList.length).map (evL (c.args.toList.map ev))=c.args.toList.map ev:=by
  have:=xPG (c.args.toList.map ev);rwa [List.length_map] at this
 simp only [xO,xS,xN,e] at h ⊢;exact h

theorem zXM {f:Tm} {Z:St} {o:Op} {as:List Ans} {K:Value->St->List Ans->Prop} (h:zXN P (zVL rec) f Z o as K):∃ v Z' as',opA P rec (yF f) Z o=some (v,Z')/\K v Z' as':=by
 unfold zXN at h;split at h
 ·split at h
  ·rename_i v Z' ho;exact ⟨v,Z',_,yLF ho,h⟩
  ·exact h.elim
 ·split at h
  ·rename_i e he;obtain ⟨rfl,h⟩:=h;exact ⟨_,_,_,uO he,h⟩
  ·exact h.elim
 ·split at h
  ·rename_i k e he;obtain ⟨rfl,h⟩:=h;exact ⟨_,_,_,uO he,h⟩
  ·exact h.elim
 ·split at h
  ·split at h
   ·rename_i a ha;exact ⟨_,_,_,zBQ rfl (by simp only [xN,ha];exact h.1),h.2⟩
   ·exact h.elim
  ·exact h.elim
 ·split at h
  ·rename_i t x k;split at h
   ·rename_i kd i a len elem hk hx hd;split at h
    ·rename_i n hn;refine ⟨_,_,_,uO (v:=.pointer (some (zL a (i.toNat*n)))) ?_,h.2⟩
     have h1:leI 0 i=true:=(wT 0 i).2 h.1.1;have h2:ltI i (.ofNat len)=true:=(zHO i _).2 h.1.2;simp only [xS,zEG,hk,hx,hd,hn,h1,h2,Bool.and_self,cond_true]
    ·exact h.elim
   ·rename_i kd i a len cp elem hk hx hd;split at h
    ·rename_i n hn;refine ⟨_,_,_,uO (v:=.pointer (some (zL a (i.toNat*n)))) ?_,h.2⟩
     have h1:leI 0 i=true:=(wT 0 i).2 h.1.1;have h2:ltI i (.ofNat len)=true:=(zHO i _).2 h.1.2;simp only [xS,zEG,hk,hx,hd,hn,h1,h2,Bool.and_self,cond_true]
    ·exact h.elim
   ·exact h.elim
  ·exact h.elim
 ·obtain ⟨hs,h⟩:=h;refine ⟨_,_,_, ?_,h⟩
  unfold xWK at hs;split at hs
  ·exact zBQ rfl hs
  ·exact zBQ rfl hs
  ·exact uO hs
  ·exact uO hs
  ·unfold xO at hs;split at hs
   ·rename_i v0 hv;cases hs;exact uO hv
   ·rename_i hv;exact zBQ hv hs
  ·have hs:=zYF hs;unfold xO at hs;split at hs
   ·rename_i v0 hv;cases hs;exact uO hv
   ·rename_i hv;exact zBQ hv hs
  ·unfold xO at hs;split at hs
   ·rename_i v0 hv;cases hs;exact uO hv
   ·rename_i hv;exact zBQ hv hs
 ·obtain ⟨he,h⟩:=h;refine ⟨_,_,_,xHH ?_,h⟩
  unfold xWL at he;split at he
  ·exact he
  ·exact he
  ·exact he
  ·exact he
  ·split at he
   ·rename_i hc ht ha;simp only [zQ,hc,ht,ha];exact he
   ·exact he
  ·exact he
 ·split at h
  ·split at h
   ·rename_i fx hc;split at h
    ·rename_i r args href;split at h
     ·rename_i hx;refine ⟨_,_,_, ?_,h.2⟩
      simp only [opA,zOT,hc,href,hx];exact h.1
     ·exact h.elim
    ·exact h.elim
   ·exact h.elim
  ·exact h.elim
 ·exact h.elim

theorem zET {ops:Array Oper}:∀ (rest:List Oper) (as:List Ans) (f:Tm) (Z:St) (l:List Seen) (K:Tm->St->List Seen->List Ans->Prop),zFR P (zVL rec) ops rest as f Z l K ->
  ∃ l' t τ as',zAQ P rec ops rest f Z=some (l',t,τ)/\K t τ (l++l') as'
 | [],as,f,Z,l,K,h=>⟨[],f,Z,as,rfl,by rw [List.append_nil];exact h⟩
 | o::rest,as,f,Z,l,K,h=>by
  unfold zFR at h;split at h
  ·rename_i hg;obtain ⟨v,Z',as',h1,h2⟩:=zXM h;obtain ⟨l',t,τ,as2,h3,h4⟩:=zET rest _ _ _ _ _ h2;exact ⟨⟨f,v,true,Z,Z'⟩::l',t,τ,as2,by simp [zAQ,hg,h1,zKN,vE,h3],by rw [List.append_assoc] at h4;exact h4⟩
  ·rename_i hg;obtain ⟨l',t,τ,as2,h3,h4⟩:=zET rest _ _ _ _ _ h;exact ⟨⟨f,undef,false,Z,Z⟩::l',t,τ,as2,by simp [zAQ,hg,vE,h3],by rw [List.append_assoc] at h4;exact h4⟩
  ·exact h.elim

theorem zDQ {ops:Array Oper}:∀ (rest:List Oper) (f:Tm) (Z:St) (l:List Seen) (t:Tm) (τ:St),zAQ P rec ops rest f Z=some (l,t,τ)->zMS P rec ops rest f Z=some (t,τ)
 | [],f,Z,l,t,τ,h=>by simp [zAQ] at h;simp [zMS,h.2.1,h.2.2]
 | o::rest,f,Z,l,t,τ,h=>by
  unfold zAQ at h;split at h
  ·rename_i hg;split at h
   ·rename_i v Z' hop;rw [zKN,vE] at h;split at h
    ·rename_i l' t' τ' hs;simp at h;obtain ⟨_,rfl,rfl⟩:=h;have:=zDQ rest _ _ _ _ _ hs;simp [zMS,hg,hop,vE,this]
    ·cases h
   ·cases h
  ·rename_i hg;rw [vE] at h;split at h
   ·rename_i l' t' τ' hs;simp at h;obtain ⟨_,rfl,rfl⟩:=h;have:=zDQ rest _ _ _ _ _ hs;simp [zMS,hg,vE,this]
   ·cases h
  ·cases h

theorem xJL:∀ (n:Nat) (v:Value),zM n v=true->veq n v v=true:=by
 intro n;induction n with
 | zero=>intro v h;simp [zM] at h
 | succ n ih =>
  have lists:∀ (l:List Value),l.all (zM n)=true->veq.veqs n l l=true:=by
   intro l;induction l with
   | nil=>intro _;rfl
   | cons x l ihl =>
    intro h;simp only [List.all_cons,Bool.and_eq_true] at h;simp only [veq.veqs,Bool.and_eq_true];exact ⟨ih x h.1,ihl h.2⟩
  intro v h;cases v with
  | agg cs=>simp only [zM] at h;simp only [veq];exact lists _ h
  | tuple cs=>simp only [zM] at h;simp only [veq];exact lists _ h
  | iface t x=>simp only [zM] at h;simp only [veq,Bool.and_eq_true];exact ⟨Nat.beq_refl _,ih x h⟩
  | func fn f c =>
   cases fn with
   | func g=>simp only [zM,Bool.and_eq_true] at h;simp only [veq,Bool.and_eq_true];exact ⟨⟨Nat.beq_refl _,lists _ h.1⟩,lists _ h.2⟩
   | _=>simp [zM] at h
  | bool b=>simp [veq]
  | int k n=>simp only [zM] at h;simp only [veq,yKL,Bool.and_eq_true];exact ⟨h,by simp⟩
  | string s=>simp [veq]
  | pointer a=>simp [veq]
  | slice a l c=>simp [veq]
  | map a=>simp [veq]
  | nilFunc=>rfl
  | nilIface=>rfl
  | _=>simp [zM] at h

structure LkOk (P:Program) (o:Oper) (k:Lk) (s:Seen):Prop where
 want:k.want=s.want
 before:k.before=s.before
 after:k.after=s.after
 low:(k.need=true->k.low)->(!s.want || zCN s.before.y s.f o || !(xP o.op || zBP o.op))=true
 look:s.want=true->∀ Z,k.look Z->steady P o s Z=true
inductive LkAll (P:Program):List Oper->List Lk->List Seen->Prop
 | nil:LkAll P [] [] []
 | cons {o:Oper} {k:Lk} {s:Seen} {os:List Oper} {ks:List Lk} {ss:List Seen} (h:LkOk P o k s) (t:LkAll P os ks ss):LkAll P (o::os) (k::ks) (s::ss)
theorem LkAll.get {os:List Oper} {ks:List Lk} {ss:List Seen} (h:LkAll P os ks ss):∀ (i:Nat) (k:Lk),ks[i]?=some k->∃ o s,os[i]?=some o/\ss[i]?=some s/\LkOk P o k s:=by
 induction h with
 | nil=>intro i k h;simp at h
 | cons h _ ih =>
  intro i k hk;cases i with
  | zero=>simp at hk;subst hk;exact ⟨_,_,rfl,rfl,h⟩
  | succ i=>simpa using ih i k (by simpa using hk)

theorem zEP {n:Nat} {f:Tm} {o:Oper} (h:zI n (o.op.operands.toList.map (yF f))):zCN n f o=true:=by
 unfold zI at h;rw [List.all_map] at h;exact h
theorem ySZ {n:Nat} {vs:List Value} (h:vs.all xAJ=true):zI n vs:=by
 refine List.all_eq_true.2 (fun v hv=>?_);have:=List.all_eq_true.1 h v hv;cases v <;> first | rfl | (simp [xAJ] at this;done)
theorem yBV {n:Nat} {f:Tm} {o:Oper} (h:zI n (xMJ f o.op)):zCN n f o=true:=by
 refine List.all_eq_true.2 (fun x hx=>?_);cases hx2:xUE x with
 | true=>cases x <;> first | (simp [xUE] at hx2;done) | rfl
 | false =>
  have:=List.all_eq_true.1 h (yF f x) (List.mem_map_of_mem (List.mem_filter.2 ⟨hx,by rw [hx2];rfl⟩));exact this
theorem zFS {o:Oper} {s:Seen} {Z:St} (h1:zCN Z.y s.f o=true) (h2:zM RD s.v=true) (h3:xO P (yF s.f) Z o.op=some s.v):steady P o s Z=true:=by
 unfold steady;cases hw:s.want with
 | true=>rw [cond_true,h1,Bool.true_and,h3];exact xJL _ _ h2
 | false=>rfl
theorem yPE {o:Oper} {s:Seen} {Z:St} (h:xBR P s.f o.op s.v Z):steady P o s Z=true:=by
 unfold xBR at h;split at h
 ·rename_i t x ho;split at h
  ·rename_i a ha;refine zFS ?_ h.1.2 (by rw [ho];simp only [xO,xS,xN,ha];exact h.2);refine zEP (n:=Z.y) ?_
   unfold zI;rw [ho];simp only [Op.operands,List.map_cons,List.map_nil,ha,List.all_cons,List.all_nil,Bool.and_true];exact (wF _ _).2 h.1.1
  ·exact h.elim
 ·rename_i t x lo hi mx ho;refine zFS ?_ h.1.2 (by rw [ho];exact h.2);refine zEP (n:=Z.y) ?_
  have h1:=h.1.1;unfold zI at h1 ⊢;rw [ho];cases lo <;> cases hi <;> cases mx <;> simpa [Op.operands,xTR] using h1
 ·rename_i t m k ok ho;refine zFS ?_ h.1.2 (by rw [ho];exact h.2);refine zEP (n:=Z.y) ?_
  have h1:=h.1.1;unfold zI at h1 ⊢;rw [ho];simpa [Op.operands] using h1
 ·rename_i t m k ho;refine zFS ?_ h.1.2 (by rw [ho];exact h.2);refine zEP (n:=Z.y) ?_
  have h1:=h.1.1;unfold zI at h1 ⊢;rw [ho];simpa [Op.operands] using h1
 ·rename_i c ho;refine zFS ?_ h.1.2 (by rw [ho];exact zYF h.2.2);refine zEP (n:=Z.y) ?_
  have h1:=h.1.1;unfold zI at h1 ⊢;rw [ho];simpa [Op.operands,Call.operands,h.2.1] using h1
 ·exact h.elim

theorem zGX {ops:Array Oper}:∀ (rest:List Oper) (as:List Ans) (f:Tm) (Z:St) (l:List Lk) (K:Tm->St->List Lk->List Ans->Prop),zCO P (zVL rec) ops rest as f Z l K ->
  ∃ l' t τ as' lk,zAQ P rec ops rest f Z=some (l',t,τ)/\LkAll P rest lk l'/\K t τ (l++lk) as'
 | [],as,f,Z,l,K,h=>⟨[],f,Z,as,[],rfl,.nil,by rw [List.append_nil];exact h⟩
 | o::rest,as,f,Z,l,K,h=>by
  unfold zCO at h;split at h
  ·rename_i hg;obtain ⟨v,Z',as',h1,h2⟩:=zXM h;obtain ⟨l',t,τ,as2,lk,h3,h4,h5⟩:=zGX rest _ _ _ _ _ h2;refine ⟨⟨f,v,true,Z,Z'⟩::l',t,τ,as2,⟨true,xYL f o.op,zI Z.y (xMJ f o.op),xBR P f o.op v,Z,Z'⟩::lk,by simp [zAQ,hg,h1,zKN,vE,h3],.cons ⟨rfl,rfl,rfl,fun hl=>?_,fun _ Z₁ hl=>yPE (s:=⟨f,v,true,Z,Z'⟩) hl⟩ h4,by rw [List.append_assoc] at h5;exact h5⟩
   simp only at hl;cases ha:xP o.op || zBP o.op with
   | false=>simp
   | true =>
    have hb:zCN Z.y f o=true:=by
     cases ht:(xMJ f o.op).all xAJ with
     | true=>exact yBV (ySZ ht)
     | false=>exact yBV (hl (by unfold xYL;rw [ha,ht];rfl))
    simp only [hb];simp
  ·rename_i hg;obtain ⟨l',t,τ,as2,lk,h3,h4,h5⟩:=zGX rest _ _ _ _ _ h;exact ⟨⟨f,undef,false,Z,Z⟩::l',t,τ,as2,⟨false,false,True,fun _=>True,Z,Z⟩::lk,by simp [zAQ,hg,vE,h3],.cons ⟨rfl,rfl,rfl,fun _=>rfl,fun h=>by cases h⟩ h4,by rw [List.append_assoc] at h5;exact h5⟩
  ·exact h.elim

theorem zIG:∀ {os:List Oper} {ks:List Lk} {ss:List Seen} {K:Prop},LkAll P os ks ss->zEO ks K->zGO os ss=true/\K
 | [],_,_,_,.nil,hb=>⟨rfl,hb⟩
 | _::_,k::_,_::_,K,.cons h t,hb=>by
  simp only [zEO] at hb;simp only [zGO,Bool.and_eq_true];cases hn:k.need with
  | true =>
   rw [hn] at hb;obtain ⟨h1,h2⟩:=zIG t hb.2;exact ⟨⟨h.low (fun _=>hb.1),h1⟩,h2⟩
  | false =>
   rw [hn] at hb;obtain ⟨h1,h2⟩:=zIG t hb;exact ⟨⟨h.low (fun e=>by rw [hn] at e;cases e),h1⟩,h2⟩
theorem zDP {ops:Array Oper} {ks:List Lk} {l:List Seen} {K:Prop} (h:LkAll P ops.toList ks l):∀ (ps:List (Nat × Nat)),uF ks ps K->ps.all (yJQ P ops l)=true/\K
 | [],hk=>⟨rfl,hk⟩
 | p::ps,hs=>by
  simp only [uF] at hs;rw [List.all_cons,Bool.and_eq_true];unfold yJQ;split at hs
  ·rename_i sj sk e1 e2;obtain ⟨oj,s1,a1,a2,a3⟩:=h.get _ _ e1;obtain ⟨_,s2,_,b2,b3⟩:=h.get _ _ e2;have a1:ops[p.1]?=some oj:=by simpa using a1
   rw [a1,a2,b2];simp only;cases hw:s1.want with
   | true =>
    rw [a3.want,hw] at hs;simp only at hs;rw [b3.before,b3.after] at hs;obtain ⟨g1,g2⟩:=zDP h ps hs.2.2;rw [a3.look hw _ hs.1,a3.look hw _ hs.2.1];exact ⟨⟨rfl,g1⟩,g2⟩
   | false =>
    rw [a3.want,hw] at hs;obtain ⟨g1,g2⟩:=zDP h ps hs;exact ⟨⟨by simp [steady,hw],g1⟩,g2⟩
  ·exact hs.elim

theorem xDB (N:Nat) (rd:Option Nat):∀ (c:Code) (as:List Ans) (fr:Fr) (Z:St) (K:Exit->Fr->St->List Ans->Prop),wpC P rec N rd c as fr Z K ->
  ∃ e fr' Z' as',yJ P rec N rd c fr Z=some (e,fr',Z')/\K e fr' Z' as':=by
 intro c;induction c with
 | skip=>intro as fr Z K h;exact ⟨_,_,_,_,rfl,h⟩
 | label _=>intro as fr Z K h;exact ⟨_,_,_,_,rfl,h⟩
 | ret=>intro as fr Z K h;exact ⟨_,_,_,_,rfl,h⟩
 | exit _=>intro as fr Z K h;exact ⟨_,_,_,_,rfl,h⟩
 | goto _=>intro as fr Z K h;cases as <;> exact h.elim
 | refuse _=>intro as fr Z K h;cases as <;> exact h.elim
 | seq x y ihx ihy =>
  intro as fr Z K h;simp only [wpC] at h;obtain ⟨e,fr₁,Z₁,as₁,h1,h2⟩:=ihx _ _ _ _ h;cases e with
  | normal =>
   obtain ⟨e₂,fr₂,Z₂,as₂,h3,h4⟩:=ihy _ _ _ _ h2;exact ⟨e₂,fr₂,Z₂,as₂,by simp only [yJ,yTK,h1,h3],h4⟩
  | _=>exact ⟨_,fr₁,Z₁,as₁,by simp only [yJ,yTK,h1],h2⟩
 | cond c x y ihx ihy =>
  intro as fr Z K h;simp only [wpC] at h;split at h
  ·rename_i hc;obtain ⟨e,fr₁,Z₁,as₁,h1,h2⟩:=ihx _ _ _ _ h;exact ⟨e,fr₁,Z₁,as₁,by simp only [yJ,zQW,hc,h1],h2⟩
  ·rename_i hc;obtain ⟨e,fr₁,Z₁,as₁,h1,h2⟩:=ihy _ _ _ _ h;exact ⟨e,fr₁,Z₁,as₁,by simp only [yJ,zQW,hc,h1],h2⟩
  ·exact h.elim
 | block id c ih =>
  intro as fr Z K h;simp only [wpC] at h;obtain ⟨e,fr₁,Z₁,as₁,h1,h2⟩:=ih _ _ _ _ h;cases e with
  | exit i =>
   simp only at h2;cases hi:Nat.beq i id with
   | true=>rw [hi] at h2;exact ⟨_,fr₁,Z₁,as₁,by simp only [yJ,zCT,h1,hi,cond_true],h2⟩
   | false=>rw [hi] at h2;exact ⟨_,fr₁,Z₁,as₁,by simp only [yJ,zCT,h1,hi,cond_false],h2⟩
  | _=>exact ⟨_,fr₁,Z₁,as₁,by simp only [yJ,zCT,h1],h2⟩
 | scope c ih=>intro as fr Z K h;exact ih _ _ _ _ h
 | loop c ih =>
  intro as fr Z K h;cases as with
  | nil=>exact h.elim
  | cons x as=>cases x with
   | lp e fr' Z'=>exact ⟨e,fr',Z',as,h.1,h.2⟩
   | _=>exact h.elim
 | rangeFunc g ps a bo _ _ =>
  intro as fr Z K h;cases as with
  | nil=>exact h.elim
  | cons x as=>cases x with
   | lp e fr' Z'=>exact ⟨e,fr',Z',as,h.1,h.2⟩
   | _=>exact h.elim
 | region id ops draw =>
  intro as fr Z K h;simp only [wpC] at h;cases draw with
  | false =>
   simp only [zIT] at h;obtain ⟨l',t,τ,as',h1,h2⟩:=zET _ _ _ _ _ _ h;exact ⟨.normal,⟨t,fr.marks⟩,τ,as',by simp only [yJ,zLO,zDQ _ _ _ _ _ _ h1],h2⟩
  | true =>
   simp only [zIT] at h;split at h
   ·rename_i h0 hp hf;obtain ⟨l',t,τ,as',h1,h2⟩:=zET _ _ _ _ _ _ h;refine ⟨.normal,⟨t,fr.marks⟩,τ,as', ?_,h2⟩
    simp only [yJ,zLO,yAY,h0,hp,hf,cond_true,zDQ _ _ _ _ _ _ h1]
   ·rename_i ps _ h0 hno;obtain ⟨l',t,τ,as',lk,h1,hlk,h2⟩:=zGX _ _ _ _ _ _ h;rw [List.nil_append] at h2;obtain ⟨h3,h2⟩:=zIG hlk h2;obtain ⟨h4,h2⟩:=zDP hlk _ h2;refine ⟨.normal,⟨t,fr.marks⟩,τ,as', ?_,h2⟩
    have hd:yAY P rec ops fr.f Z=some (t,τ):=by
     unfold yAY;rw [h0,cond_true];split
     ·exact zDQ _ _ _ _ _ _ h1
     ·rw [h1];simp only;rw [h3,h4];rfl
    simp only [yJ,zLO,hd]
   ·exact h.elim

def zPA:List Nat->St->(St->Prop)->Prop
 | [],Z,K=>K Z
 | d::ds,Z,K=>yI Z.heap d=some .defd/\zPA ds (Z.shut d) K
def yLZ (P:Program) (f:Tm) (Z:St):List ResultVar->List Ans->List Value->(List Value->Prop)->Prop
 | [],_,vs,K=>K vs
 | .tmp t::rs,as,vs,K=>yLZ P f Z rs as (vs++[f.nth t]) K
 | .cell a t::rs,as,vs,K=>match as,f.nth a with
  | .l v::as,.pointer (some a)=>zB P Z t a=some v/\yLZ P f Z rs as (vs++[v]) K
  | _,_=>False
def xML:List Value->Value
 | [v]=>v
 | vs=>.tuple ⟨vs⟩
def zGY (P:Program) (fn:Func) (fr:Fr) (Z:St) (as:List Ans) (K:Value->St->Prop):Prop :=
 zPA fr.marks Z fun Z=>yLZ P fr.f Z fn.results.toList as [] fun vs=>K (xML vs) Z
def wCB (P:Program) (n:Nat) (f:FuncId) (args:List Value) (as:List Ans) (Z:St) (K:Value->St->Prop):Prop :=
 match P.funcs[f]? with
 | some fn=>match fn.body with
  | some c=>wpC P (zX P n) n none c as ⟨(Tm.args 0 args).foldl (fun f p=>f.set p.1 p.2) (fresh (args.length+(fn.ntmps-args.length))),[]⟩ Z fun e fr Z as=>match e with
   | .normal=>zGY P fn fr Z as K
   | .ret=>zGY P fn fr Z as K
   | _=>False
  | none=>False
 | none=>False

theorem zMT:∀ (ms:List Nat) (Z:St) (K:St->Prop),zPA ms Z K->∃ Z',zBW ms Z=some Z'/\K Z'
 | [],Z,K,h=>⟨Z,rfl,h⟩
 | d::ds,Z,K,h=>by
  obtain ⟨Z',h1,h2⟩:=zMT ds _ K h.2;exact ⟨Z',by simp only [zBW,h.1,St.drop_eq,h1],h2⟩
theorem zIS {f:Tm} {Z:St}:∀ (rs:List ResultVar) (as:List Ans) (vs:List Value) (K:List Value->Prop),yLZ P f Z rs as vs K->∃ ws,uP P f Z rs=some ws/\K (vs++ws)
 | [],as,vs,K,h=>⟨[],rfl,by rw [List.append_nil];exact h⟩
 | .tmp t::rs,as,vs,K,h=>by
  obtain ⟨ws,h1,h2⟩:=zIS rs as _ K h;exact ⟨f.nth t::ws,by simp only [uP,zPO,h1],by rw [List.append_assoc] at h2;exact h2⟩
 | .cell a t::rs,as,vs,K,h=>by
  unfold yLZ at h;split at h
  ·rename_i v as' a0 ha;obtain ⟨ws,h1,h2⟩:=zIS rs _ _ K h.2;exact ⟨v::ws,by simp only [uP,zPO,ha,h.1,h1],by rw [List.append_assoc] at h2;exact h2⟩
  ·exact h.elim
theorem zPB {fn:Func} {fr:Fr} {Z:St} {as:List Ans} {K:Value->St->Prop} (h:zGY P fn fr Z as K):∃ v Z',zVH P fn fr Z=some (v,Z')/\K v Z':=by
 obtain ⟨Z',h1,h2⟩:=zMT _ _ _ h;obtain ⟨ws,h3,h4⟩:=zIS _ _ _ _ h2;rw [List.nil_append] at h4;refine ⟨xML ws,Z', ?_,h4⟩
 have:zFV P fn fr.f Z'=some (xML ws):=by
  unfold zFV;rw [h3];match ws with
  | []=>rfl
  | [v]=>rfl
  | _::_::_=>rfl
 simp only [zVH,h1,this,zKN]
end
end Go.Lay

namespace Go.Lay
open Go

theorem wBJ (a b:Int):(leI a b=true/\a<=b)\/(leI a b=false/\b<a):=by
 by_cases h:a<=b
 ·exact .inl ⟨(wT a b).2 h,h⟩
 ·exact .inr ⟨by rw [yJX];simp;omega,by omega⟩
theorem wBI (a b:Int):(ltI a b=true/\a<b)\/(ltI a b=false/\b<=a):=by
 by_cases h:a<b
 ·exact .inl ⟨(zHO a b).2 h,h⟩
 ·exact .inr ⟨by rw [yJV];simp;omega,by omega⟩
theorem xCJ (a b:Int):eqI a b=true↔a=b:=by rw [yKL];simp
theorem zXL {n:Int} (h1:-9223372036854775808<=n) (h2:n<=9223372036854775807):zAM .i64 n=n:=by
 have e1:(2:Int) ^ 64=18446744073709551616:=by decide
 have e2:(2:Int) ^ (64-1)=9223372036854775808:=by decide
 rw [vV];simp only [IntKind.wrap,IntKind.bits,IntKind.signed,e1,e2,Bool.true_and,decide_eq_true_eq];split <;> omega

structure Row (Z:St) (a:Addr) (cs:List Value):Prop where
 rd:yP Z a cs.length=some cs
 lt:a.block<Z.y
structure Le (Z Z':St):Prop where
 y:Z.y<=Z'.y
 get:∀ b,b<Z.y->yI Z'.heap b=yI Z.heap b
def St.re (Z:St):St:=⟨Z.heap,Z.y,Z.y⟩

section
variable {P:Program} {Z Z':St} {a:Addr} {cs:List Value}
theorem Le.refl (Z:St):Le Z Z:=⟨Nat.le_refl _,fun _ _=>rfl⟩
theorem Le.trans {Z₁ Z₂ Z₃:St} (h:Le Z₁ Z₂) (k:Le Z₂ Z₃):Le Z₁ Z₃:=⟨Nat.le_trans h.y k.y,fun b hb=>(k.get b (Nat.lt_of_lt_of_le hb h.y)).trans (h.get b hb)⟩
theorem Le.add (Z:St) (y:Blk):Le Z (Z.add y):=⟨by simp,fun b hb=>by rw [St.add_get,if_neg (Nat.ne_of_lt hb)]⟩
theorem Le.row (Z:St) (cs:List Value) (n:Nat):Le Z (Z.row cs n):=Le.add _ _
theorem yTX (h:Le Z Z') (hb:a.block<Z.y) (n:Nat):yP Z' a n=yP Z a n:=by
 unfold yP;rw [h.get _ hb]
theorem Row.le (h:Row Z a cs) (l:Le Z Z'):Row Z' a cs:=⟨by rw [yTX l h.lt];exact h.rd,Nat.lt_of_lt_of_le h.lt l.y⟩
theorem Row.row (h:Row Z a cs) {ds:List Value} {n:Nat}:Row (Z.row ds n) a cs:=h.le (Le.row _ _ _)
theorem Row.re (h:Row Z a cs):Row Z.re a cs:=⟨h.rd,h.lt⟩
theorem Le.re' (h:Le Z Z'):Le Z Z'.re:=⟨h.y,h.get⟩
theorem xJ (Z:St) (cs:List Value) (n:Nat):Row (Z.row cs n) ⟨Z.y,0,none⟩ cs:=by
 refine ⟨?_,by simp [St.row]⟩
 have h1:yI (Z.row cs n).heap Z.y=some (.cells cs n [(0,cs.length)] 1 false):=by
  show yI (Z.add _).heap Z.y=_;rw [St.add_get,if_pos rfl]
 have h2:Nat.ble (0+cs.length) cs.length=true:=(zV _ _).2 (by omega);have h3:Nat.beq 0 0=true:=rfl;unfold yP;simp only [h1,yB,Option.getD_none,wV,h3,cond_true,h2,List.drop_zero,List.take_length]
theorem Row.part (h:Row Z a cs) {k m:Nat} (hk:k+m<=cs.length):Row Z (zL a k) ((cs.drop k).take m):=by
 have hl:((cs.drop k).take m).length=m:=by simp;omega
 refine ⟨?_,h.lt⟩
 have hr:=h.rd;rw [hl];unfold yP at hr;split at hr
 ·rename_i bc esz log nx ro hb;split at hr
  ·rename_i e he;obtain ⟨hle,hr⟩:=xU hr;have hle:=(zV _ _).1 hle;have key:yP Z (zL a k) m=bif Nat.ble (a.off+k+m) e then some ((bc.drop (a.off+k)).take m) else none:=by
    unfold yP;rw [show yI Z.heap (zL a k).block=some (.cells bc esz log nx ro) from hb];show (match wV log (yB a) with | some e=>bif Nat.ble (a.off+k+m) e then some ((bc.drop (a.off+k)).take m) else none | none=>none)=_;rw [he]
   rw [key,(zV (a.off+k+m) e).2 (by omega),cond_true];have hr2:(bc.drop a.off).take cs.length=cs:=by simpa using hr
   congr 1;rw [show (cs.drop k).take m=((((bc.drop a.off).take cs.length)).drop k).take m from by rw [hr2]];rw [List.drop_take,List.drop_drop,List.take_take];congr 1;omega
  ·cases hr
 ·cases hr
theorem Row.load1 (h:Row Z a cs) {t:TypeId} (ht:wJ P t=some false) {k:Nat} {v:Value} (hv:cs[k]?=some v):zB P Z t (zL a k)=some v:=by
 have hk:k<cs.length:=(List.getElem?_eq_some_iff.1 hv).1;have hp:=(h.part (k:=k) (m:=1) (by omega)).rd;have e:(cs.drop k).take 1=[v]:=by
  rw [List.drop_eq_getElem_cons hk];have:=(List.getElem?_eq_some_iff.1 hv).2;simp [this]
 rw [e] at hp;unfold zB;simp only [ht];have hp:yP Z (zL a k) 1=some [v]:=hp;rw [hp]
theorem Row.loadN (h:Row Z a cs) {t:TypeId} {n:Nat} (ht:wJ P t=some true) (hs:yT P t=some n) {k:Nat} {ds:List Value} (hd:(cs.drop k).take n=ds) (hl:ds.length=n) (hk:k+n<=cs.length):zB P Z t (zL a k)=some (.agg ⟨ds⟩):=by
 have hp:=(h.part (k:=k) (m:=n) hk).rd;rw [hd,hl] at hp;unfold zB;simp only [ht,hs,hp,Option.map_some]
theorem Row.ld {b k:Nat} {s:Option Nat} (h:Row Z ⟨b,0,s⟩ cs) {t:TypeId} (ht:wJ P t=some false) {v:Value} (hv:cs[k]?=some v):zB P Z t ⟨b,k,s⟩=some v:=by
 have:=h.load1 (P:=P) ht hv;simpa [zL] using this
theorem Row.ldN {b k n:Nat} {s:Option Nat} (h:Row Z ⟨b,0,s⟩ cs) {t:TypeId} (ht:wJ P t=some true) (hs:yT P t=some n) {ds:List Value} (hd:(cs.drop k).take n=ds) (hl:ds.length=n) (hk:k+n<=cs.length):zB P Z t ⟨b,k,s⟩=some (.agg ⟨ds⟩):=by
 have:=h.loadN (P:=P) ht hs hd hl hk;simpa [zL] using this

structure Own (Z:St) (b:Nat) (cs:List Value) (n:Nat):Prop where
 get:yI Z.heap b=some (.cells cs n [(0,cs.length)] 1 false)
 lt:b<Z.y
def St.own (Z:St) (b:Nat) (cs:List Value) (n:Nat):St:=Z.put b (.cells cs n [(0,cs.length)] 1 false)
theorem zC (Z:St) (cs:List Value) (n:Nat):Own (Z.row cs n) Z.y cs n:=⟨by
 show yI (Z.add _).heap Z.y=_
 rw [St.add_get,if_pos rfl],by simp [St.row]⟩
theorem Own.le {b n:Nat} (h:Own Z b cs n) (l:Le Z Z'):Own Z' b cs n:=⟨by rw [l.get _ h.lt];exact h.get,Nat.lt_of_lt_of_le h.lt l.y⟩
theorem Own.row {b n:Nat} (h:Own Z b cs n) {ds:List Value} {m:Nat}:Own (Z.row ds m) b cs n:=h.le (Le.row _ _ _)
theorem Own.add {b n:Nat} (h:Own Z b cs n) {y:Blk}:Own (Z.add y) b cs n:=h.le (Le.add _ _)
theorem Own.re {b n:Nat} (h:Own Z b cs n):Own Z.re b cs n:=⟨h.get,h.lt⟩
theorem Own.own {b n c m:Nat} (h:Own Z b cs n) {ds:List Value} (hne:b≠c):Own (Z.own c ds m) b cs n:=⟨by
 show yI (Z.put _ _).heap b=_
 rw [St.put_get,if_neg hne];exact h.get,h.lt⟩
theorem Own.put {b n:Nat} (h:Own Z b cs n) {ds:List Value}:Own (Z.own b ds n) b ds n:=⟨by
 show yI (Z.put _ _).heap b=_
 rw [St.put_get,if_pos rfl],h.lt⟩
theorem Own.rw {b n:Nat} (h:Own Z b cs n):Row Z ⟨b,0,none⟩ cs:=by
 refine ⟨?_,h.lt⟩
 have h2:Nat.ble (0+cs.length) cs.length=true:=(zV _ _).2 (by omega);have h3:Nat.beq 0 0=true:=rfl;unfold yP;simp only [h.get,yB,Option.getD_none,wV,h3,cond_true,h2,List.drop_zero,List.take_length]
theorem Row.own {b n:Nat} (h:Row Z a cs) {ds:List Value} (hne:a.block≠b):Row (Z.own b ds n) a cs:=⟨by
 have hr:=h.rd
 unfold yP at hr ⊢
 rw [show yI (Z.own b ds n).heap a.block=yI Z.heap a.block from by
  show yI (Z.put _ _).heap a.block=_;rw [St.put_get,if_neg hne]]
 exact hr,h.lt⟩
theorem Own.store {b n k:Nat} (h:Own Z b cs n) {t:TypeId} {v:Value} {vs ds:List Value} (hv:v.cells.toList=vs) (hs:yT P t=some vs.length) (hc:vs.all cellB=true) (hk:k+vs.length<=cs.length) (hd:cs.take k++(vs++cs.drop (k+vs.length))=ds) :
  zQ P (evL [.pointer (some ⟨b,k,none⟩),v]) Z (.store t (.tmp 0) (.tmp 1))=some (undef,Z.own b ds n):=by
 have h1:Nat.beq v.cells.toList.length vs.length=true:=by rw [hv];exact Nat.beq_refl _
 have h2:(Nat.beq 0 0 && Nat.ble (k+vs.length) cs.length && !false && vs.all cellB)=true:=by
  rw [(zV _ _).2 hk,hc];rfl
 have hl:ds.length=cs.length:=by rw [<- hd];simp;omega
 have hw:xW Z ⟨b,k,none⟩ vs=some (Z.own b ds n):=by
  unfold xW;simp only [h.get,yB,Option.getD_none,h2,cond_true,zCS,St.write_eq,hd];unfold St.own;rw [hl]
 have:zCQ P Z t ⟨b,k,none⟩ v=some (Z.own b ds n):=by
  unfold zCQ;rw [hv] at h1 ⊢;simp only [hs,h1,cond_true,hw]
 show (zCQ P Z t ⟨b,k,none⟩ v).map _=_;rw [this];rfl
@[simp] theorem St.own_next (Z:St) (b:Nat) (cs:List Value) (n:Nat):(Z.own b cs n).y=Z.y:=rfl
@[simp] theorem St.own_low (Z:St) (b:Nat) (cs:List Value) (n:Nat):(Z.own b cs n).low=min Z.low b:=rfl
@[simp] theorem St.row_next (Z:St) (cs:List Value) (n:Nat):(Z.row cs n).y=Z.y+1:=rfl
@[simp] theorem St.row_low (Z:St) (cs:List Value) (n:Nat):(Z.row cs n).low=Z.low:=rfl

def SlP (Z:St) (n:Nat) (p:Option Addr) (len:Nat) (l:List Value):Prop :=
 l.length=len*n/\match p with
  | none=>len=0
  | some a=>Row Z a l
theorem SlP.le {n len:Nat} {p:Option Addr} {l:List Value} (h:SlP Z n p len l) (k:Le Z Z'):SlP Z' n p len l:=by
 refine ⟨h.1, ?_⟩
 cases p with
 | none=>exact h.2
 | some a=>exact Row.le h.2 k
theorem SlP.row {n len:Nat} {p:Option Addr} {l:List Value} (h:SlP Z n p len l) {ds:List Value} {m:Nat}:SlP (Z.row ds m) n p len l:=h.le (Le.row _ _ _)
theorem SlP.re {n len:Nat} {p:Option Addr} {l:List Value} (h:SlP Z n p len l):SlP Z.re n p len l:=h.le (Le.re' (Le.refl _))
theorem SlP.own {n len:Nat} {p:Option Addr} {l:List Value} (h:SlP Z n p len l) {b m:Nat} {ds:List Value} (hb:Z.y<=b\/∀ a,p=Option.some a->a.block≠b):SlP (Z.own b ds m) n p len l:=by
 refine ⟨h.1, ?_⟩
 cases p with
 | none=>exact h.2
 | some a =>
  have hr:Row Z a l:=h.2;exact hr.own (by rcases hb with hb | hb;exact (have:=hr.lt;by omega);exact hb a rfl)
theorem SlP.some {n len:Nat} {p:Option Addr} {l:List Value} (h:SlP Z n p len l) (hl:0<len):∃ a,p=.some a/\Row Z a l:=by
 cases p with
 | none=>have:=h.2;omega
 | some a=>exact ⟨a,rfl,h.2⟩
theorem Row.sl {n len:Nat} (h:Row Z a cs) (hl:cs.length=len*n):SlP Z n (.some a) len cs:=⟨hl,h⟩
theorem SlP.nil (Z:St) (n:Nat):SlP Z n none 0 []:=⟨by simp,rfl⟩

def xZO (P:Program) (f:FuncId) (args:List Value) (Z:St) (v:Value) (Z':St):Prop:=∃ N0,∀ N,N0<=N->zX P N (.func f) args Z=some (v,Z')
def zD (P:Program) (f:FuncId) (args:List Value) (Z:St) (v:Value) (Z':St):Prop:=∃ N0,∀ N,N0<=N->vX (zX P N) (.func f) args Z=some (v,Z')
end
end Go.Lay

namespace Go.Lay
open Go

def Code.part:List Nat->Code->Code
 | 0::p,.seq a _=>Code.part p a
 | 1::p,.seq _ b=>Code.part p b
 | 0::p,.cond _ a _=>Code.part p a
 | 1::p,.cond _ _ b=>Code.part p b
 | 0::p,.block _ c=>Code.part p c
 | 0::p,.scope c=>Code.part p c
 | 0::p,.loop c=>Code.part p c
 | 0::p,.rangeFunc _ _ a _=>Code.part p a
 | 1::p,.rangeFunc _ _ _ b=>Code.part p b
 | _,c=>c
def zS (P:Program) (f:FuncId):Code:=match P.funcs[f]? with | some fn=>(match fn.body with | some c=>c | none=>.skip) | none=>.skip

def xWZ (P:Program) (rd:Option Nat) (c:Code) (fr:Fr) (Z:St) (e:Exit) (fr':Fr) (Z':St):Prop :=
 ∃ N0,∀ N,N0<=N->yJ P (zX P N) N rd c fr Z=some (e,fr',Z')
def ySC (P:Program) (rd:Option Nat) (c:Code) (fr:Fr) (Z:St) (e:Exit) (fr':Fr) (Z':St):Prop :=
 ∃ N0,∀ N m,N0<=N->N0<=m->zEC (yJ P (zX P N) N rd c) m fr Z=some (e,fr',Z')
section
variable {P:Program} {rd:Option Nat} {c:Code} {fr fr' fr₁:Fr} {Z Z' Z₁:St} {e:Exit}
theorem ySC.step (h:xWZ P rd c fr Z .normal fr₁ Z₁) (k:ySC P rd c fr₁ Z₁ e fr' Z'):ySC P rd c fr Z e fr' Z':=by
 obtain ⟨N1,h1⟩:=h;obtain ⟨N2,h2⟩:=k;refine ⟨N1+N2+1,fun N m hN hm=>?_⟩
 obtain ⟨m,rfl⟩:∃ m',m=m'+1:=⟨m-1,by omega⟩;simp only [zEC,h1 N (by omega)];exact h2 N m (by omega) (by omega)
theorem ySC.exit (h:xWZ P rd c fr Z e fr' Z') (he:e≠.normal):ySC P rd c fr Z e fr' Z':=by
 obtain ⟨N1,h1⟩:=h;refine ⟨N1+1,fun N m hN hm=>?_⟩
 obtain ⟨m,rfl⟩:∃ m',m=m'+1:=⟨m-1,by omega⟩;simp only [zEC,h1 N (by omega)];split
 ·rename_i heq;cases heq;exact absurd rfl he
 ·rfl
end

structure Keep (n0:Nat) (Z Z':St):Prop where
 y:Z.y<=Z'.y
 get:∀ b,b<n0->yI Z'.heap b=yI Z.heap b
 low:min Z.low n0<=Z'.low
section
variable {P:Program} {Z Z':St} {a:Addr} {cs:List Value} {n0:Nat}
theorem Keep.trans {Z₁ Z₂ Z₃:St} (h:Keep n0 Z₁ Z₂) (k:Keep n0 Z₂ Z₃):Keep n0 Z₁ Z₃:=⟨Nat.le_trans h.y k.y,fun b hb=>(k.get b hb).trans (h.get b hb),by have:=h.low;have:=k.low;omega⟩
theorem Keep.add (hn:n0<=Z.y) (y:Blk):Keep n0 Z (Z.add y):=⟨by simp,fun b hb=>by rw [St.add_get,if_neg (by omega)],by simp;omega⟩
theorem Keep.put {b:Nat} (hb:n0<=b) (y:Blk):Keep n0 Z (Z.put b y):=⟨by simp,fun c hc=>by rw [St.put_get,if_neg (by omega)],by simp;omega⟩
theorem Row.keep (h:Row Z a cs) (k:Keep n0 Z Z') (hb:a.block<n0):Row Z' a cs:=⟨by
 have:=h.rd
 unfold yP at this ⊢
 rw [k.get _ hb];exact this,Nat.lt_of_lt_of_le h.lt k.y⟩
theorem SlP.keep {n len:Nat} {p:Option Addr} {l:List Value} (h:SlP Z n p len l) (k:Keep Z.y Z Z'):SlP Z' n p len l:=by
 refine ⟨h.1, ?_⟩
 cases p with
 | none=>exact h.2
 | some a =>
  have hr:Row Z a l:=h.2;exact hr.keep k hr.lt

inductive App (Z:St) (n0 n:Nat):Value->Nat->List Value->Prop
 | nil:App Z n0 n (.slice none 0 0) 0 []
 | more {b s nx len:Nat} {cs:List Value} {sp:Option Nat} {log:List (Nat × Nat)} (h:yI Z.heap b=some (.cells cs n ((s,cs.length)::log) nx false)) (hs:sp.getD 0=s) (hb:n0<=b) (hlt:b<Z.y) (hl:cs.length=len*n) (hp:0<len) (hsn:s<nx) :
   App Z n0 n (.slice (some ⟨b,0,sp⟩) len (len+vZ)) len cs

def xNO:TypeDesc->Bool
 | .int _=>true
 | _=>false
structure AppT (P:Program) (st xt e n:Nat):Prop where
 el:xV P st=some (e,n)
 src:∃ xd,P.underlying xt=some xd/\xNO xd=false
 info:∃ ei z,P.info? e=some ei/\ei.zero=some z/\ei.bytes<=4096/\zW RD z=true/\Nat.beq z.cells.toList.length n=true
 le:n<=4096
 pos:0<n
def xWW (P:Program) (st xt e n:Nat):Bool :=
 (match xV P st with | some (e',n')=>Nat.beq e e' && Nat.beq n n' | none=>false) &&
 (match P.underlying xt with | some xd=>!xNO xd | none=>false) &&
 (match P.info? e with | some ei=>(match ei.zero with | some z=>Nat.ble ei.bytes 4096 && zW RD z && Nat.beq z.cells.toList.length n | none=>false) | none=>false) &&
 Nat.ble n 4096 && Nat.blt 0 n
theorem zRH {P:Program} {st xt e n:Nat} (h:xWW P st xt e n=true):AppT P st xt e n:=by
 unfold xWW at h;simp only [Bool.and_eq_true] at h;obtain ⟨⟨⟨⟨h1,h2⟩,h3⟩,h4⟩,h5⟩:=h;refine ⟨?_, ?_, ?_,(zV _ _).1 h4,(zV _ _).1 h5⟩
 ·split at h1
  ·rename_i e' n' he;simp only [Bool.and_eq_true] at h1;rw [he,Nat.eq_of_beq_eq_true h1.1,Nat.eq_of_beq_eq_true h1.2]
  ·cases h1
 ·split at h2
  ·rename_i xd hx;exact ⟨xd,hx,by simpa using h2⟩
  ·cases h2
 ·split at h3
  ·rename_i ei hi;split at h3
   ·rename_i z hz;simp only [Bool.and_eq_true] at h3;exact ⟨ei,z,hi,hz,(zV _ _).1 h3.1.1,h3.1.2,h3.2⟩
   ·cases h3
  ·cases h3

theorem uI (x:Nat):yK (x+vZ)=x:=by unfold yK;rw [if_pos (by omega)];omega
theorem zFO (x:Nat):yU (x+vZ)=false:=by rw [Bool.eq_false_iff];intro e;have:=(xD _).1 e;omega
theorem vK:0<vZ:=by unfold vZ;decide

theorem yZM {st xt e n m k len:Nat} {v:Value} {a2:Addr} {xs:List Value} (T:AppT P st xt e n) (hA:App Z n0 n v len cs) (hr:Row Z a2 xs) (hm:xs.length=m*n) (hp:0<m) (hroom:len+m<=1073741824) (hc:xs.all cellB=true) (hn0:n0<=Z.y) :
  ∃ v' Z',yG P st xt v (.slice (some a2) m k) Z=some (v',Z')/\App Z' n0 n v' (len+m) (cs++xs)/\Keep n0 Z Z':=by
 obtain ⟨xd,hxd,hxi⟩:=T.src;obtain ⟨ei,z,hei,hz,hby,hrz,hzl⟩:=T.info;have hrd:=hr.rd;rw [hm] at hrd;have hsrc:uK Z n z xd (.slice (some a2) m k)=some (m,xs):=by
  unfold uK;cases xd with
  | int _=>cases hxi
  | _=>simp only [xT,hrd,Option.map_some]
 have hcond:(uT (len+m) n ei.bytes && xs.all cellB && Nat.beq xs.length (m*n) && zW RD z && Nat.beq z.cells.toList.length n)=true:=by
  unfold uT;rw [(zV _ _).2 hroom,(zV _ _).2 T.le,(zV _ _).2 hby,hc,hm,Nat.beq_refl,hrz,hzl];rfl
 have hble:∀ x:Nat,Nat.ble (x+m) x=false:=fun x=>by rw [Bool.eq_false_iff];intro e;have:=(zV _ _).1 e;omega
 cases hA with
 | nil =>
  refine ⟨.slice (some ⟨Z.y,0,none⟩) (0+m) (0+m+vZ),Z.add (.cells xs n [(0,xs.length)] 1 false), ?_, ?_,Keep.add hn0 _⟩
  ·have hc0:yK 0=0:=by unfold yK;have:=vK;rw [if_neg (by omega)]
   have hc1:yU 0=true:=(xD 0).2 vK;unfold yG;simp only [T.el,hxd,hei,hz,hsrc,hcond,cond_true,wU,hc0,hble,cond_false,hc1,Nat.beq_refl,yM]
  ·have e1:0+m=m:=Nat.zero_add m;rw [e1,List.nil_append];exact .more (b:=Z.y) (s:=0) (nx:=1) (log:=[]) (by rw [St.add_get,if_pos rfl]) rfl hn0 (by simp) hm hp (by omega)
 | @more b s nx _ _ sp log h hs hb hlt hl hpp hsn =>
  have hex:wV ((s,cs.length)::log) (yB ⟨b,0,sp⟩)=some cs.length:=by
   have:Nat.beq s (yB ⟨b,0,sp⟩)=true:=by unfold yB;simp only [hs];exact Nat.beq_refl _
   simp only [wV,this,cond_true]
  have hlf:wN ((s,cs.length)::log) (yB ⟨b,0,sp⟩)=(s,cs.length)::log:=by
   have:Nat.beq s (yB ⟨b,0,sp⟩)=true:=by unfold yB;simp only [hs];exact Nat.beq_refl _
   simp only [wN,this,cond_true]
  have hg:(Nat.beq len len && Nat.beq (0+len*n) cs.length && Nat.beq n n && !false && Nat.blt 0 n)=true:=by
   rw [Nat.beq_refl,Nat.zero_add,hl,Nat.beq_refl,Nat.beq_refl,(wF 0 n).2 T.pos];rfl
  refine ⟨.slice (some ⟨b,0,some nx⟩) (len+m) (len+m+vZ),Z.put b (.cells (cs.take cs.length++xs) n ((nx,cs.length+m*n)::(s,cs.length)::log) (nx+1) false), ?_, ?_,Keep.put hb _⟩
  ·unfold yG;simp only [T.el,hxd,hei,hz,hsrc,hcond,cond_true,wU,uI,hble,cond_false,zFO,zIJ,h,hex,hg,zCS,wD,St.write_eq,hlf]
  ·refine .more (b:=b) (s:=nx) (nx:=nx+1) (log:=(s,cs.length)::log) ?_ rfl hb hlt ?_ (by omega) (by omega)
   ·rw [St.put_get,if_pos rfl,List.take_length];simp [hm]
   ·simp [hl,hm,Nat.add_mul]
theorem App.sl {v:Value} {n len:Nat} (h:App Z n0 n v len cs):∃ p cap,v=.slice p len cap/\SlP Z n p len cs:=by
 cases h with
 | nil=>exact ⟨none,0,rfl,SlP.nil _ _⟩
 | @more b s nx _ _ sp log h hs hb hlt hl hp hsn =>
  refine ⟨_,_,rfl,hl, ?_,hlt⟩
  have hex:wV ((s,cs.length)::log) (yB ⟨b,0,sp⟩)=some cs.length:=by
   have:Nat.beq s (yB ⟨b,0,sp⟩)=true:=by unfold yB;simp only [hs];exact Nat.beq_refl _
   simp only [wV,this,cond_true]
  have h2:Nat.ble (0+cs.length) cs.length=true:=(zV _ _).2 (by omega);unfold yP;simp only [h,hex,h2,cond_true,List.drop_zero,List.take_length]
theorem App.keep {v:Value} {n len:Nat} (h:App Z n0 n v len cs) (hk:Le Z Z'):App Z' n0 n v len cs:=by
 cases h with
 | nil=>exact .nil
 | more h hs hb hlt hl hp hsn=>exact .more (by rw [hk.get _ hlt];exact h) hs hb (Nat.lt_of_lt_of_le hlt hk.y) hl hp hsn
def wI (vs:List Value):List Value:=vs.flatMap fun v=>v.cells.toList
def zHV (P:Program) (t:TypeId) (n:Nat) (v:Value):Prop :=
 (wJ P t=some false/\n=1/\v.cells.toList=[v])\/(wJ P t=some true/\yT P t=some n/\∃ cs:List Value,v=.agg ⟨cs⟩/\cs.length=n)
theorem zHV.len {t n:Nat} {v:Value} (h:zHV P t n v):v.cells.toList.length=n:=by
 rcases h with ⟨_,h1,h2⟩ | ⟨_,_,ds,rfl,h⟩
 ·rw [h2,h1];rfl
 ·exact h
theorem yQJ {t n:Nat}:∀ {vs:List Value} {i:Nat} {v:Value},(∀ v∈vs,zHV P t n v)->vs[i]?=some v->((wI vs).drop (i*n)).take n=v.cells.toList/\i*n+n<=(wI vs).length
 | [],i,v,_,h=>by simp at h
 | x::vs,0,v,hv,h=>by
  simp at h;subst h;have h1:=(hv x (by simp)).len;unfold wI;rw [List.flatMap_cons,Nat.zero_mul,List.drop_zero,Nat.zero_add,List.length_append];exact ⟨by rw [<- h1,List.take_left'  rfl],by omega⟩
 | x::vs,i+1,v,hv,h=>by
  have h1:=(hv x (by simp)).len;have ih:=yQJ (vs:=vs) (i:=i) (v:=v) (fun x hx=>hv x (by simp [hx])) (by simpa using h);unfold wI at ih ⊢;rw [List.flatMap_cons,Nat.add_mul,Nat.one_mul,List.length_append];refine ⟨?_,by omega⟩
  rw [show i*n+n=x.cells.toList.length+i*n by omega,List.drop_append];simp only [Nat.add_sub_cancel_left];rw [List.drop_of_length_le (by omega),List.nil_append];exact ih.1
theorem Row.el {vs:List Value} {t n i:Nat} {v:Value} (h:Row Z a (wI vs)) (he:∀ v∈vs,zHV P t n v) (hv:vs[i]?=some v):zB P Z t (zL a (i*n))=some v:=by
 obtain ⟨h1,h2⟩:=yQJ he hv;rcases he v (List.mem_of_getElem? hv) with ⟨g1,g2,g3⟩ | ⟨g1,g2,ds,rfl,g3⟩
 ·subst g2;refine h.load1 g1 ?_
  rw [g3] at h1;have:=congrArg (fun l=>l[0]?) h1;simp only [List.getElem?_cons_zero] at this;rw [List.getElem?_take_of_lt (by omega),List.getElem?_drop] at this;simpa using this
 ·exact h.loadN g1 g2 h1 g3 h2
def SlV (P:Program) (Z:St) (t n:Nat) (p:Option Addr) (len:Nat) (vs:List Value):Prop:=SlP Z n p len (wI vs)/\vs.length=len/\∀ v∈vs,zHV P t n v
theorem SlV.le {t n len:Nat} {p:Option Addr} {vs:List Value} (h:SlV P Z t n p len vs) (k:Le Z Z'):SlV P Z' t n p len vs:=⟨h.1.le k,h.2⟩
theorem SlV.row {t n len:Nat} {p:Option Addr} {vs:List Value} (h:SlV P Z t n p len vs) {ds:List Value} {m:Nat}:SlV P (Z.row ds m) t n p len vs:=⟨h.1.row,h.2⟩
theorem SlV.re {t n len:Nat} {p:Option Addr} {vs:List Value} (h:SlV P Z t n p len vs):SlV P Z.re t n p len vs:=⟨h.1.re,h.2⟩
theorem SlV.keep {t n len:Nat} {p:Option Addr} {vs:List Value} (h:SlV P Z t n p len vs) (k:Keep Z.y Z Z'):SlV P Z' t n p len vs:=⟨h.1.keep k,h.2⟩
theorem SlV.own {t n len:Nat} {p:Option Addr} {vs:List Value} (h:SlV P Z t n p len vs) {b m:Nat} {ds:List Value} (hb:Z.y<=b\/∀ a,p=Option.some a->a.block≠b):SlV P (Z.own b ds m) t n p len vs:=⟨h.1.own hb,h.2⟩
theorem SlV.some {t n len i:Nat} {p:Option Addr} {vs:List Value} (h:SlV P Z t n p len vs) (hi:i<len):∃ a,p=.some a/\Row Z a (wI vs):=h.1.some (by omega)
theorem SlV.at {t n len i:Nat} {p:Option Addr} {vs:List Value} {a:Addr} {v:Value} (h:SlV P Z t n p len vs) (hp:p=Option.some a) (hv:vs[i]?=Option.some v):zB P Z t (zL a (Int.toNat (i:Int)*n))=Option.some v:=by
 subst hp;have hr:Row Z a (wI vs):=h.1.2;rw [Int.toNat_natCast];exact hr.el h.2.2 hv
theorem vW {t:Nat} (h:wJ P t=some false) (k:IntKind) (n:Int):zHV P t 1 (.int k n):=.inl ⟨h,rfl,rfl⟩

end
end Go.Lay

namespace Go.Lay
open Go

def zJE (U:Inj) (b c o z:Nat):Inj:={ U with loc:=fun b' s=>if b'=b/\s=0 then some ⟨c,0,o,z⟩ else U.loc b' s }
structure Ro (U:Inj) (w:World):Prop where
 own:∀ c,U.own c=none
 csz:∀ (c:Nat) arr el fr,w.heap[c]?=some (.cells arr el fr)->U.csz c=arr.size
def yNA (w:World):Inj:={ loc:=fun _ _=>none,own:=fun _=>none,csz:=fun c=>match w.heap[c]? with | some (.cells arr _ _)=>arr.size | _=>0 }
theorem xKG (w:World):Rep (yNA w) xMR w/\Ro (yNA w) w :=
 ⟨⟨fun b y h=>by simp [xMR,yI,Tr.getP_leaf] at h,fun _ _ _ h=>by simp [yNA] at h,fun _ _ h=>by simp [yNA] at h,fun _ _ _=>rfl⟩,⟨fun _=>rfl,fun c arr el fr h=>by simp [yNA,h]⟩⟩

section
variable {P:Program} {w:World} {U:Inj} {Z Z':St}

theorem yED (hr:Rep U Z w) (c o z:Nat):Sub U (zJE U Z.y c o z):=by
 refine ⟨fun b s L h=>?_,fun _ _ _ _=>rfl⟩
 simp only [zJE];rw [if_neg];exact h;rintro ⟨rfl,rfl⟩;rw [hr.fresh _ _ (Nat.le_refl _)] at h;cases h

theorem xZM (hr:Rep U Z w) (ho:Ro U w) {c o:Nat} {arr:Array Value} {el:TypeId} {fr:Nat × Nat} (hc:w.heap[c]?=some (.cells arr el fr)) {rs:List Value} (z:Nat) (hl:o+rs.length<=arr.size)
  (hv:∀ (j:Nat) v,rs[j]?=some v->∃ v',arr[o+j]?=some v'/\VR U v v') :
  Rep (zJE U Z.y c o z) (Z.add (.cells rs z [(0,rs.length)] 1 true)) w/\Ro (zJE U Z.y c o z) w:=by
 have hs:=yED hr c o z;have hcw:c<w.heap.size:=by
  have:=(Array.getElem?_eq_some_iff.1 hc).1;exact this
 refine ⟨⟨fun b y hb=>?_,fun b s L h=>?_,fun c' b h=>?_,fun b s h=>?_⟩,⟨ho.own,ho.csz⟩⟩
 ·rw [St.add_get] at hb;by_cases hbn:b=Z.y
  ·rw [if_pos hbn] at hb;cases hb;subst hbn;refine ⟨by simp,.cells (fun s e hm=>?_) (by simp) (fun s₁ e₁ s₂ e₂ L₁ L₂ h₁ h₂ l₁ l₂ _=>?_) (fun s hs'=>?_)⟩
   ·simp at hm;obtain ⟨rfl,rfl⟩:=hm;refine ⟨by omega,Nat.le_refl _,⟨c,0,o,z⟩,by simp [zJE],⟨arr,el,fr,hc,(ho.csz _ _ _ _ hc).symm,by simp,by simpa using hl,fun j _ h2=>?_⟩,rfl,Nat.zero_le _,by simpa [zJE] using ho.own c⟩
    obtain ⟨v',g1,g2⟩:=hv j rs[j] (by simp [h2]);exact ⟨rs[j],v',by simp [h2],by simpa using g1,g2.sub hs⟩
   ·simp at h₁ h₂;obtain ⟨rfl,_⟩:=h₁;obtain ⟨rfl,_⟩:=h₂;rw [l₁] at l₂;cases l₂;rfl
   ·simp only [zJE];rw [if_neg (by omega)];exact hr.fresh _ _ (Nat.le_refl _)
  ·rw [if_neg hbn] at hb;have h:=hr.blk b y hb;refine ⟨by simp;omega,h.2.keepS hs (fun s L _=>rfl) (fun _ _ _ _=>rfl) (fun cs esz log next ro hyy s hs'=>?_)⟩
   have:=h.2;subst hyy;cases this with
   | cells _ _ _ fresh =>
    simp only [zJE];rw [if_neg (fun e=>hbn e.1)];exact fresh s hs'
 ·simp only [zJE] at h;split at h
  ·cases h;exact hcw
  ·exact hr.lt _ _ _ h
 ·have:U.own c'=some b:=h;rw [ho.own c'] at this;cases this
 ·simp only [zJE];simp at h;rw [if_neg (by omega)];exact hr.fresh _ _ (by omega)

def zTA (P:Program):List Field->Nat->Nat->Bool
 | [],o,tot=>Nat.beq o tot
 | f::fs,o,tot=>Nat.beq f.offset o && zTA P fs (o+P.cellsOf f.type) tot
def zHJ (P:Program):Nat->TypeId->Bool
 | 0,_=>false
 | n+1,t=>match P.underlying t with
  | some .bool=>true
  | some (.int _)=>true
  | some .string=>true
  | some (.slice e)=>Nat.blt 0 (P.cellsOf e) && zHJ P n e
  | some (.struct fs)=>zTA P fs.toList 0 (P.cellsOf t) && fs.toList.all fun f=>zHJ P n f.type
  | _=>false
def WT (P:Program) (Z:St):Nat->TypeId->List Value->Prop
 | 0,_,_=>False
 | n+1,t,cs=>match P.underlying t with
  | some .bool=>∃ b,cs=[.bool b]
  | some (.int k)=>∃ i,cs=[.int k i]/\k.min<=i/\i<=k.max
  | some .string=>∃ s:ByteArray,cs=[.string s]/\s.size<=maxLen
  | some (.slice e)=>cs=[.slice none 0 0]\/∃ b len cap rs,cs=[.slice (some ⟨b,0,none⟩) len cap]/\len<=maxLen/\(len<=yK cap/\yU cap=true)/\rs.length=len*P.cellsOf e /\
    yI Z.heap b=some (.cells rs (P.cellsOf e) [(0,rs.length)] 1 true)/\b<Z.y/\∀ i,i<len->WT P Z n e ((rs.drop (i*P.cellsOf e)).take (P.cellsOf e))
  | some (.struct fs)=>cs.length=P.cellsOf t/\∀ f∈fs.toList,f.offset+P.cellsOf f.type<=cs.length/\WT P Z n f.type ((cs.drop f.offset).take (P.cellsOf f.type))
  | _=>False

theorem WT.le:∀ {n:Nat} {t:TypeId} {cs:List Value},WT P Z n t cs->Le Z Z'->WT P Z' n t cs:=by
 intro n;induction n with
 | zero=>intro t cs h;exact h.elim
 | succ n ih =>
  intro t cs h k;unfold WT at h ⊢;split at h <;> rename_i hu
  ·exact h
  ·exact h
  ·exact h
  ·rcases h with h | ⟨b,len,cap,rs,h1,h2,h3,h4,h5,h6,h7⟩
   ·exact .inl h
   ·exact .inr ⟨b,len,cap,rs,h1,h2,h3,h4,by rw [k.get _ h6];exact h5,Nat.lt_of_lt_of_le h6 k.y,fun i hi=>ih (h7 i hi) k⟩
  ·exact ⟨h.1,fun f hf=>⟨(h.2 f hf).1,ih (h.2 f hf).2 k⟩⟩
  ·exact h.elim

theorem yRJ {a:Addr} {arr:Array Value} {el:TypeId} {fr:Nat × Nat} (hc:w.heap[a.block]?=some (.cells arr el fr)) (hs:a.spot=none) (m i:Nat):w.cell? ((a.add m).add i)=arr[a.off+m+i]?:=by
 have key:∀ (x:Addr) (j:Nat),x.spot=none->(x.add j).block=x.block/\(x.add j).off=x.off+j/\(x.add j).spot=none:=by
  intro x j hx;unfold Addr.add;split
  ·rename_i e;subst e;exact ⟨rfl,rfl,hx⟩
  ·exact ⟨rfl,rfl,rfl⟩
 obtain ⟨k1,k2,k3⟩:=key a m hs;obtain ⟨k4,k5,k6⟩:=key (a.add m) i k3;simp only [World.cell?,k4,k1,hc,k6,k5,k2,Option.isSome_none];rfl

variable {H:Type} {enc:TypeId × Value->H} {held:Bool}

def zOX (w:World) (cs':List Value):Prop:=∀ A len cap,Value.slice (some A) len cap∈cs'->∃ (c:Nat) (arr:Array Value) (el:TypeId) (fr:Nat × Nat),w.heap[c]?=some (.cells arr el fr)
def yHY (P:Program) (w:World) (U:Inj) (Z:St) (cs':List Value) (Q:St->List Value->Prop):Prop :=
 ∃ U' Z' cs,Rep U' Z' w/\Ro U' w/\Sub U U'/\Le Z Z'/\VRs U' cs cs'/\Q Z' cs

theorem yHI:∀ {fs:List Field} {o tot:Nat},zTA P fs o tot=true->o<=tot
 | [],o,tot,h=>by have:=Nat.eq_of_beq_eq_true h;omega
 | f::fs,o,tot,h=>by
  simp only [zTA,Bool.and_eq_true] at h;have:=yHI h.2;omega

theorem yOV {n fuel:Nat}
  (ih:∀ t,zHJ P n t=true->∀ fuel cs' x U Z,DataW.trod enc P w 0 (fun _=>true) held fuel t cs'=some x->Rep U Z w->Ro U w->zOX w cs'->yHY P w U Z cs' fun Z' cs=>WT P Z' n t cs) {cs':List Value} (hrow:zOX w cs') :
  ∀ (fs:List Field) (o:Nat) (U:Inj) (Z:St),zTA P fs o cs'.length=true->(∀ f∈fs,zHJ P n f.type=true)->(∀ f∈fs,∃ x,DataW.trod enc P w 0 (fun _=>true) held fuel f.type ((cs'.drop f.offset).take (P.cellsOf f.type))=some x) ->
   Rep U Z w->Ro U w->yHY P w U Z (cs'.drop o) fun Z' cs=>∀ f∈fs,o<=f.offset/\f.offset+P.cellsOf f.type<=cs'.length/\WT P Z' n f.type ((cs.drop (f.offset-o)).take (P.cellsOf f.type)):=by
 intro fs;induction fs with
 | nil =>
  intro o U Z hc _ _ hr ho;have:=Nat.eq_of_beq_eq_true hc;refine ⟨U,Z,[],hr,ho,Sub.refl _,Le.refl _, ?_,fun f hf=>by cases hf⟩
  rw [List.drop_of_length_le (by omega)];exact .nil
 | cons f fs ihf =>
  intro o U Z hc hp ht hr ho;simp only [zTA,Bool.and_eq_true] at hc;have hoff:=Nat.eq_of_beq_eq_true hc.1;have hle:=yHI hc.2;obtain ⟨x,hx⟩:=ht f (by simp);obtain ⟨U₁,Z₁,c1,r1,o1,s1,l1,v1,w1⟩:=ih f.type (hp f (by simp)) _ _ _ U Z hx hr ho (fun A len cap hm=>hrow A len cap (List.mem_of_mem_drop (List.mem_of_mem_take hm)));obtain ⟨U₂,Z₂,c2,r2,o2,s2,l2,v2,w2⟩:=ihf (o+P.cellsOf f.type) U₁ Z₁ hc.2 (fun g hg=>hp g (by simp [hg])) (fun g hg=>ht g (by simp [hg])) r1 o1;have hlen:c1.length=P.cellsOf f.type:=by rw [v1.length];simp;omega
  refine ⟨U₂,Z₂,c1++c2,r2,o2,s1.trans s2,l1.trans l2, ?_,fun g hg=>?_⟩
  ·have e:cs'.drop o=(cs'.drop f.offset).take (P.cellsOf f.type)++cs'.drop (o+P.cellsOf f.type):=by
    rw [hoff,<- List.drop_drop,List.take_append_drop]
   rw [e];exact VRs.append (v1.sub s2) v2
  ·rcases List.mem_cons.1 hg with rfl | hg
   ·refine ⟨by omega,by omega, ?_⟩
    rw [hoff,Nat.sub_self,List.drop_zero,<- hlen,List.take_left']
    ·exact w1.le l2
    ·rfl
   ·obtain ⟨g1,g2,g3⟩:=w2 g hg;refine ⟨by omega,g2, ?_⟩
    have e:(c1++c2).drop (g.offset-o)=c2.drop (g.offset-(o+P.cellsOf f.type)):=by
     rw [List.drop_append,List.drop_of_length_le (by omega),List.nil_append];congr 1;omega
    rw [e];exact g3

theorem zZQ {n fuel:Nat} {e:TypeId} {a:Addr} {arr:Array Value} {el:TypeId} {fr:Nat × Nat} (hc:w.heap[a.block]?=some (.cells arr el fr)) (hs:a.spot=none)
  (ih:∀ fuel cs' x U Z,DataW.trod enc P w 0 (fun _=>true) held fuel e cs'=some x->Rep U Z w->Ro U w->zOX w cs'->yHY P w U Z cs' fun Z' cs=>WT P Z' n e cs) (hr:Rep U Z w) (ho:Ro U w) :
  ∀ (k:Nat),(∀ i,i<k->∃ x,(w.cells? 0 (a.add (i*P.cellsOf e)) (P.cellsOf e)).bind (DataW.trod enc P w 0 (fun _=>true) held fuel e)=some x) ->
   ∃ (U':Inj) (Z':St) (rs:List Value),Rep U' Z' w/\Ro U' w/\Sub U U'/\Le Z Z'/\rs.length=k*P.cellsOf e/\(∀ i,i<k->WT P Z' n e ((rs.drop (i*P.cellsOf e)).take (P.cellsOf e))) /\
    ∀ (j:Nat) v,rs[j]?=some v->∃ v',arr[a.off+j]?=some v'/\VR U' v v'
 | 0,_=>⟨U,Z,[],hr,ho,Sub.refl _,Le.refl _,by simp,fun i hi=>by omega,fun j v h=>by simp at h⟩
 | k+1,ht=>by
  obtain ⟨U₁,Z₁,rs,r1,o1,s1,l1,n1,w1,v1⟩:=zZQ hc hs ih hr ho k (fun i hi=>ht i (by omega));obtain ⟨x,hx⟩:=ht k (by omega);simp only [Option.bind_eq_some_iff] at hx;obtain ⟨chunk,hch,hx⟩:=hx;obtain ⟨_,hlen,hcells⟩:=World.cells?_some hch;obtain ⟨U₂,Z₂,c,r2,o2,s2,l2,v2,w2⟩:=ih _ _ _ U₁ Z₁ hx r1 o1 (fun _ _ _ _=>⟨_,_,_,_,hc⟩);have hcl:c.length=P.cellsOf e:=by rw [v2.length];exact hlen
  refine ⟨U₂,Z₂,rs++c,r2,o2,s1.trans s2,l1.trans l2,by rw [List.length_append,n1,hcl,Nat.add_mul];omega,fun i hi=>?_,fun j v hj=>?_⟩
  ·by_cases hik:i<k
   ·have h1:i*P.cellsOf e+P.cellsOf e<=rs.length:=by
     rw [n1,show i*P.cellsOf e+P.cellsOf e=(i+1)*P.cellsOf e by rw [Nat.add_mul,Nat.one_mul]];exact Nat.mul_le_mul_right _ hik
    have e1:((rs++c).drop (i*P.cellsOf e)).take (P.cellsOf e)=(rs.drop (i*P.cellsOf e)).take (P.cellsOf e):=by
     rw [List.drop_append_of_le_length (by omega),List.take_append_of_le_length (by simp;omega)]
    rw [e1];exact (w1 i hik).le l2
   ·have:i=k:=by omega
    subst this;rw [<- n1,List.drop_left' rfl,List.take_of_length_le (by omega)];exact w2
  ·by_cases hjr:j<rs.length
   ·rw [List.getElem?_append_left hjr] at hj;obtain ⟨v',g1,g2⟩:=v1 j v hj;exact ⟨v',g1,g2.sub s2⟩
   ·rw [List.getElem?_append_right (by omega)] at hj;obtain ⟨v',g1,g2⟩:=v2.get_some hj;have hjc:j-rs.length<P.cellsOf e:=by rw [<- hcl];exact (List.getElem?_eq_some_iff.1 hj).1
    refine ⟨v', ?_,g2⟩
    have:=hcells (j-rs.length) hjc;rw [yRJ hc hs,g1] at this;rw [<- this,<- n1];congr 1;omega

theorem yWI:∀ (n:Nat) (t:TypeId),zHJ P n t=true->∀ (fuel:Nat) (cs':List Value) (x:DataW H × List MemPlace) (U:Inj) (Z:St),DataW.trod enc P w 0 (fun _=>true) held fuel t cs'=some x->Rep U Z w->Ro U w->zOX w cs' ->
  yHY P w U Z cs' fun Z' cs=>WT P Z' n t cs:=by
 intro n;induction n with
 | zero=>intro t h;simp [zHJ] at h
 | succ n ih =>
  intro t hp fuel cs' x U Z h hr ho hrow;have one:∀ (v:Value),zW RD v=true->cs'=[v]->WT P Z (n+1) t [v]->yHY P w U Z cs' fun Z' cs=>WT P Z' (n+1) t cs :=
   fun v hv e hw=>⟨U,Z,[v],hr,ho,Sub.refl _,Le.refl _,by rw [e];exact .cons (.refl_rigid _ hv) .nil,hw⟩
  unfold zHJ at hp;split at hp <;> rename_i hu
  ·obtain ⟨b,e,_⟩:=DataW.trod_bool hu h;exact one _ rfl e (by unfold WT;rw [hu];exact ⟨b,rfl⟩)
  ·obtain ⟨i,e,_,hw⟩:=DataW.trod_int hu h;exact one _ rfl e (by unfold WT;rw [hu];exact ⟨i,rfl,by simpa [Lit.wf] using hw⟩)
  ·obtain ⟨s,e,_,hw⟩:=DataW.trod_string hu h;exact one _ rfl e (by unfold WT;rw [hu];exact ⟨s,rfl,hw⟩)
  ·rename_i e;simp only [Bool.and_eq_true] at hp;have hpos:0<P.cellsOf e:=(wF _ _).1 hp.1;rcases DataW.trod_slice hu h with ⟨hcs,_⟩ | ⟨a,len,cap,elems,rest,m,rfl,hcs,_,_,hle,hmax,hel,hget,hrest,_⟩
   ·exact one _ rfl hcs (by unfold WT;rw [hu];exact .inl rfl)
   ·have hx:yU cap=true:=(xD cap).2 (by unfold vZ;unfold maxLen at hmax;omega);obtain ⟨capA,hcapR,hcl,hc0⟩:∃ capA,zKU capA cap/\(len<=yK capA/\yU capA=true)/\(cap=0->capA=0) :=
     ⟨cap,by unfold zKU;rw [if_pos hx],⟨by have:=(xD cap).1 hx;unfold yK;rw [if_neg (by omega)];exact hle,hx⟩,fun e=>e⟩
    have fin:∀ {U₁:Inj} {Z₁:St} {rs:List Value} {c o:Nat} {arr:Array Value} {el:TypeId} {fr:Nat × Nat},Rep U₁ Z₁ w->Ro U₁ w->Sub U U₁->Le Z Z₁->w.heap[c]?=some (.cells arr el fr)->rs.length=len*P.cellsOf e ->
      (∀ i,i<len->WT P Z₁ n e ((rs.drop (i*P.cellsOf e)).take (P.cellsOf e)))->(∀ (j:Nat) v,rs[j]?=some v->∃ v',arr[o+j]?=some v'/\VR U₁ v v')->o+cap*P.cellsOf e<=arr.size ->
      (a=⟨c,o,none⟩\/(len=0/\capA=0/\cap=0))->yHY P w U Z cs' fun Z' cs=>WT P Z' (n+1) t cs:=by
     intro U₁ Z₁ rs c o arr el fr hr1 ho1 hs1 hl1 hc hlen hw hv hsz hA
     have hlo:len*P.cellsOf e<=cap*P.cellsOf e:=Nat.mul_le_mul_right _ hle
     obtain ⟨g1,g2⟩:=xZM hr1 ho1 hc (P.cellsOf e) (by omega) hv
     have hsub:=yED hr1 c o (P.cellsOf e)
     refine ⟨_,_,[.slice (some ⟨Z₁.y,0,none⟩) len capA],g1,g2,hs1.trans hsub,hl1.trans (Le.add _ _), ?_, ?_⟩
     ·rw [hcs];refine .cons (.slice (L:=⟨c,0,o,P.cellsOf e⟩) (by simp [zJE,yB]) (Nat.zero_le _) ?_ hcapR ?_) .nil
      ·rcases hA with rfl | hA
       ·exact .inl (by simp [Loc.at])
       ·exact .inr ⟨hA.1,by rw [hA.2.1];unfold yK;split <;> omega,hA.2.2⟩
      ·show o+(0-0)+cap*P.cellsOf e<=U₁.csz c;rw [ho1.csz _ _ _ _ hc];omega
     ·unfold WT;rw [hu];refine .inr ⟨Z₁.y,len,capA,rs,rfl,by omega,hcl,hlen,by rw [St.add_get,if_pos rfl],by simp,fun i hi=>(hw i hi).le (Le.add _ _)⟩
    by_cases hcap:cap=0
    ·subst hcap;have hl0:len=0:=by omega
     have hca:capA=0:=hc0 rfl;obtain ⟨c,arr,el,fr,hc⟩:=hrow a len 0 (by rw [hcs];simp);exact fin (rs:=[]) (o:=0) hr ho (Sub.refl _) (Le.refl _) hc (by rw [hl0];simp) (fun i hi=>by omega) (fun j v hj=>by simp at hj) (by omega) (.inr ⟨hl0,hca,rfl⟩)
    ·have hall:∀ i,i<cap->∃ x,(w.cells? 0 (a.add (i*P.cellsOf e)) (P.cellsOf e)).bind (DataW.trod enc P w 0 (fun _=>true) held m e)=some x:=by
      intro i hi;by_cases hil:i<len
      ·exact ⟨elems[i]'(by omega),by rw [hget i hil];simp⟩
      ·obtain ⟨r1,r2⟩:=hrest rfl;have:=r2 (i-len) (by omega);rw [show len+(i-len)=i by omega] at this;exact ⟨rest[i-len]'(by omega),by rw [this];simp⟩
     obtain ⟨x0,hx0⟩:=hall 0 (by omega);simp only [Option.bind_eq_some_iff] at hx0;obtain ⟨ch0,hc0,_⟩:=hx0;obtain ⟨_,hl0,hcell0⟩:=World.cells?_some hc0;have h00:=hcell0 0 hpos;have ha0:(a.add (0*P.cellsOf e)).add 0=a:=by simp [Addr.add]
     rw [ha0] at h00;have hsome:∃ v,w.cell? a=some v:=⟨ch0[0]'(by omega),by rw [h00];simp⟩;obtain ⟨v0,hv0⟩:=hsome;obtain ⟨arr,el,fr,hc,hsp⟩:∃ arr el fr,w.heap[a.block]?=some (.cells arr el fr)/\a.spot=none:=by
      unfold World.cell? at hv0;split at hv0
      ·rename_i arr el fr hc;refine ⟨arr,el,fr,hc, ?_⟩
       cases hs:a.spot with
       | none=>rfl
       | some s=>rw [hs] at hv0;simp at hv0
      ·cases hv0
     obtain ⟨U₁,Z₁,rs,r1,o1,s1,l1,n1,w1,v1⟩:=zZQ hc hsp (fun fuel cs' x U Z=>ih e hp.2 fuel cs' x U Z) hr ho len (fun i hi=>hall i (by omega));refine fin r1 o1 s1 l1 hc n1 w1 v1 ?_ (.inl ?_)
     ·obtain ⟨x1,hx1⟩:=hall (cap-1) (by omega);simp only [Option.bind_eq_some_iff] at hx1;obtain ⟨ch1,hc1,_⟩:=hx1;obtain ⟨_,hl1,hcell1⟩:=World.cells?_some hc1;have h1:=hcell1 (P.cellsOf e-1) (by omega);rw [yRJ hc hsp] at h1;have hb:a.off+(cap-1)*P.cellsOf e+(P.cellsOf e-1)<arr.size:=by
       rcases Nat.lt_or_ge (a.off+(cap-1)*P.cellsOf e+(P.cellsOf e-1)) arr.size with hlt | hge
       ·exact hlt
       ·rw [Array.getElem?_eq_none hge] at h1;have:ch1[P.cellsOf e-1]?=some (ch1[P.cellsOf e-1]'(by omega)):=by simp
        rw [this] at h1;cases h1
      have e1:(cap-1)*P.cellsOf e+P.cellsOf e=cap*P.cellsOf e:=by
       rw [show cap*P.cellsOf e=(cap-1+1)*P.cellsOf e by rw [Nat.sub_add_cancel (by omega)],Nat.add_mul,Nat.one_mul]
      omega
     ·cases a with | mk b o s=>simp at hsp;subst hsp;rfl
  ·rename_i fs;simp only [Bool.and_eq_true] at hp;obtain ⟨xs,m,rfl,_,hl,hxl,hget⟩:=DataW.trod_struct hu h;obtain ⟨U₁,Z₁,c,r1,o1,s1,l1,v1,w1⟩:=yOV (fuel:=m) ih hrow fs.toList 0 U Z (by rw [hl];exact hp.1) (fun f hf=>List.all_eq_true.1 hp.2 f hf) (fun f hf=>by
    obtain ⟨i,hi⟩:=List.getElem?_of_mem hf;have hi2:fs[i]?=some f:=by simpa using hi
    have hlt:i<xs.length:=by rw [hxl];exact (Array.getElem?_eq_some_iff.1 hi2).1
    exact ⟨xs[i],by rw [hget i f hi2];simp [hlt]⟩) hr ho
   refine ⟨U₁,Z₁,c,r1,o1,s1,l1,by simpa using v1, ?_⟩
   unfold WT;rw [hu];have hcl:c.length=cs'.length:=by have:=v1.length;simpa using this
   refine ⟨by rw [hcl,hl],fun f hf=>?_⟩
   obtain ⟨_,g2,g3⟩:=w1 f hf;exact ⟨by omega,by simpa using g3⟩
  ·cases hp
end
end Go.Lay

namespace Go.Lay
open Go

def uU (P:Program) (R:Nat->Rec) (rd:Option Nat) (c:Code) (fr:Fr) (Z:St) (e:Exit) (fr':Fr) (Z':St):Prop:=∃ N0,∀ N,N0<=N->yJ P (R N) N rd c fr Z=some (e,fr',Z')
def zVX (P:Program) (R:Nat->Rec) (rd:Option Nat) (c:Code) (fr:Fr) (Z:St) (e:Exit) (fr':Fr) (Z':St):Prop :=
 ∃ N0,∀ N m,N0<=N->N0<=m->zEC (yJ P (R N) N rd c) m fr Z=some (e,fr',Z')
section
variable {P:Program} {R:Nat->Rec} {rd:Option Nat} {c:Code} {fr fr' fr₁:Fr} {Z Z' Z₁:St} {e:Exit}
theorem zVX.step (h:uU P R rd c fr Z .normal fr₁ Z₁) (k:zVX P R rd c fr₁ Z₁ e fr' Z'):zVX P R rd c fr Z e fr' Z':=by
 obtain ⟨N1,h1⟩:=h;obtain ⟨N2,h2⟩:=k;refine ⟨N1+N2+1,fun N m hN hm=>?_⟩
 obtain ⟨m,rfl⟩:∃ m',m=m'+1:=⟨m-1,by omega⟩;simp only [zEC,h1 N (by omega)];exact h2 N m (by omega) (by omega)
theorem zVX.exit (h:uU P R rd c fr Z e fr' Z') (he:e≠.normal):zVX P R rd c fr Z e fr' Z':=by
 obtain ⟨N1,h1⟩:=h;refine ⟨N1+1,fun N m hN hm=>?_⟩
 obtain ⟨m,rfl⟩:∃ m',m=m'+1:=⟨m-1,by omega⟩;simp only [zEC,h1 N (by omega)];split
 ·rename_i heq;cases heq;exact absurd rfl he
 ·rfl
end

section
variable {P:Program} {Z Z':St}
theorem Own.ld {b n k:Nat} {cs:List Value} {s:Option Nat} (h:Own Z b cs n) (hs:s=none) {t:TypeId} (ht:wJ P t=some false) {v:Value} (hv:cs[k]?=some v):zB P Z t ⟨b,k,s⟩=some v:=by subst hs;exact h.rw.ld ht hv
theorem Own.ldN {b n k m:Nat} {cs ds:List Value} (h:Own Z b cs n) {t:TypeId} (ht:wJ P t=some true) (hs:yT P t=some m) (hd:(cs.drop k).take m=ds) (hl:ds.length=m) (hk:k+m<=cs.length):zB P Z t ⟨b,k,none⟩=some (.agg ⟨ds⟩) :=
 h.rw.ldN ht hs hd hl hk

theorem Row.ld1 {a:Addr} {v:Value} (h:Row Z a [v]) {t:TypeId} (ht:wJ P t=some false):zB P Z t a=some v:=by
 have:=h.load1 (P:=P) ht (k:=0) (v:=v) rfl;simpa [zL] using this
theorem yL {n:Nat} {v:Value} (h:zW RD v=true):yV RD n v=true:=by
 have key:∀ (d:Nat) (v:Value),zW d v=true->yV d n v=true:=by
  intro d;induction d with
  | zero=>intro v h;simp [zW] at h
  | succ d ih =>
   intro v h;have lists:∀ (l:List Value),l.all (zW d)=true->l.all (yV d n)=true:=fun l hl=>List.all_eq_true.2 (fun x hx=>ih x (List.all_eq_true.1 hl x hx))
   cases v with
   | agg cs=>simp only [zW] at h;simp only [yV];exact lists _ h
   | tuple cs=>simp only [zW] at h;simp only [yV];exact lists _ h
   | iface t x=>simp only [zW] at h;simp only [yV];exact ih x h
   | pointer a=>cases a with | none=>rfl | some _=>simp [zW,uJ] at h
   | slice a l c=>cases a with | none=>rfl | some _=>simp [zW,uJ] at h
   | map a=>cases a with | none=>rfl | some _=>simp [zW,uJ] at h
   | func fn f c =>
    cases fn with
    | func g=>simp only [zW,Bool.and_eq_true] at h;simp only [yV,Bool.and_eq_true];exact ⟨⟨trivial,lists _ h.1⟩,lists _ h.2⟩
    | _=>simp [zW,uJ] at h
   | _=>rfl
 exact key RD v h
theorem zP {n:Nat} {a:Addr} (h:a.block<n):yV RD n (.pointer (some a))=true:=(wF _ _).2 h
theorem zOV {n l c:Nat} {a:Addr} (h:a.block<n):yV RD n (.slice (some a) l c)=true:=(wF _ _).2 h
theorem xA {n l c:Nat} {p:Option Addr} (h:∀ a,p=some a->a.block<n):yV RD n (.slice p l c)=true:=by
 cases p with
 | none=>rfl
 | some a=>exact zOV (h a rfl)
theorem zH {n:Nat}:zI n []:=rfl
theorem zE {n:Nat} {v:Value} {vs:List Value} (h:yV RD n v=true) (t:zI n vs):zI n (v::vs):=by
 unfold zI at t ⊢;rw [List.all_cons,h,t];rfl
theorem Le.own {b n:Nat} {ds:List Value} (h:Le Z Z') (hb:Z.y<=b):Le Z (Z'.own b ds n):=⟨h.y,fun c hc=>by
 show yI (Z'.put _ _).heap c=_;rw [St.put_get,if_neg (by omega)];exact h.get c hc⟩
theorem zFT {t n len:Nat} {vs:List Value} (h:SlV P Z t n none len vs):SlV P Z' t n none len vs:=⟨⟨h.1.1,h.1.2⟩,h.2⟩
theorem xY {t n len:Nat} {p:Option Addr} {vs:List Value} (h:SlV P Z t n p len vs):∀ a,p=some a->a.block<Z.y:=by
 intro a e;subst e;exact (show Row Z a (wI vs) from h.1.2).lt
theorem zEY (xs ys:List Value):wI (xs++ys)=wI xs++wI ys:=by simp [wI]
theorem uA (xs:List Int) (k:IntKind):wI (xs.map fun x=>.int k x)=xs.map fun x=>.int k x:=by
 induction xs with
 | nil=>rfl
 | cons x xs ih =>
  rw [List.map_cons,show (Value.int k x::xs.map fun x=>Value.int k x)=[Value.int k x]++xs.map fun x=>Value.int k x from rfl,zEY,ih];rfl
theorem App.ge {n0 n len:Nat} {p:Option Addr} {c:Nat} {cs:List Value} (h:App Z n0 n (.slice p len c) len cs):∀ a,p=some a->n0<=a.block:=by
 intro a e;subst e;cases h with
 | more h hs hb hlt hl hp hsn=>exact hb
theorem xQJ {st xt e n m k len n0:Nat} {a2:Addr} {p:Option Addr} {c:Nat} {cs xs:List Value} (T:AppT P st xt e n) (hA:App Z n0 n (.slice p len c) len cs) (hr:Row Z a2 xs) (hm:xs.length=m*n) (hp:0<m) (hroom:len+m<=1073741824)
  (hc:xs.all cellB=true) (hn0:n0<=Z.y):∃ p' c' Z',yG P st xt (.slice p len c) (.slice (some a2) m k) Z=some (.slice p' (len+m) c',Z')/\App Z' n0 n (.slice p' (len+m) c') (len+m) (cs++xs)/\Keep n0 Z Z':=by
 obtain ⟨v',Z',h1,h2,h3⟩:=yZM (k:=k) T hA hr hm hp hroom hc hn0;obtain ⟨p',c',rfl,_⟩:=h2.sl;exact ⟨p',c',Z',h1,h2,h3⟩
theorem App.slv {n0 n len t:Nat} {p:Option Addr} {c:Nat} {vs:List Value} (h:App Z n0 n (.slice p len c) len (wI vs)) (hl:vs.length=len) (he:∀ v∈vs,zHV P t n v):SlV P Z t n p len vs:=by
 obtain ⟨p',c',e,hs⟩:=h.sl;cases e
 exact ⟨hs,hl,he⟩
theorem App.lt {n0 n len:Nat} {p:Option Addr} {c:Nat} {cs:List Value} (h:App Z n0 n (.slice p len c) len cs):∀ a,p=some a->a.block<Z.y:=by
 intro a e;subst e;cases h with
 | more h hs hb hlt hl hp hsn=>exact hlt
theorem zRZ {f:FuncId} {args:List Value} {v:Value} (h:xZO P f args Z.re v Z') (hl:Z.y<=Z'.low) (hv:zW RD v=true):zD P f args Z v Z:=by
 obtain ⟨N0,hN⟩:=h;refine ⟨N0,fun N hNN=>?_⟩
 have h1:=hN N hNN;unfold vX;rw [show (⟨Z.heap,Z.y,Z.y⟩:St)=Z.re from rfl,h1];show vY Z v Z'=_;unfold vY;rw [(zV _ _).2 hl,hv];rfl
structure New (Z Z':St):Prop where
 le:Le Z Z'
 low:∀ m,m<=Z.low->m<=Z.y->m<=Z'.low
theorem New.refl (Z:St):New Z Z:=⟨Le.refl _,fun _ h _=>h⟩
theorem New.trans {Z₁ Z₂ Z₃:St} (h:New Z₁ Z₂) (k:New Z₂ Z₃):New Z₁ Z₃:=⟨h.le.trans k.le,fun m h1 h2=>k.low m (h.low m h1 h2) (Nat.le_trans h2 h.le.y)⟩
theorem New.row (Z:St) (cs:List Value) (n:Nat):New Z (Z.row cs n):=⟨Le.row _ _ _,fun _ h _=>h⟩
theorem New.add (Z:St) (y:Blk):New Z (Z.add y):=⟨Le.add _ _,fun _ h _=>h⟩
theorem wAC {f:FuncId} {args:List Value} {v:Value} {Q:Value->St->Prop} (h:xZO P f args Z.re v Z') (hn:New Z.re Z') (hq:Q v Z') (hQ:∀ s s',Q v s->Le s s'->Q v s') (hr:zW RD v=true->Q v Z) :
  ∃ v Z'',zD P f args Z v Z''/\New Z Z''/\Q v Z'':=by
 obtain ⟨N0,hN⟩:=h;have h2:Z.y<=Z'.low:=hn.low _ (Nat.le_refl _) (Nat.le_refl _);have h3:Z.y<=Z'.y:=hn.le.y;cases hrv:zW RD v with
 | true =>
  refine ⟨v,Z,⟨N0,fun N hNN=>?_⟩,New.refl _,hr hrv⟩
  have h1:=hN N hNN;unfold vX;rw [show (⟨Z.heap,Z.y,Z.y⟩:St)=Z.re from rfl,h1];show vY Z v Z'=_;unfold vY;rw [(zV _ _).2 h2,hrv];rfl
 | false =>
  refine ⟨v,⟨Z'.heap,Z'.y,min Z.low Z'.low⟩,⟨N0,fun N hNN=>?_⟩,⟨⟨h3,fun b hb=>hn.le.get b hb⟩,fun m h4 h5=>?_⟩,hQ _ _ hq ⟨Nat.le_refl _,fun _ _=>rfl⟩⟩
  ·have h1:=hN N hNN;unfold vX;rw [show (⟨Z.heap,Z.y,Z.y⟩:St)=Z.re from rfl,h1];show vY Z v Z'=_;unfold vY;rw [hrv,Bool.and_false,cond_false,(zV _ _).2 h3,cond_true,wD,zAE]
  ·show m<=min Z.low Z'.low;omega
theorem yE {a b:Int} (h:a<=b):leI a b=true:=(wT a b).2 h
theorem yH {a b:Int} (h:¬ a<=b):leI a b=false:=by rw [yJX];simp;omega
theorem zR {a b:Int} (h:a<b):ltI a b=true:=(zHO a b).2 h
theorem zT {a b:Int} (h:¬ a<b):ltI a b=false:=by rw [yJV];simp;omega
theorem xK {a b:Int} (h:a=b):eqI a b=true:=(xCJ a b).2 h
theorem xH {a b:Int} (h:¬ a=b):eqI a b=false:=by rw [Bool.eq_false_iff];exact fun e=>h ((xCJ a b).1 e)
theorem zEV {a b:Int} (h:¬ a=b):(!eqI a b)=true:=by rw [xH h];rfl
theorem vF {a b:Int} (h:a=b):(!eqI a b)=false:=by rw [xK h];rfl
end
end Go.Lay

namespace Go.Lay
open Go
section
variable {P:Program} {rec:Rec} {U:Inj} {Z Z':St} {w:World}

def xLI (aw:FuncId) (rec:Rec):Rec:=fun r args Z=>match r with
 | .func f=>match args with
  | []=>bif Nat.beq f aw then some (.bool true,Z) else rec (.func f) [] Z
  | a::l=>rec (.func f) (a::l) Z
 | .yield l=>rec (.yield l) args Z
def zFF (P:Program) (aw:FuncId) (N:Nat):Rec:=xLI aw (zX P N)
structure ShutF (P:Program) (aw:FuncId):Prop where
 ok : ∀ (U : Inj) (Z : St) (w : World), Rep U Z w → (∃ fn, P.funcs[aw]? = some fn ∧ fn.body.isSome = true ∧ fn.name ≠ "runtime.NumGoroutine") ∧ ∀ n, CallsIn (Fw none) n P aw ⟨[]⟩ w (zLF U Z w (.bool true) Z)
theorem yOA {aw:FuncId} (h:RecSound P rec) (hc:ShutF P aw):RecSound P (xLI aw rec):=by
 refine ⟨fun f args Z v Z' hr U w args' hrep ha=>?_,fun l args Z v Z' hr=>h.yield l args Z v Z' hr⟩
 cases args with
 | cons a l=>exact h.func f (a::l) Z v Z' hr U w args' hrep ha
 | nil =>
  have hr:(bif Nat.beq f aw then some (.bool true,Z) else rec (.func f) [] Z)=some (v,Z'):=hr;rcases zAW hr with ⟨hf,hr⟩ | ⟨_,hr⟩
  ·have hf:=Nat.eq_of_beq_eq_true hf;simp at hr;obtain ⟨rfl,rfl⟩:=hr;subst hf;cases ha
   exact hc.ok U Z w hrep
  ·exact h.func f [] Z v Z' hr U w args' hrep ha
theorem yTA (hP:ProgOk P) {aw:FuncId} (hc:ShutF P aw) (N:Nat):RecSound P (zFF P aw N):=yOA (zHD hP N) hc
theorem xHX (hP:ProgOk P) {l:List Ent} (hl:zLD P l) {N:Nat} {f:FuncId} (h:okB (zFB P (yPD l (zX P N)) N f [] xMR)=true):ShutF P f:=by
 refine ⟨fun U Z w hr=>?_⟩
 obtain ⟨Z',hb⟩:=xMP h;obtain ⟨h1,h2⟩:=zFA hP (zOF hP hl N) hb (xXP w) .nil;refine ⟨h1,fun n=>CallsIn.mono (h2 n) (fun e w' hR=>?_)⟩
 cases e with
 | returned v' =>
  obtain ⟨U',hv,hg⟩:=hR;have hs:∀ c,c<w.heap.size->w'.heap[c]?=w.heap[c]?:=fun c hc=>hg.pres.same c hc (fun b hb=>by simp [xBO] at hb)
  have hv:=hv.bool_inv;subst hv;exact ⟨U,.bool true,Ext.refl _ _ _,hr.grown hg.pres.size hs,⟨hg.pres.size,fun c hc _=>hs c hc,hg.pres.tape,hg.pres.os,hg.pres.output,hg.pres.fr⟩,Nat.le_refl _,Nat.le_refl _⟩
 | panicked _=>exact hR.elim
 | outgrown=>exact hR.elim
theorem xDF {aw:FuncId} {N:Nat}:vX (zFF P aw N) (.func aw) [] Z=some (.bool true,Z):=by
 unfold vX;have e:zFF P aw N (.func aw) [] ⟨Z.heap,Z.y,Z.y⟩=some (.bool true,⟨Z.heap,Z.y,Z.y⟩):=by
  show (bif Nat.beq aw aw then _ else _)=_;rw [Nat.beq_refl];rfl
 rw [e];show vY Z _ _=_;unfold vY;rw [(zV _ _).2 (Nat.le_refl _)];rfl

variable {H:Type} {enc:TypeId × Value->H} {held:Bool}
def WTs (P:Program) (Z:St) (n:Nat):List TypeId->List Value->Prop
 | [],[]=>True
 | t::ts,v::vs=>WT P Z n t v.cells.toList/\WTs P Z n ts vs
 | _,_=>False
theorem yWH {n:Nat} {t:TypeId} {v:Value} {d:DataW H} {ps:List MemPlace} (hp:zHJ P n t=true) (h:DataW.Trod enc P w 0 (fun _=>true) held t v d ps) (hr:Rep U Z w) (ho:Ro U w) (hrow:zOX w v.cells.toList) :
  ∃ U' Z' av,Rep U' Z' w/\Ro U' w/\Sub U U'/\Le Z Z'/\VR U' av v/\WT P Z' n t av.cells.toList:=by
 obtain ⟨fuel,h⟩:=h;obtain ⟨U',Z',cs,r1,o1,s1,l1,v1,w1⟩:=yWI n t hp fuel _ _ U Z h hr ho hrow;have one:(∀ c,v≠.agg c)->v.cells.toList=[v]->∃ U' Z' av,Rep U' Z' w/\Ro U' w/\Sub U U'/\Le Z Z'/\VR U' av v/\WT P Z' n t av.cells.toList:=by
  intro hna e;rw [e] at v1;cases v1 with
  | cons hx hn =>
   cases hn
   rename_i x;refine ⟨U',Z',x,r1,o1,s1,l1,hx, ?_⟩
   have hc:=hx.cells;rw [e] at hc;have:x.cells.toList=[x]:=by
    cases x with
    | agg cs =>
     exfalso;cases hx with
     | atom hat=>exact absurd hat (by simp [uJ])
     | agg _ _=>exact hna _ rfl
    | _=>rfl
   rw [this];exact w1
 cases v with
 | agg c =>
  refine ⟨U',Z',.agg ⟨cs⟩,r1,o1,s1,l1, ?_,w1⟩
  cases c with | mk l=>exact VR.agg' v1
 | _=>exact one (by simp) rfl
theorem yOW {n:Nat}:∀ {ts:List TypeId} {vs:List Value} {ds:List (DataW H)} {ps:List MemPlace} {U:Inj} {Z:St},DataW.TrodAll enc P w 0 (fun _=>true) held ts vs ds ps->(∀ t∈ts,zHJ P n t=true)->Rep U Z w->Ro U w->(∀ v∈vs,zOX w v.cells.toList) ->
  ∃ U' Z' avs,Rep U' Z' w/\Ro U' w/\Le Z Z'/\Sub U U'/\VRs U' avs vs/\WTs P Z' n ts avs
 | [],[],[],ps,U,Z,h,_,hr,ho,_=>⟨U,Z,[],hr,ho,Le.refl _,Sub.refl _,.nil,trivial⟩
 | t::ts,v::vs,d::ds,ps,U,Z,h,hp,hr,ho,hrow=>by
  obtain ⟨p,q,h1,h2,_⟩:=h;obtain ⟨U1,Z1,av,r1,o1,s1,l1,v1,w1⟩:=yWH (hp t (by simp)) h1 hr ho (hrow v (by simp));obtain ⟨U2,Z2,avs,r2,o2,l2,s2,v2,w2⟩:=yOW h2 (fun t ht=>hp t (by simp [ht])) r1 o1 (fun v hv=>hrow v (by simp [hv]));exact ⟨U2,Z2,av::avs,r2,o2,l1.trans l2,s1.trans s2,.cons (v1.sub s2) v2,w1.le l2,w2⟩
 | [],_::_,_,_,_,_,h,_,_,_,_=>h.elim
 | _::_,[],_,_,_,_,h,_,_,_,_=>h.elim
 | [],[],_::_,_,_,_,h,_,_,_,_=>h.elim
 | _::_,_::_,[],_,_,_,h,_,_,_,_=>h.elim

theorem zME {t:TypeId} {v:Value} (h:Value.okWide P w .any 0 t v):zOX w v.cells.toList:=by
  have cell:∀ {u:TypeId} {A:Addr} {len cap:Nat},Cell.okWide P w .any 0 u (.slice (some A) len cap)->∃ (c:Nat) (arr:Array Value) (el:TypeId) (fr:Nat × Nat),w.heap[c]?=some (.cells arr el fr):=by
    intro u A len cap hc;have hok:Cell.ok P w .any 0 u (.slice (some A) len cap):=by
      unfold Cell.okWide at hc;split at hc <;> first | exact hc | (rename_i heq;cases heq)
    unfold Cell.ok at hok;split at hok <;> first | (rename_i heq;cases heq;done) | skip
    all_goals first
      | (rename_i heq;cases heq;obtain ⟨_,_,_,_,row,cells,hs,_⟩:=hok
         unfold World.shape? at hs
         split at hs
         · rename_i c elem hh;exact ⟨_,_,_,_,hh⟩
         · cases hs)
      | exact hok.elim
      | skip
  intro A len cap hm;unfold Value.okWide at h;split at h
  · obtain ⟨cs,rfl,_,ts,_,_,hc⟩:=h;obtain ⟨i,hi⟩:=List.getElem?_of_mem hm;obtain ⟨u,_,hu⟩:=hc i _ (by simpa [Value.cells] using hi);exact cell hu
  · obtain ⟨cs,rfl,_,ts,_,_,hc⟩:=h;obtain ⟨i,hi⟩:=List.getElem?_of_mem hm;obtain ⟨u,_,hu⟩:=hc i _ (by simpa [Value.cells] using hi);exact cell hu
  · cases v with
    | slice a l c =>
      simp [Value.cells] at hm;obtain ⟨rfl,rfl,rfl⟩:=hm;exact cell h
    | agg cs =>
      exfalso;unfold Cell.okWide at h;split at h <;> first | (rename_i heq;cases heq;done) | skip
      unfold Cell.ok at h;split at h <;> first | (rename_i heq;cases heq;done) | exact h.elim | skip
    | _=>simp [Value.cells] at hm
end
end Go.Lay

namespace Go.Lay
open Go Go.RowKit
theorem zNE {W W':World} (h:Grown W W') {b:Nat} (hb:b<W.heap.size):W'.heap[b]?=W.heap[b]?:=by
 have:=h.1.2.2 b hb;split at this
 ·rename_i c t fr c' t' fr' h1 h2;obtain ⟨rfl,rfl,hs,hj⟩:=this;rw [h1,h2];have:c'=c:=Array.ext_getElem? (fun j=>hj j (fun f=>f));rw [this]
 ·rename_i h1 h2;rcases this with f | ⟨rfl,rfl⟩
  ·exact f.elim
  ·rw [h1,h2]
 ·exact this
theorem yCU {W W':World} (h:Grown W W') {p:MemPlace} (hp:p.block<W.heap.size):W.sameAt W' p:=by
 cases p with
 | cell b o=>exact World.cell?_of_block (w:=W) (zNE h hp)
 | map b=>exact zNE h hp
section
variable {H:Type} {enc:TypeId × Value->H} {P:Program} {w w':World} {b:Nat} {sp:Nat->Bool} {held:Bool}
theorem zMV:∀ {ts:List TypeId} {vs:List Value} {ds:List (DataW H)} {ps:List MemPlace},DataW.TrodAll enc P w b sp held ts vs ds ps->(∀ p∈ps,w.sameAt w' p)->DataW.TrodAll enc P w' b sp held ts vs ds ps
 | [],[],[],_,h,_=>h
 | _::_,_::_,_::_,_,⟨p,q,⟨n,h1⟩,h2,e⟩,hs=>⟨p,q,⟨n,DataW.trod_carry _ _ _ _ h1 (fun x hx=>hs x (by rw [e];exact List.mem_append_left _ hx))⟩,zMV h2 (fun x hx=>hs x (by rw [e];exact List.mem_append_right _ hx)),e⟩
theorem xIP (K:Kids P (· < P.types.size)) (hz:∀ (t:Nat) (e:TypeId),t<P.types.size->P.underlying t=some (.slice e)->0<P.cellsOf e) {ts:List TypeId} {vs:List Value} {ds:List (DataW H)} {ps:List MemPlace}
  (hT:∀ t∈ts,t<P.types.size) (h:DataW.TrodAll enc P w 0 (fun _=>true) true ts vs ds ps) (hg:Grown w w') (hlt:∀ p∈ps,p.block<w.heap.size) (hs:∀ p∈ps,sp p.block=true):DataW.TrodAll enc P w' 0 sp true ts vs ds ps :=
 zMV (DataW.TrodAll.respare K hz hT h hs) (fun p hp=>yCU hg (hlt p hp))
end
end Go.Lay

namespace Go.Lay
open Go
section
variable {P:Program} {R:Nat->Rec} {rd:Option Nat} {c:Code} {fr fr':Fr} {Z Z':St} {e:Exit} {aw:FuncId}
def xAD (P:Program) (l:Nat) (args:List Value) (Z:St) (v:Value) (Z':St):Prop:=∃ N0,∀ N,N0<=N->vX (zX P N) (.yield l) args Z=some (v,Z')
end
end Go.Lay

namespace Go.Lay
open Go
section
variable {P:Program} {Z Z':St} {cs:List Value}
end
end Go.Lay

namespace Go.Lay
open Go
structure Only (S:Nat->Prop) (Z Z':St):Prop where
 y:Z.y<=Z'.y
 get:∀ b,b<Z.y->¬ S b->yI Z'.heap b=yI Z.heap b
 low:∀ m,m<=Z.low->m<=Z.y->(∀ b,b<Z.y->S b->m<=b)->m<=Z'.low
section
variable {P:Program} {S T:Nat->Prop} {Z Z' Z₁ Z₂ Z₃:St} {cs:List Value} {n b:Nat}
theorem Only.refl (S:Nat->Prop) (Z:St):Only S Z Z:=⟨Nat.le_refl _,fun _ _ _=>rfl,fun _ h _ _=>h⟩
theorem Only.trans (h:Only S Z₁ Z₂) (k:Only T Z₂ Z₃) (hT:∀ b,b<Z₁.y->T b->S b) (hT2:∀ m,m<=Z₁.y->(∀ b,b<Z₁.y->S b->m<=b)->∀ b,b<Z₂.y->T b->m<=b:=by intro m h1 h2 b h3 h4;(first | exact h4.elim | omega)):Only S Z₁ Z₃ :=
 ⟨Nat.le_trans h.y k.y,fun b hb hs=>(k.get b (Nat.lt_of_lt_of_le hb h.y) (fun ht=>hs (hT b hb ht))).trans (h.get b hb hs),fun m h1 h2 h3=>k.low m (h.low m h1 h2 h3) (Nat.le_trans h2 h.y) (hT2 m h2 h3)⟩
theorem Only.trans' (h:Only S Z₁ Z₂) (k:Only T Z₂ Z₃) (hT:∀ b,b<Z₂.y->T b->S b\/Z₁.y<=b):Only S Z₁ Z₃ :=
 ⟨Nat.le_trans h.y k.y,fun b hb hs=>(k.get b (Nat.lt_of_lt_of_le hb h.y) (fun ht=>(hT b (Nat.lt_of_lt_of_le hb h.y) ht).elim hs (fun h=>by omega))).trans (h.get b hb hs),fun m h1 h2 h3=>k.low m (h.low m h1 h2 h3) (Nat.le_trans h2 h.y) (fun b hb ht=>by
  rcases hT b hb ht with h4 | h4
  ·by_cases hb':b<Z₁.y
   ·exact h3 b hb' h4
   ·omega
  ·omega)⟩
theorem Only.mono (h:Only S Z Z') (hT:∀ b,b<Z.y->S b->T b):Only T Z Z':=⟨h.y,fun b hb hs=>h.get b hb (fun k=>hs (hT b hb k)),fun m h1 h2 h3=>h.low m h1 h2 (fun b hb k=>h3 b hb (hT b hb k))⟩
theorem New.only (h:New Z Z'):Only S Z Z':=⟨h.le.y,fun b hb _=>h.le.get b hb,fun m h1 h2 _=>h.low m h1 h2⟩
theorem Only.add (Z:St) (y:Blk):Only S Z (Z.add y):=(New.add Z y).only
theorem Only.row (Z:St) (cs:List Value) (n:Nat):Only S Z (Z.row cs n):=(New.row Z cs n).only
theorem Only.put {y:Blk} (hs:Z.y<=b\/S b):Only S Z (Z.put b y):=⟨Nat.le_refl _,fun c hc hs'=>by rw [St.put_get,if_neg (by rintro rfl;rcases hs with h | h;omega;exact hs' h)],fun m h1 h2 h3=>by
 simp only [St.put_low];rcases hs with h | h
 ·omega
 ·by_cases hb:b<Z.y
  ·have:=h3 b hb h;omega
  ·omega⟩
theorem Only.own (hs:Z.y<=b\/S b):Only S Z (Z.own b cs n):=Only.put hs
theorem Only.re (Z:St):Only S Z Z.re:=⟨Nat.le_refl _,fun _ _ _=>rfl,fun _ _ h _=>h⟩
theorem Only.own' (h:Only S Z Z') (k:Own Z b cs n) (hs:¬ S b):Own Z' b cs n:=⟨by rw [h.get b k.lt hs];exact k.get,Nat.lt_of_lt_of_le k.lt h.y⟩
theorem Only.rw' {a:Addr} (h:Only S Z Z') (k:Row Z a cs) (hs:¬ S a.block):Row Z' a cs:=⟨by
 have:=k.rd
 unfold yP at this ⊢
 rw [h.get _ k.lt hs];exact this,Nat.lt_of_lt_of_le k.lt h.y⟩
theorem Only.slp' {len:Nat} {p:Option Addr} (h:Only S Z Z') (k:SlP Z n p len cs) (hs:∀ a,p=some a->¬ S a.block):SlP Z' n p len cs:=by
 refine ⟨k.1, ?_⟩
 cases p with
 | none=>exact k.2
 | some a=>exact h.rw' (show Row Z a cs from k.2) (hs a rfl)
theorem Only.slv' {t len:Nat} {p:Option Addr} {vs:List Value} (h:Only S Z Z') (k:SlV P Z t n p len vs) (hs:∀ a,p=some a->¬ S a.block):SlV P Z' t n p len vs:=⟨h.slp' k.1 hs,k.2⟩
theorem Only.app' {n0 len:Nat} {v:Value} (h:Only S Z Z') (k:App Z n0 n v len cs) (hs:∀ a l c,v=.slice (some a) l c->¬ S a.block):App Z' n0 n v len cs:=by
 cases k with
 | nil=>exact .nil
 | more g1 g2 g3 g4 g5 g6 g7=>exact .more (by rw [h.get _ g4 (hs _ _ _ rfl)];exact g1) g2 g3 (Nat.lt_of_lt_of_le g4 h.y) g5 g6 g7
theorem Own.low {m:Nat} (h:Own Z b cs n):Own ⟨Z.heap,Z.y,m⟩ b cs n:=⟨h.get,h.lt⟩
def xZP (P:Program) (R:Nat->Rec) (g:Operand) (ps:Array Tmp) (as bo:Code) (fr:Fr) (Z:St) (e:Exit) (fr':Fr) (Z':St):Prop:=∃ N0,∀ N,N0<=N->zNW (R N) none g ps as bo fr Z=some (e,fr',Z')
def xCY (ms:List Nat) (Z Z':St):Prop:=zPA ms Z fun s=>s=Z'
theorem zNO:∀ {ms:List Nat} {Z:St} {K:St->Prop},xCY ms Z Z'->K Z'->zPA ms Z K
 | [],_,_,h,k=>by cases h;exact k
 | _::_,_,_,h,k=>⟨h.1,zNO h.2 k⟩
theorem zPK:∀ {ms:List Nat} {Z:St},(∀ d∈ms,yI Z.heap d=some .defd)->ms.Nodup->∃ Z',xCY ms Z Z'/\Z'.y=Z.y/\(∀ b,b ∉ ms->yI Z'.heap b=yI Z.heap b)/\∀ m,m<=Z.low->(∀ d∈ms,m<=d)->m<=Z'.low
 | [],Z,_,_=>⟨Z,rfl,rfl,fun _ _=>rfl,fun _ h _=>h⟩
 | d::ms,Z,h,hn=>by
  have hn:=List.nodup_cons.1 hn;obtain ⟨Z',h1,h2,h3,h4⟩:=zPK (ms:=ms) (Z:=Z.shut d) (fun c hc=>by
   rw [St.shut_get,if_neg (by rintro rfl;exact hn.1 hc)];exact h c (by simp [hc])) hn.2
  refine ⟨Z',⟨h d (by simp),h1⟩,h2,fun b hb=>?_,fun m hm hd=>h4 m ?_ (fun c hc=>hd c (by simp [hc]))⟩
  ·simp at hb;rw [h3 b hb.2,St.shut_get,if_neg hb.1]
  ·have:=hd d (by simp);simp;omega
end
end Go.Lay

namespace Go.Lay
open Go
section
variable {P:Program} {Z Z':St} {cs:List Value}
def AtP (p:Option Addr) (b:Nat):Prop:=∃ a,p=some a/\a.block=b
theorem AtP.none {b:Nat}:¬ AtP none b:=by rintro ⟨a,h,_⟩;cases h
theorem zTM {st xt e n m k len n0:Nat} {a2:Addr} {p:Option Addr} {c:Nat} {xs:List Value} (T:AppT P st xt e n) (hA:App Z n0 n (.slice p len c) len cs) (hr:Row Z a2 xs) (hm:xs.length=m*n) (hp:0<m) (hroom:len+m<=1073741824)
  (hc:xs.all cellB=true) (hn0:n0<=Z.y):∃ p' c' Z',yG P st xt (.slice p len c) (.slice (some a2) m k) Z=some (.slice p' (len+m) c',Z')/\App Z' n0 n (.slice p' (len+m) c') (len+m) (cs++xs)/\Only (AtP p) Z Z'/\(∀ b,AtP p' b->AtP p b\/Z.y<=b):=by
 obtain ⟨p',c',Z',h1,h2,h3⟩:=xQJ (k:=k) T hA hr hm hp hroom hc hn0;refine ⟨p',c',Z',h1,h2, ?_⟩
 obtain ⟨xd,hxd,hxi⟩:=T.src;obtain ⟨ei,z,hei,hz,hby,hrz,hzl⟩:=T.info;have hrd:=hr.rd;rw [hm] at hrd;have hsrc:uK Z n z xd (.slice (some a2) m k)=some (m,xs):=by
  unfold uK;cases xd with
  | int _=>cases hxi
  | _=>simp only [xT,hrd,Option.map_some]
 have hcond:(uT (len+m) n ei.bytes && xs.all cellB && Nat.beq xs.length (m*n) && zW RD z && Nat.beq z.cells.toList.length n)=true:=by
  unfold uT;rw [(zV _ _).2 hroom,(zV _ _).2 T.le,(zV _ _).2 hby,hc,hm,Nat.beq_refl,hrz,hzl];rfl
 have hble:∀ x:Nat,Nat.ble (x+m) x=false:=fun x=>by rw [Bool.eq_false_iff];intro e;have:=(zV _ _).1 e;omega
 cases hA with
 | nil =>
  have hc0:yK 0=0:=by unfold yK;have:=vK;rw [if_neg (by omega)]
  have hc1:yU 0=true:=(xD 0).2 vK;unfold yG at h1;simp only [T.el,hxd,hei,hz,hsrc,hcond,cond_true,wU,hc0,hble,cond_false,hc1,Nat.beq_refl,yM,Option.some.injEq,Prod.mk.injEq,Value.slice.injEq] at h1;obtain ⟨⟨rfl,_,_⟩,rfl⟩:=h1;exact ⟨Only.add _ _,fun b' hb=>.inr (by obtain ⟨a,e,rfl⟩:=hb;cases e;exact Nat.le_refl _)⟩
 | @more b' s nx _ _ sp log h hs hb hlt hl hpp hsn =>
  have hex:wV ((s,cs.length)::log) (yB ⟨b',0,sp⟩)=some cs.length:=by
   have:Nat.beq s (yB ⟨b',0,sp⟩)=true:=by unfold yB;simp only [hs];exact Nat.beq_refl _
   simp only [wV,this,cond_true]
  have hlf:wN ((s,cs.length)::log) (yB ⟨b',0,sp⟩)=(s,cs.length)::log:=by
   have:Nat.beq s (yB ⟨b',0,sp⟩)=true:=by unfold yB;simp only [hs];exact Nat.beq_refl _
   simp only [wN,this,cond_true]
  have hg:(Nat.beq len len && Nat.beq (0+len*n) cs.length && Nat.beq n n && !false && Nat.blt 0 n)=true:=by
   rw [Nat.beq_refl,Nat.zero_add,hl,Nat.beq_refl,Nat.beq_refl,(wF 0 n).2 T.pos];rfl
  unfold yG at h1;simp only [T.el,hxd,hei,hz,hsrc,hcond,cond_true,wU,uI,hble,cond_false,zFO,zIJ,h,hex,hg,zCS,wD,St.write_eq,hlf,Option.some.injEq,Prod.mk.injEq,Value.slice.injEq] at h1;obtain ⟨⟨rfl,_,_⟩,rfl⟩:=h1;exact ⟨Only.put (.inr ⟨_,rfl,rfl⟩),fun b'' hb=>.inl (by obtain ⟨a,e,rfl⟩:=hb;cases e;exact ⟨_,rfl,rfl⟩)⟩
theorem Own.ldI {b n i:Nat} {t:TypeId} {v:Value} (h:Own Z b cs n) (ht:wJ P t=some false) (hi:cs[i]?=some v):zB P Z t (zL ⟨b,0,none⟩ (Int.toNat (i:Int)*1))=some v:=by
 rw [Int.toNat_natCast,Nat.mul_one];have:=h.rw.load1 (P:=P) ht (k:=i) hi;exact this
theorem Own.stI {b n i:Nat} {t:TypeId} {v:Value} (h:Own Z b cs n) (hv:v.cells.toList=[v]) (hs:yT P t=some 1) (hc:cellB v=true) (hi:i<cs.length) :
  zQ P (evL [.pointer (some (zL ⟨b,0,none⟩ (Int.toNat (i:Int)*1))),v]) Z (.store t (.tmp 0) (.tmp 1))=some (undef,Z.own b (cs.set i v) n):=by
 have e:zL ⟨b,0,none⟩ (Int.toNat (i:Int)*1)=⟨b,i,none⟩:=by rw [Int.toNat_natCast,Nat.mul_one];simp [zL]
 rw [e];refine h.store (k:=i) hv hs (by simp [hc]) (by simp;omega) ?_
 rw [List.set_eq_take_append_cons_drop,if_pos hi];rfl
end
end Go.Lay

namespace Go.Lay
open Go
def yKE:Value->Bool
 | .tuple ⟨[]⟩=>true
 | _=>false
theorem yWR {v:Value} (h:yKE v=true):v=undef:=by
 unfold yKE at h;split at h
 ·rfl
 ·cases h
def shp:Nat->Bool->Tr Value->Bool
 | 0,_,.leaf=>true
 | d+1,c,.node (some v) l r=>(c || yKE v) && (shp d false l && shp d true r)
 | _,_,_=>false
def zDO:List Bool->Nat
 | []=>0
 | b::p=>(bif b then 1 else 0)+2*zDO p
def xPV:Bool->List Bool->Prop
 | c,[]=>c=true
 | _,b::p=>xPV b p
theorem yTJ {g:Nat->Value}:∀ (d:Nat) (c:Bool) (t:Tr Value) (w a:Nat),shp d c t=true->(∀ p v,xPV c p->Tr.getP p t=some v->g (a+w*zDO p)=v)->t=trF g d w a c
 | 0,c,.leaf,w,a,_,_=>rfl
 | 0,c,.node _ _ _,w,a,h,_=>by simp [shp] at h
 | d+1,c,.leaf,w,a,h,_=>by simp [shp] at h
 | d+1,c,.node none l r,w,a,h,_=>by simp [shp] at h
 | d+1,c,.node (some v) l r,w,a,h,hg=>by
  simp only [shp,Bool.and_eq_true] at h;obtain ⟨h1,h2,h3⟩:=h;have e1:v=bif c then g a else undef:=by
   cases c with
   | true =>
    have:=hg [] v rfl rfl;simp [zDO] at this;simp [this]
   | false=>simpa using yWR (by simpa using h1)
  have e2:=yTJ d false l (w*2) a h2 (fun p x hp hx=>by
   have:=hg (false::p) x (by cases p <;> exact hp) hx;simp [zDO] at this;rw [<- this];congr 1;rw [Nat.mul_assoc])
  have e3:=yTJ d true r (w*2) (a+w) h3 (fun p x hp hx=>by
   have:=hg (true::p) x (by cases p <;> exact hp) hx;simp only [zDO,cond_true] at this;rw [<- this];congr 1;rw [Nat.mul_add,Nat.mul_one,Nat.mul_assoc,Nat.add_assoc])
  rw [e2,e3,e1];rfl
theorem yRO:∀ (p:List Bool),xPV true p->∀ f,zDO p<=f->bits f (zDO p)=p
 | [],_,f,_=>by
  cases f with
  | zero=>rfl
  | succ f=>simp [bits,zDO]
 | b::p,hp,f,hf=>by
  have hp:xPV b p:=hp;have hpos:0<(bif b then 1 else 0)+2*zDO p:=by
   cases p with
   | nil =>
    have:b=true:=hp;subst this;simp [zDO]
   | cons b2 q =>
    have key:∀ (q:List Bool) (b:Bool),xPV b q->b=true\/0<zDO q:=by
     intro q;induction q with
     | nil=>intro b h;exact .inl h
     | cons c q ih =>
      intro b h;rcases ih c h with h1 | h1
      ·right;simp [zDO,h1];omega
      ·right;simp only [zDO];omega
    rcases key q b2 hp with h1 | h1
    ·simp [zDO,h1];omega
    ·simp only [zDO];omega
  simp only [zDO] at hf ⊢;match f with
  | 0=>omega
  | f+1 =>
   have ih:bits f (zDO p)=p:=by
    cases p with
    | nil=>cases f <;> simp [bits,zDO]
    | cons b2 q=>exact yRO (b2::q) hp f (by cases b <;> simp at hf <;> omega)
   have hb:Nat.beq ((bif b then 1 else 0)+2*zDO p) 0=false:=by
    rw [Bool.eq_false_iff];intro e;have:=Nat.eq_of_beq_eq_true e;omega
   have h2:((bif b then 1 else 0)+2*zDO p) / 2=zDO p:=by cases b <;> simp <;> omega
   have h3:Nat.beq (((bif b then 1 else 0)+2*zDO p) % 2) 1=b:=by
    cases b
    ·rw [Bool.eq_false_iff];intro e;have:=Nat.eq_of_beq_eq_true e;simp at this
    ·have:((bif true then 1 else 0)+2*zDO p) % 2=1:=by simp
     rw [this];rfl
   simp only [bits,hb,cond_false,h3,h2,ih]
def yDH (n:Nat) (f:Tm):Bool:=Nat.beq f.n n && shp ((way n).length+1) true f.t
def AG (f:Tm):List (Nat × Value)->Prop
 | []=>True
 | (i,v)::l=>f.nth i=v/\AG f l
def ARf:List (Nat × Value)->Prop
 | []=>True
 | (_,v)::l=>v=v/\ARf l
theorem arf:∀ l:List (Nat × Value),ARf l
 | []=>trivial
 | (_,_)::l=>⟨rfl,arf l⟩
theorem xWN {f:Tm}:∀ {l:List (Nat × Value)},AG f l->ov l f.nth=f.nth
 | [],_=>rfl
 | (i,v)::l,h=>by
  have ih:=xWN h.2;funext j;unfold ov;cases hb:Nat.beq i j with
  | false=>rw [cond_false,ih]
  | true=>rw [cond_true,<- Nat.eq_of_beq_eq_true hb,h.1]
theorem yGT {n:Nat} {f:Tm} {l:List (Nat × Value)} (h:yDH n f=true) (hl:AG f l):f=Fm n (ov l f.nth):=by
 unfold yDH at h;simp only [Bool.and_eq_true] at h;obtain ⟨h1,h2⟩:=h;have h1:=Nat.eq_of_beq_eq_true h1;subst h1;rw [xWN hl];have:=yTJ (g:=f.nth) ((way f.n).length+1) true f.t 1 0 h2 (fun p v hp hv=>by
  rw [Nat.zero_add,Nat.one_mul];unfold Tm.nth way;rw [yRO p hp _ (Nat.le_refl _),hv])
 cases f with
 | mk n t=>unfold Fm;exact congrArg (Tm.mk n) this

def zCW (R:Nat->Rec):zRN:=fun r args Z v Z'=>∃ N0,∀ N,N0<=N->vX (R N) r args Z=some (v,Z')
def ySB (n:Nat):List Alt->Exit->Fr->St->Prop
 | [],_,_,_=>False
 | a::as,e,fr,Z=>(e=a.e/\∃ t g,fr=⟨Fm n (ov (a.l t) g),a.ms t⟩/\a.Q t Z)\/ySB n as e fr Z
def ySA:List (Exit × (St->Prop))->Exit->St->Prop
 | [],_,_=>False
 | a::as,e,Z=>(e=a.1/\a.2 Z)\/ySA as e Z
def yCO (n:Nat):List Alt->(Exit->Fr->St->Prop)->Prop
 | [],_=>True
 | a::as,K=>(∀ (t:a.T) (g:Nat->Value) (Z:St),a.Q t Z->K a.e ⟨Fm n (ov (a.l t) g),a.ms t⟩ Z)/\yCO n as K
def xAC (n:Nat) (l:List (Nat × Value)) (ms:List Nat):List (Exit × (St->Prop))->(Exit->Fr->St->Prop)->Prop
 | [],_=>True
 | a::as,K=>(∀ (g:Nat->Value) (Z:St),a.2 Z->K a.1 ⟨Fm n (ov l g),ms⟩ Z)/\xAC n l ms as K
theorem zMI {n:Nat} {K:Exit->Fr->St->Prop} {e:Exit} {fr:Fr} {Z:St}:∀ {l:List Alt},yCO n l K->ySB n l e fr Z->K e fr Z
 | [],_,h=>h.elim
 | a::as,hc,h=>by
  rcases h with ⟨rfl,t,g,rfl,hq⟩ | h
  ·exact hc.1 t g Z hq
  ·exact zMI hc.2 h
theorem yBB {n:Nat} {l0:List (Nat × Value)} {ms:List Nat} {K:Exit->Fr->St->Prop} {e:Exit} {g:Nat->Value} {Z:St}:∀ {l:List (Exit × (St->Prop))},xAC n l0 ms l K->ySA l e Z->K e ⟨Fm n (ov l0 g),ms⟩ Z
 | [],_,h=>h.elim
 | a::as,hc,h=>by
  rcases h with ⟨rfl,hq⟩ | h
  ·exact hc.1 g Z hq
  ·exact yBB hc.2 h
section
variable (P:Program) (R:Nat->Rec)
def yN (rd:Option Nat) (c:Code) (n:Nat) (l:List (Nat × Value)) (ms:List Nat) (alts:List Alt) (Z:St):Prop :=
 ∀ g:Nat->Value,∃ e fr' Z',uU P R rd c ⟨Fm n (ov l g),ms⟩ Z e fr' Z'/\ySB n alts e fr' Z'
def yR (rd:Option Nat) (c:Code) (n:Nat) (l:List (Nat × Value)) (ms:List Nat) (alts:List Alt) (Z:St):Prop :=
 ∀ g:Nat->Value,∃ e fr' Z',zVX P R rd c ⟨Fm n (ov l g),ms⟩ Z e fr' Z'/\ySB n alts e fr' Z'
def zTR (gx:Operand) (ps:Array Tmp) (a b:Code) (n:Nat) (l:List (Nat × Value)) (alts:List (Exit × (St->Prop))) (Z:St):Prop :=
 ∀ (g:Nat->Value) (ms:List Nat),∃ e Z',xZP P R gx ps a b ⟨Fm n (ov l g),ms⟩ Z e ⟨Fm n (ov l g),Z.y::ms⟩ Z'/\ySA alts e Z'
def wpE (rd:Option Nat):Code->List Ans->Fr->St->(Exit->Fr->St->List Ans->Prop)->Prop
 | .skip,as,fr,Z,K=>K .normal fr Z as
 | .label _,as,fr,Z,K=>K .normal fr Z as
 | .ret,as,fr,Z,K=>K .ret fr Z as
 | .exit id,as,fr,Z,K=>K (.exit id) fr Z as
 | .seq x y,as,fr,Z,K=>wpE rd x as fr Z fun e fr Z as=>match e with
  | .normal=>wpE rd y as fr Z K
  | e=>K e fr Z as
 | .cond c x y,as,fr,Z,K=>match as with
  | .cut n l alts::_=>(yDH n fr.f=true/\AG fr.f l/\yN P R rd (.cond c x y) n l fr.marks alts Z)/\yCO n alts fun e fr Z=>∃ as,K e fr Z as
  | as=>match yF fr.f c with
   | .bool true=>wpE rd x as fr Z K
   | .bool false=>wpE rd y as fr Z K
   | _=>False
 | .block id c,as,fr,Z,K=>match as with
  | .cut n l alts::_=>(yDH n fr.f=true/\AG fr.f l/\yN P R rd (.block id c) n l fr.marks alts Z)/\yCO n alts fun e fr Z=>∃ as,K e fr Z as
  | as=>wpE rd c as fr Z fun e fr Z as=>match e with
   | .exit i=>match Nat.beq i id with
    | true=>K .normal fr Z as
    | false=>K (.exit i) fr Z as
   | e=>K e fr Z as
 | .scope c,as,fr,Z,K=>wpE rd c as fr Z K
 | .region _ ops d,as,fr,Z,K=>zIT P (zCW R) ops d as fr Z K
 | .loop c,as,fr,Z,K=>match as with
  | .lf n l alts::_=>(yDH n fr.f=true/\AG fr.f l/\yR P R rd c n l fr.marks alts Z)/\yCO n alts fun e fr Z=>∃ as,K e fr Z as
  | _=>False
 | .rangeFunc g ps a b,as,fr,Z,K=>match as,rd with
  | .rf n l alts::_,none=>(yDH n fr.f=true/\AG fr.f l/\zTR P R g ps a b n l alts Z)/\xAC n l (Z.y::fr.marks) alts fun e fr Z=>∃ as,K e fr Z as
  | _,_=>False
 | .goto _,_,_,_,_=>False
 | .refuse _,_,_,_,_=>False
end
section
variable {P:Program} {R:Nat->Rec} {rd:Option Nat}
theorem zLK {C:zRN} {f:Tm} {Z:St} {o:Op} {as:List Ans} {K K':Value->St->List Ans->Prop} (h:zXN P C f Z o as K) (hk:∀ v s a,K v s a->K' v s a):zXN P C f Z o as K':=by
 unfold zXN at h ⊢;repeat' split at h
 all_goals first
  | exact h.elim
  | (simp only [*];exact ⟨h.1,hk _ _ _ h.2⟩)
  | (simp only [*];exact hk _ _ _ h)
  | exact ⟨h.1,hk _ _ _ h.2⟩
  | exact hk _ _ _ h
abbrev At3 (v:Value) (Z':St) (as':List Ans):Value->St->List Ans->Prop:=fun v2 s2 a2=>v2=v/\s2=Z'/\a2=as'
theorem yDU {f:Tm} {Z:St} {o:Op} {as:List Ans} {K:Value->St->List Ans->Prop} (h:zXN P (zCW R) f Z o as K):∃ v Z' as',K v Z' as'/\∃ N0,∀ N,N0<=N->zXN P (zVL (R N)) f Z o as (At3 v Z' as'):=by
 unfold zXN at h;unfold zXN;repeat' split at h
 all_goals first
  | exact h.elim
  | (obtain ⟨⟨N0,hN⟩,hk⟩:=h;exact ⟨_,_,_,hk,N0,fun N hl=>⟨hN N hl,rfl,rfl,rfl⟩⟩)
  | exact ⟨_,_,_,h,0,fun N _=>⟨rfl,rfl,rfl⟩⟩
  | exact ⟨_,_,_,h.2,0,fun N _=>by simp only [*];exact ⟨h.1,rfl,rfl,rfl⟩⟩
  | exact ⟨_,_,_,h,0,fun N _=>by simp only [*];exact ⟨rfl,rfl,rfl⟩⟩
  | exact ⟨_,_,_,h.2,0,fun N _=>⟨h.1,rfl,rfl,rfl⟩⟩
theorem zGW {ops:Array Oper}:∀ (rest:List Oper) (as:List Ans) (f:Tm) (Z:St) (l:List Seen) (K:Tm->St->List Seen->List Ans->Prop),zFR P (zCW R) ops rest as f Z l K ->
  ∃ f' Z' l' as',K f' Z' l' as'/\∃ N0,∀ N,N0<=N->zFR P (zVL (R N)) ops rest as f Z l fun f2 s2 l2 a2=>f2=f'/\s2=Z'/\l2=l'/\a2=as'
 | [],as,f,Z,l,K,h=>⟨f,Z,l,as,h,0,fun _ _=>⟨rfl,rfl,rfl,rfl⟩⟩
 | o::rest,as,f,Z,l,K,h=>by
  unfold zFR at h;unfold zFR;split at h
  ·rename_i hg;obtain ⟨v,Z1,as1,h1,N1,k1⟩:=yDU h;obtain ⟨f',Z',l',as',h2,N2,k2⟩:=zGW rest _ _ _ _ _ h1;refine ⟨f',Z',l',as',h2,N1+N2,fun N hN=>?_⟩
   try simp only [hg]
   refine zLK (k1 N (by omega)) ?_
   rintro _ _ _ ⟨rfl,rfl,rfl⟩;exact k2 N (by omega)
  ·rename_i hg;obtain ⟨f',Z',l',as',h2,N2,k2⟩:=zGW rest _ _ _ _ _ h;exact ⟨f',Z',l',as',h2,N2,fun N hN=>by (try simp only [hg]);exact k2 N hN⟩
  ·exact h.elim
theorem zIV {ops:Array Oper}:∀ (rest:List Oper) (as:List Ans) (f:Tm) (Z:St) (l:List Lk) (K:Tm->St->List Lk->List Ans->Prop),zCO P (zCW R) ops rest as f Z l K ->
  ∃ f' Z' l' as',K f' Z' l' as'/\∃ N0,∀ N,N0<=N->zCO P (zVL (R N)) ops rest as f Z l fun f2 s2 l2 a2=>f2=f'/\s2=Z'/\l2=l'/\a2=as'
 | [],as,f,Z,l,K,h=>⟨f,Z,l,as,h,0,fun _ _=>⟨rfl,rfl,rfl,rfl⟩⟩
 | o::rest,as,f,Z,l,K,h=>by
  unfold zCO at h;unfold zCO;split at h
  ·rename_i hg;obtain ⟨v,Z1,as1,h1,N1,k1⟩:=yDU h;obtain ⟨f',Z',l',as',h2,N2,k2⟩:=zIV rest _ _ _ _ _ h1;refine ⟨f',Z',l',as',h2,N1+N2,fun N hN=>?_⟩
   try simp only [hg]
   refine zLK (k1 N (by omega)) ?_
   rintro _ _ _ ⟨rfl,rfl,rfl⟩;exact k2 N (by omega)
  ·rename_i hg;obtain ⟨f',Z',l',as',h2,N2,k2⟩:=zIV rest _ _ _ _ _ h;exact ⟨f',Z',l',as',h2,N2,fun N hN=>by (try simp only [hg]);exact k2 N hN⟩
  ·exact h.elim
theorem zGV {C:zRN} {ops:Array Oper}:∀ (rest:List Oper) (as:List Ans) (f:Tm) (Z:St) (l:List Seen) {K K':Tm->St->List Seen->List Ans->Prop},zFR P C ops rest as f Z l K->(∀ f s l a,K f s l a->K' f s l a)->zFR P C ops rest as f Z l K'
 | [],as,f,Z,l,K,K',h,hk=>hk _ _ _ _ h
 | o::rest,as,f,Z,l,K,K',h,hk=>by
  unfold zFR at h ⊢;split at h
  ·rename_i hg;try simp only [hg]
   exact zLK h fun v s a hh=>zGV rest _ _ _ _ hh hk
  ·rename_i hg;try simp only [hg]
   exact zGV rest _ _ _ _ h hk
  ·exact h.elim
theorem zIU {C:zRN} {ops:Array Oper}:∀ (rest:List Oper) (as:List Ans) (f:Tm) (Z:St) (l:List Lk) {K K':Tm->St->List Lk->List Ans->Prop},zCO P C ops rest as f Z l K->(∀ f s l a,K f s l a->K' f s l a)->zCO P C ops rest as f Z l K'
 | [],as,f,Z,l,K,K',h,hk=>hk _ _ _ _ h
 | o::rest,as,f,Z,l,K,K',h,hk=>by
  unfold zCO at h ⊢;split at h
  ·rename_i hg;try simp only [hg]
   exact zLK h fun v s a hh=>zIU rest _ _ _ _ hh hk
  ·rename_i hg;try simp only [hg]
   exact zIU rest _ _ _ _ h hk
  ·exact h.elim
theorem zLA {K K':Prop}:∀ {l:List Lk},zEO l K->(K->K')->zEO l K'
 | [],h,hk=>hk h
 | s::ss,h,hk=>by
  unfold zEO at h ⊢;split
  ·rename_i hs;(try simp only [hs] at h);exact ⟨h.1,zLA h.2 hk⟩
  ·rename_i hs;(try simp only [hs] at h);exact zLA h hk
theorem zOU {K:Prop}:∀ {l:List Lk},zEO l K->K
 | [],h=>h
 | s::ss,h=>by
  unfold zEO at h;split at h
  ·exact zOU h.2
  ·exact zOU h
theorem zFG {K K':Prop} {l:List Lk}:∀ {ps:List (Nat × Nat)},uF l ps K->(K->K')->uF l ps K'
 | [],h,hk=>hk h
 | p::ps,h,hk=>by
  unfold uF at h ⊢;split at h
  ·rename_i sj sk h1 h2;try simp only [h1,h2]
   split at h
   ·rename_i hw;exact ⟨h.1,h.2.1,zFG h.2.2 hk⟩
   ·rename_i hw;exact zFG h hk
  ·exact h.elim
theorem zHB {K:Prop} {l:List Lk}:∀ {ps:List (Nat × Nat)},uF l ps K->K
 | [],h=>h
 | p::ps,h=>by
  unfold uF at h;split at h
  ·split at h
   ·exact zHB h.2.2
   ·exact zHB h
  ·exact h.elim
theorem yMA {id:Nat} {ops:Array Oper} {d:Bool} {as:List Ans} {fr:Fr} {Z:St} {K:Exit->Fr->St->List Ans->Prop} (h:zIT P (zCW R) ops d as fr Z K) :
  ∃ e fr' Z' as',uU P R rd (.region id ops d) fr Z e fr' Z'/\K e fr' Z' as':=by
 have fin:∀ (f':Tm) (Z':St) (as':List Ans),K .normal ⟨f',fr.marks⟩ Z' as'->(∃ N0,∀ N,N0<=N->zIT P (zVL (R N)) ops d as fr Z fun e f2 s2 a2=>e=.normal/\f2=⟨f',fr.marks⟩/\s2=Z')->∃ e fr' Z' as',uU P R rd (.region id ops d) fr Z e fr' Z'/\K e fr' Z' as':=by
  rintro f' Z' as' hk ⟨N0,hN⟩;refine ⟨.normal,⟨f',fr.marks⟩,Z',as',⟨N0,fun N hl=>?_⟩,hk⟩
  obtain ⟨e₂,f₂,s₂,_,h1,rfl,rfl,rfl⟩:=xDB (rec:=R N) N rd (.region id ops d) as fr Z (fun e f2 s2 _=>e=.normal/\f2=⟨f',fr.marks⟩/\s2=Z') (by simp only [wpC];exact hN N hl);exact h1
 cases d with
 | false =>
  simp only [zIT] at h;obtain ⟨f',Z',l',as',h1,N0,hN⟩:=zGW _ _ _ _ _ _ h;refine fin f' Z' as' h1 ⟨N0,fun N hl=>?_⟩;simp only [zIT];exact zGV _ _ _ _ _ (hN N hl) (by rintro _ _ _ _ ⟨rfl,rfl,rfl,rfl⟩;refine ⟨?_, ?_, ?_⟩ <;> first | rfl | trivial)
 | true =>
  simp only [zIT] at h;split at h
  ·rename_i h0 hp hf;obtain ⟨f',Z',l',as',h1,N0,hN⟩:=zGW _ _ _ _ _ _ h;refine fin f' Z' as' h1 ⟨N0,fun N hl=>?_⟩;unfold zIT;simp only [];rw [h0,hp,hf];exact zGV _ _ _ _ _ (hN N hl) (by rintro _ _ _ _ ⟨rfl,rfl,rfl,rfl⟩;refine ⟨?_, ?_, ?_⟩ <;> first | rfl | trivial)
  ·rename_i ps fb h0 hno;obtain ⟨f',Z',l',as',h1,N0,hN⟩:=zIV _ _ _ _ _ _ h;refine fin f' Z' as' (zHB (zOU h1)) ⟨N0,fun N hl=>?_⟩;unfold zIT;dsimp only;have key:=zIU (K':=fun f2 s2 l2 a2=>zEO l2 (uF l2 (zZO ops (CheckFast.beforeF ops)) (Exit.normal=Exit.normal/\(⟨f2,fr.marks⟩:Fr)=⟨f',fr.marks⟩/\s2=Z'))) _ _ _ _ _ (hN N hl) (by
    rintro _ _ _ _ ⟨rfl,rfl,rfl,rfl⟩;exact zLA h1 (fun x=>zFG x (fun _=>⟨rfl,rfl,rfl⟩)))
   split
   ·rename_i g0 gp gf;exact absurd gf (hno gp)
   ·exact key
   ·rename_i g0;rw [h0] at g0;cases g0
  ·exact h.elim
theorem uU.seqN {x y:Code} {fr fr1 fr2:Fr} {Z Z1 Z2:St} {e:Exit} (h1:uU P R rd x fr Z .normal fr1 Z1) (h2:uU P R rd y fr1 Z1 e fr2 Z2):uU P R rd (.seq x y) fr Z e fr2 Z2:=by
 obtain ⟨N1,k1⟩:=h1;obtain ⟨N2,k2⟩:=h2;refine ⟨N1+N2,fun N hN=>?_⟩
 simp only [yJ,yTK,k1 N (by omega)];exact k2 N (by omega)
theorem uU.seqX {x y:Code} {fr fr1:Fr} {Z Z1:St} {e:Exit} (h1:uU P R rd x fr Z e fr1 Z1) (he:e≠.normal):uU P R rd (.seq x y) fr Z e fr1 Z1:=by
 obtain ⟨N1,k1⟩:=h1;refine ⟨N1,fun N hN=>?_⟩
 simp only [yJ,yTK,k1 N hN];cases e <;> first | rfl | exact absurd rfl he
theorem uU.mapD {x y:Code} {fr fr1:Fr} {Z Z1:St} {e:Exit} (h1:uU P R rd x fr Z e fr1 Z1) (h:∀ N,yJ P (R N) N rd y fr Z=yJ P (R N) N rd x fr Z):uU P R rd y fr Z e fr1 Z1:=by
 obtain ⟨N1,k1⟩:=h1;exact ⟨N1,fun N hN=>by rw [h];exact k1 N hN⟩
theorem zVX.code {c:Code} {fr fr':Fr} {Z Z':St} {e:Exit} (h:zVX P R rd c fr Z e fr' Z'):uU P R rd (.loop c) fr Z e fr' Z':=by
 obtain ⟨N0,hN⟩:=h;exact ⟨N0,fun N hl=>by simp only [yJ];exact hN N N hl hl⟩
theorem yHF {c:Code} {n:Nat} {l:List (Nat × Value)} {alts:List Alt} {fr:Fr} {Z:St} {K:Exit->Fr->St->List Ans->Prop}
  (h:(yDH n fr.f=true/\AG fr.f l/\yN P R rd c n l fr.marks alts Z)/\yCO n alts fun e fr Z=>∃ as,K e fr Z as):∃ e fr' Z' as',uU P R rd c fr Z e fr' Z'/\K e fr' Z' as':=by
 obtain ⟨⟨h1,h2,h3⟩,h4⟩:=h;obtain ⟨e,fr',Z',h5,h6⟩:=h3 fr.f.nth;rw [<- yGT h1 h2] at h5;obtain ⟨as,hk⟩:=zMI h4 h6;exact ⟨e,fr',Z',as,h5,hk⟩
theorem zAN:∀ (c:Code) (as:List Ans) (fr:Fr) (Z:St) (K:Exit->Fr->St->List Ans->Prop),wpE P R rd c as fr Z K ->
  ∃ e fr' Z' as',uU P R rd c fr Z e fr' Z'/\K e fr' Z' as':=by
 intro c;induction c with
 | skip=>intro as fr Z K h;exact ⟨_,_,_,_,⟨0,fun _ _=>rfl⟩,h⟩
 | label _=>intro as fr Z K h;exact ⟨_,_,_,_,⟨0,fun _ _=>rfl⟩,h⟩
 | ret=>intro as fr Z K h;exact ⟨_,_,_,_,⟨0,fun _ _=>rfl⟩,h⟩
 | exit _=>intro as fr Z K h;exact ⟨_,_,_,_,⟨0,fun _ _=>rfl⟩,h⟩
 | goto _=>intro as fr Z K h;simp [wpE] at h
 | refuse _=>intro as fr Z K h;simp [wpE] at h
 | seq x y ihx ihy =>
  intro as fr Z K h;simp only [wpE] at h;obtain ⟨e,fr1,Z1,as1,h1,h2⟩:=ihx _ _ _ _ h;cases e with
  | normal =>
   obtain ⟨e,fr2,Z2,as2,h3,h4⟩:=ihy _ _ _ _ h2;exact ⟨e,fr2,Z2,as2,h1.seqN h3,h4⟩
  | _=>exact ⟨_,fr1,Z1,as1,h1.seqX (by simp),h2⟩
 | cond c x y ihx ihy =>
  intro as fr Z K h;unfold wpE at h;split at h
  ·exact yHF h
  ·split at h
   ·rename_i hc;obtain ⟨e,fr1,Z1,as1,h1,h2⟩:=ihx _ _ _ _ h;exact ⟨e,fr1,Z1,as1,h1.mapD (fun N=>by simp only [yJ,zQW,hc]),h2⟩
   ·rename_i hc;obtain ⟨e,fr1,Z1,as1,h1,h2⟩:=ihy _ _ _ _ h;exact ⟨e,fr1,Z1,as1,h1.mapD (fun N=>by simp only [yJ,zQW,hc]),h2⟩
   ·exact h.elim
 | block id c ih =>
  intro as fr Z K h;unfold wpE at h;split at h
  ·exact yHF h
  ·obtain ⟨e,fr1,Z1,as1,⟨N1,h1⟩,h2⟩:=ih _ _ _ _ h;cases e with
   | exit i =>
    simp only at h2;cases hb:Nat.beq i id with
    | true =>
     rw [hb] at h2;exact ⟨_,fr1,Z1,as1,⟨N1,fun N hN=>by simp only [yJ,zCT,h1 N hN,hb,cond_true]⟩,h2⟩
    | false =>
     rw [hb] at h2;exact ⟨_,fr1,Z1,as1,⟨N1,fun N hN=>by simp only [yJ,zCT,h1 N hN,hb,cond_false]⟩,h2⟩
   | _=>exact ⟨_,fr1,Z1,as1,⟨N1,fun N hN=>by simp only [yJ,zCT,h1 N hN]⟩,h2⟩
 | scope c ih =>
  intro as fr Z K h;simp only [wpE] at h;obtain ⟨e,fr1,Z1,as1,h1,h2⟩:=ih _ _ _ _ h;exact ⟨e,fr1,Z1,as1,h1.mapD (fun N=>by simp only [yJ]),h2⟩
 | region id ops d =>
  intro as fr Z K h;simp only [wpE] at h;exact yMA h
 | loop c _ =>
  intro as fr Z K h;unfold wpE at h;split at h;rotate_left
  ·exact h.elim
  obtain ⟨⟨h1,h2,h3⟩,h4⟩:=h;obtain ⟨e,fr',Z',h5,h6⟩:=h3 fr.f.nth;rw [<- yGT h1 h2] at h5;obtain ⟨as,hk⟩:=zMI h4 h6;exact ⟨e,fr',Z',as,h5.code,hk⟩
 | rangeFunc g ps a b _ _ =>
  intro as fr Z K h;unfold wpE at h;split at h;rotate_left
  ·exact h.elim
  obtain ⟨⟨h1,h2,h3⟩,h4⟩:=h;obtain ⟨e,Z',⟨N0,h5⟩,h6⟩:=h3 fr.f.nth fr.marks;rw [<- yGT h1 h2] at h5;obtain ⟨as,hk⟩:=yBB (g:=fr.f.nth) h4 h6;rw [<- yGT h1 h2] at hk;exact ⟨e,_,Z',as,⟨N0,fun N hN=>by simp only [yJ];exact h5 N hN⟩,hk⟩
end
end Go.Lay

namespace Go.Lay
open Go
@[simp] theorem wBC (a:Addr) (n:Nat):(zL a n).block=a.block:=rfl
@[simp] theorem wBV (Z:St):Z.re.y=Z.y:=rfl
@[simp] theorem wBW (Z:St):Z.re.low=Z.y:=rfl
theorem tt:true=true:=rfl
@[irreducible] def Hid (p:Prop):Prop:=p
theorem hid {p:Prop} (h:Hid p):p:=by unfold Hid at h;exact h
theorem kc {a b:Prop} (h:a=b) (x:b):a:=h.mpr x
def In (a:Alt):List Alt->Prop
 | []=>False
 | b::l=>a=b\/In a l
theorem in0 {a:Alt} {l:List Alt}:In a (a::l):=.inl rfl
theorem inS {a b:Alt} {l:List Alt} (h:In a l):In a (b::l):=.inr h
def zGR (n:Nat) (alts:List Alt):Exit->Fr->St->List Ans->Prop:=fun e fr Z as=>match as with
 | [.fin a t]=>(e=a.e/\yDH n fr.f=true/\AG fr.f (a.l t)/\fr.marks=a.ms t)/\(a.Q t Z/\In a alts)
 | _=>False
def FIN (alts:List Alt) (a:Alt) (t:a.T) (Z:St):Prop:=(a.e=a.e/\true=true/\ARf (a.l t)/\a.ms t=a.ms t)/\(a.Q t Z/\In a alts)
theorem fin {alts:List Alt} (a:Alt) (t:a.T) {Z:St} (h:a.Q t Z) (hi:In a alts):FIN alts a t Z:=⟨⟨rfl,rfl,arf _,rfl⟩,h,hi⟩
section
variable {P:Program} {R:Nat->Rec} {rd:Option Nat} {c:Code} {n:Nat} {l:List (Nat × Value)} {ms:List Nat} {alts:List Alt} {Z Z':St}
theorem yNS {a:Alt} {t:a.T} {fr:Fr} (h1:yDH n fr.f=true) (h2:AG fr.f (a.l t)) (h3:fr.marks=a.ms t) (h4:a.Q t Z):∀ {alts:List Alt},In a alts->ySB n alts a.e fr Z
 | [],h=>h.elim
 | b::as,h=>by
  rcases h with rfl | h
  ·refine .inl ⟨rfl,t,fr.f.nth, ?_,h4⟩;rw [<- yGT h1 h2,<- h3]
  ·exact .inr (yNS h1 h2 h3 h4 h)
theorem zDG (as:List Ans) (h:∀ g:Nat->Value,Hid (wpE P R rd c as ⟨Fm n (ov l g),ms⟩ Z (zGR n alts))):yN P R rd c n l ms alts Z:=by
 intro g;obtain ⟨e,fr',Z',as',h1,h2⟩:=zAN _ _ _ _ _ (hid (h g));refine ⟨e,fr',Z',h1, ?_⟩
 unfold zGR at h2;split at h2
 ·obtain ⟨⟨rfl,k1,k2,k3⟩,k4,k5⟩:=h2;exact yNS k1 k2 k3 k4 k5
 ·exact h2.elim
theorem xX (i:Nat):Exit.exit i≠.normal:=fun h=>by cases h
theorem zAR:Exit.ret≠.normal:=fun h=>by cases h
def zVW:List Alt->Prop
 | []=>True
 | a::l=>a.e≠.normal/\zVW l
theorem zVW.get:∀ {l:List Alt} {a:Alt},zVW l->In a l->a.e≠.normal
 | [],_,_,h=>h.elim
 | b::l,a,h,k=>by
  rcases k with rfl | k
  ·exact h.1
  ·exact h.2.get k
theorem zLW {T:Type} {lf:T->List (Nat × Value)} {mf:T->List Nat} {Inv:Nat->T->St->Prop} (hne:zVW alts)
  (hb:∀ k t Z,Inv k t Z->yN P R rd c n (lf t) (mf t) (⟨T,.normal,lf,mf,fun t' Z'=>∃ k',k' < k/\Inv k' t' Z'⟩::alts) Z):∀ k t Z,Inv k t Z->yR P R rd c n (lf t) (mf t) alts Z:=by
 intro k;induction k using Nat.strongRecOn with
 | ind k ih =>
  intro t Z hi g;obtain ⟨e,fr',Z',h1,h2⟩:=hb k t Z hi g;rcases h2 with ⟨rfl,t',g',rfl,k',hk,hi'⟩ | h2
  ·obtain ⟨e2,fr2,Z2,h3,h4⟩:=ih k' hk t' Z' hi' g';exact ⟨e2,fr2,Z2,.step h1 h3,h4⟩
  ·have he:e≠.normal:=by
    clear h1 ih hb hi;induction alts with
    | nil=>exact h2.elim
    | cons a as ih2 =>
     rcases h2 with ⟨rfl,_⟩ | h2
     ·exact hne.1
     ·exact ih2 hne.2 h2
   exact ⟨e,fr',Z',.exit h1 he,h2⟩
def kAt (P:Program) (R:Nat->Rec) (rd:Option Nat):Code->List Nat->(Exit->Fr->St->List Ans->Prop)->Exit->Fr->St->List Ans->Prop
 | .seq x y,0::p,K=>kAt P R rd x p fun e fr Z as=>match e with
  | .normal=>wpE P R rd y as fr Z K
  | e=>K e fr Z as
 | .seq _ y,1::p,K=>kAt P R rd y p K
 | .cond _ x _,0::p,K=>kAt P R rd x p K
 | .cond _ _ y,1::p,K=>kAt P R rd y p K
 | .block id c,0::p,K=>kAt P R rd c p fun e fr Z as=>match e with
  | .exit i=>match Nat.beq i id with
   | true=>K .normal fr Z as
   | false=>K (.exit i) fr Z as
  | e=>K e fr Z as
 | .scope c,0::p,K=>kAt P R rd c p K
 | _,_,K=>K
def kFn (P:Program) (f:FuncId) (Q:Value->St->Prop):Exit->Fr->St->List Ans->Prop:=fun e fr Z as =>
 match P.funcs[f]? with
 | some fn=>match e with
  | .normal=>zGY P fn fr Z as Q
  | .ret=>zGY P fn fr Z as Q
  | _=>False
 | none=>False
theorem zD.top {aw f:FuncId} {a:Value} {as:List Value} {v:Value} (h:zD P f (a::as) Z v Z'):zCW (zFF P aw) (.func f) (a::as) Z v Z':=h
def xAG (P:Program) (R:Nat->Rec) (f:FuncId) (args:List Value) (as:List Ans) (Z:St) (K:Value->St->Prop):Prop :=
 match P.funcs[f]? with
 | some fn=>match fn.body with
  | some c=>wpE P R none c as ⟨(Tm.args 0 args).foldl (fun f p=>f.set p.1 p.2) (fresh (args.length+(fn.ntmps-args.length))),[]⟩ Z fun e fr Z as=>match e with
   | .normal=>zGY P fn fr Z as K
   | .ret=>zGY P fn fr Z as K
   | _=>False
  | none=>False
 | none=>False
theorem zUA {f:FuncId} {args:List Value} {as:List Ans} {K:Value->St->Prop} (h:xAG P R f args as Z K):∃ v Z',(∃ N0,∀ N,N0<=N->zFB P (R N) N f args Z=some (v,Z'))/\K v Z':=by
 unfold xAG at h;split at h
 ·rename_i fn hfn;split at h
  ·rename_i c hc;obtain ⟨e,fr,Z₁,as',⟨N0,h1⟩,h2⟩:=zAN _ _ _ _ _ h;have fin:∀ (h2:zGY P fn fr Z₁ as' K) (he:e=.normal\/e=.ret),∃ v Z',(∃ N0,∀ N,N0<=N->zFB P (R N) N f args Z=some (v,Z'))/\K v Z':=by
    intro h2 he;obtain ⟨v,Z',h3,h4⟩:=zPB h2;refine ⟨v,Z',⟨N0,fun N hN=>?_⟩,h4⟩
    have key:xHG P fn (yJ P (R N) N none c ⟨(Tm.args 0 args).foldl (fun f p=>f.set p.1 p.2) (fresh (args.length+(fn.ntmps-args.length))),[]⟩ Z)=zFB P (R N) N f args Z:=by
     simp only [zFB,hfn,hc,Tm.puts_eq]
    rw [<- key,h1 N hN];rcases he with rfl | rfl <;> exact h3
   cases e with
   | normal=>exact fin h2 (.inl rfl)
   | ret=>exact fin h2 (.inr rfl)
   | _=>exact h2.elim
  ·exact h.elim
 ·exact h.elim
def zN (P:Program) (f:FuncId) (args:List Value) (Z:St) (Q:Value->St->Prop):Prop:=∃ v Z',xZO P f args Z v Z'/\Q v Z'
theorem xIF {N:Nat} {f:FuncId} {args:List Value}:zX P (N+1) (.func f) args Z=zFB P (zX P N) N f args Z:=by
 simp only [zX,zFB];rfl
theorem zG {f:FuncId} {args:List Value} {Q:Value->St->Prop} (as:List Ans) (h:Hid (xAG P (zX P) f args as Z Q)):zN P f args Z Q:=by
 obtain ⟨v,Z',⟨N0,hN⟩,hq⟩:=zUA (hid h);refine ⟨v,Z',⟨N0+1,fun N hN'=>?_⟩,hq⟩
 obtain ⟨N,rfl⟩:∃ M,N=M+1:=⟨N-1,by omega⟩;rw [xIF];exact hN N (by omega)
def yCA (P:Program) (aw:FuncId) (f:FuncId) (args:List Value) (Z:St) (Q:Value->St->Prop):Prop:=∃ N v Z',zFB P (zFF P aw N) N f args Z=some (v,Z')/\Q v Z'
theorem xAK {aw f:FuncId} {args:List Value} {Q:Value->St->Prop} (as:List Ans) (h:Hid (xAG P (zFF P aw) f args as Z Q)):yCA P aw f args Z Q:=by
 obtain ⟨v,Z',⟨N0,hN⟩,hq⟩:=zUA (hid h);exact ⟨N0,v,Z',hN N0 (Nat.le_refl _),hq⟩
theorem xJN {aw:FuncId}:zCW (zFF P aw) (.func aw) [] Z (.bool true) Z:=⟨0,fun N _=>xDF⟩
theorem yCA.walk {W:World} {U:Inj} {aw:FuncId} (hP:ProgOk P) (hc:ShutF P aw) {f:FuncId} {avs args:List Value} (h:yCA P aw f avs Z fun v _=>v=.bool true) (hr:Rep U Z W) (ho:Ro U W) (ha:VRs U avs args) :
  Calls P f ⟨args⟩ W fun e w'=>e=.returned (.bool true)/\RowKit.Grown W w':=by
 obtain ⟨N,v,Z',hb,rfl⟩:=h;obtain ⟨_,h2⟩:=zFA hP (yTA hP hc N) hb hr ha;refine Calls.mono (callsIn_wide.1 (h2 0)) (fun e w' hR=>?_);cases e with
 | returned v' =>
  obtain ⟨U',hv,hg⟩:=hR;exact ⟨by rw [hv.bool_inv],xOO hg ho.own⟩
 | panicked _=>exact hR.elim
 | outgrown=>exact hR.elim
theorem zN.pure {f:FuncId} {args:List Value} {v:Value} (h:zN P f args Z.re fun v' s=>v'=v/\Z.y<=s.low) (hv:zW RD v=true:=by rfl):zD P f args Z v Z:=by
 obtain ⟨_,Z',h1,rfl,h2⟩:=h;exact zRZ h1 h2 hv
theorem zN.new {f:FuncId} {args:List Value} {Q:Value->St->Prop} (h:zN P f args Z.re fun v s=>New Z.re s/\Q v s) (hQ:∀ v s s',Q v s->Le s s'->Q v s') (hQ2:∀ v s,zW RD v=true->Q v s->Q v Z):∃ v Z',zD P f args Z v Z'/\New Z Z'/\Q v Z':=by
 obtain ⟨v,Z',h1,h2,h3⟩:=h;obtain ⟨v,Z'',k1,k2,k3⟩:=wAC (Q:=Q) h1 h2 h3 (fun s s' a b=>hQ _ s s' a b) (fun hr=>hQ2 _ _ hr h3);exact ⟨v,Z'',k1,k2,k3⟩
def xYY (tm:Tm) (ps:List Tmp) (a b:Code) (db:Nat):Exit->Blk
 | .ret=>.loop tm ps a b .done (some .ret) db
 | .exit id=>.loop tm ps a b .done (some (.exit id)) db
 | _=>.loop tm ps a b .ready none db
def yAT:Exit->Bool
 | .normal=>true
 | _=>false
def wBD (alts:List Alt) (e:Exit) (s:St):Prop:=∃ a,In a alts/\e=a.e/\∃ t,a.Q t s
def ySD (alts:List Alt):Exit->Fr->St->List Ans->Prop:=fun e _ Z as=>match as with
 | [.fin a t]=>e=a.e/\(a.Q t Z/\In a alts)
 | _=>False
def wBU (alts:List Alt) (a:Alt) (t:a.T) (Z:St):Prop:=a.e=a.e/\(a.Q t Z/\In a alts)
theorem xYV {alts:List Alt} (a:Alt) (t:a.T) {Z:St} (h:a.Q t Z) (hi:In a alts):wBU alts a t Z:=⟨rfl,h,hi⟩
def KAs (P:Program) (R:Nat->Rec) (lo:Nat) (b:Code) (τ τ':St) (K:Exit->Fr->St->List Ans->Prop):Exit->Fr->St->List Ans->Prop:=fun e fr s an=>(e=.normal/\s=τ)/\wpE P R (some lo) b an fr τ' K
def zFP (P:Program) (lo:Nat) (args:List Value) (τ:St) (tm:Tm) (ps:List Tmp) (a b:Code) (db:Nat) (alts:List Alt):Prop :=
 ∃ e s,wBD alts e s/\(e=.normal\/e=.ret\/(∃ i,e=.exit i)->lo<τ.y->yI s.heap lo=some (.loop tm ps a b .busy none db)->τ.y<=s.y->xAD P lo args τ (.bool (yAT e)) ⟨(s.put lo (xYY tm ps a b db e)).heap,s.y,min τ.low (min s.low lo)⟩)
theorem xKE {lo db:Nat} {tm:Tm} {ps:List Tmp} {a b:Code} {args:List Value} {τ:St} (hl:yI τ.heap lo=some (.loop tm ps a b .ready none db)) (hn:args.length=ps.length) {Z1:St} (hZ:Z1=τ.re.put lo (.loop tm ps a b .busy none db)) (as:List Ans)
  (h:Hid (wpE P (zX P) (some lo) a as ⟨(ps.zip args).foldl (fun f p=>f.set p.1 p.2) tm,[]⟩ τ.re (KAs P (zX P) lo b τ.re Z1 (ySD alts)))) :
  zFP P lo args τ tm ps a b db alts:=by
 subst hZ;obtain ⟨e1,fr1,s1,an1,⟨N1,h1⟩,⟨rfl,rfl⟩,h2⟩:=zAN _ _ _ _ _ (hid h);obtain ⟨e,fr2,s,an2,⟨N2,h3⟩,h4⟩:=zAN _ _ _ _ _ h2;unfold ySD at h4;split at h4;rotate_left
 ·exact h4.elim
 obtain ⟨rfl,h5,h6⟩:=h4;rename_i al t;refine ⟨_,s,⟨al,h6,rfl,t,h5⟩,fun he hlt hb hs=>⟨N1+N2+1,fun N hN=>?_⟩⟩
 obtain ⟨N,rfl⟩:∃ N',N=N'+1:=⟨N-1,by omega⟩;have k1:=h1 N (by omega);have k3:=h3 N (by omega);have hr:(⟨τ.heap,τ.y,τ.y⟩:St)=τ.re:=rfl;have hlr:yI τ.re.heap lo=some (.loop tm ps a b .ready none db):=hl;unfold vX;rw [hr];simp only [zX,hlr,hn,Nat.beq_refl,cond_true,Tm.puts_eq,k1,zLN,St.write_eq,k3];have key:∀ y:Blk,vY τ (.bool (yAT al.e)) (s.put lo y)=some (.bool (yAT al.e),⟨(s.put lo y).heap,s.y,min τ.low (min s.low lo)⟩):=by
  intro y;unfold vY;have e1:Nat.ble τ.y (s.put lo y).low=false:=by
   rw [Bool.eq_false_iff];intro e;have:=(zV _ _).1 e;simp only [St.put_low] at this;omega
  have e2:Nat.ble τ.y (s.put lo y).y=true:=(zV _ _).2 hs;simp only [e1,Bool.false_and,cond_false,e2,cond_true,wD,zAE];rfl
 rcases he with e | e | ⟨i,e⟩ <;> (rw [e] at key ⊢;simp only [zLM,zDT,hb,St.write_eq];exact key _)
def xPF:Option Code->Exit
 | some .ret=>.ret
 | some (.exit id)=>.exit id
 | _=>.normal
theorem xED {gx:Operand} {ps:Array Tmp} {a b:Code} {xs:List (Exit × (St->Prop))} {f:FuncId} {fs:List Value} (hg:∀ g,yF (Fm n (ov l g)) gx=.func (.func f) ⟨[]⟩ ⟨fs⟩)
  (h:∀ g,∃ v s st pend,zD P f (.func (.yield (Z.y+1)) ⟨[]⟩ ⟨[]⟩::fs) ((Z.add .defd).add (.loop (Fm n (ov l g)) ps.toList a b .ready none Z.y)) v s/\yI s.heap (Z.y+1)=some (.loop (Fm n (ov l g)) ps.toList a b st pend Z.y) /\
   ((st=.ready/\pend=none)\/(st=.done/\(pend=some .ret\/∃ i,pend=some (.exit i))))/\ySA xs (xPF pend) (s.put (Z.y+1) (.loop (Fm n (ov l g)) ps.toList a b .exhausted pend Z.y))):zTR P (zX P) gx ps a b n l xs Z:=by
 intro g ms;obtain ⟨v,s,st,pend,⟨N0,hN⟩,hb,hst,hq⟩:=h g;refine ⟨xPF pend,_,⟨N0,fun N hl=>?_⟩,hq⟩
 have h1:=hN N hl;simp only [zNW,zHE,St.new_eq,hg,zNA,List.nil_append,List.singleton_append,St.add_next];simp only [h1,zDU,hb,St.write_eq];rcases hst with ⟨rfl,rfl⟩ | ⟨rfl,rfl | ⟨i,rfl⟩⟩ <;> rfl
end
end Go.Lay

namespace Go.Lay
open Go
section
variable {P:Program} {Z τ τ':St} {S:Nat->Prop}
theorem New.of_only (h:New Z τ) (k:Only S τ τ') (hs:∀ b,S b->Z.y<=b):New Z τ' :=
  ⟨⟨Nat.le_trans h.le.y k.y,fun b hb=>(k.get b (Nat.lt_of_lt_of_le hb h.le.y) (fun hS=>by have:=hs b hS;omega)).trans (h.le.get b hb)⟩,
   fun m h1 h2=>k.low m (h.low m h1 h2) (Nat.le_trans h2 h.le.y) (fun b _ hS=>Nat.le_trans h2 (hs b hS))⟩
theorem New.own {b n:Nat} {cs:List Value} (h:New Z τ) (hb:Z.y<=b):New Z (τ.own b cs n):=h.of_only (S:=(·=b)) (Only.own (.inr rfl)) (by rintro _ rfl;exact hb)
theorem New.row' {cs:List Value} {n:Nat} (h:New Z τ):New Z (τ.row cs n):=h.trans (New.row _ _ _)
theorem New.nx (h:New Z τ):Z.y<=τ.y:=h.le.y
theorem New.lw (h:New Z.re τ):Z.y<=τ.low:=h.low _ (Nat.le_refl _) (Nat.le_refl _)
structure Gr (P:Program) (Z:St) (n0 t n:Nat) (p:Option Addr) (len c:Nat) (vs:List Value):Prop where
 app:App Z n0 n (.slice p len c) len (wI vs)
 len_eq:vs.length=len
 el:∀ v∈vs,zHV P t n v
theorem Gr.nil {n0 t n:Nat}:Gr P Z n0 t n none 0 0 []:=⟨App.nil,rfl,by simp⟩
theorem Gr.le {n0 t n len c:Nat} {p:Option Addr} {vs:List Value} (h:Gr P Z n0 t n p len c vs) (k:Le Z τ):Gr P τ n0 t n p len c vs:=⟨h.app.keep k,h.len_eq,h.el⟩
theorem Gr.only {n0 t n len c:Nat} {p:Option Addr} {vs:List Value} (h:Gr P Z n0 t n p len c vs) (k:Only S Z τ) (hs:∀ b,AtP p b->¬ S b):Gr P τ n0 t n p len c vs :=
 ⟨k.app' h.app (by rintro a l c ⟨⟩;exact hs _ ⟨a,rfl,rfl⟩),h.len_eq,h.el⟩
theorem Gr.slv {n0 t n len c:Nat} {p:Option Addr} {vs:List Value} (h:Gr P Z n0 t n p len c vs):SlV P Z t n p len vs:=h.app.slv h.len_eq h.el
theorem Gr.bd {n0 t n len c b:Nat} {p:Option Addr} {vs:List Value} (h:Gr P Z n0 t n p len c vs) (hb:AtP p b):n0<=b/\b<Z.y:=by
 obtain ⟨a,e,rfl⟩:=hb;exact ⟨h.app.ge a e,h.app.lt a e⟩
theorem yPZ {st xt t n n0 len c:Nat} {p:Option Addr} {vs:List Value} (v:Value) {cs:List Value} (T:AppT P st xt t n) (h:Gr P Z n0 t n p len c vs) (hle:Le Z τ) (hv:zHV P t n v) (hroom:len+1<=1073741824) (hn:n0<=Z.y) (e:v.cells.toList=cs:=by rfl) (hc:cs.all cellB=true:=by first | rfl | simp) :
  ∃ p' c' τ',yG P st xt (.slice p len c) (.slice (some ⟨τ.y,0,none⟩) 1 1) (τ.row cs n)=some (.slice p' (len+1) c',τ')/\Gr P τ' n0 t n p' (len+1) c' (vs++[v])/\Only (AtP p) (τ.row cs n) τ'/\(∀ b,AtP p' b->AtP p b\/τ.y<=b):=by
 subst e;have hl:=hv.len;obtain ⟨p',c',τ',h1,h2,h3,h4⟩:=zTM (k:=1) (m:=1) T ((h.le hle).app.keep (Le.row _ _ _)) (xJ τ v.cells.toList n) (by omega) (by omega) hroom hc (by have:=hle.y;simp;omega);refine ⟨p',c',τ',h1,⟨by rw [zEY];simpa [wI] using h2,by simp [h.len_eq], ?_⟩,h3,fun b hb=>?_⟩
 ·intro x hx;simp at hx;rcases hx with hx | rfl
  ·exact h.el x hx
  ·exact hv
 ·rcases h4 b hb with h5 | h5
  ·exact .inl h5
  ·right;simp at h5;omega
theorem xYU {Z0:St} {st xt t n len c:Nat} {p:Option Addr} {vs:List Value} (v:Value) {cs:List Value} (T:AppT P st xt t n) (h:Gr P Z Z0.y t n p len c vs) (hN:New Z0 Z) (hle:New Z τ) (hv:zHV P t n v) (hroom:len+1<=1073741824) (e:v.cells.toList=cs:=by rfl) (hc:cs.all cellB=true:=by first | rfl | simp) :
  ∃ p' c' τ',yG P st xt (.slice p len c) (.slice (some ⟨τ.y,0,none⟩) 1 1) (τ.row cs n)=some (.slice p' (len+1) c',τ')/\Gr P τ' Z0.y t n p' (len+1) c' (vs++[v])/\New Z0 τ'/\Only (AtP p) (τ.row cs n) τ'/\(∀ b,AtP p' b->AtP p b\/τ.y<=b):=by
 obtain ⟨p',c',τ',h1,h2,h3,h4⟩:=yPZ v T h hle.le hv hroom hN.nx e hc;exact ⟨p',c',τ',h1,h2,((hN.trans hle).row').of_only h3 (fun b hb=>(h.bd hb).1),h3,h4⟩
theorem zN.newSl {f:FuncId} {args:List Value} {t n len:Nat} {vs:List Value} (h:zN P f args Z.re fun v s=>New Z.re s/\∃ p c,v=.slice p len c/\SlV P s t n p len vs/\∀ b,AtP p b->Z.y<=b) :
  ∃ p c Z',zD P f args Z (.slice p len c) Z'/\New Z Z'/\SlV P Z' t n p len vs/\∀ b,AtP p b->Z.y<=b:=by
 obtain ⟨v,Z',h1,h2,p,c,rfl,h3,h4⟩:=zN.new (Q:=fun v s=>∃ p c,v=.slice p len c/\SlV P s t n p len vs/\∀ b,AtP p b->Z.y<=b) h (by
  rintro v s s' ⟨p,c,rfl,g1,g2⟩ hle;exact ⟨p,c,rfl,g1.le hle,g2⟩) (by
  rintro v s hr ⟨p,c,rfl,g1,g2⟩;cases p with
  | none=>exact ⟨none,c,rfl,zFT g1,fun b hb=>(AtP.none hb).elim⟩
  | some a=>exact Bool.noConfusion (show false=true from hr))
 exact ⟨p,c,Z',h1,h2,h3,h4⟩
def wAF (P:Program) (st e n:Nat) (z:Value):Bool :=
 (match xV P st with | some (e',n')=>Nat.beq e e' && Nat.beq n n' | none=>false) && (match P.info? e with | some ei=>Nat.ble ei.bytes 4096 | none=>false) && Nat.beq z.cells.toList.length n && Nat.ble n 4096 && Nat.blt 0 n
theorem xUA {st e n:Nat} {z:Value} (hb:wAF P st e n z=true) (hz:uZ P e=some z) {len:Nat} (hl:len<=1073741824) :
  zQ P (evL [.int .i64 (len:Int),.int .i64 (len:Int)]) Z (.makeSlice st (.tmp 0) (.tmp 1))=some (.slice (some ⟨Z.y,0,none⟩) len len,Z.row (yW z.cells.toList len) n):=by
 unfold wAF at hb;simp only [Bool.and_eq_true] at hb;obtain ⟨⟨⟨⟨h1,h2⟩,h3⟩,h4⟩,h5⟩:=hb;split at h1;rotate_left
 ·cases h1
 rename_i e' n' he;simp only [Bool.and_eq_true] at h1;rw [<- Nat.eq_of_beq_eq_true h1.1,<- Nat.eq_of_beq_eq_true h1.2] at he;split at h2;rotate_left
 ·cases h2
 rename_i ei hi;have k1:leI 0 (len:Int)=true:=(wT _ _).2 (Int.natCast_nonneg _);have k2:leI (len:Int) (len:Int)=true:=(wT _ _).2 (Int.le_refl _);have k3:leI (len:Int) 1073741824=true:=(wT _ _).2 (by omega);have k4:uT len n ei.bytes=true:=by unfold uT;rw [(zV _ _).2 hl,h4,h2];rfl
 have e0:∀ l:List Value,evL l (.tmp 0)=l.getD 0 undef:=fun _=>rfl
 have e1:∀ l:List Value,evL l (.tmp 1)=l.getD 1 undef:=fun _=>rfl
 unfold zQ;simp only [he,e0,e1,List.getD_cons_zero,List.getD_cons_succ,hz,hi,k1,k2,k3,Int.toNat_natCast,k4,h3,h5,Bool.and_self,cond_true,yM];rfl
def vP (n:Nat) (P:Nat->Int):List Value:=(List.range n).map fun s=>.int .i64 (P s)
theorem zCF {n:Nat} {P:Nat->Int}:(vP n P).length=n:=by simp [vP]
theorem zXQ {n s:Nat} {P:Nat->Int} (h:s<n):(vP n P)[s]?=some (.int .i64 (P s)):=by simp [vP,h]
theorem xJM {n s:Nat} {P:Nat->Int} {v:Int} (h:s<n):(vP n P).set s (.int .i64 v)=vP n (fun s'=>if s'=s then v else P s'):=by
 apply List.ext_getElem?;intro i;rw [List.getElem?_set];by_cases e:s=i
 ·subst e;simp [vP,h]
 ·rw [if_neg e];by_cases hi:i<n
  ·rw [zXQ hi,zXQ hi,if_neg (fun x=>e x.symm)]
  ·rw [List.getElem?_eq_none (by rw [zCF];omega),List.getElem?_eq_none (by rw [zCF];omega)]
theorem zXR {n:Nat} {P Q:Nat->Int} (h:∀ s,s<n->P s=Q s):vP n P=vP n Q:=by
 unfold vP;apply List.map_congr_left;intro s hs;rw [h s (by simpa using hs)]
theorem Only.lower {m:Nat} (h:Only S Z.re τ):Only S Z ⟨τ.heap,τ.y,min Z.low τ.low⟩ :=
 ⟨h.y,h.get,fun k h1 h2 h3=>by have:=h.low k h2 h2 h3;show k<=min _ _;omega⟩
theorem zN.mut {f:FuncId} {args:List Value} {Q:Value->St->Prop} (h:zN P f args Z.re fun v s=>Only S Z.re s/\(s.low<Z.y\/zW RD v=false)/\Q v s) (hQ:∀ v s m,Q v s->Q v ⟨s.heap,s.y,m⟩):∃ v Z',zD P f args Z v Z'/\Only S Z Z'/\Q v Z':=by
 obtain ⟨v,s,⟨N0,hN⟩,h1,h2,h3⟩:=h;refine ⟨v,⟨s.heap,s.y,min Z.low s.low⟩,⟨N0,fun N hl=>?_⟩,h1.lower (m:=0),hQ _ _ _ h3⟩
 unfold vX;rw [show (⟨Z.heap,Z.y,Z.y⟩:St)=Z.re from rfl,hN N hl];show vY Z v s=_;unfold vY;have e1:(Nat.ble Z.y s.low && zW RD v)=false:=by
  rcases h2 with h2 | h2
  ·rw [Bool.and_eq_false_iff];left;rw [Bool.eq_false_iff];intro e;have:=(zV _ _).1 e;omega
  ·rw [h2,Bool.and_false]
 have e2:Nat.ble Z.y s.y=true:=(zV _ _).2 h1.y;rw [e1,cond_false,e2,cond_true,wD,zAE]
theorem Own.at_ {b n:Nat} {cs:List Value} (h:Own Z b cs n) (k:yI τ.heap b=yI Z.heap b) (hn:Z.y<=τ.y):Own τ b cs n:=⟨by rw [k];exact h.get,Nat.lt_of_lt_of_le h.lt hn⟩
end
end Go.Lay

namespace Go.Lay
open Go
section
variable {P:Program} {Z τ:St}
def zTT (Z:St) (n:Nat) (p:Option Addr) (len c:Nat):Prop :=
 (p=none/\len=0/\c=0)\/∃ b rs nx ro,p=some ⟨b,0,none⟩/\len<=c/\yU c=true/\yI Z.heap b=some (.cells rs n [(0,rs.length)] nx ro)/\rs.length=len*n/\b<Z.y
theorem zTE {c:Nat} (h:yU c=true):yK c=c:=by
 have:=(xD c).1 h;unfold yK;rw [if_neg (by omega)]
theorem yZF {k:IntKind} {x d top:Nat} {i:Int} (hi:i=(x:Int)) (h:x<=top):vN (some (.int k i)) d top=some x:=by
 subst hi;have h1:leI 0 (x:Int)=true:=(wT _ _).2 (by omega);have h2:leI (x:Int) (.ofNat top)=true:=(wT _ _).2 (by show (x:Int)<=(top:Int);omega);show (bif leI 0 (x:Int) && leI (x:Int) (.ofNat top) then some (x:Int).toNat else none)=some x;rw [h1,h2];rfl
def Ap (Z:St) (n0 n:Nat) (p:Option Addr) (len c:Nat) (cs:List Value):Prop :=
 App Z n0 n (.slice p len c) len cs\/∃ b,p=some ⟨b,0,none⟩/\len=0/\c=0/\cs=[]/\Own Z b [] n/\n0<=b
theorem Ap.le {n0 n len c:Nat} {p:Option Addr} {cs:List Value} (h:Ap Z n0 n p len c cs) (k:Le Z τ):Ap τ n0 n p len c cs:=by
 rcases h with h | ⟨b,h1,h2,h3,h4,h5,h6⟩
 ·exact .inl (h.keep k)
 ·exact .inr ⟨b,h1,h2,h3,h4,h5.le k,h6⟩
theorem Ap.append {st xt e n m k len n0 c:Nat} {p q:Option Addr} {cs xs:List Value} (T:AppT P st xt e n) (hA:Ap Z n0 n p len c cs) (hs:SlP Z n q m xs) (hroom:len+m<=1073741824) (hc:xs.all cellB=true) (hn0:n0<=Z.y) :
  ∃ p' c' Z',yG P st xt (.slice p len c) (.slice q m k) Z=some (.slice p' (len+m) c',Z')/\Ap Z' n0 n p' (len+m) c' (cs++xs)/\Only (AtP p) Z Z'/\(∀ b,AtP p' b->AtP p b\/Z.y<=b):=by
 obtain ⟨xd,hxd,hxi⟩:=T.src;obtain ⟨ei,z,hei,hz,hby,hrz,hzl⟩:=T.info;have hsrc:uK Z n z xd (.slice q m k)=some (m,xs):=by
  have:xT Z n (.slice q m k)=some (m,xs):=by
   cases q with
   | none =>
    obtain ⟨h1,h2⟩:=hs;have h2:m=0:=h2;subst h2;have:xs=[]:=List.eq_nil_of_length_eq_zero (by omega);subst this;simp [xT]
   | some a =>
    have hrd:=hs.2.rd;rw [hs.1] at hrd;simp [xT,hrd]
  unfold uK;cases xd with
  | int _=>cases hxi
  | _=>simp only [this]
 have hcond:(uT (len+m) n ei.bytes && xs.all cellB && Nat.beq xs.length (m*n) && zW RD z && Nat.beq z.cells.toList.length n)=true:=by
  unfold uT;rw [(zV _ _).2 hroom,(zV _ _).2 T.le,(zV _ _).2 hby,hc,hs.1,Nat.beq_refl,hrz,hzl];rfl
 have hc0:yK 0=0:=by unfold yK;have:=vK;rw [if_neg (by omega)]
 have hc1:yU 0=true:=(xD 0).2 vK;rcases Nat.eq_zero_or_pos m with h0 | h0
 ·subst h0;have hx:xs=[]:=List.eq_nil_of_length_eq_zero (by have:=hs.1;omega);subst hx;have hlc:Nat.ble (len+0) (yK c)=true:=by
   rcases hA with h | ⟨b,_,rfl,rfl,_⟩
   ·cases h with
    | nil=>rw [hc0];rfl
    | more _ _ _ _ _ _ _=>rw [uI];exact (zV _ _).2 (Nat.le_refl _)
   ·rw [hc0];rfl
  refine ⟨p,c,Z, ?_,by simpa using hA,Only.refl _ _,fun b hb=>.inl hb⟩
  unfold yG;simp only [T.el,hxd,hei,hz,hsrc,hcond,cond_true,wU,hlc];cases p <;> simp
 ·rcases hA with h | ⟨b,rfl,rfl,rfl,rfl,h5,h6⟩
  ·obtain ⟨a,rfl,hr⟩:=hs.some h0;obtain ⟨p',c',Z',h1,h2,h3,h4⟩:=zTM (k:=k) T h hr hs.1 h0 hroom hc hn0;exact ⟨p',c',Z',h1,.inl h2,h3,h4⟩
  ·have hble:Nat.ble (0+m) 0=false:=by rw [Bool.eq_false_iff];intro e;have:=(zV _ _).1 e;omega
   have hrd:=h5.rw.rd;have hrd:yP Z ⟨b,0,none⟩ (0*n)=some []:=by rw [Nat.zero_mul];exact hrd
   refine ⟨some ⟨Z.y,0,none⟩,0+m+vZ,Z.add (.cells xs n [(0,xs.length)] 1 false), ?_,.inl ?_,Only.add _ _,fun b hb=>.inr (by obtain ⟨a,e,rfl⟩:=hb;cases e;exact Nat.le_refl _)⟩
   ·unfold yG;simp only [T.el,hxd,hei,hz,hsrc,hcond,cond_true,wU,hc0,hble,cond_false,hc1,hrd,List.nil_append,yM]
   ·have e1:0+m=m:=Nat.zero_add m;rw [e1,List.nil_append];exact .more (b:=Z.y) (s:=0) (nx:=1) (log:=[]) (by rw [St.add_get,if_pos rfl]) rfl hn0 (by simp) hs.1 h0 (by omega)
end
end Go.Lay

namespace Go.Lay
open Go
section
variable {P:Program}
theorem xG {α β:Type} (x:Sem α) (f:α->Sem β):yA P (x >>= f)=(yA P x).bind fun a=>yA P (f a):=by
 induction x with
 | pure a=>rfl
 | program k ih=>exact ih P
 | _=>rfl
theorem zPX {α:Type} (a:α):yA P (pure a:Sem α)=some a:=rfl
theorem yJE:yA P program=some P:=rfl
theorem zJT {t:TypeId} {d:TypeDesc} (h:P.underlying t=some d):yA P (underlying t)=some d:=by
 unfold underlying;rw [xG,yJE];simp only [Option.bind_some,h];rfl
theorem xLB {t:TypeId} {k:IntKind} (h:P.underlying t=some (.int k)):yA P (isAgg t)=some false:=by
 unfold isAgg;rw [xG,zJT h];rfl
theorem xAW {t:TypeId} {k:IntKind} (h:P.underlying t=some (.int k)) {cs:Array Value} {off:Nat} {v:Value} (hv:cs[off]?=some v):yA P (part t cs off)=some v:=by
 unfold part;rw [xG,xLB h];simp only [Option.bind_some,Bool.false_eq_true,if_false,hv];rfl
theorem zHI {d:Nat} {t:TypeId} {k:IntKind} (h:P.underlying t=some (.int k)) (q:IntKind) (a b:Int):yA P (Op.equalIn (d+1) t (.int q a) (.int q b))=some (a == b):=by
 unfold Op.equalIn;rw [xG,zJT h];simp only [Option.bind_some,if_true];rfl
def xBT (P:Program):Nat->List Field->Bool
 | _,[]=>true
 | i, f :: fs => (match P.underlying f.type with | some (.int _) => true | _ => false) && Nat.beq f.offset i && (f.name != "_") && xBT P (i + 1) fs
theorem xGN {f:Field} (h:(match P.underlying f.type with | some (.int _)=>true | _=>false)=true):∃ k,P.underlying f.type=some (.int k):=by
 split at h
 ·exact ⟨_,by assumption⟩
 ·cases h
theorem yES {d:Nat} {xs ys:Array Value} {q:Nat->IntKind}:∀ (fs:List Field) (i:Nat) (as bs:List Int),xBT P i fs=true->as.length=fs.length->bs.length=fs.length->(∀ j x,as[j]?=some x->xs[i+j]?=some (.int (q (i+j)) x))->(∀ j x,bs[j]?=some x->ys[i+j]?=some (.int (q (i+j)) x)) ->
  yA P (forIn fs ((none,()):Option Bool × Unit) fun f __s =>
   if f.name ≠ "_" then do
    let a <- part f.type xs f.offset
    let b <- part f.type ys f.offset
    let r <- Op.equalIn (d+1) f.type a b
    if (!r)=true then pure (ForInStep.done (some false,())) else pure (ForInStep.yield (none,()))
   else pure (ForInStep.yield (none,())))=some (if as=bs then (none,()) else (some false,()))
 | [],i,as,bs,_,ha,hb,_,_=>by
  have h1:as=[]:=by simpa using ha
  have h2:bs=[]:=by simpa using hb
  subst h1 h2;rfl
 | f::fs,i,[],bs,_,ha,_,_,_=>by simp at ha
 | f::fs,i,a::as,[],_,_,hb,_,_=>by simp at hb
 | f::fs,i,a::as,b::bs,h,ha,hb,hx,hy=>by
  simp only [xBT,Bool.and_eq_true] at h;obtain ⟨⟨⟨h1,h2⟩,h3⟩,h4⟩:=h;obtain ⟨ku,hu⟩:=xGN h1;have ho:=Nat.eq_of_beq_eq_true h2;have hn : f.name ≠ "_" := by simpa using h3
  have ea:xs[f.offset]?=some (.int (q i) a):=by rw [ho];simpa using hx 0 a rfl
  have eb:ys[f.offset]?=some (.int (q i) b):=by rw [ho];simpa using hy 0 b rfl
  rw [List.forIn_cons,xG];simp only [if_pos hn];rw [xG,xAW hu ea];simp only [Option.bind_some];rw [xG,xAW hu eb];simp only [Option.bind_some];rw [xG,zHI hu];simp only [Option.bind_some];by_cases e:a=b
  ·subst e;simp only [beq_self_eq_true,Bool.not_true,Bool.false_eq_true,if_false,zPX,Option.bind_some];have ih:=yES (d:=d) (xs:=xs) (ys:=ys) fs (i+1) as bs h4 (by simpa using ha) (by simpa using hb) (fun j x hj=>by have:=hx (j+1) x (by simpa using hj);rwa [show i+(j+1)=i+1+j by omega] at this) (fun j x hj=>by have:=hy (j+1) x (by simpa using hj);rwa [show i+(j+1)=i+1+j by omega] at this);rw [ih];by_cases e2:as=bs
   ·rw [if_pos e2,if_pos (by rw [e2])]
   ·rw [if_neg e2,if_neg (by simpa using e2)]
  ·have e1:(a == b)=false:=by simpa using e
   simp only [e1,Bool.not_false,if_true,zPX,Option.bind_some];rw [if_neg (by intro k;exact e (by cases k;rfl))]
def yWS (P:Program) (t n:Nat):Bool:=match P.underlying t with
 | some (.struct fs)=>xBT P 0 fs.toList && Nat.beq fs.size n && !P.stoodInHeld t
 | _=>false
theorem xSX {t n d:Nat} (q:Nat->IntKind) (h:yWS P t n=true) {as bs:List Int} {xs ys:Array Value} (ha:as.length=n) (hb:bs.length=n) (hx:∀ (j:Nat) (x:Int),as[j]?=some x->xs[j]?=some (Value.int (q j) x)) (hy:∀ (j:Nat) (x:Int),bs[j]?=some x->ys[j]?=some (Value.int (q j) x)):yA P (Op.equalIn (d+2) t (.agg xs) (.agg ys))=some (decide (as=bs)):=by
 unfold yWS at h;split at h;rotate_left
 ·cases h
 rename_i fs hu;simp only [Bool.and_eq_true,Bool.not_eq_true'] at h;obtain ⟨⟨h1,h2⟩,h3⟩:=h;have h2:=Nat.eq_of_beq_eq_true h2;have hl:fs.toList.length=n:=by simpa using h2
 have key:=yES (d:=d) (xs:=xs) (ys:=ys) (q:=q) fs.toList 0 as bs h1 (by omega) (by omega) (fun j x hj=>by simpa using hx j x hj) (fun j x hj=>by simpa using hy j x hj);unfold Op.equalIn;rw [xG,zJT hu];simp only [Option.bind_some];rw [xG,yJE];simp only [Option.bind_some,h3,Bool.false_eq_true,if_false];rw [xG,<- Array.forIn_toList];rw [key];simp only [Option.bind_some];by_cases e:as=bs
 ·rw [if_pos e];simp [e];rfl
 ·rw [if_neg e];simp [e];rfl
theorem xXU {t n d:Nat} (h:yWS P t n=true) {as bs:List Int} (ha:as.length=n) (hb:bs.length=n):yA P (Op.equalIn (d+2) t (.agg ⟨as.map fun x=>.int .i64 x⟩) (.agg ⟨bs.map fun x=>.int .i64 x⟩))=some (decide (as=bs)) :=
 xSX (fun _=>.i64) h ha hb (fun j x hj=>by simp [hj]) (fun j x hj=>by simp [hj])
structure KeyT (P:Program) (kt:TypeId) {κ:Type} [DecidableEq κ] (enc:κ->Value):Prop where
 eq:∀ a b,yA P (Op.equal kt (enc a) (enc b))=some (decide (a=b))
 ok:∀ e a,zIN P e kt (enc a)=true
 bits:∀ a,Instr.sameBits 10000 (enc a) (enc a)=true
section
variable {κ α:Type} [DecidableEq κ] {Z τ:St} {b kt et mt:Nat} {enc:κ->Value} {vf:α->Value} {F:κ->Option α}
def zKH (m:List (κ × α)) (k:κ):Option α:=match m with
 | []=>none
 | e::m=>if k=e.1 then some e.2 else zKH m k
def yAI (k:κ):List (κ × α)->Nat->Option Nat
 | [],_=>none
 | e::m,i=>if k=e.1 then some i else yAI k m (i+1)
theorem zMA (hk:KeyT P kt enc) (k:κ):∀ (m:List (κ × α)) (i:Nat),zAJ P kt (enc k) (m.map fun e=>(enc e.1,vf e.2)) i=some (yAI k m i)
 | [],i=>rfl
 | e::m,i=>by
  simp only [List.map_cons,zAJ,hk.eq,yAI];by_cases h:k=e.1
  ·simp [h]
  ·simp only [h,decide_false,if_false];exact zMA hk k m (i+1)
theorem zMC {k:κ}:∀ {m:List (κ × α)} {i j:Nat},yAI k m i=some j->∃ v,i<=j/\m[j-i]?=some (k,v)/\zKH m k=some v
 | [],_,_,h=>by cases h
 | e::m,i,j,h=>by
  unfold yAI at h;split at h
  ·rename_i hk;cases h
   exact ⟨e.2,Nat.le_refl _,by simp [hk],by simp [zKH,hk]⟩
  ·rename_i hk;obtain ⟨v,h1,h2,h3⟩:=zMC h;refine ⟨v,by omega, ?_,by simp [zKH,hk,h3]⟩
   rw [show j-i=(j-(i+1))+1 by omega,List.getElem?_cons_succ];exact h2
theorem zSR {k:κ}:∀ {m:List (κ × α)} {i:Nat},yAI k m i=none->zKH m k=none
 | [],_,_=>rfl
 | e::m,i,h=>by
  unfold yAI at h;split at h
  ·cases h
  ·rename_i hk;simp [zKH,hk,zSR h]
def zGQ (P:Program) (Z:St) (b:Nat) (enc:κ->Value) (vf:α->Value) (F:κ->Option α):Prop:=b<Z.y/\∃ m:List (κ × α),yI Z.heap b=some (.map (m.map fun e=>(enc e.1,vf e.2)))/\∀ k,F k=zKH m k
theorem zGQ.le (h:zGQ P Z b enc vf F) (k:Le Z τ):zGQ P τ b enc vf F:=by
 obtain ⟨h1,m,h2,h3⟩:=h;exact ⟨Nat.lt_of_lt_of_le h1 k.y,m,by rw [k.get _ h1];exact h2,h3⟩
theorem zGQ.at_ (h:zGQ P Z b enc vf F) (k:yI τ.heap b=yI Z.heap b) (hn:Z.y<=τ.y):zGQ P τ b enc vf F:=by
 obtain ⟨h1,m,h2,h3⟩:=h;exact ⟨Nat.lt_of_lt_of_le h1 hn,m,by rw [k];exact h2,h3⟩
theorem zGQ.new (Z:St):zGQ P (Z.add (.map [])) Z.y enc vf (fun _=>none):=⟨by simp,[],by rw [St.add_get,if_pos rfl];rfl,fun _=>rfl⟩
theorem zGQ.look {z:Value} {ok:Bool} (h:zGQ P Z b enc vf F) (hk:KeyT P kt enc) (hm:zEA P mt=some (kt,et)) (hz:uZ P et=some z) (k:κ) :
  xN P (evL [.map (some b),enc k]) Z (.lookup mt (.tmp 0) (.tmp 1) ok)=some (let v:=match F k with | some v=>vf v | none=>z;bif ok then .tuple ⟨[v,.bool (F k).isSome]⟩ else v):=by
 obtain ⟨h1,m,h2,h3⟩:=h;have e0:∀ l:List Value,evL l (.tmp 0)=l.getD 0 undef:=fun _=>rfl
 have e1:∀ l:List Value,evL l (.tmp 1)=l.getD 1 undef:=fun _=>rfl
 unfold xN;simp only [hm,hz,e0,e1,List.getD_cons_zero,List.getD_cons_succ,h2,hk.ok,cond_true,zMA hk];rw [h3 k];cases hi:yAI k m 0 with
 | none=>simp only [zSR hi];rfl
 | some j =>
  obtain ⟨v,_,g2,g3⟩:=zMC hi;simp only [g3];rw [Nat.sub_zero] at g2;simp [g2]
theorem zGQ.look1 {z:Value} (h:zGQ P Z b enc vf F) (hk:KeyT P kt enc) (hm:zEA P mt=some (kt,et)) (hz:uZ P et=some z) {k:κ} {v:α} (hv:F k=some v) :
  xN P (evL [.map (some b),enc k]) Z (.lookup mt (.tmp 0) (.tmp 1) true)=some (.tuple ⟨[vf v,.bool true]⟩):=by rw [h.look hk hm hz k,hv];rfl
theorem zGQ.look0 {z:Value} (h:zGQ P Z b enc vf F) (hk:KeyT P kt enc) (hm:zEA P mt=some (kt,et)) (hz:uZ P et=some z) {k:κ} (hv:F k=none) :
  xN P (evL [.map (some b),enc k]) Z (.lookup mt (.tmp 0) (.tmp 1) true)=some (.tuple ⟨[z,.bool false]⟩):=by rw [h.look hk hm hz k,hv];rfl
theorem yQG {m:List (κ × α)} {k k':κ} {x:α} (h:zKH m k=none):zKH (m++[(k,x)]) k'=if k'=k then some x else zKH m k':=by
 induction m with
 | nil=>simp [zKH]
 | cons e m ih =>
  simp only [zKH] at h;split at h
  ·cases h
  ·rename_i hk;simp only [List.cons_append,zKH,ih h];by_cases h1:k'=e.1
   ·have:¬ k'=k:=fun h2=>hk (h2 ▸ h1)
    rw [if_pos h1,if_pos h1,if_neg this]
   ·rw [if_neg h1,if_neg h1]
theorem yQF {k k':κ} {x:α}:∀ {m:List (κ × α)} {i j:Nat},yAI k m i=some j->zKH (m.set (j-i) (k,x)) k'=if k'=k then some x else zKH m k'
 | [],_,_,h=>by cases h
 | e::m,i,j,h=>by
  unfold yAI at h;split at h
  ·rename_i hk;cases h
   simp only [Nat.sub_self,List.set_cons_zero,zKH];by_cases h1:k'=k
   ·rw [if_pos h1,if_pos h1]
   ·rw [if_neg h1,if_neg h1,if_neg (fun h2=>h1 (h2.trans hk.symm))]
  ·rename_i hk;obtain ⟨v,h1,_,_⟩:=zMC h;rw [show j-i=(j-(i+1))+1 by omega,List.set_cons_succ];simp only [zKH];rw [yQF h];by_cases h2:k'=e.1
   ·have:¬ k'=k:=fun h3=>hk (h3 ▸ h2)
    rw [if_pos h2,if_pos h2,if_neg this]
   ·rw [if_neg h2,if_neg h2]
theorem zGQ.put (h:zGQ P Z b enc vf F) (hk:KeyT P kt enc) (hm:zEA P mt=some (kt,et)) (k:κ) (x:α) :
  ∃ es,zQ P (evL [.map (some b),enc k,vf x]) Z (.mapUpdate mt (.tmp 0) (.tmp 1) (.tmp 2))=some (undef,Z.put b (.map es))/\zGQ P (Z.put b (.map es)) b enc vf (fun k'=>if k'=k then some x else F k'):=by
 obtain ⟨h1,m,h2,h3⟩:=h;have e0:∀ l:List Value,evL l (.tmp 0)=l.getD 0 undef:=fun _=>rfl
 have e1:∀ l:List Value,evL l (.tmp 1)=l.getD 1 undef:=fun _=>rfl
 have e2:∀ l:List Value,evL l (.tmp 2)=l.getD 2 undef:=fun _=>rfl
 cases hi:yAI k m 0 with
 | none =>
  refine ⟨(m++[(k,x)]).map fun e=>(enc e.1,vf e.2), ?_,by simpa using h1,m++[(k,x)],by rw [St.put_get,if_pos rfl],fun k'=>?_⟩
  ·unfold zQ;simp only [hm,e0,e1,e2,List.getD_cons_zero,List.getD_cons_succ,h2,hk.ok,cond_true,zMA hk,hi,St.write_eq,List.map_append,List.map_cons,List.map_nil]
  ·show (if k'=k then some x else F k')=_;rw [yQG (zSR hi),h3 k']
 | some j =>
  obtain ⟨v,_,g2,g3⟩:=zMC hi;rw [Nat.sub_zero] at g2;refine ⟨(m.set j (k,x)).map fun e=>(enc e.1,vf e.2), ?_,by simpa using h1,m.set j (k,x),by rw [St.put_get,if_pos rfl],fun k'=>?_⟩
  ·have g2':(m.map fun e=>(enc e.1,vf e.2))[j]?=some (enc k,vf v):=by simp [g2]
   unfold zQ;simp only [hm,e0,e1,e2,List.getD_cons_zero,List.getD_cons_succ,h2,hk.ok,cond_true,zMA hk,hi,g2',hk.bits,St.write_eq,List.map_set]
  ·have:=yQF (x:=x) (k':=k') hi;rw [Nat.sub_zero] at this;show (if k'=k then some x else F k')=_;rw [this,h3 k']
end
end
end Go.Lay

namespace Go.Lay
open Go
def Keys:List (Nat × Nat)->Nat->Prop
 | [],_=>True
 | (k,_)::l,nx=>k<nx/\Keys l k
theorem Keys.mono:∀ {l:List (Nat × Nat)} {m n:Nat},Keys l m->m<=n->Keys l n
 | [],_,_,_,_=>trivial
 | (_,_)::_,_,_,h,hm=>⟨Nat.lt_of_lt_of_le h.1 hm,h.2⟩
theorem Keys.tail:∀ {l:List (Nat × Nat)} {a:Nat × Nat} {m:Nat},Keys (a::l) m->Keys l m
 | _,(_,_),_,h=>h.2.mono (Nat.le_of_lt h.1)
theorem Keys.lt:∀ {l r:List (Nat × Nat)} {k e m:Nat},Keys (l++(k,e)::r) m->k<m
 | [],_,_,_,_,h=>h.1
 | (_,_)::l,_,_,_,_,h=>Nat.lt_trans (Keys.lt h.2) h.1
theorem Keys.drop:∀ {l r:List (Nat × Nat)} {m:Nat},Keys (l++r) m->Keys r m
 | [],_,_,h=>h
 | (_,_)::l,_,_,h=>(Keys.drop h.2).mono (Nat.le_of_lt h.1)
theorem Keys.find:∀ {l r:List (Nat × Nat)} {k e m:Nat},Keys (l++(k,e)::r) m->wV (l++(k,e)::r) k=some e/\wN (l++(k,e)::r) k=(k,e)::r
 | [],r,k,e,_,_=>by simp [wV,wN]
 | (k',e')::l,r,k,e,_,h=>by
  have h1:k<k':=Keys.lt h.2;have h2:Nat.beq k' k=false:=by rw [Bool.eq_false_iff];intro e;have:=Nat.eq_of_beq_eq_true e;omega
  obtain ⟨h3,h4⟩:=Keys.find h.2;exact ⟨by rw [List.cons_append,wV,h2,cond_false];exact h3,by rw [List.cons_append,wN,h2,cond_false];exact h4⟩
def Stk (z:St) (n0:Nat) (p:Option Addr) (len c:Nat) (xs:List Value) (sf:List (Nat × Nat)):Prop :=
 (p=none/\len=0/\c=0/\xs=[]/\sf=[])\/∃ b s bc pre r nx,p=some ⟨b,0,s⟩/\c=len+vZ/\xs.length=len/\0<len/\sf=(s.getD 0,len)::r/\n0<=b/\b<z.y/\yI z.heap b=some (.cells bc 1 (pre++sf) nx false)/\bc.take len=xs/\Keys (pre++sf) nx
def Kid (n0:Nat) (p:Option Addr) (len c:Nat) (xs:List Value) (sf:List (Nat × Nat)) (p':Option Addr) (xs':List Value) (sf':List (Nat × Nat)):Prop :=
 (p=none/\len=0/\c=0/\xs=[]/\sf=[])\/∃ b s s' e r,p=some ⟨b,0,s⟩/\p'=some ⟨b,0,s'⟩/\sf'=e::sf/\sf=(s.getD 0,len)::r/\c=len+vZ/\xs.length=len/\0<len/\xs'.take len=xs/\n0<=b
section
variable {P:Program} {S:Nat->Prop} {z z':St} {n0 len c len' c':Nat} {p p':Option Addr} {xs xs':List Value} {sf sf':List (Nat × Nat)}
theorem Stk.nil:Stk z n0 none 0 0 [] []:=.inl ⟨rfl,rfl,rfl,rfl,rfl⟩
theorem Stk.leq (h:Stk z n0 p len c xs sf):xs.length=len:=by
 rcases h with ⟨_,rfl,_,rfl,_⟩ | ⟨_,_,_,_,_,_,_,_,h,_⟩
 ·rfl
 ·exact h
theorem Stk.bd (h:Stk z n0 p len c xs sf):∀ b,AtP p b->n0<=b/\b<z.y:=by
 rintro b ⟨a,rfl,rfl⟩;rcases h with ⟨h,_⟩ | ⟨b,s,bc,pre,r,nx,h1,h2,h3,h4,h5,h6,h7,_⟩
 ·cases h
 ·cases h1;exact ⟨h6,h7⟩
theorem Stk.only (h:Stk z n0 p len c xs sf) (k:Only S z z') (hs:∀ b,AtP p b->¬ S b):Stk z' n0 p len c xs sf:=by
 rcases h with h | ⟨b,s,bc,pre,r,nx,rfl,h2,h3,h4,h5,h6,h7,h8,h9⟩
 ·exact .inl h
 ·exact .inr ⟨b,s,bc,pre,r,nx,rfl,h2,h3,h4,h5,h6,Nat.lt_of_lt_of_le h7 k.y,by rw [k.get b h7 (hs b ⟨_,rfl,rfl⟩)];exact h8,h9⟩
theorem Stk.le (h:Stk z n0 p len c xs sf) (k:Le z z'):Stk z' n0 p len c xs sf:=by
 rcases h with h | ⟨b,s,bc,pre,r,nx,rfl,h2,h3,h4,h5,h6,h7,h8,h9⟩
 ·exact .inl h
 ·exact .inr ⟨b,s,bc,pre,r,nx,rfl,h2,h3,h4,h5,h6,Nat.lt_of_lt_of_le h7 k.y,by rw [k.get b h7];exact h8,h9⟩
theorem Stk.slp (h:Stk z n0 p len c xs sf):SlP z 1 p len xs:=by
 rcases h with ⟨rfl,rfl,_,rfl,_⟩ | ⟨b,s,bc,pre,r,nx,rfl,h2,h3,h4,rfl,h6,h7,h8,h9,h10⟩
 ·exact SlP.nil _ _
 ·refine ⟨by omega, ?_,h7⟩
  have hle:Nat.ble (0+len) len=true:=(zV _ _).2 (by omega);unfold yP;simp only [h8,yB,(Keys.find h10).1,hle,cond_true,List.drop_zero,h3,h9]
theorem Stk.slv {t:Nat} (h:Stk z n0 p len c xs sf) (he:∀ v∈xs,zHV P t 1 v/\v.cells.toList=[v]):SlV P z t 1 p len xs:=by
 have hf:wI xs=xs:=by
  have:∀ l:List Value,(∀ v∈l,v.cells.toList=[v])->wI l=l:=by
   intro l;induction l with
   | nil=>intro _;rfl
   | cons v l ih =>
    intro h;have h1:=h v List.mem_cons_self;have h2:=ih (fun x hx=>h x (List.mem_cons_of_mem _ hx));have:wI (v::l)=v.cells.toList++wI l:=by simp [wI]
    rw [this,h1,h2];rfl
  exact this xs (fun v hv=>(he v hv).2)
 exact ⟨by rw [hf];exact h.slp,h.leq,fun v hv=>(he v hv).1⟩
theorem Kid.pop (h:Kid n0 p len c xs sf p' xs' sf') (k:Stk z n0 p' len' c' xs' sf'):Stk z n0 p len c xs sf:=by
 rcases h with h | ⟨b,s,s',e,r,rfl,rfl,rfl,rfl,rfl,h1,h2,h3,h4⟩
 ·exact .inl h
 ·rcases k with ⟨k,_⟩ | ⟨b',s2,bc,pre,r',nx,k1,k2,k3,k4,k5,k6,k7,k8,k9,k10⟩
  ·cases k
  ·cases k1
   refine .inr ⟨b,s,bc,pre++[e],r,nx,rfl,rfl,h1,h2,rfl,h4,k7, ?_, ?_, ?_⟩
   ·rw [List.append_assoc];exact k8
   ·have hl:len<=len':=by
     have:=congrArg List.length h3;simp at this;omega
    rw [<- h3,<- k9,List.take_take,Nat.min_eq_left hl]
   ·rw [List.append_assoc];exact k10
theorem Stk.push {st xt e:Nat} {v:Value} (T:AppT P st xt e 1) (h:Stk z n0 p len c xs sf) (hc:cellB v=true) (hroom:len+1<=1073741824) (hn:n0<=z.y) :
  ∃ p' c' sf' z',yG P st xt (.slice p len c) (.slice (some ⟨z.y,0,none⟩) 1 1) (z.row [v] 1)=some (.slice p' (len+1) c',z')/\Stk z' n0 p' (len+1) c' (xs++[v]) sf'/\Kid n0 p len c xs sf p' (xs++[v]) sf'/\Only (AtP p) z z'/\z'.low<=z.low/\∀ b,AtP p' b->AtP p b\/z.y<=b:=by
 obtain ⟨xd,hxd,hxi⟩:=T.src;obtain ⟨ei,zv,hei,hz,hby,hrz,hzl⟩:=T.info;have hrow:=xJ z [v] 1;have hsrc:uK (z.row [v] 1) 1 zv xd (.slice (some ⟨z.y,0,none⟩) 1 1)=some (1,[v]):=by
  have:xT (z.row [v] 1) 1 (.slice (some ⟨z.y,0,none⟩) 1 1)=some (1,[v]):=by
   have hrd:=hrow.rd;have hrd:yP (z.row [v] 1) ⟨z.y,0,none⟩ (1*1)=some [v]:=hrd;simp [xT,hrd]
  unfold uK;cases xd with
  | int _=>cases hxi
  | _=>simp only [this]
 have hcond:(uT (len+1) 1 ei.bytes && [v].all cellB && Nat.beq [v].length (1*1) && zW RD zv && Nat.beq zv.cells.toList.length 1)=true:=by
  unfold uT;have:Nat.beq [v].length (1*1)=true:=rfl;rw [(zV _ _).2 hroom,(zV _ _).2 T.le,(zV _ _).2 hby,this,hrz,hzl];simp [hc]
 have hc0:yK 0=0:=by unfold yK;have:=vK;rw [if_neg (by omega)]
 have hc1:yU 0=true:=(xD 0).2 vK;rcases h with ⟨rfl,rfl,rfl,rfl,rfl⟩ | ⟨b,s,bc,pre,r,nx,rfl,rfl,h3,h4,rfl,h6,h7,h8,h9,h10⟩
 ·refine ⟨some ⟨(z.row [v] 1).y,0,none⟩,0+1+vZ,[(0,1)],(z.row [v] 1).add (.cells [v] 1 [(0,1)] 1 false), ?_, ?_,.inl ⟨rfl,rfl,rfl,rfl,rfl⟩, ?_,Nat.le_refl _,fun b hb=>.inr (by obtain ⟨a,e,rfl⟩:=hb;cases e;simp)⟩
  ·have hble:Nat.ble (0+1) 0=false:=rfl;unfold yG;simp only [T.el,hxd,hei,hz,hsrc,hcond,cond_true,wU,hc0,hble,cond_false,hc1,yM];rfl
  ·refine .inr ⟨(z.row [v] 1).y,none,[v],[],[],1,rfl,rfl,rfl,by omega,rfl,by simp;omega,by simp, ?_,rfl,⟨by simp,trivial⟩⟩;rw [St.add_get,if_pos rfl];rfl
  ·exact (Only.row _ _ _).trans' (Only.add _ _:Only (AtP none) _ _) (fun b _ h=>.inl h)
 ·obtain ⟨f1,f2⟩:=Keys.find h10;have hcx:yU (len+vZ)=false:=by unfold yU;rw [(zV _ _).2 (by omega)];rfl
  have hcl:yK (len+vZ)=len:=uI _;have hble:Nat.ble (len+1) len=false:=by rw [Bool.eq_false_iff];intro e;have:=(zV _ _).1 e;omega
  have hgb:yI (z.row [v] 1).heap b=some (.cells bc 1 (pre++(s.getD 0,len)::r) nx false):=by
   rw [(Le.row z [v] 1).get b h7];exact h8
  have hg:(Nat.beq len len && Nat.beq (0+len*1) len && Nat.beq 1 1 && !false && Nat.blt 0 1)=true:=by
   rw [Nat.beq_refl,show 0+len*1=len by omega,Nat.beq_refl];rfl
  have hbl:(bc.take len).length=len:=by rw [h9];exact h3
  refine ⟨some ⟨b,0,some nx⟩,len+1+vZ,(nx,len+1)::(s.getD 0,len)::r,(z.row [v] 1).put b (.cells (bc.take len++[v]) 1 ((nx,len+1)::(s.getD 0,len)::r) (nx+1) false), ?_, ?_, ?_, ?_, ?_,fun b' hb=>.inl (by obtain ⟨a,e,rfl⟩:=hb;cases e;exact ⟨_,rfl,rfl⟩)⟩
  ·unfold yG;simp only [T.el,hxd,hei,hz,hsrc,hcond,cond_true,wU,hcl,hble,cond_false,hcx];unfold zIJ;simp only [hgb,yB,f1,f2,hg,cond_true,zCS,wD,St.write_eq]
  ·refine .inr ⟨b,some nx,bc.take len++[v],[],(s.getD 0,len)::r,nx+1,rfl,rfl,by simp [h3],by omega,rfl,h6,by simp;omega, ?_, ?_,⟨by omega, ?_⟩⟩
   ·rw [St.put_get,if_pos rfl];rfl
   ·rw [List.take_of_length_le (by simp [hbl]),h9]
   ·have:=h10.drop;exact ⟨Keys.lt h10,this.2⟩
  ·exact .inr ⟨b,s,some nx,(nx,len+1),r,rfl,rfl,rfl,rfl,rfl,h3,h4,by rw [List.take_append_of_le_length (by omega),List.take_of_length_le (by omega)],h6⟩
  ·exact (Only.row _ _ _).trans' (Only.put (S:=AtP (some ⟨b,0,s⟩)) (.inr ⟨_,rfl,rfl⟩)) (fun b _ h=>.inl h)
  ·simp;omega
end
end Go.Lay
