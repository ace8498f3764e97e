
import Derived.ChangeArms
import Derived.ReadAgain
import Derived.ChangeBears
import Derived.Below
import Derived.Test.YtgfiniccfpfplaaGreatLayB
set_option linter.unusedVariables false
set_option linter.unusedSimpArgs false
namespace Go.Lay
open Go

def ov:List (Nat × Value)->(Nat->Value)->Nat->Value
 | [],g,i=>g i
 | (k,v)::l,g,i=>bif Nat.beq k i then v else ov l g i
def trF (g:Nat->Value):Nat->Nat->Nat->Bool->Tr Value
 | 0,_,_,_=>.leaf
 | d+1,w,a,c=>.node (some (bif c then g a else undef)) (trF g d (w*2) a false) (trF g d (w*2) (a+w) true)
def Fm (n:Nat) (g:Nat->Value):Tm:=⟨n,trF g ((way n).length+1) 1 0 true⟩
structure Alt where
 T:Type
 e:Exit
 l:T->List (Nat × Value)
 ms:T->List Nat
 Q:T->St->Prop

inductive Ans
 | g
 | b (t:Bool)
 | n (z:Int)
 | l (v:Value)
 | i
 | v (v:Value)
 | e (v:Value) (Z:St)
 | c (v:Value) (Z:St)
 | lp (e:Exit) (fr:Fr) (Z:St)
 | lf (n:Nat) (l:List (Nat × Value)) (alts:List Alt)
 | rf (n:Nat) (l:List (Nat × Value)) (alts:List (Exit × (St->Prop)))
 | fin (a:Alt) (t:a.T)
 | cut (n:Nat) (l:List (Nat × Value)) (alts:List Alt)

def St.row (Z:St) (cs:List Value) (esz:Nat):St:=Z.add (.cells cs esz [(0,cs.length)] 1 false)

def yZR (P:Program) (ev:Operand->Value) (Z:St) (o:Op):Option (Value × St) :=
 match o with
 | .alloc t=>match uO P t with
  | some z=>some (.pointer (some ⟨Z.y,0,none⟩),Z.row z.cells.toList (xUR P t z.cells.toList.length))
  | none=>none
 | .box t x=>some (.pointer (some ⟨Z.y,0,none⟩),Z.row (ev x).cells.toList (xUR P t (ev x).cells.toList.length))
 | .buildSlice t len ps =>
  match xX P t with
  | some (e,n)=>match uO P e with
   | some z =>
    bif Nat.ble (len*n) 16777216 && Nat.beq z.cells.toList.length n then
     match zMV (fun i=>some (i*n,n)) (yX z.cells.toList len) (ps.toList.map fun p=>(p.1,ev p.2)) with
     | some cs=>some (.slice (some ⟨Z.y,0,none⟩) len len,Z.row cs n)
     | none=>none
    else none
   | none=>none
  | none=>none
 | .makeMap t none=>match zDV P t with
  | some _=>some (.map (some Z.y),Z.add (.map []))
  | none=>none
 | o=>match xU P ev o with
  | some v=>some (v,Z)
  | none=>none

def evL (l:List Value):Operand->Value
 | .tmp i=>l.getD i undef
 | _=>undef
def xI (n:Nat):List Operand:=(List.range n).map .tmp
def xWS (i:Int) (len:Nat):Prop:=0<=i/\i<(len:Int)

def xWL (P:Program) (f:Tm) (Z:St) (o:Op) (v:Value):Prop :=
 match o with
 | .slice t x lo hi mx=>vQ P Z t (yF f x) (lo.map (yF f)) (hi.map (yF f)) (mx.map (yF f))=some v
 | .lookup t m k ok=>xP P (evL [yF f m,yF f k]) Z (.lookup t (.tmp 0) (.tmp 1) ok)=some v
 | .index t x k=>zAB P t (yF f x) (yF f k)=some v
 | .binOp op t x y _=>zBU P op t x y (yF f x) (yF f y)=some v
 | .convert s d x=>yW P (evL [yF f x]) Z (.convert s d (.tmp 0))=some v
 | .call c=>yW P (evL (c.args.toList.map (yF f))) Z (.call { c with args:=⟨xI c.args.toList.length⟩ })=some v
 | o=>yW P (yF f) Z o=some v
def xWM (P:Program) (f:Tm) (Z:St) (o:Op) (v:Value) (Z':St):Prop :=
 match o with
 | .store t a x=>zQ P (evL [yF f a,yF f x]) Z (.store t (.tmp 0) (.tmp 1))=some (v,Z')
 | .mapUpdate t m k x=>zQ P (evL [yF f m,yF f k,yF f x]) Z (.mapUpdate t (.tmp 0) (.tmp 1) (.tmp 2))=some (v,Z')
 | .insert t m k x=>zQ P (evL [yF f m,yF f k,yF f x]) Z (.insert t (.tmp 0) (.tmp 1) (.tmp 2))=some (v,Z')
 | .makeSlice t l c=>zQ P (evL [yF f l,yF f c]) Z (.makeSlice t (.tmp 0) (.tmp 1))=some (v,Z')
 | .call c=>match c.callee,c.argTypes.toList,c.args.toList.map (yF f) with
  | .builtin .append,[st,xt],[s,x]=>yM P st xt s x Z=some (v,Z')
  | _,_,_=>zQ P (yF f) Z (.call c)=some (v,Z')
 | o=>zQ P (yF f) Z o=some (v,Z')

abbrev zRD:=FnRef->List Value->St->Value->St->Prop
abbrev zVC (rec:Rec):zRD:=fun r args Z v Z'=>vW rec r args Z=some (v,Z')
def zXG (P:Program) (C:zRD) (f:Tm) (Z:St) (o:Op):List Ans->(Value->St->List Ans->Prop)->Prop
 | .g::as,K=>match yZR P (yF f) Z o with
  | some (v,Z')=>K v Z' as
  | none=>False
 | .b t::as,K=>match xU P (yF f) o with
  | some (.bool e)=>e=t/\K (.bool t) Z as
  | _=>False
 | .n z::as,K=>match xU P (yF f) o with
  | some (.int k e)=>e=z/\K (.int k z) Z as
  | _=>False
 | .l v::as,K=>match o with
  | .load t x=>match yF f x with
   | .pointer (some a)=>zB P Z t a=some v/\K v Z as
   | _=>False
  | _=>False
 | .i::as,K=>match o with
  | .indexAddr t x k=>match yF f k,yF f x,P.underlying t with
   | .int _ i,.pointer (some a),some (.array len elem)=>match yV P elem with
    | some n=>xWS i len/\K (.pointer (some (zL a (i.toNat*n)))) Z as
    | none=>False
   | .int _ i,.slice (some a) len _,some (.slice elem)=>match yV P elem with
    | some n=>xWS i len/\K (.pointer (some (zL a (i.toNat*n)))) Z as
    | none=>False
   | _,_,_=>False
  | _=>False
 | .v v::as,K=>xWL P f Z o v/\K v Z as
 | .e v Z'::as,K=>xWM P f Z o v Z'/\K v Z' as
 | .c v Z'::as,K=>match o with
  | .call c=>match c.callee with
   | .value fx=>match zMQ (yF f fx) (c.args.toList.map (yF f)) with
    | some (r,args)=>match xUQ P fx Z r args with
     | none=>C r args Z v Z'/\K v Z' as
     | some _=>False
    | none=>False
   | _=>False
  | _=>False
 | _,_=>False

def zFL (P:Program) (C:zRD) (ops:Array Oper):List Oper->List Ans->Tm->St->List Seen->(Tm->St->List Seen->List Ans->Prop)->Prop
 | [],as,f,Z,l,K=>K f Z l as
 | o::rest,as,f,Z,l,K =>
  match zFG ops f o with
  | some true=>zXG P C f Z o.op as fun v Z' as=>zFL P C ops rest as (zMH f o.dst v) Z' (l++[⟨f,v,true,Z,Z'⟩]) K
  | some false=>zFL P C ops rest as (zMH f o.dst undef) Z (l++[⟨f,undef,false,Z,Z⟩]) K
  | none=>False

def zM:Nat->Value->Bool
 | 0,_=>false
 | n+1,.agg cs=>cs.toList.all (zM n)
 | n+1,.tuple cs=>cs.toList.all (zM n)
 | n+1,.iface _ v=>zM n v
 | n+1,.func (.func _) f c=>f.toList.all (zM n) && c.toList.all (zM n)
 | _+1,.int k _=>zFN k k
 | _+1,.bool _ | _+1,.string _ | _+1,.pointer _ | _+1,.slice _ _ _ | _+1,.map _ | _+1,.nilFunc | _+1,.nilIface=>true
 | _+1,_=>false
structure Lk where
 want:Bool
 need:Bool
 low:Prop
 look:St->Prop
 before:St
 after:St
def zG (n:Nat) (vs:List Value):Prop:=vs.all (yU RD n)=true
def xTO (f:Tm):Option Operand->List Value
 | some x=>[yF f x]
 | none=>[]
def xBS (P:Program) (f:Tm) (o:Op) (v:Value) (Z:St):Prop :=
 match o with
 | .load t x=>match yF f x with
  | .pointer (some a)=>(a.block<Z.y/\zM RD v=true)/\zB P Z t a=some v
  | _=>False
 | .slice t x lo hi mx=>(zG Z.y (yF f x::(xTO f lo++(xTO f hi++xTO f mx)))/\zM RD v=true)/\vQ P Z t (yF f x) (lo.map (yF f)) (hi.map (yF f)) (mx.map (yF f))=some v
 | .lookup t m k ok=>(zG Z.y [yF f m,yF f k]/\zM RD v=true)/\xP P (evL [yF f m,yF f k]) Z (.lookup t (.tmp 0) (.tmp 1) ok)=some v
 | .convert s d x=>(zG Z.y [yF f x]/\zM RD v=true)/\yW P (evL [yF f x]) Z (.convert s d (.tmp 0))=some v
 | .call c=>(zG Z.y (c.args.toList.map (yF f))/\zM RD v=true)/\c.callee=.builtin .len/\yW P (evL (c.args.toList.map (yF f))) Z (.call { c with args:=⟨xI c.args.toList.length⟩ })=some v
 | _=>False
def xAM:Value->Bool
 | .bool _ | .int .. | .string _ | .nilFunc | .nilIface=>true
 | _=>false
def xMG (f:Tm) (o:Op):List Value:=(o.operands.toList.filter fun x=>!xUG x).map (yF f)
def xYJ (f:Tm) (o:Op):Bool:=(xQ o || zBL o) && !(xMG f o).all xAM
def zCL (P:Program) (C:zRD) (ops:Array Oper):List Oper->List Ans->Tm->St->List Lk->(Tm->St->List Lk->List Ans->Prop)->Prop
 | [],as,f,Z,l,K=>K f Z l as
 | o::rest,as,f,Z,l,K =>
  match zFG ops f o with
  | some true=>zXG P C f Z o.op as fun v Z' as=>zCL P C ops rest as (zMH f o.dst v) Z' (l++[⟨true,xYJ f o.op,zG Z.y (xMG f o.op),xBS P f o.op v,Z,Z'⟩]) K
  | some false=>zCL P C ops rest as (zMH f o.dst undef) Z (l++[⟨false,false,True,fun _=>True,Z,Z⟩]) K
  | none=>False
def uD (l:List Lk):List (Nat × Nat)->Prop->Prop
 | [],K=>K
 | p::ps,K=>match l[p.1]?,l[p.2]? with
  | some sj,some sk=>match sj.want with
   | true=>sj.look sk.before/\sj.look sk.after/\uD l ps K
   | false=>uD l ps K
  | _,_=>False
def zEJ:List Lk->Prop->Prop
 | [],K=>K
 | s::ss,K=>match s.need with
  | true=>s.low/\zEJ ss K
  | false=>zEJ ss K

def zIL (P:Program) (C:zRD) (ops:Array Oper) (draw:Bool) (as:List Ans) (fr:Fr) (Z:St) (K:Exit->Fr->St->List Ans->Prop):Prop :=
 match draw with
 | false=>zFL P C ops ops.toList as fr.f Z [] fun f Z _ as=>K .normal ⟨f,fr.marks⟩ Z as
 | true=>match yKG ops (CheckFast.beforeF ops),zZI ops (CheckFast.beforeF ops),xWU ops (CheckFast.beforeF ops) with
  | true,[],false=>zFL P C ops ops.toList as fr.f Z [] fun f Z _ as=>K .normal ⟨f,fr.marks⟩ Z as
  | true,ps,_=>zCL P C ops ops.toList as fr.f Z [] fun f Z l as=>zEJ l (uD l ps (K .normal ⟨f,fr.marks⟩ Z as))
  | false,_,_=>False

def wpC (P:Program) (rec:Rec) (N:Nat) (rd:Option Nat):Code->List Ans->Fr->St->(Exit->Fr->St->List Ans->Prop)->Prop
 | .skip,as,fr,Z,K=>K .normal fr Z as
 | .label _,as,fr,Z,K=>K .normal fr Z as
 | .ret,as,fr,Z,K=>K .ret fr Z as
 | .exit id,as,fr,Z,K=>K (.exit id) fr Z as
 | .seq x y,as,fr,Z,K=>wpC P rec N rd x as fr Z fun e fr Z as=>match e with
  | .normal=>wpC P rec N rd y as fr Z K
  | e=>K e fr Z as
 | .cond c x y,as,fr,Z,K=>match yF fr.f c with
  | .bool true=>wpC P rec N rd x as fr Z K
  | .bool false=>wpC P rec N rd y as fr Z K
  | _=>False
 | .block id c,as,fr,Z,K=>wpC P rec N rd c as fr Z fun e fr Z as=>match e with
  | .exit i=>match Nat.beq i id with
   | true=>K .normal fr Z as
   | false=>K (.exit i) fr Z as
  | e=>K e fr Z as
 | .scope c,as,fr,Z,K=>wpC P rec N rd c as fr Z K
 | .region _ ops d,as,fr,Z,K=>zIL P (zVC rec) ops d as fr Z K
 | .loop c,.lp e fr' Z'::as,fr,Z,K=>zDW (yQ P rec N rd c) N fr Z=some (e,fr',Z')/\K e fr' Z' as
 | .rangeFunc g ps a bo,.lp e fr' Z'::as,fr,Z,K=>zNN rec rd g ps a bo fr Z=some (e,fr',Z')/\K e fr' Z' as
 | _,_,_,_,_=>False

section
variable {P:Program} {rec:Rec}

theorem yKX {o:Op} {f:Tm} {Z:St} {r:Value × St} (h:yZR P (yF f) Z o=some r):opA P rec (yF f) Z o=some r:=by
 unfold yZR at h;split at h
 ·split at h
  ·rename_i z hz;simp [opA,zHJ,zQ,hz,yO,wE] at h ⊢;exact h
  ·cases h
 ·simp [opA,zHJ,zQ,yO,wE] at h ⊢;exact h
 ·split at h
  ·rename_i e n hes;split at h
   ·rename_i z hz;obtain ⟨hc,h⟩:=xW h;split at h
    ·rename_i cs hf;simp only [opA,zHJ,zQ,hes,hz,hc,cond_true,hf,yO];exact h
    ·cases h
   ·cases h
  ·cases h
 ·split at h
  ·rename_i ke hmo;simp only [opA,zHJ,zQ,hmo,cond_true,St.new_eq];exact h
  ·cases h
 ·rename_i hn1 hn2 hn3 hn4;split at h
  ·rename_i v hv;cases h
   unfold opA;split
   ·rename_i c;unfold zON;split
    ·rename_i fx hc;exfalso;simp only [xU] at hv;split at hv <;> simp_all
    ·rename_i hc;exfalso;simp [xU,hc] at hv
    ·rename_i hc;exfalso;simp [xU,hc] at hv
    ·rename_i hc;rw [hv]
    ·rename_i hc;rw [hv];rfl
    ·rename_i hc;exfalso;simp [xU,hc] at hv
   ·simp [xU] at hv
   ·simp [xU] at hv
   ·simp [xU] at hv
   ·rw [hv]
   ·have:zHJ o=false:=by
     cases o <;> first | rfl | (simp [xU] at hv;done) | (exfalso;rename_i hx _ _ _ _;exact hx _ rfl)
    rw [this,hv];rfl
  ·cases h
end
end Go.Lay

namespace Go.Lay
open Go
section
variable {P:Program} {rec:Rec}

theorem uJ {o:Op} {ev:Operand->Value} {Z:St} {v:Value} (hv:xU P ev o=some v):opA P rec ev Z o=some (v,Z):=by
 unfold opA;split
 ·rename_i c;unfold zON;split
  ·rename_i fx hc;exfalso;simp only [xU] at hv;split at hv <;> simp_all
  ·rename_i hc;exfalso;simp [xU,hc] at hv
  ·rename_i hc;exfalso;simp [xU,hc] at hv
  ·rename_i hc;rw [hv]
  ·rename_i hc;rw [hv];rfl
  ·rename_i hc;exfalso;simp [xU,hc] at hv
 ·simp [xU] at hv
 ·simp [xU] at hv
 ·simp [xU] at hv
 ·rw [hv]
 ·have:zHJ o=false:=by
   cases o <;> first | rfl | (simp [xU] at hv;done) | (exfalso;rename_i hx _ _ _ _;exact hx _ rfl)
  rw [this,hv];rfl

theorem zBM {o:Op} {ev:Operand->Value} {Z:St} {v:Value} (hv:xU P ev o=none) (hl:xP P ev Z o=some v):opA P rec ev Z o=some (v,Z):=by
 unfold opA;split
 ·rename_i c;unfold zON;split
  ·rename_i fx hc;exfalso;simp only [xP,hc] at hl;cases hl
  ·rename_i hc;exfalso;simp only [xP,hc] at hl;cases hl
  ·rename_i hc;exfalso;simp only [xP,hc] at hl;cases hl
  ·rename_i hc;rw [hv,hl];rfl
  ·rename_i b _ _ hb hc;exfalso;simp only [xP,hc] at hl;cases b <;> first | (simp at hl;done) | exact hb rfl
  ·rename_i hc;exfalso;simp only [xP,hc] at hl;cases hl
 ·rw [hl];rfl
 ·rw [hl];rfl
 ·rw [hl];rfl
 ·rw [hv,hl];rfl
 ·exfalso;cases o <;> first | (simp [xP] at hl;done) | (rename_i h1 h2 h3 h4 h5;first | exact h1 _ rfl | exact h2 _ _ rfl | exact h3 _ _ _ _ rfl | exact h4 _ _ _ _ _ rfl | exact h5 _ _ _ rfl)

theorem xHI {o:Op} {ev:Operand->Value} {Z Z':St} {v:Value} (h:zQ P ev Z o=some (v,Z')):opA P rec ev Z o=some (v,Z'):=by
 unfold opA;split
 ·rename_i c;unfold zON;split
  ·rename_i fx hc;simp only [zQ,hc] at h;split at h
   ·rename_i r as href;simp only [Option.map_eq_some_iff] at h;obtain ⟨v0,h1,h2⟩:=h;simp only [h1];rw [h2]
   ·cases h
  ·exact h
  ·exact h
  ·rename_i hc;exfalso;simp only [zQ,hc] at h;cases h
  ·rename_i b ha hcp _ hc;exfalso;simp only [zQ,hc] at h;cases b <;> first | (simp at h;done) | exact ha rfl | exact hcp rfl
  ·rename_i hc;exfalso;simp only [zQ,hc] at h;cases h
 ·simp [zQ] at h
 ·simp [zQ] at h
 ·simp [zQ] at h
 ·simp [zQ] at h
 ·have:zHJ o=true:=by
   cases o <;> first | rfl | (simp [zQ] at h;done) | (exfalso;rename_i hx _ _ _ _;exact hx _ rfl)
  rw [this];exact h

theorem xPG (l:List Value):(xI l.length).map (evL l)=l:=by
 apply List.ext_getElem
 ·simp [xI]
 ·intro i h1 h2;simp [xI,evL,List.getD,h2]
theorem zXV {c:Call} {ev:Operand->Value} {Z:St} {v:Value} (h:yW P (evL (c.args.toList.map ev)) Z (.call { c with args:=⟨xI c.args.toList.length⟩ })=some v):yW P ev Z (.call c)=some v:=by
 have e:(xI c.args.toList.length).map (evL (c.args.toList.map ev))=c.args.toList.map ev:=by
  have:=xPG (c.args.toList.map ev);rwa [List.length_map] at this
 simp only [yW,xU,xP,e] at h ⊢;exact h

theorem zXF {f:Tm} {Z:St} {o:Op} {as:List Ans} {K:Value->St->List Ans->Prop} (h:zXG P (zVC rec) f Z o as K):∃ v Z' as',opA P rec (yF f) Z o=some (v,Z')/\K v Z' as':=by
 unfold zXG at h;split at h
 ·split at h
  ·rename_i v Z' ho;exact ⟨v,Z',_,yKX ho,h⟩
  ·exact h.elim
 ·split at h
  ·rename_i e he;obtain ⟨rfl,h⟩:=h;exact ⟨_,_,_,uJ he,h⟩
  ·exact h.elim
 ·split at h
  ·rename_i k e he;obtain ⟨rfl,h⟩:=h;exact ⟨_,_,_,uJ he,h⟩
  ·exact h.elim
 ·split at h
  ·split at h
   ·rename_i a ha;exact ⟨_,_,_,zBM rfl (by simp only [xP,ha];exact h.1),h.2⟩
   ·exact h.elim
  ·exact h.elim
 ·split at h
  ·rename_i t x k;split at h
   ·rename_i kd i a len elem hk hx hd;split at h
    ·rename_i n hn;refine ⟨_,_,_,uJ (v:=.pointer (some (zL a (i.toNat*n)))) ?_,h.2⟩
     have h1:leI 0 i=true:=(wU 0 i).2 h.1.1;have h2:ltI i (.ofNat len)=true:=(zHF i _).2 h.1.2;simp only [xU,zEB,hk,hx,hd,hn,h1,h2,Bool.and_self,cond_true]
    ·exact h.elim
   ·rename_i kd i a len cp elem hk hx hd;split at h
    ·rename_i n hn;refine ⟨_,_,_,uJ (v:=.pointer (some (zL a (i.toNat*n)))) ?_,h.2⟩
     have h1:leI 0 i=true:=(wU 0 i).2 h.1.1;have h2:ltI i (.ofNat len)=true:=(zHF i _).2 h.1.2;simp only [xU,zEB,hk,hx,hd,hn,h1,h2,Bool.and_self,cond_true]
    ·exact h.elim
   ·exact h.elim
  ·exact h.elim
 ·obtain ⟨hs,h⟩:=h;refine ⟨_,_,_, ?_,h⟩
  unfold xWL at hs;split at hs
  ·exact zBM rfl hs
  ·exact zBM rfl hs
  ·exact uJ hs
  ·exact uJ hs
  ·unfold yW at hs;split at hs
   ·rename_i v0 hv;cases hs;exact uJ hv
   ·rename_i hv;exact zBM hv hs
  ·have hs:=zXV hs;unfold yW at hs;split at hs
   ·rename_i v0 hv;cases hs;exact uJ hv
   ·rename_i hv;exact zBM hv hs
  ·unfold yW at hs;split at hs
   ·rename_i v0 hv;cases hs;exact uJ hv
   ·rename_i hv;exact zBM hv hs
 ·obtain ⟨he,h⟩:=h;refine ⟨_,_,_,xHI ?_,h⟩
  unfold xWM at he;split at he
  ·exact he
  ·exact he
  ·exact he
  ·exact he
  ·split at he
   ·rename_i hc ht ha;simp only [zQ,hc,ht,ha];exact he
   ·exact he
  ·exact he
 ·split at h
  ·split at h
   ·rename_i fx hc;split at h
    ·rename_i r args href;split at h
     ·rename_i hx;refine ⟨_,_,_, ?_,h.2⟩
      simp only [opA,zON,hc,href,hx];exact h.1
     ·exact h.elim
    ·exact h.elim
   ·exact h.elim
  ·exact h.elim
 ·exact h.elim

theorem zEQ {ops:Array Oper}:∀ (rest:List Oper) (as:List Ans) (f:Tm) (Z:St) (l:List Seen) (K:Tm->St->List Seen->List Ans->Prop),zFL P (zVC rec) ops rest as f Z l K ->
  ∃ l' t τ as',zAG P rec ops rest f Z=some (l',t,τ)/\K t τ (l++l') as'
 | [],as,f,Z,l,K,h=>⟨[],f,Z,as,rfl,by rw [List.append_nil];exact h⟩
 | o::rest,as,f,Z,l,K,h=>by
  unfold zFL at h;split at h
  ·rename_i hg;obtain ⟨v,Z',as',h1,h2⟩:=zXF h;obtain ⟨l',t,τ,as2,h3,h4⟩:=zEQ rest _ _ _ _ _ h2;exact ⟨⟨f,v,true,Z,Z'⟩::l',t,τ,as2,by simp [zAG,hg,h1,zKK,vD,h3],by rw [List.append_assoc] at h4;exact h4⟩
  ·rename_i hg;obtain ⟨l',t,τ,as2,h3,h4⟩:=zEQ rest _ _ _ _ _ h;exact ⟨⟨f,undef,false,Z,Z⟩::l',t,τ,as2,by simp [zAG,hg,vD,h3],by rw [List.append_assoc] at h4;exact h4⟩
  ·exact h.elim

theorem zDL {ops:Array Oper}:∀ (rest:List Oper) (f:Tm) (Z:St) (l:List Seen) (t:Tm) (τ:St),zAG P rec ops rest f Z=some (l,t,τ)->zMI P rec ops rest f Z=some (t,τ)
 | [],f,Z,l,t,τ,h=>by simp [zAG] at h;simp [zMI,h.2.1,h.2.2]
 | o::rest,f,Z,l,t,τ,h=>by
  unfold zAG at h;split at h
  ·rename_i hg;split at h
   ·rename_i v Z' hop;rw [zKK,vD] at h;split at h
    ·rename_i l' t' τ' hs;simp at h;obtain ⟨_,rfl,rfl⟩:=h;have:=zDL rest _ _ _ _ _ hs;simp [zMI,hg,hop,vD,this]
    ·cases h
   ·cases h
  ·rename_i hg;rw [vD] at h;split at h
   ·rename_i l' t' τ' hs;simp at h;obtain ⟨_,rfl,rfl⟩:=h;have:=zDL rest _ _ _ _ _ hs;simp [zMI,hg,vD,this]
   ·cases h
  ·cases h

theorem xJG:∀ (n:Nat) (v:Value),zM n v=true->veq n v v=true:=by
 intro n;induction n with
 | zero=>intro v h;simp [zM] at h
 | succ n ih =>
  have lists:∀ (l:List Value),l.all (zM n)=true->veq.veqs n l l=true:=by
   intro l;induction l with
   | nil=>intro _;rfl
   | cons x l ihl =>
    intro h;simp only [List.all_cons,Bool.and_eq_true] at h;simp only [veq.veqs,Bool.and_eq_true];exact ⟨ih x h.1,ihl h.2⟩
  intro v h;cases v with
  | agg cs=>simp only [zM] at h;simp only [veq];exact lists _ h
  | tuple cs=>simp only [zM] at h;simp only [veq];exact lists _ h
  | iface t x=>simp only [zM] at h;simp only [veq,Bool.and_eq_true];exact ⟨Nat.beq_refl _,ih x h⟩
  | func fn f c =>
   cases fn with
   | func g=>simp only [zM,Bool.and_eq_true] at h;simp only [veq,Bool.and_eq_true];exact ⟨⟨Nat.beq_refl _,lists _ h.1⟩,lists _ h.2⟩
   | _=>simp [zM] at h
  | bool b=>simp [veq]
  | int k n=>simp only [zM] at h;simp only [veq,yKB,Bool.and_eq_true];exact ⟨h,by simp⟩
  | string s=>simp [veq]
  | pointer a=>simp [veq]
  | slice a l c=>simp [veq]
  | map a=>simp [veq]
  | nilFunc=>rfl
  | nilIface=>rfl
  | _=>simp [zM] at h

structure LkOk (P:Program) (o:Oper) (k:Lk) (s:Seen):Prop where
 want:k.want=s.want
 before:k.before=s.before
 after:k.after=s.after
 low:(k.need=true->k.low)->(!s.want || zCJ s.before.y s.f o || !(xQ o.op || zBL o.op))=true
 look:s.want=true->∀ Z,k.look Z->steady P o s Z=true
inductive LkAll (P:Program):List Oper->List Lk->List Seen->Prop
 | nil:LkAll P [] [] []
 | cons {o:Oper} {k:Lk} {s:Seen} {os:List Oper} {ks:List Lk} {ss:List Seen} (h:LkOk P o k s) (t:LkAll P os ks ss):LkAll P (o::os) (k::ks) (s::ss)
theorem LkAll.get {os:List Oper} {ks:List Lk} {ss:List Seen} (h:LkAll P os ks ss):∀ (i:Nat) (k:Lk),ks[i]?=some k->∃ o s,os[i]?=some o/\ss[i]?=some s/\LkOk P o k s:=by
 induction h with
 | nil=>intro i k h;simp at h
 | cons h _ ih =>
  intro i k hk;cases i with
  | zero=>simp at hk;subst hk;exact ⟨_,_,rfl,rfl,h⟩
  | succ i=>simpa using ih i k (by simpa using hk)

theorem zEK {n:Nat} {f:Tm} {o:Oper} (h:zG n (o.op.operands.toList.map (yF f))):zCJ n f o=true:=by
 unfold zG at h;rw [List.all_map] at h;exact h
theorem ySW {n:Nat} {vs:List Value} (h:vs.all xAM=true):zG n vs:=by
 refine List.all_eq_true.2 (fun v hv=>?_);have:=List.all_eq_true.1 h v hv;cases v <;> first | rfl | (simp [xAM] at this;done)
theorem yBT {n:Nat} {f:Tm} {o:Oper} (h:zG n (xMG f o.op)):zCJ n f o=true:=by
 refine List.all_eq_true.2 (fun x hx=>?_);cases hx2:xUG x with
 | true=>cases x <;> first | (simp [xUG] at hx2;done) | rfl
 | false =>
  have:=List.all_eq_true.1 h (yF f x) (List.mem_map_of_mem (List.mem_filter.2 ⟨hx,by rw [hx2];rfl⟩));exact this
theorem zFM {o:Oper} {s:Seen} {Z:St} (h1:zCJ Z.y s.f o=true) (h2:zM RD s.v=true) (h3:yW P (yF s.f) Z o.op=some s.v):steady P o s Z=true:=by
 unfold steady;cases hw:s.want with
 | true=>rw [cond_true,h1,Bool.true_and,h3];exact xJG _ _ h2
 | false=>rfl
theorem yPE {o:Oper} {s:Seen} {Z:St} (h:xBS P s.f o.op s.v Z):steady P o s Z=true:=by
 unfold xBS at h;split at h
 ·rename_i t x ho;split at h
  ·rename_i a ha;refine zFM ?_ h.1.2 (by rw [ho];simp only [yW,xU,xP,ha];exact h.2);refine zEK (n:=Z.y) ?_
   unfold zG;rw [ho];simp only [Op.operands,List.map_cons,List.map_nil,ha,List.all_cons,List.all_nil,Bool.and_true];exact (wA _ _).2 h.1.1
  ·exact h.elim
 ·rename_i t x lo hi mx ho;refine zFM ?_ h.1.2 (by rw [ho];exact h.2);refine zEK (n:=Z.y) ?_
  have h1:=h.1.1;unfold zG at h1 ⊢;rw [ho];cases lo <;> cases hi <;> cases mx <;> simpa [Op.operands,xTO] using h1
 ·rename_i t m k ok ho;refine zFM ?_ h.1.2 (by rw [ho];exact h.2);refine zEK (n:=Z.y) ?_
  have h1:=h.1.1;unfold zG at h1 ⊢;rw [ho];simpa [Op.operands] using h1
 ·rename_i t m k ho;refine zFM ?_ h.1.2 (by rw [ho];exact h.2);refine zEK (n:=Z.y) ?_
  have h1:=h.1.1;unfold zG at h1 ⊢;rw [ho];simpa [Op.operands] using h1
 ·rename_i c ho;refine zFM ?_ h.1.2 (by rw [ho];exact zXV h.2.2);refine zEK (n:=Z.y) ?_
  have h1:=h.1.1;unfold zG at h1 ⊢;rw [ho];simpa [Op.operands,Call.operands,h.2.1] using h1
 ·exact h.elim

theorem zGO {ops:Array Oper}:∀ (rest:List Oper) (as:List Ans) (f:Tm) (Z:St) (l:List Lk) (K:Tm->St->List Lk->List Ans->Prop),zCL P (zVC rec) ops rest as f Z l K ->
  ∃ l' t τ as' lk,zAG P rec ops rest f Z=some (l',t,τ)/\LkAll P rest lk l'/\K t τ (l++lk) as'
 | [],as,f,Z,l,K,h=>⟨[],f,Z,as,[],rfl,.nil,by rw [List.append_nil];exact h⟩
 | o::rest,as,f,Z,l,K,h=>by
  unfold zCL at h;split at h
  ·rename_i hg;obtain ⟨v,Z',as',h1,h2⟩:=zXF h;obtain ⟨l',t,τ,as2,lk,h3,h4,h5⟩:=zGO rest _ _ _ _ _ h2;refine ⟨⟨f,v,true,Z,Z'⟩::l',t,τ,as2,⟨true,xYJ f o.op,zG Z.y (xMG f o.op),xBS P f o.op v,Z,Z'⟩::lk,by simp [zAG,hg,h1,zKK,vD,h3],.cons ⟨rfl,rfl,rfl,fun hl=>?_,fun _ Z₁ hl=>yPE (s:=⟨f,v,true,Z,Z'⟩) hl⟩ h4,by rw [List.append_assoc] at h5;exact h5⟩
   simp only at hl;cases ha:xQ o.op || zBL o.op with
   | false=>simp
   | true =>
    have hb:zCJ Z.y f o=true:=by
     cases ht:(xMG f o.op).all xAM with
     | true=>exact yBT (ySW ht)
     | false=>exact yBT (hl (by unfold xYJ;rw [ha,ht];rfl))
    simp only [hb];simp
  ·rename_i hg;obtain ⟨l',t,τ,as2,lk,h3,h4,h5⟩:=zGO rest _ _ _ _ _ h;exact ⟨⟨f,undef,false,Z,Z⟩::l',t,τ,as2,⟨false,false,True,fun _=>True,Z,Z⟩::lk,by simp [zAG,hg,vD,h3],.cons ⟨rfl,rfl,rfl,fun _=>rfl,fun h=>by cases h⟩ h4,by rw [List.append_assoc] at h5;exact h5⟩
  ·exact h.elim

theorem zHY:∀ {os:List Oper} {ks:List Lk} {ss:List Seen} {K:Prop},LkAll P os ks ss->zEJ ks K->zGI os ss=true/\K
 | [],_,_,_,.nil,hb=>⟨rfl,hb⟩
 | _::_,k::_,_::_,K,.cons h t,hb=>by
  simp only [zEJ] at hb;simp only [zGI,Bool.and_eq_true];cases hn:k.need with
  | true =>
   rw [hn] at hb;obtain ⟨h1,h2⟩:=zHY t hb.2;exact ⟨⟨h.low (fun _=>hb.1),h1⟩,h2⟩
  | false =>
   rw [hn] at hb;obtain ⟨h1,h2⟩:=zHY t hb;exact ⟨⟨h.low (fun e=>by rw [hn] at e;cases e),h1⟩,h2⟩
theorem zDK {ops:Array Oper} {ks:List Lk} {l:List Seen} {K:Prop} (h:LkAll P ops.toList ks l):∀ (ps:List (Nat × Nat)),uD ks ps K->ps.all (yJM P ops l)=true/\K
 | [],hk=>⟨rfl,hk⟩
 | p::ps,hs=>by
  simp only [uD] at hs;rw [List.all_cons,Bool.and_eq_true];unfold yJM;split at hs
  ·rename_i sj sk e1 e2;obtain ⟨oj,s1,a1,a2,a3⟩:=h.get _ _ e1;obtain ⟨_,s2,_,b2,b3⟩:=h.get _ _ e2;have a1:ops[p.1]?=some oj:=by simpa using a1
   rw [a1,a2,b2];simp only;cases hw:s1.want with
   | true =>
    rw [a3.want,hw] at hs;simp only at hs;rw [b3.before,b3.after] at hs;obtain ⟨g1,g2⟩:=zDK h ps hs.2.2;rw [a3.look hw _ hs.1,a3.look hw _ hs.2.1];exact ⟨⟨rfl,g1⟩,g2⟩
   | false =>
    rw [a3.want,hw] at hs;obtain ⟨g1,g2⟩:=zDK h ps hs;exact ⟨⟨by simp [steady,hw],g1⟩,g2⟩
  ·exact hs.elim

theorem xDC (N:Nat) (rd:Option Nat):∀ (c:Code) (as:List Ans) (fr:Fr) (Z:St) (K:Exit->Fr->St->List Ans->Prop),wpC P rec N rd c as fr Z K ->
  ∃ e fr' Z' as',yQ P rec N rd c fr Z=some (e,fr',Z')/\K e fr' Z' as':=by
 intro c;induction c with
 | skip=>intro as fr Z K h;exact ⟨_,_,_,_,rfl,h⟩
 | label _=>intro as fr Z K h;exact ⟨_,_,_,_,rfl,h⟩
 | ret=>intro as fr Z K h;exact ⟨_,_,_,_,rfl,h⟩
 | exit _=>intro as fr Z K h;exact ⟨_,_,_,_,rfl,h⟩
 | goto _=>intro as fr Z K h;cases as <;> exact h.elim
 | refuse _=>intro as fr Z K h;cases as <;> exact h.elim
 | seq x y ihx ihy =>
  intro as fr Z K h;simp only [wpC] at h;obtain ⟨e,fr₁,Z₁,as₁,h1,h2⟩:=ihx _ _ _ _ h;cases e with
  | normal =>
   obtain ⟨e₂,fr₂,Z₂,as₂,h3,h4⟩:=ihy _ _ _ _ h2;exact ⟨e₂,fr₂,Z₂,as₂,by simp only [yQ,yTG,h1,h3],h4⟩
  | _=>exact ⟨_,fr₁,Z₁,as₁,by simp only [yQ,yTG,h1],h2⟩
 | cond c x y ihx ihy =>
  intro as fr Z K h;simp only [wpC] at h;split at h
  ·rename_i hc;obtain ⟨e,fr₁,Z₁,as₁,h1,h2⟩:=ihx _ _ _ _ h;exact ⟨e,fr₁,Z₁,as₁,by simp only [yQ,yAZ,hc,h1],h2⟩
  ·rename_i hc;obtain ⟨e,fr₁,Z₁,as₁,h1,h2⟩:=ihy _ _ _ _ h;exact ⟨e,fr₁,Z₁,as₁,by simp only [yQ,yAZ,hc,h1],h2⟩
  ·exact h.elim
 | block id c ih =>
  intro as fr Z K h;simp only [wpC] at h;obtain ⟨e,fr₁,Z₁,as₁,h1,h2⟩:=ih _ _ _ _ h;cases e with
  | exit i =>
   simp only at h2;cases hi:Nat.beq i id with
   | true=>rw [hi] at h2;exact ⟨_,fr₁,Z₁,as₁,by simp only [yQ,zHU,h1,hi,cond_true],h2⟩
   | false=>rw [hi] at h2;exact ⟨_,fr₁,Z₁,as₁,by simp only [yQ,zHU,h1,hi,cond_false],h2⟩
  | _=>exact ⟨_,fr₁,Z₁,as₁,by simp only [yQ,zHU,h1],h2⟩
 | scope c ih=>intro as fr Z K h;exact ih _ _ _ _ h
 | loop c ih =>
  intro as fr Z K h;cases as with
  | nil=>exact h.elim
  | cons x as=>cases x with
   | lp e fr' Z'=>exact ⟨e,fr',Z',as,h.1,h.2⟩
   | _=>exact h.elim
 | rangeFunc g ps a bo _ _ =>
  intro as fr Z K h;cases as with
  | nil=>exact h.elim
  | cons x as=>cases x with
   | lp e fr' Z'=>exact ⟨e,fr',Z',as,h.1,h.2⟩
   | _=>exact h.elim
 | region id ops draw =>
  intro as fr Z K h;simp only [wpC] at h;cases draw with
  | false =>
   simp only [zIL] at h;obtain ⟨l',t,τ,as',h1,h2⟩:=zEQ _ _ _ _ _ _ h;exact ⟨.normal,⟨t,fr.marks⟩,τ,as',by simp only [yQ,zLJ,zDL _ _ _ _ _ _ h1],h2⟩
  | true =>
   simp only [zIL] at h;split at h
   ·rename_i h0 hp hf;obtain ⟨l',t,τ,as',h1,h2⟩:=zEQ _ _ _ _ _ _ h;refine ⟨.normal,⟨t,fr.marks⟩,τ,as', ?_,h2⟩
    simp only [yQ,zLJ,yAU,h0,hp,hf,cond_true,zDL _ _ _ _ _ _ h1]
   ·rename_i ps _ h0 hno;obtain ⟨l',t,τ,as',lk,h1,hlk,h2⟩:=zGO _ _ _ _ _ _ h;rw [List.nil_append] at h2;obtain ⟨h3,h2⟩:=zHY hlk h2;obtain ⟨h4,h2⟩:=zDK hlk _ h2;refine ⟨.normal,⟨t,fr.marks⟩,τ,as', ?_,h2⟩
    have hd:yAU P rec ops fr.f Z=some (t,τ):=by
     unfold yAU;rw [h0,cond_true];split
     ·exact zDL _ _ _ _ _ _ h1
     ·rw [h1];simp only;rw [h3,h4];rfl
    simp only [yQ,zLJ,hd]
   ·exact h.elim

def zOT:List Nat->St->(St->Prop)->Prop
 | [],Z,K=>K Z
 | d::ds,Z,K=>yH Z.heap d=some .defd/\zOT ds (Z.shut d) K
def yLR (P:Program) (f:Tm) (Z:St):List ResultVar->List Ans->List Value->(List Value->Prop)->Prop
 | [],_,vs,K=>K vs
 | .tmp t::rs,as,vs,K=>yLR P f Z rs as (vs++[f.nth t]) K
 | .cell a t::rs,as,vs,K=>match as,f.nth a with
  | .l v::as,.pointer (some a)=>zB P Z t a=some v/\yLR P f Z rs as (vs++[v]) K
  | _,_=>False
def xMI:List Value->Value
 | [v]=>v
 | vs=>.tuple ⟨vs⟩
def zIO (P:Program) (fn:Func) (fr:Fr) (Z:St) (as:List Ans) (K:Value->St->Prop):Prop :=
 zOT fr.marks Z fun Z=>yLR P fr.f Z fn.results.toList as [] fun vs=>K (xMI vs) Z
def wCD (P:Program) (n:Nat) (f:FuncId) (args:List Value) (as:List Ans) (Z:St) (K:Value->St->Prop):Prop :=
 match P.funcs[f]? with
 | some fn=>match fn.body with
  | some c=>wpC P (zV P n) n none c as ⟨(Tm.args 0 args).foldl (fun f p=>f.set p.1 p.2) (fresh (args.length+(fn.ntmps-args.length))),[]⟩ Z fun e fr Z as=>match e with
   | .normal=>zIO P fn fr Z as K
   | .ret=>zIO P fn fr Z as K
   | _=>False
  | none=>False
 | none=>False

theorem zMJ:∀ (ms:List Nat) (Z:St) (K:St->Prop),zOT ms Z K->∃ Z',zBS ms Z=some Z'/\K Z'
 | [],Z,K,h=>⟨Z,rfl,h⟩
 | d::ds,Z,K,h=>by
  obtain ⟨Z',h1,h2⟩:=zMJ ds _ K h.2;exact ⟨Z',by simp only [zBS,h.1,St.drop_eq,h1],h2⟩
theorem zIK {f:Tm} {Z:St}:∀ (rs:List ResultVar) (as:List Ans) (vs:List Value) (K:List Value->Prop),yLR P f Z rs as vs K->∃ ws,uK P f Z rs=some ws/\K (vs++ws)
 | [],as,vs,K,h=>⟨[],rfl,by rw [List.append_nil];exact h⟩
 | .tmp t::rs,as,vs,K,h=>by
  obtain ⟨ws,h1,h2⟩:=zIK rs as _ K h;exact ⟨f.nth t::ws,by simp only [uK,zPD,h1],by rw [List.append_assoc] at h2;exact h2⟩
 | .cell a t::rs,as,vs,K,h=>by
  unfold yLR at h;split at h
  ·rename_i v as' a0 ha;obtain ⟨ws,h1,h2⟩:=zIK rs _ _ K h.2;exact ⟨v::ws,by simp only [uK,zPD,ha,h.1,h1],by rw [List.append_assoc] at h2;exact h2⟩
  ·exact h.elim
theorem yHX {fn:Func} {fr:Fr} {Z:St} {as:List Ans} {K:Value->St->Prop} (h:zIO P fn fr Z as K):∃ v Z',zUY P fn fr Z=some (v,Z')/\K v Z':=by
 obtain ⟨Z',h1,h2⟩:=zMJ _ _ _ h;obtain ⟨ws,h3,h4⟩:=zIK _ _ _ _ h2;rw [List.nil_append] at h4;refine ⟨xMI ws,Z', ?_,h4⟩
 have:zFP P fn fr.f Z'=some (xMI ws):=by
  unfold zFP;rw [h3];match ws with
  | []=>rfl
  | [v]=>rfl
  | _::_::_=>rfl
 simp only [zUY,h1,this,zKK]
end
end Go.Lay

namespace Go.Lay
open Go

theorem wBL (a b:Int):(leI a b=true/\a<=b)\/(leI a b=false/\b<a):=by
 by_cases h:a<=b
 ·exact .inl ⟨(wU a b).2 h,h⟩
 ·exact .inr ⟨by rw [yJS];simp;omega,by omega⟩
theorem wBK (a b:Int):(ltI a b=true/\a<b)\/(ltI a b=false/\b<=a):=by
 by_cases h:a<b
 ·exact .inl ⟨(zHF a b).2 h,h⟩
 ·exact .inr ⟨by rw [yJQ];simp;omega,by omega⟩
theorem xCM (a b:Int):eqI a b=true↔a=b:=by rw [yKB];simp
theorem zXE {n:Int} (h1:-9223372036854775808<=n) (h2:n<=9223372036854775807):zAD .i64 n=n:=by
 have e1:(2:Int) ^ 64=18446744073709551616:=by decide
 have e2:(2:Int) ^ (64-1)=9223372036854775808:=by decide
 rw [vU];simp only [IntKind.wrap,IntKind.bits,IntKind.signed,e1,e2,Bool.true_and,decide_eq_true_eq];split <;> omega

structure Row (Z:St) (a:Addr) (cs:List Value):Prop where
 rd:yP Z a cs.length=some cs
 lt:a.block<Z.y
structure Le (Z Z':St):Prop where
 y:Z.y<=Z'.y
 get:∀ b,b<Z.y->yH Z'.heap b=yH Z.heap b
def St.re (Z:St):St:=⟨Z.heap,Z.y,Z.y⟩

section
variable {P:Program} {Z Z':St} {a:Addr} {cs:List Value}
theorem Le.refl (Z:St):Le Z Z:=⟨Nat.le_refl _,fun _ _=>rfl⟩
theorem Le.trans {Z₁ Z₂ Z₃:St} (h:Le Z₁ Z₂) (k:Le Z₂ Z₃):Le Z₁ Z₃:=⟨Nat.le_trans h.y k.y,fun b hb=>(k.get b (Nat.lt_of_lt_of_le hb h.y)).trans (h.get b hb)⟩
theorem Le.add (Z:St) (y:Blk):Le Z (Z.add y):=⟨by simp,fun b hb=>by rw [St.add_get,if_neg (Nat.ne_of_lt hb)]⟩
theorem Le.row (Z:St) (cs:List Value) (n:Nat):Le Z (Z.row cs n):=Le.add _ _
theorem yTS (h:Le Z Z') (hb:a.block<Z.y) (n:Nat):yP Z' a n=yP Z a n:=by
 unfold yP;rw [h.get _ hb]
theorem Row.le (h:Row Z a cs) (l:Le Z Z'):Row Z' a cs:=⟨by rw [yTS l h.lt];exact h.rd,Nat.lt_of_lt_of_le h.lt l.y⟩
theorem Row.row (h:Row Z a cs) {ds:List Value} {n:Nat}:Row (Z.row ds n) a cs:=h.le (Le.row _ _ _)
theorem Row.re (h:Row Z a cs):Row Z.re a cs:=⟨h.rd,h.lt⟩
theorem Le.re' (h:Le Z Z'):Le Z Z'.re:=⟨h.y,h.get⟩
theorem xM (Z:St) (cs:List Value) (n:Nat):Row (Z.row cs n) ⟨Z.y,0,none⟩ cs:=by
 refine ⟨?_,by simp [St.row]⟩
 have h1:yH (Z.row cs n).heap Z.y=some (.cells cs n [(0,cs.length)] 1 false):=by
  show yH (Z.add _).heap Z.y=_;rw [St.add_get,if_pos rfl]
 have h2:Nat.ble (0+cs.length) cs.length=true:=(zX _ _).2 (by omega);have h3:Nat.beq 0 0=true:=rfl;unfold yP;simp only [h1,yC,Option.getD_none,wW,h3,cond_true,h2,List.drop_zero,List.take_length]
theorem Row.part (h:Row Z a cs) {k m:Nat} (hk:k+m<=cs.length):Row Z (zL a k) ((cs.drop k).take m):=by
 have hl:((cs.drop k).take m).length=m:=by simp;omega
 refine ⟨?_,h.lt⟩
 have hr:=h.rd;rw [hl];unfold yP at hr;split at hr
 ·rename_i bc esz log nx ro hb;split at hr
  ·rename_i e he;obtain ⟨hle,hr⟩:=xW hr;have hle:=(zX _ _).1 hle;have key:yP Z (zL a k) m=bif Nat.ble (a.off+k+m) e then some ((bc.drop (a.off+k)).take m) else none:=by
    unfold yP;rw [show yH Z.heap (zL a k).block=some (.cells bc esz log nx ro) from hb];show (match wW log (yC a) with | some e=>bif Nat.ble (a.off+k+m) e then some ((bc.drop (a.off+k)).take m) else none | none=>none)=_;rw [he]
   rw [key,(zX (a.off+k+m) e).2 (by omega),cond_true];have hr2:(bc.drop a.off).take cs.length=cs:=by simpa using hr
   congr 1;rw [show (cs.drop k).take m=((((bc.drop a.off).take cs.length)).drop k).take m from by rw [hr2]];rw [List.drop_take,List.drop_drop,List.take_take];congr 1;omega
  ·cases hr
 ·cases hr
theorem Row.load1 (h:Row Z a cs) {t:TypeId} (ht:wJ P t=some false) {k:Nat} {v:Value} (hv:cs[k]?=some v):zB P Z t (zL a k)=some v:=by
 have hk:k<cs.length:=(List.getElem?_eq_some_iff.1 hv).1;have hp:=(h.part (k:=k) (m:=1) (by omega)).rd;have e:(cs.drop k).take 1=[v]:=by
  rw [List.drop_eq_getElem_cons hk];have:=(List.getElem?_eq_some_iff.1 hv).2;simp [this]
 rw [e] at hp;unfold zB;simp only [ht];have hp:yP Z (zL a k) 1=some [v]:=hp;rw [hp]
theorem Row.loadN (h:Row Z a cs) {t:TypeId} {n:Nat} (ht:wJ P t=some true) (hs:yV P t=some n) {k:Nat} {ds:List Value} (hd:(cs.drop k).take n=ds) (hl:ds.length=n) (hk:k+n<=cs.length):zB P Z t (zL a k)=some (.agg ⟨ds⟩):=by
 have hp:=(h.part (k:=k) (m:=n) hk).rd;rw [hd,hl] at hp;unfold zB;simp only [ht,hs,hp,Option.map_some]
theorem Row.ld {b k:Nat} {s:Option Nat} (h:Row Z ⟨b,0,s⟩ cs) {t:TypeId} (ht:wJ P t=some false) {v:Value} (hv:cs[k]?=some v):zB P Z t ⟨b,k,s⟩=some v:=by
 have:=h.load1 (P:=P) ht hv;simpa [zL] using this
theorem Row.ldN {b k n:Nat} {s:Option Nat} (h:Row Z ⟨b,0,s⟩ cs) {t:TypeId} (ht:wJ P t=some true) (hs:yV P t=some n) {ds:List Value} (hd:(cs.drop k).take n=ds) (hl:ds.length=n) (hk:k+n<=cs.length):zB P Z t ⟨b,k,s⟩=some (.agg ⟨ds⟩):=by
 have:=h.loadN (P:=P) ht hs hd hl hk;simpa [zL] using this

structure Own (Z:St) (b:Nat) (cs:List Value) (n:Nat):Prop where
 get:yH Z.heap b=some (.cells cs n [(0,cs.length)] 1 false)
 lt:b<Z.y
def St.own (Z:St) (b:Nat) (cs:List Value) (n:Nat):St:=Z.put b (.cells cs n [(0,cs.length)] 1 false)
theorem zC (Z:St) (cs:List Value) (n:Nat):Own (Z.row cs n) Z.y cs n:=⟨by
 show yH (Z.add _).heap Z.y=_
 rw [St.add_get,if_pos rfl],by simp [St.row]⟩
theorem Own.le {b n:Nat} (h:Own Z b cs n) (l:Le Z Z'):Own Z' b cs n:=⟨by rw [l.get _ h.lt];exact h.get,Nat.lt_of_lt_of_le h.lt l.y⟩
theorem Own.row {b n:Nat} (h:Own Z b cs n) {ds:List Value} {m:Nat}:Own (Z.row ds m) b cs n:=h.le (Le.row _ _ _)
theorem Own.add {b n:Nat} (h:Own Z b cs n) {y:Blk}:Own (Z.add y) b cs n:=h.le (Le.add _ _)
theorem Own.re {b n:Nat} (h:Own Z b cs n):Own Z.re b cs n:=⟨h.get,h.lt⟩
theorem Own.own {b n c m:Nat} (h:Own Z b cs n) {ds:List Value} (hne:b≠c):Own (Z.own c ds m) b cs n:=⟨by
 show yH (Z.put _ _).heap b=_
 rw [St.put_get,if_neg hne];exact h.get,h.lt⟩
theorem Own.put {b n:Nat} (h:Own Z b cs n) {ds:List Value}:Own (Z.own b ds n) b ds n:=⟨by
 show yH (Z.put _ _).heap b=_
 rw [St.put_get,if_pos rfl],h.lt⟩
theorem Own.rw {b n:Nat} (h:Own Z b cs n):Row Z ⟨b,0,none⟩ cs:=by
 refine ⟨?_,h.lt⟩
 have h2:Nat.ble (0+cs.length) cs.length=true:=(zX _ _).2 (by omega);have h3:Nat.beq 0 0=true:=rfl;unfold yP;simp only [h.get,yC,Option.getD_none,wW,h3,cond_true,h2,List.drop_zero,List.take_length]
theorem Row.own {b n:Nat} (h:Row Z a cs) {ds:List Value} (hne:a.block≠b):Row (Z.own b ds n) a cs:=⟨by
 have hr:=h.rd
 unfold yP at hr ⊢
 rw [show yH (Z.own b ds n).heap a.block=yH Z.heap a.block from by
  show yH (Z.put _ _).heap a.block=_;rw [St.put_get,if_neg hne]]
 exact hr,h.lt⟩
theorem Own.store {b n k:Nat} (h:Own Z b cs n) {t:TypeId} {v:Value} {vs ds:List Value} (hv:v.cells.toList=vs) (hs:yV P t=some vs.length) (hc:vs.all cellB=true) (hk:k+vs.length<=cs.length) (hd:cs.take k++(vs++cs.drop (k+vs.length))=ds) :
  zQ P (evL [.pointer (some ⟨b,k,none⟩),v]) Z (.store t (.tmp 0) (.tmp 1))=some (undef,Z.own b ds n):=by
 have h1:Nat.beq v.cells.toList.length vs.length=true:=by rw [hv];exact Nat.beq_refl _
 have h2:(Nat.beq 0 0 && Nat.ble (k+vs.length) cs.length && !false && vs.all cellB)=true:=by
  rw [(zX _ _).2 hk,hc];rfl
 have hl:ds.length=cs.length:=by rw [<- hd];simp;omega
 have hw:wG Z ⟨b,k,none⟩ vs=some (Z.own b ds n):=by
  unfold wG;simp only [h.get,yC,Option.getD_none,h2,cond_true,zEC,St.write_eq,hd];unfold St.own;rw [hl]
 have:zGS P Z t ⟨b,k,none⟩ v=some (Z.own b ds n):=by
  unfold zGS;rw [hv] at h1 ⊢;simp only [hs,h1,cond_true,hw]
 show (zGS P Z t ⟨b,k,none⟩ v).map _=_;rw [this];rfl
@[simp] theorem St.own_next (Z:St) (b:Nat) (cs:List Value) (n:Nat):(Z.own b cs n).y=Z.y:=rfl
@[simp] theorem St.own_low (Z:St) (b:Nat) (cs:List Value) (n:Nat):(Z.own b cs n).low=min Z.low b:=rfl
@[simp] theorem St.row_next (Z:St) (cs:List Value) (n:Nat):(Z.row cs n).y=Z.y+1:=rfl
@[simp] theorem St.row_low (Z:St) (cs:List Value) (n:Nat):(Z.row cs n).low=Z.low:=rfl

def SlP (Z:St) (n:Nat) (p:Option Addr) (len:Nat) (l:List Value):Prop :=
 l.length=len*n/\match p with
  | none=>len=0
  | some a=>Row Z a l
theorem SlP.le {n len:Nat} {p:Option Addr} {l:List Value} (h:SlP Z n p len l) (k:Le Z Z'):SlP Z' n p len l:=by
 refine ⟨h.1, ?_⟩
 cases p with
 | none=>exact h.2
 | some a=>exact Row.le h.2 k
theorem SlP.row {n len:Nat} {p:Option Addr} {l:List Value} (h:SlP Z n p len l) {ds:List Value} {m:Nat}:SlP (Z.row ds m) n p len l:=h.le (Le.row _ _ _)
theorem SlP.re {n len:Nat} {p:Option Addr} {l:List Value} (h:SlP Z n p len l):SlP Z.re n p len l:=h.le (Le.re' (Le.refl _))
theorem SlP.own {n len:Nat} {p:Option Addr} {l:List Value} (h:SlP Z n p len l) {b m:Nat} {ds:List Value} (hb:Z.y<=b\/∀ a,p=Option.some a->a.block≠b):SlP (Z.own b ds m) n p len l:=by
 refine ⟨h.1, ?_⟩
 cases p with
 | none=>exact h.2
 | some a =>
  have hr:Row Z a l:=h.2;exact hr.own (by rcases hb with hb | hb;exact (have:=hr.lt;by omega);exact hb a rfl)
theorem SlP.some {n len:Nat} {p:Option Addr} {l:List Value} (h:SlP Z n p len l) (hl:0<len):∃ a,p=.some a/\Row Z a l:=by
 cases p with
 | none=>have:=h.2;omega
 | some a=>exact ⟨a,rfl,h.2⟩
theorem Row.sl {n len:Nat} (h:Row Z a cs) (hl:cs.length=len*n):SlP Z n (.some a) len cs:=⟨hl,h⟩
theorem SlP.nil (Z:St) (n:Nat):SlP Z n none 0 []:=⟨by simp,rfl⟩

def xZP (P:Program) (f:FuncId) (args:List Value) (Z:St) (v:Value) (Z':St):Prop:=∃ N0,∀ N,N0<=N->zV P N (.func f) args Z=some (v,Z')
def zD (P:Program) (f:FuncId) (args:List Value) (Z:St) (v:Value) (Z':St):Prop:=∃ N0,∀ N,N0<=N->vW (zV P N) (.func f) args Z=some (v,Z')
end
end Go.Lay

namespace Go.Lay
open Go

def Code.part:List Nat->Code->Code
 | 0::p,.seq a _=>Code.part p a
 | 1::p,.seq _ b=>Code.part p b
 | 0::p,.cond _ a _=>Code.part p a
 | 1::p,.cond _ _ b=>Code.part p b
 | 0::p,.block _ c=>Code.part p c
 | 0::p,.scope c=>Code.part p c
 | 0::p,.loop c=>Code.part p c
 | 0::p,.rangeFunc _ _ a _=>Code.part p a
 | 1::p,.rangeFunc _ _ _ b=>Code.part p b
 | _,c=>c
def zS (P:Program) (f:FuncId):Code:=match P.funcs[f]? with | some fn=>(match fn.body with | some c=>c | none=>.skip) | none=>.skip

def xXA (P:Program) (rd:Option Nat) (c:Code) (fr:Fr) (Z:St) (e:Exit) (fr':Fr) (Z':St):Prop :=
 ∃ N0,∀ N,N0<=N->yQ P (zV P N) N rd c fr Z=some (e,fr',Z')
def ySD (P:Program) (rd:Option Nat) (c:Code) (fr:Fr) (Z:St) (e:Exit) (fr':Fr) (Z':St):Prop :=
 ∃ N0,∀ N m,N0<=N->N0<=m->zDW (yQ P (zV P N) N rd c) m fr Z=some (e,fr',Z')
section
variable {P:Program} {rd:Option Nat} {c:Code} {fr fr' fr₁:Fr} {Z Z' Z₁:St} {e:Exit}
theorem ySD.step (h:xXA P rd c fr Z .normal fr₁ Z₁) (k:ySD P rd c fr₁ Z₁ e fr' Z'):ySD P rd c fr Z e fr' Z':=by
 obtain ⟨N1,h1⟩:=h;obtain ⟨N2,h2⟩:=k;refine ⟨N1+N2+1,fun N m hN hm=>?_⟩
 obtain ⟨m,rfl⟩:∃ m',m=m'+1:=⟨m-1,by omega⟩;simp only [zDW,h1 N (by omega)];exact h2 N m (by omega) (by omega)
theorem ySD.exit (h:xXA P rd c fr Z e fr' Z') (he:e≠.normal):ySD P rd c fr Z e fr' Z':=by
 obtain ⟨N1,h1⟩:=h;refine ⟨N1+1,fun N m hN hm=>?_⟩
 obtain ⟨m,rfl⟩:∃ m',m=m'+1:=⟨m-1,by omega⟩;simp only [zDW,h1 N (by omega)];split
 ·rename_i heq;cases heq;exact absurd rfl he
 ·rfl
end

structure Keep (n0:Nat) (Z Z':St):Prop where
 y:Z.y<=Z'.y
 get:∀ b,b<n0->yH Z'.heap b=yH Z.heap b
 low:min Z.low n0<=Z'.low
section
variable {P:Program} {Z Z':St} {a:Addr} {cs:List Value} {n0:Nat}
theorem Keep.trans {Z₁ Z₂ Z₃:St} (h:Keep n0 Z₁ Z₂) (k:Keep n0 Z₂ Z₃):Keep n0 Z₁ Z₃:=⟨Nat.le_trans h.y k.y,fun b hb=>(k.get b hb).trans (h.get b hb),by have:=h.low;have:=k.low;omega⟩
theorem Keep.add (hn:n0<=Z.y) (y:Blk):Keep n0 Z (Z.add y):=⟨by simp,fun b hb=>by rw [St.add_get,if_neg (by omega)],by simp;omega⟩
theorem Keep.put {b:Nat} (hb:n0<=b) (y:Blk):Keep n0 Z (Z.put b y):=⟨by simp,fun c hc=>by rw [St.put_get,if_neg (by omega)],by simp;omega⟩
theorem Row.keep (h:Row Z a cs) (k:Keep n0 Z Z') (hb:a.block<n0):Row Z' a cs:=⟨by
 have:=h.rd
 unfold yP at this ⊢
 rw [k.get _ hb];exact this,Nat.lt_of_lt_of_le h.lt k.y⟩
theorem SlP.keep {n len:Nat} {p:Option Addr} {l:List Value} (h:SlP Z n p len l) (k:Keep Z.y Z Z'):SlP Z' n p len l:=by
 refine ⟨h.1, ?_⟩
 cases p with
 | none=>exact h.2
 | some a =>
  have hr:Row Z a l:=h.2;exact hr.keep k hr.lt

inductive App (Z:St) (n0 n:Nat):Value->Nat->List Value->Prop
 | nil:App Z n0 n (.slice none 0 0) 0 []
 | more {b s nx len:Nat} {cs:List Value} {sp:Option Nat} {log:List (Nat × Nat)} (h:yH Z.heap b=some (.cells cs n ((s,cs.length)::log) nx false)) (hs:sp.getD 0=s) (hb:n0<=b) (hlt:b<Z.y) (hl:cs.length=len*n) (hp:0<len) (hsn:s<nx) :
   App Z n0 n (.slice (some ⟨b,0,sp⟩) len (len+vZ)) len cs

def xNJ:TypeDesc->Bool
 | .int _=>true
 | _=>false
structure AppT (P:Program) (st xt e n:Nat):Prop where
 el:xX P st=some (e,n)
 src:∃ xd,P.underlying xt=some xd/\xNJ xd=false
 info:∃ ei z,P.info? e=some ei/\ei.zero=some z/\ei.bytes<=4096/\zW RD z=true/\Nat.beq z.cells.toList.length n=true
 le:n<=4096
 pos:0<n
def xWX (P:Program) (st xt e n:Nat):Bool :=
 (match xX P st with | some (e',n')=>Nat.beq e e' && Nat.beq n n' | none=>false) &&
 (match P.underlying xt with | some xd=>!xNJ xd | none=>false) &&
 (match P.info? e with | some ei=>(match ei.zero with | some z=>Nat.ble ei.bytes 4096 && zW RD z && Nat.beq z.cells.toList.length n | none=>false) | none=>false) &&
 Nat.ble n 4096 && Nat.blt 0 n
theorem zQX {P:Program} {st xt e n:Nat} (h:xWX P st xt e n=true):AppT P st xt e n:=by
 unfold xWX at h;simp only [Bool.and_eq_true] at h;obtain ⟨⟨⟨⟨h1,h2⟩,h3⟩,h4⟩,h5⟩:=h;refine ⟨?_, ?_, ?_,(zX _ _).1 h4,(zX _ _).1 h5⟩
 ·split at h1
  ·rename_i e' n' he;simp only [Bool.and_eq_true] at h1;rw [he,Nat.eq_of_beq_eq_true h1.1,Nat.eq_of_beq_eq_true h1.2]
  ·cases h1
 ·split at h2
  ·rename_i xd hx;exact ⟨xd,hx,by simpa using h2⟩
  ·cases h2
 ·split at h3
  ·rename_i ei hi;split at h3
   ·rename_i z hz;simp only [Bool.and_eq_true] at h3;exact ⟨ei,z,hi,hz,(zX _ _).1 h3.1.1,h3.1.2,h3.2⟩
   ·cases h3
  ·cases h3

theorem zAK (x:Nat):yN (x+vZ)=x:=by unfold yN;rw [if_pos (by omega)];omega
theorem zFI (x:Nat):xA (x+vZ)=false:=by rw [Bool.eq_false_iff];intro e;have:=(xE _).1 e;omega
theorem vV:0<vZ:=by unfold vZ;decide

theorem yZS {st xt e n m k len:Nat} {v:Value} {a2:Addr} {xs:List Value} (T:AppT P st xt e n) (hA:App Z n0 n v len cs) (hr:Row Z a2 xs) (hm:xs.length=m*n) (hp:0<m) (hroom:len+m<=1073741824) (hc:xs.all cellB=true) (hn0:n0<=Z.y) :
  ∃ v' Z',yM P st xt v (.slice (some a2) m k) Z=some (v',Z')/\App Z' n0 n v' (len+m) (cs++xs)/\Keep n0 Z Z':=by
 obtain ⟨xd,hxd,hxi⟩:=T.src;obtain ⟨ei,z,hei,hz,hby,hrz,hzl⟩:=T.info;have hrd:=hr.rd;rw [hm] at hrd;have hsrc:zAC Z n z xd (.slice (some a2) m k)=some (m,xs):=by
  unfold zAC;cases xd with
  | int _=>cases hxi
  | _=>simp only [wH,hrd,Option.map_some]
 have hcond:(zAH (len+m) n ei.bytes && xs.all cellB && Nat.beq xs.length (m*n) && zW RD z && Nat.beq z.cells.toList.length n)=true:=by
  unfold zAH;rw [(zX _ _).2 hroom,(zX _ _).2 T.le,(zX _ _).2 hby,hc,hm,Nat.beq_refl,hrz,hzl];rfl
 have hble:∀ x:Nat,Nat.ble (x+m) x=false:=fun x=>by rw [Bool.eq_false_iff];intro e;have:=(zX _ _).1 e;omega
 cases hA with
 | nil =>
  refine ⟨.slice (some ⟨Z.y,0,none⟩) (0+m) (0+m+vZ),Z.add (.cells xs n [(0,xs.length)] 1 false), ?_, ?_,Keep.add hn0 _⟩
  ·have hc0:yN 0=0:=by unfold yN;have:=vV;rw [if_neg (by omega)]
   have hc1:xA 0=true:=(xE 0).2 vV;unfold yM;simp only [T.el,hxd,hei,hz,hsrc,hcond,cond_true,vE,hc0,hble,cond_false,hc1,Nat.beq_refl,yO]
  ·have e1:0+m=m:=Nat.zero_add m;rw [e1,List.nil_append];exact .more (b:=Z.y) (s:=0) (nx:=1) (log:=[]) (by rw [St.add_get,if_pos rfl]) rfl hn0 (by simp) hm hp (by omega)
 | @more b s nx _ _ sp log h hs hb hlt hl hpp hsn =>
  have hex:wW ((s,cs.length)::log) (yC ⟨b,0,sp⟩)=some cs.length:=by
   have:Nat.beq s (yC ⟨b,0,sp⟩)=true:=by unfold yC;simp only [hs];exact Nat.beq_refl _
   simp only [wW,this,cond_true]
  have hlf:wL ((s,cs.length)::log) (yC ⟨b,0,sp⟩)=(s,cs.length)::log:=by
   have:Nat.beq s (yC ⟨b,0,sp⟩)=true:=by unfold yC;simp only [hs];exact Nat.beq_refl _
   simp only [wL,this,cond_true]
  have hg:(Nat.beq len len && Nat.beq (0+len*n) cs.length && Nat.beq n n && !false && Nat.blt 0 n)=true:=by
   rw [Nat.beq_refl,Nat.zero_add,hl,Nat.beq_refl,Nat.beq_refl,(wA 0 n).2 T.pos];rfl
  refine ⟨.slice (some ⟨b,0,some nx⟩) (len+m) (len+m+vZ),Z.put b (.cells (cs.take cs.length++xs) n ((nx,cs.length+m*n)::(s,cs.length)::log) (nx+1) false), ?_, ?_,Keep.put hb _⟩
  ·unfold yM;simp only [T.el,hxd,hei,hz,hsrc,hcond,cond_true,vE,zAK,hble,cond_false,zFI,zIB,h,hex,hg,zEC,wE,St.write_eq,hlf]
  ·refine .more (b:=b) (s:=nx) (nx:=nx+1) (log:=(s,cs.length)::log) ?_ rfl hb hlt ?_ (by omega) (by omega)
   ·rw [St.put_get,if_pos rfl,List.take_length];simp [hm]
   ·simp [hl,hm,Nat.add_mul]
theorem App.sl {v:Value} {n len:Nat} (h:App Z n0 n v len cs):∃ p cap,v=.slice p len cap/\SlP Z n p len cs:=by
 cases h with
 | nil=>exact ⟨none,0,rfl,SlP.nil _ _⟩
 | @more b s nx _ _ sp log h hs hb hlt hl hp hsn =>
  refine ⟨_,_,rfl,hl, ?_,hlt⟩
  have hex:wW ((s,cs.length)::log) (yC ⟨b,0,sp⟩)=some cs.length:=by
   have:Nat.beq s (yC ⟨b,0,sp⟩)=true:=by unfold yC;simp only [hs];exact Nat.beq_refl _
   simp only [wW,this,cond_true]
  have h2:Nat.ble (0+cs.length) cs.length=true:=(zX _ _).2 (by omega);unfold yP;simp only [h,hex,h2,cond_true,List.drop_zero,List.take_length]
theorem App.keep {v:Value} {n len:Nat} (h:App Z n0 n v len cs) (hk:Le Z Z'):App Z' n0 n v len cs:=by
 cases h with
 | nil=>exact .nil
 | more h hs hb hlt hl hp hsn=>exact .more (by rw [hk.get _ hlt];exact h) hs hb (Nat.lt_of_lt_of_le hlt hk.y) hl hp hsn
def wV (vs:List Value):List Value:=vs.flatMap fun v=>v.cells.toList
def zHM (P:Program) (t:TypeId) (n:Nat) (v:Value):Prop :=
 (wJ P t=some false/\n=1/\v.cells.toList=[v])\/(wJ P t=some true/\yV P t=some n/\∃ cs:List Value,v=.agg ⟨cs⟩/\cs.length=n)
theorem zHM.len {t n:Nat} {v:Value} (h:zHM P t n v):v.cells.toList.length=n:=by
 rcases h with ⟨_,h1,h2⟩ | ⟨_,_,ds,rfl,h⟩
 ·rw [h2,h1];rfl
 ·exact h
theorem yQL {t n:Nat}:∀ {vs:List Value} {i:Nat} {v:Value},(∀ v∈vs,zHM P t n v)->vs[i]?=some v->((wV vs).drop (i*n)).take n=v.cells.toList/\i*n+n<=(wV vs).length
 | [],i,v,_,h=>by simp at h
 | x::vs,0,v,hv,h=>by
  simp at h;subst h;have h1:=(hv x (by simp)).len;unfold wV;rw [List.flatMap_cons,Nat.zero_mul,List.drop_zero,Nat.zero_add,List.length_append];exact ⟨by rw [<- h1,List.take_left'  rfl],by omega⟩
 | x::vs,i+1,v,hv,h=>by
  have h1:=(hv x (by simp)).len;have ih:=yQL (vs:=vs) (i:=i) (v:=v) (fun x hx=>hv x (by simp [hx])) (by simpa using h);unfold wV at ih ⊢;rw [List.flatMap_cons,Nat.add_mul,Nat.one_mul,List.length_append];refine ⟨?_,by omega⟩
  rw [show i*n+n=x.cells.toList.length+i*n by omega,List.drop_append];simp only [Nat.add_sub_cancel_left];rw [List.drop_of_length_le (by omega),List.nil_append];exact ih.1
theorem Row.el {vs:List Value} {t n i:Nat} {v:Value} (h:Row Z a (wV vs)) (he:∀ v∈vs,zHM P t n v) (hv:vs[i]?=some v):zB P Z t (zL a (i*n))=some v:=by
 obtain ⟨h1,h2⟩:=yQL he hv;rcases he v (List.mem_of_getElem? hv) with ⟨g1,g2,g3⟩ | ⟨g1,g2,ds,rfl,g3⟩
 ·subst g2;refine h.load1 g1 ?_
  rw [g3] at h1;have:=congrArg (fun l=>l[0]?) h1;simp only [List.getElem?_cons_zero] at this;rw [List.getElem?_take_of_lt (by omega),List.getElem?_drop] at this;simpa using this
 ·exact h.loadN g1 g2 h1 g3 h2
def SlV (P:Program) (Z:St) (t n:Nat) (p:Option Addr) (len:Nat) (vs:List Value):Prop:=SlP Z n p len (wV vs)/\vs.length=len/\∀ v∈vs,zHM P t n v
theorem SlV.le {t n len:Nat} {p:Option Addr} {vs:List Value} (h:SlV P Z t n p len vs) (k:Le Z Z'):SlV P Z' t n p len vs:=⟨h.1.le k,h.2⟩
theorem SlV.row {t n len:Nat} {p:Option Addr} {vs:List Value} (h:SlV P Z t n p len vs) {ds:List Value} {m:Nat}:SlV P (Z.row ds m) t n p len vs:=⟨h.1.row,h.2⟩
theorem SlV.re {t n len:Nat} {p:Option Addr} {vs:List Value} (h:SlV P Z t n p len vs):SlV P Z.re t n p len vs:=⟨h.1.re,h.2⟩
theorem SlV.keep {t n len:Nat} {p:Option Addr} {vs:List Value} (h:SlV P Z t n p len vs) (k:Keep Z.y Z Z'):SlV P Z' t n p len vs:=⟨h.1.keep k,h.2⟩
theorem SlV.own {t n len:Nat} {p:Option Addr} {vs:List Value} (h:SlV P Z t n p len vs) {b m:Nat} {ds:List Value} (hb:Z.y<=b\/∀ a,p=Option.some a->a.block≠b):SlV P (Z.own b ds m) t n p len vs:=⟨h.1.own hb,h.2⟩
theorem SlV.some {t n len i:Nat} {p:Option Addr} {vs:List Value} (h:SlV P Z t n p len vs) (hi:i<len):∃ a,p=.some a/\Row Z a (wV vs):=h.1.some (by omega)
theorem SlV.at {t n len i:Nat} {p:Option Addr} {vs:List Value} {a:Addr} {v:Value} (h:SlV P Z t n p len vs) (hp:p=Option.some a) (hv:vs[i]?=Option.some v):zB P Z t (zL a (Int.toNat (i:Int)*n))=Option.some v:=by
 subst hp;have hr:Row Z a (wV vs):=h.1.2;rw [Int.toNat_natCast];exact hr.el h.2.2 hv
theorem uS {t:Nat} (h:wJ P t=some false) (k:IntKind) (n:Int):zHM P t 1 (.int k n):=.inl ⟨h,rfl,rfl⟩

end
end Go.Lay

namespace Go.Lay
open Go

def zIZ (U:Inj) (b c o z:Nat):Inj:={ U with loc:=fun b' s=>if b'=b/\s=0 then some ⟨c,0,o,z⟩ else U.loc b' s }
structure Ro (U:Inj) (w:World):Prop where
 own:∀ c,U.own c=none
 csz:∀ (c:Nat) arr el fr,w.heap[c]?=some (.cells arr el fr)->U.csz c=arr.size
def yMS (w:World):Inj:={ loc:=fun _ _=>none,own:=fun _=>none,csz:=fun c=>match w.heap[c]? with | some (.cells arr _ _)=>arr.size | _=>0 }
theorem xKD (w:World):Rep (yMS w) xMO w/\Ro (yMS w) w :=
 ⟨⟨fun b y h=>by simp [xMO,yH,Tr.getP_leaf] at h,fun _ _ _ h=>by simp [yMS] at h,fun _ _ h=>by simp [yMS] at h,fun _ _ _=>rfl⟩,⟨fun _=>rfl,fun c arr el fr h=>by simp [yMS,h]⟩⟩

section
variable {P:Program} {w:World} {U:Inj} {Z Z':St}

theorem yDU (hr:Rep U Z w) (c o z:Nat):Sub U (zIZ U Z.y c o z):=by
 refine ⟨fun b s L h=>?_,fun _ _ _ _=>rfl⟩
 simp only [zIZ];rw [if_neg];exact h;rintro ⟨rfl,rfl⟩;rw [hr.fresh _ _ (Nat.le_refl _)] at h;cases h

theorem xZN (hr:Rep U Z w) (ho:Ro U w) {c o:Nat} {arr:Array Value} {el:TypeId} {fr:Nat × Nat} (hc:w.heap[c]?=some (.cells arr el fr)) {rs:List Value} (z:Nat) (hl:o+rs.length<=arr.size)
  (hv:∀ (j:Nat) v,rs[j]?=some v->∃ v',arr[o+j]?=some v'/\VR U v v') :
  Rep (zIZ U Z.y c o z) (Z.add (.cells rs z [(0,rs.length)] 1 true)) w/\Ro (zIZ U Z.y c o z) w:=by
 have hs:=yDU hr c o z;have hcw:c<w.heap.size:=by
  have:=(Array.getElem?_eq_some_iff.1 hc).1;exact this
 refine ⟨⟨fun b y hb=>?_,fun b s L h=>?_,fun c' b h=>?_,fun b s h=>?_⟩,⟨ho.own,ho.csz⟩⟩
 ·rw [St.add_get] at hb;by_cases hbn:b=Z.y
  ·rw [if_pos hbn] at hb;cases hb;subst hbn;refine ⟨by simp,.cells (fun s e hm=>?_) (by simp) (fun s₁ e₁ s₂ e₂ L₁ L₂ h₁ h₂ l₁ l₂ _=>?_) (fun s hs'=>?_)⟩
   ·simp at hm;obtain ⟨rfl,rfl⟩:=hm;refine ⟨by omega,Nat.le_refl _,⟨c,0,o,z⟩,by simp [zIZ],⟨arr,el,fr,hc,(ho.csz _ _ _ _ hc).symm,by simp,by simpa using hl,fun j _ h2=>?_⟩,rfl,Nat.zero_le _,by simpa [zIZ] using ho.own c⟩
    obtain ⟨v',g1,g2⟩:=hv j rs[j] (by simp [h2]);exact ⟨rs[j],v',by simp [h2],by simpa using g1,g2.sub hs⟩
   ·simp at h₁ h₂;obtain ⟨rfl,_⟩:=h₁;obtain ⟨rfl,_⟩:=h₂;rw [l₁] at l₂;cases l₂;rfl
   ·simp only [zIZ];rw [if_neg (by omega)];exact hr.fresh _ _ (Nat.le_refl _)
  ·rw [if_neg hbn] at hb;have h:=hr.blk b y hb;refine ⟨by simp;omega,h.2.keepS hs (fun s L _=>rfl) (fun _ _ _ _=>rfl) (fun cs esz log next ro hyy s hs'=>?_)⟩
   have:=h.2;subst hyy;cases this with
   | cells _ _ _ fresh =>
    simp only [zIZ];rw [if_neg (fun e=>hbn e.1)];exact fresh s hs'
 ·simp only [zIZ] at h;split at h
  ·cases h;exact hcw
  ·exact hr.lt _ _ _ h
 ·have:U.own c'=some b:=h;rw [ho.own c'] at this;cases this
 ·simp only [zIZ];simp at h;rw [if_neg (by omega)];exact hr.fresh _ _ (by omega)

def zSV (P:Program):List Field->Nat->Nat->Bool
 | [],o,tot=>Nat.beq o tot
 | f::fs,o,tot=>Nat.beq f.offset o && zSV P fs (o+P.cellsOf f.type) tot
def zHB (P:Program):Nat->TypeId->Bool
 | 0,_=>false
 | n+1,t=>match P.underlying t with
  | some .bool=>true
  | some (.int _)=>true
  | some .string=>true
  | some (.slice e)=>Nat.blt 0 (P.cellsOf e) && zHB P n e
  | some (.struct fs)=>zSV P fs.toList 0 (P.cellsOf t) && fs.toList.all fun f=>zHB P n f.type
  | _=>false
def WT (P:Program) (Z:St):Nat->TypeId->List Value->Prop
 | 0,_,_=>False
 | n+1,t,cs=>match P.underlying t with
  | some .bool=>∃ b,cs=[.bool b]
  | some (.int k)=>∃ i,cs=[.int k i]/\k.min<=i/\i<=k.max
  | some .string=>∃ s:ByteArray,cs=[.string s]/\s.size<=maxLen
  | some (.slice e)=>cs=[.slice none 0 0]\/∃ b len cap rs,cs=[.slice (some ⟨b,0,none⟩) len cap]/\len<=maxLen/\(len<=yN cap/\xA cap=true)/\rs.length=len*P.cellsOf e /\
    yH Z.heap b=some (.cells rs (P.cellsOf e) [(0,rs.length)] 1 true)/\b<Z.y/\∀ i,i<len->WT P Z n e ((rs.drop (i*P.cellsOf e)).take (P.cellsOf e))
  | some (.struct fs)=>cs.length=P.cellsOf t/\∀ f∈fs.toList,f.offset+P.cellsOf f.type<=cs.length/\WT P Z n f.type ((cs.drop f.offset).take (P.cellsOf f.type))
  | _=>False

theorem WT.le:∀ {n:Nat} {t:TypeId} {cs:List Value},WT P Z n t cs->Le Z Z'->WT P Z' n t cs:=by
 intro n;induction n with
 | zero=>intro t cs h;exact h.elim
 | succ n ih =>
  intro t cs h k;unfold WT at h ⊢;split at h <;> rename_i hu
  ·exact h
  ·exact h
  ·exact h
  ·rcases h with h | ⟨b,len,cap,rs,h1,h2,h3,h4,h5,h6,h7⟩
   ·exact .inl h
   ·exact .inr ⟨b,len,cap,rs,h1,h2,h3,h4,by rw [k.get _ h6];exact h5,Nat.lt_of_lt_of_le h6 k.y,fun i hi=>ih (h7 i hi) k⟩
  ·exact ⟨h.1,fun f hf=>⟨(h.2 f hf).1,ih (h.2 f hf).2 k⟩⟩
  ·exact h.elim

theorem yRL {a:Addr} {arr:Array Value} {el:TypeId} {fr:Nat × Nat} (hc:w.heap[a.block]?=some (.cells arr el fr)) (hs:a.spot=none) (m i:Nat):w.cell? ((a.add m).add i)=arr[a.off+m+i]?:=by
 have key:∀ (x:Addr) (j:Nat),x.spot=none->(x.add j).block=x.block/\(x.add j).off=x.off+j/\(x.add j).spot=none:=by
  intro x j hx;unfold Addr.add;split
  ·rename_i e;subst e;exact ⟨rfl,rfl,hx⟩
  ·exact ⟨rfl,rfl,rfl⟩
 obtain ⟨k1,k2,k3⟩:=key a m hs;obtain ⟨k4,k5,k6⟩:=key (a.add m) i k3;simp only [World.cell?,k4,k1,hc,k6,k5,k2,Option.isSome_none];rfl

variable {H:Type} {enc:TypeId × Value->H} {held:Bool}

def zOR (w:World) (cs':List Value):Prop:=∀ A len cap,Value.slice (some A) len cap∈cs'->∃ (c:Nat) (arr:Array Value) (el:TypeId) (fr:Nat × Nat),w.heap[c]?=some (.cells arr el fr)
def yHT (P:Program) (w:World) (U:Inj) (Z:St) (cs':List Value) (Q:St->List Value->Prop):Prop :=
 ∃ U' Z' cs,Rep U' Z' w/\Ro U' w/\Sub U U'/\Le Z Z'/\VRs U' cs cs'/\Q Z' cs

theorem yHE:∀ {fs:List Field} {o tot:Nat},zSV P fs o tot=true->o<=tot
 | [],o,tot,h=>by have:=Nat.eq_of_beq_eq_true h;omega
 | f::fs,o,tot,h=>by
  simp only [zSV,Bool.and_eq_true] at h;have:=yHE h.2;omega

theorem yOV {n fuel:Nat}
  (ih:∀ t,zHB P n t=true->∀ fuel cs' x U Z,DataW.trod enc P w 0 (fun _=>true) held fuel t cs'=some x->Rep U Z w->Ro U w->zOR w cs'->yHT P w U Z cs' fun Z' cs=>WT P Z' n t cs) {cs':List Value} (hrow:zOR w cs') :
  ∀ (fs:List Field) (o:Nat) (U:Inj) (Z:St),zSV P fs o cs'.length=true->(∀ f∈fs,zHB P n f.type=true)->(∀ f∈fs,∃ x,DataW.trod enc P w 0 (fun _=>true) held fuel f.type ((cs'.drop f.offset).take (P.cellsOf f.type))=some x) ->
   Rep U Z w->Ro U w->yHT P w U Z (cs'.drop o) fun Z' cs=>∀ f∈fs,o<=f.offset/\f.offset+P.cellsOf f.type<=cs'.length/\WT P Z' n f.type ((cs.drop (f.offset-o)).take (P.cellsOf f.type)):=by
 intro fs;induction fs with
 | nil =>
  intro o U Z hc _ _ hr ho;have:=Nat.eq_of_beq_eq_true hc;refine ⟨U,Z,[],hr,ho,Sub.refl _,Le.refl _, ?_,fun f hf=>by cases hf⟩
  rw [List.drop_of_length_le (by omega)];exact .nil
 | cons f fs ihf =>
  intro o U Z hc hp ht hr ho;simp only [zSV,Bool.and_eq_true] at hc;have hoff:=Nat.eq_of_beq_eq_true hc.1;have hle:=yHE hc.2;obtain ⟨x,hx⟩:=ht f (by simp);obtain ⟨U₁,Z₁,c1,r1,o1,s1,l1,v1,w1⟩:=ih f.type (hp f (by simp)) _ _ _ U Z hx hr ho (fun A len cap hm=>hrow A len cap (List.mem_of_mem_drop (List.mem_of_mem_take hm)));obtain ⟨U₂,Z₂,c2,r2,o2,s2,l2,v2,w2⟩:=ihf (o+P.cellsOf f.type) U₁ Z₁ hc.2 (fun g hg=>hp g (by simp [hg])) (fun g hg=>ht g (by simp [hg])) r1 o1;have hlen:c1.length=P.cellsOf f.type:=by rw [v1.length];simp;omega
  refine ⟨U₂,Z₂,c1++c2,r2,o2,s1.trans s2,l1.trans l2, ?_,fun g hg=>?_⟩
  ·have e:cs'.drop o=(cs'.drop f.offset).take (P.cellsOf f.type)++cs'.drop (o+P.cellsOf f.type):=by
    rw [hoff,<- List.drop_drop,List.take_append_drop]
   rw [e];exact VRs.append (v1.sub s2) v2
  ·rcases List.mem_cons.1 hg with rfl | hg
   ·refine ⟨by omega,by omega, ?_⟩
    rw [hoff,Nat.sub_self,List.drop_zero,<- hlen,List.take_left']
    ·exact w1.le l2
    ·rfl
   ·obtain ⟨g1,g2,g3⟩:=w2 g hg;refine ⟨by omega,g2, ?_⟩
    have e:(c1++c2).drop (g.offset-o)=c2.drop (g.offset-(o+P.cellsOf f.type)):=by
     rw [List.drop_append,List.drop_of_length_le (by omega),List.nil_append];congr 1;omega
    rw [e];exact g3

theorem zZK {n fuel:Nat} {e:TypeId} {a:Addr} {arr:Array Value} {el:TypeId} {fr:Nat × Nat} (hc:w.heap[a.block]?=some (.cells arr el fr)) (hs:a.spot=none)
  (ih:∀ fuel cs' x U Z,DataW.trod enc P w 0 (fun _=>true) held fuel e cs'=some x->Rep U Z w->Ro U w->zOR w cs'->yHT P w U Z cs' fun Z' cs=>WT P Z' n e cs) (hr:Rep U Z w) (ho:Ro U w) :
  ∀ (k:Nat),(∀ i,i<k->∃ x,(w.cells? 0 (a.add (i*P.cellsOf e)) (P.cellsOf e)).bind (DataW.trod enc P w 0 (fun _=>true) held fuel e)=some x) ->
   ∃ (U':Inj) (Z':St) (rs:List Value),Rep U' Z' w/\Ro U' w/\Sub U U'/\Le Z Z'/\rs.length=k*P.cellsOf e/\(∀ i,i<k->WT P Z' n e ((rs.drop (i*P.cellsOf e)).take (P.cellsOf e))) /\
    ∀ (j:Nat) v,rs[j]?=some v->∃ v',arr[a.off+j]?=some v'/\VR U' v v'
 | 0,_=>⟨U,Z,[],hr,ho,Sub.refl _,Le.refl _,by simp,fun i hi=>by omega,fun j v h=>by simp at h⟩
 | k+1,ht=>by
  obtain ⟨U₁,Z₁,rs,r1,o1,s1,l1,n1,w1,v1⟩:=zZK hc hs ih hr ho k (fun i hi=>ht i (by omega));obtain ⟨x,hx⟩:=ht k (by omega);simp only [Option.bind_eq_some_iff] at hx;obtain ⟨chunk,hch,hx⟩:=hx;obtain ⟨_,hlen,hcells⟩:=World.cells?_some hch;obtain ⟨U₂,Z₂,c,r2,o2,s2,l2,v2,w2⟩:=ih _ _ _ U₁ Z₁ hx r1 o1 (fun _ _ _ _=>⟨_,_,_,_,hc⟩);have hcl:c.length=P.cellsOf e:=by rw [v2.length];exact hlen
  refine ⟨U₂,Z₂,rs++c,r2,o2,s1.trans s2,l1.trans l2,by rw [List.length_append,n1,hcl,Nat.add_mul];omega,fun i hi=>?_,fun j v hj=>?_⟩
  ·by_cases hik:i<k
   ·have h1:i*P.cellsOf e+P.cellsOf e<=rs.length:=by
     rw [n1,show i*P.cellsOf e+P.cellsOf e=(i+1)*P.cellsOf e by rw [Nat.add_mul,Nat.one_mul]];exact Nat.mul_le_mul_right _ hik
    have e1:((rs++c).drop (i*P.cellsOf e)).take (P.cellsOf e)=(rs.drop (i*P.cellsOf e)).take (P.cellsOf e):=by
     rw [List.drop_append_of_le_length (by omega),List.take_append_of_le_length (by simp;omega)]
    rw [e1];exact (w1 i hik).le l2
   ·have:i=k:=by omega
    subst this;rw [<- n1,List.drop_left' rfl,List.take_of_length_le (by omega)];exact w2
  ·by_cases hjr:j<rs.length
   ·rw [List.getElem?_append_left hjr] at hj;obtain ⟨v',g1,g2⟩:=v1 j v hj;exact ⟨v',g1,g2.sub s2⟩
   ·rw [List.getElem?_append_right (by omega)] at hj;obtain ⟨v',g1,g2⟩:=v2.get_some hj;have hjc:j-rs.length<P.cellsOf e:=by rw [<- hcl];exact (List.getElem?_eq_some_iff.1 hj).1
    refine ⟨v', ?_,g2⟩
    have:=hcells (j-rs.length) hjc;rw [yRL hc hs,g1] at this;rw [<- this,<- n1];congr 1;omega

theorem yWI:∀ (n:Nat) (t:TypeId),zHB P n t=true->∀ (fuel:Nat) (cs':List Value) (x:DataW H × List MemPlace) (U:Inj) (Z:St),DataW.trod enc P w 0 (fun _=>true) held fuel t cs'=some x->Rep U Z w->Ro U w->zOR w cs' ->
  yHT P w U Z cs' fun Z' cs=>WT P Z' n t cs:=by
 intro n;induction n with
 | zero=>intro t h;simp [zHB] at h
 | succ n ih =>
  intro t hp fuel cs' x U Z h hr ho hrow;have one:∀ (v:Value),zW RD v=true->cs'=[v]->WT P Z (n+1) t [v]->yHT P w U Z cs' fun Z' cs=>WT P Z' (n+1) t cs :=
   fun v hv e hw=>⟨U,Z,[v],hr,ho,Sub.refl _,Le.refl _,by rw [e];exact .cons (.refl_rigid _ hv) .nil,hw⟩
  unfold zHB at hp;split at hp <;> rename_i hu
  ·obtain ⟨b,e,_⟩:=DataW.trod_bool hu h;exact one _ rfl e (by unfold WT;rw [hu];exact ⟨b,rfl⟩)
  ·obtain ⟨i,e,_,hw⟩:=DataW.trod_int hu h;exact one _ rfl e (by unfold WT;rw [hu];exact ⟨i,rfl,by simpa [Lit.wf] using hw⟩)
  ·obtain ⟨s,e,_,hw⟩:=DataW.trod_string hu h;exact one _ rfl e (by unfold WT;rw [hu];exact ⟨s,rfl,hw⟩)
  ·rename_i e;simp only [Bool.and_eq_true] at hp;have hpos:0<P.cellsOf e:=(wA _ _).1 hp.1;rcases DataW.trod_slice hu h with ⟨hcs,_⟩ | ⟨a,len,cap,elems,rest,m,rfl,hcs,_,_,hle,hmax,hel,hget,hrest,_⟩
   ·exact one _ rfl hcs (by unfold WT;rw [hu];exact .inl rfl)
   ·have hx:xA cap=true:=(xE cap).2 (by unfold vZ;unfold maxLen at hmax;omega);obtain ⟨capA,hcapR,hcl,hc0⟩:∃ capA,zKR capA cap/\(len<=yN capA/\xA capA=true)/\(cap=0->capA=0) :=
     ⟨cap,by unfold zKR;rw [if_pos hx],⟨by have:=(xE cap).1 hx;unfold yN;rw [if_neg (by omega)];exact hle,hx⟩,fun e=>e⟩
    have fin:∀ {U₁:Inj} {Z₁:St} {rs:List Value} {c o:Nat} {arr:Array Value} {el:TypeId} {fr:Nat × Nat},Rep U₁ Z₁ w->Ro U₁ w->Sub U U₁->Le Z Z₁->w.heap[c]?=some (.cells arr el fr)->rs.length=len*P.cellsOf e ->
      (∀ i,i<len->WT P Z₁ n e ((rs.drop (i*P.cellsOf e)).take (P.cellsOf e)))->(∀ (j:Nat) v,rs[j]?=some v->∃ v',arr[o+j]?=some v'/\VR U₁ v v')->o+cap*P.cellsOf e<=arr.size ->
      (a=⟨c,o,none⟩\/(len=0/\capA=0/\cap=0))->yHT P w U Z cs' fun Z' cs=>WT P Z' (n+1) t cs:=by
     intro U₁ Z₁ rs c o arr el fr hr1 ho1 hs1 hl1 hc hlen hw hv hsz hA
     have hlo:len*P.cellsOf e<=cap*P.cellsOf e:=Nat.mul_le_mul_right _ hle
     obtain ⟨g1,g2⟩:=xZN hr1 ho1 hc (P.cellsOf e) (by omega) hv
     have hsub:=yDU hr1 c o (P.cellsOf e)
     refine ⟨_,_,[.slice (some ⟨Z₁.y,0,none⟩) len capA],g1,g2,hs1.trans hsub,hl1.trans (Le.add _ _), ?_, ?_⟩
     ·rw [hcs];refine .cons (.slice (L:=⟨c,0,o,P.cellsOf e⟩) (by simp [zIZ,yC]) (Nat.zero_le _) ?_ hcapR ?_) .nil
      ·rcases hA with rfl | hA
       ·exact .inl (by simp [Loc.at])
       ·exact .inr ⟨hA.1,by rw [hA.2.1];unfold yN;split <;> omega,hA.2.2⟩
      ·show o+(0-0)+cap*P.cellsOf e<=U₁.csz c;rw [ho1.csz _ _ _ _ hc];omega
     ·unfold WT;rw [hu];refine .inr ⟨Z₁.y,len,capA,rs,rfl,by omega,hcl,hlen,by rw [St.add_get,if_pos rfl],by simp,fun i hi=>(hw i hi).le (Le.add _ _)⟩
    by_cases hcap:cap=0
    ·subst hcap;have hl0:len=0:=by omega
     have hca:capA=0:=hc0 rfl;obtain ⟨c,arr,el,fr,hc⟩:=hrow a len 0 (by rw [hcs];simp);exact fin (rs:=[]) (o:=0) hr ho (Sub.refl _) (Le.refl _) hc (by rw [hl0];simp) (fun i hi=>by omega) (fun j v hj=>by simp at hj) (by omega) (.inr ⟨hl0,hca,rfl⟩)
    ·have hall:∀ i,i<cap->∃ x,(w.cells? 0 (a.add (i*P.cellsOf e)) (P.cellsOf e)).bind (DataW.trod enc P w 0 (fun _=>true) held m e)=some x:=by
      intro i hi;by_cases hil:i<len
      ·exact ⟨elems[i]'(by omega),by rw [hget i hil];simp⟩
      ·obtain ⟨r1,r2⟩:=hrest rfl;have:=r2 (i-len) (by omega);rw [show len+(i-len)=i by omega] at this;exact ⟨rest[i-len]'(by omega),by rw [this];simp⟩
     obtain ⟨x0,hx0⟩:=hall 0 (by omega);simp only [Option.bind_eq_some_iff] at hx0;obtain ⟨ch0,hc0,_⟩:=hx0;obtain ⟨_,hl0,hcell0⟩:=World.cells?_some hc0;have h00:=hcell0 0 hpos;have ha0:(a.add (0*P.cellsOf e)).add 0=a:=by simp [Addr.add]
     rw [ha0] at h00;have hsome:∃ v,w.cell? a=some v:=⟨ch0[0]'(by omega),by rw [h00];simp⟩;obtain ⟨v0,hv0⟩:=hsome;obtain ⟨arr,el,fr,hc,hsp⟩:∃ arr el fr,w.heap[a.block]?=some (.cells arr el fr)/\a.spot=none:=by
      unfold World.cell? at hv0;split at hv0
      ·rename_i arr el fr hc;refine ⟨arr,el,fr,hc, ?_⟩
       cases hs:a.spot with
       | none=>rfl
       | some s=>rw [hs] at hv0;simp at hv0
      ·cases hv0
     obtain ⟨U₁,Z₁,rs,r1,o1,s1,l1,n1,w1,v1⟩:=zZK hc hsp (fun fuel cs' x U Z=>ih e hp.2 fuel cs' x U Z) hr ho len (fun i hi=>hall i (by omega));refine fin r1 o1 s1 l1 hc n1 w1 v1 ?_ (.inl ?_)
     ·obtain ⟨x1,hx1⟩:=hall (cap-1) (by omega);simp only [Option.bind_eq_some_iff] at hx1;obtain ⟨ch1,hc1,_⟩:=hx1;obtain ⟨_,hl1,hcell1⟩:=World.cells?_some hc1;have h1:=hcell1 (P.cellsOf e-1) (by omega);rw [yRL hc hsp] at h1;have hb:a.off+(cap-1)*P.cellsOf e+(P.cellsOf e-1)<arr.size:=by
       rcases Nat.lt_or_ge (a.off+(cap-1)*P.cellsOf e+(P.cellsOf e-1)) arr.size with hlt | hge
       ·exact hlt
       ·rw [Array.getElem?_eq_none hge] at h1;have:ch1[P.cellsOf e-1]?=some (ch1[P.cellsOf e-1]'(by omega)):=by simp
        rw [this] at h1;cases h1
      have e1:(cap-1)*P.cellsOf e+P.cellsOf e=cap*P.cellsOf e:=by
       rw [show cap*P.cellsOf e=(cap-1+1)*P.cellsOf e by rw [Nat.sub_add_cancel (by omega)],Nat.add_mul,Nat.one_mul]
      omega
     ·cases a with | mk b o s=>simp at hsp;subst hsp;rfl
  ·rename_i fs;simp only [Bool.and_eq_true] at hp;obtain ⟨xs,m,rfl,_,hl,hxl,hget⟩:=DataW.trod_struct hu h;obtain ⟨U₁,Z₁,c,r1,o1,s1,l1,v1,w1⟩:=yOV (fuel:=m) ih hrow fs.toList 0 U Z (by rw [hl];exact hp.1) (fun f hf=>List.all_eq_true.1 hp.2 f hf) (fun f hf=>by
    obtain ⟨i,hi⟩:=List.getElem?_of_mem hf;have hi2:fs[i]?=some f:=by simpa using hi
    have hlt:i<xs.length:=by rw [hxl];exact (Array.getElem?_eq_some_iff.1 hi2).1
    exact ⟨xs[i],by rw [hget i f hi2];simp [hlt]⟩) hr ho
   refine ⟨U₁,Z₁,c,r1,o1,s1,l1,by simpa using v1, ?_⟩
   unfold WT;rw [hu];have hcl:c.length=cs'.length:=by have:=v1.length;simpa using this
   refine ⟨by rw [hcl,hl],fun f hf=>?_⟩
   obtain ⟨_,g2,g3⟩:=w1 f hf;exact ⟨by omega,by simpa using g3⟩
  ·cases hp
end
end Go.Lay

namespace Go.Lay
open Go

def zBB (P:Program) (R:Nat->Rec) (rd:Option Nat) (c:Code) (fr:Fr) (Z:St) (e:Exit) (fr':Fr) (Z':St):Prop:=∃ N0,∀ N,N0<=N->yQ P (R N) N rd c fr Z=some (e,fr',Z')
def zVN (P:Program) (R:Nat->Rec) (rd:Option Nat) (c:Code) (fr:Fr) (Z:St) (e:Exit) (fr':Fr) (Z':St):Prop :=
 ∃ N0,∀ N m,N0<=N->N0<=m->zDW (yQ P (R N) N rd c) m fr Z=some (e,fr',Z')
section
variable {P:Program} {R:Nat->Rec} {rd:Option Nat} {c:Code} {fr fr' fr₁:Fr} {Z Z' Z₁:St} {e:Exit}
theorem zVN.step (h:zBB P R rd c fr Z .normal fr₁ Z₁) (k:zVN P R rd c fr₁ Z₁ e fr' Z'):zVN P R rd c fr Z e fr' Z':=by
 obtain ⟨N1,h1⟩:=h;obtain ⟨N2,h2⟩:=k;refine ⟨N1+N2+1,fun N m hN hm=>?_⟩
 obtain ⟨m,rfl⟩:∃ m',m=m'+1:=⟨m-1,by omega⟩;simp only [zDW,h1 N (by omega)];exact h2 N m (by omega) (by omega)
theorem zVN.exit (h:zBB P R rd c fr Z e fr' Z') (he:e≠.normal):zVN P R rd c fr Z e fr' Z':=by
 obtain ⟨N1,h1⟩:=h;refine ⟨N1+1,fun N m hN hm=>?_⟩
 obtain ⟨m,rfl⟩:∃ m',m=m'+1:=⟨m-1,by omega⟩;simp only [zDW,h1 N (by omega)];split
 ·rename_i heq;cases heq;exact absurd rfl he
 ·rfl
end

section
variable {P:Program} {Z Z':St}
theorem Own.ld {b n k:Nat} {cs:List Value} {s:Option Nat} (h:Own Z b cs n) (hs:s=none) {t:TypeId} (ht:wJ P t=some false) {v:Value} (hv:cs[k]?=some v):zB P Z t ⟨b,k,s⟩=some v:=by subst hs;exact h.rw.ld ht hv
theorem Own.ldN {b n k m:Nat} {cs ds:List Value} (h:Own Z b cs n) {t:TypeId} (ht:wJ P t=some true) (hs:yV P t=some m) (hd:(cs.drop k).take m=ds) (hl:ds.length=m) (hk:k+m<=cs.length):zB P Z t ⟨b,k,none⟩=some (.agg ⟨ds⟩) :=
 h.rw.ldN ht hs hd hl hk

theorem Row.ld1 {a:Addr} {v:Value} (h:Row Z a [v]) {t:TypeId} (ht:wJ P t=some false):zB P Z t a=some v:=by
 have:=h.load1 (P:=P) ht (k:=0) (v:=v) rfl;simpa [zL] using this
theorem yI {n:Nat} {v:Value} (h:zW RD v=true):yU RD n v=true:=by
 have key:∀ (d:Nat) (v:Value),zW d v=true->yU d n v=true:=by
  intro d;induction d with
  | zero=>intro v h;simp [zW] at h
  | succ d ih =>
   intro v h;have lists:∀ (l:List Value),l.all (zW d)=true->l.all (yU d n)=true:=fun l hl=>List.all_eq_true.2 (fun x hx=>ih x (List.all_eq_true.1 hl x hx))
   cases v with
   | agg cs=>simp only [zW] at h;simp only [yU];exact lists _ h
   | tuple cs=>simp only [zW] at h;simp only [yU];exact lists _ h
   | iface t x=>simp only [zW] at h;simp only [yU];exact ih x h
   | pointer a=>cases a with | none=>rfl | some _=>simp [zW,uG] at h
   | slice a l c=>cases a with | none=>rfl | some _=>simp [zW,uG] at h
   | map a=>cases a with | none=>rfl | some _=>simp [zW,uG] at h
   | func fn f c =>
    cases fn with
    | func g=>simp only [zW,Bool.and_eq_true] at h;simp only [yU,Bool.and_eq_true];exact ⟨⟨trivial,lists _ h.1⟩,lists _ h.2⟩
    | _=>simp [zW,uG] at h
   | _=>rfl
 exact key RD v h
theorem zP {n:Nat} {a:Addr} (h:a.block<n):yU RD n (.pointer (some a))=true:=(wA _ _).2 h
theorem zOP {n l c:Nat} {a:Addr} (h:a.block<n):yU RD n (.slice (some a) l c)=true:=(wA _ _).2 h
theorem yK {n l c:Nat} {p:Option Addr} (h:∀ a,p=some a->a.block<n):yU RD n (.slice p l c)=true:=by
 cases p with
 | none=>rfl
 | some a=>exact zOP (h a rfl)
theorem zI {n:Nat}:zG n []:=rfl
theorem zE {n:Nat} {v:Value} {vs:List Value} (h:yU RD n v=true) (t:zG n vs):zG n (v::vs):=by
 unfold zG at t ⊢;rw [List.all_cons,h,t];rfl
theorem Le.own {b n:Nat} {ds:List Value} (h:Le Z Z') (hb:Z.y<=b):Le Z (Z'.own b ds n):=⟨h.y,fun c hc=>by
 show yH (Z'.put _ _).heap c=_;rw [St.put_get,if_neg (by omega)];exact h.get c hc⟩
theorem zIU {t n len:Nat} {vs:List Value} (h:SlV P Z t n none len vs):SlV P Z' t n none len vs:=⟨⟨h.1.1,h.1.2⟩,h.2⟩
theorem xN {t n len:Nat} {p:Option Addr} {vs:List Value} (h:SlV P Z t n p len vs):∀ a,p=some a->a.block<Z.y:=by
 intro a e;subst e;exact (show Row Z a (wV vs) from h.1.2).lt
theorem zET (xs ys:List Value):wV (xs++ys)=wV xs++wV ys:=by simp [wV]
theorem zBO (xs:List Int) (k:IntKind):wV (xs.map fun x=>.int k x)=xs.map fun x=>.int k x:=by
 induction xs with
 | nil=>rfl
 | cons x xs ih =>
  rw [List.map_cons,show (Value.int k x::xs.map fun x=>Value.int k x)=[Value.int k x]++xs.map fun x=>Value.int k x from rfl,zET,ih];rfl
theorem App.ge {n0 n len:Nat} {p:Option Addr} {c:Nat} {cs:List Value} (h:App Z n0 n (.slice p len c) len cs):∀ a,p=some a->n0<=a.block:=by
 intro a e;subst e;cases h with
 | more h hs hb hlt hl hp hsn=>exact hb
theorem xQK {st xt e n m k len n0:Nat} {a2:Addr} {p:Option Addr} {c:Nat} {cs xs:List Value} (T:AppT P st xt e n) (hA:App Z n0 n (.slice p len c) len cs) (hr:Row Z a2 xs) (hm:xs.length=m*n) (hp:0<m) (hroom:len+m<=1073741824)
  (hc:xs.all cellB=true) (hn0:n0<=Z.y):∃ p' c' Z',yM P st xt (.slice p len c) (.slice (some a2) m k) Z=some (.slice p' (len+m) c',Z')/\App Z' n0 n (.slice p' (len+m) c') (len+m) (cs++xs)/\Keep n0 Z Z':=by
 obtain ⟨v',Z',h1,h2,h3⟩:=yZS (k:=k) T hA hr hm hp hroom hc hn0;obtain ⟨p',c',rfl,_⟩:=h2.sl;exact ⟨p',c',Z',h1,h2,h3⟩
theorem App.slv {n0 n len t:Nat} {p:Option Addr} {c:Nat} {vs:List Value} (h:App Z n0 n (.slice p len c) len (wV vs)) (hl:vs.length=len) (he:∀ v∈vs,zHM P t n v):SlV P Z t n p len vs:=by
 obtain ⟨p',c',e,hs⟩:=h.sl;cases e
 exact ⟨hs,hl,he⟩
theorem App.lt {n0 n len:Nat} {p:Option Addr} {c:Nat} {cs:List Value} (h:App Z n0 n (.slice p len c) len cs):∀ a,p=some a->a.block<Z.y:=by
 intro a e;subst e;cases h with
 | more h hs hb hlt hl hp hsn=>exact hlt
theorem zRN {f:FuncId} {args:List Value} {v:Value} (h:xZP P f args Z.re v Z') (hl:Z.y<=Z'.low) (hv:zW RD v=true):zD P f args Z v Z:=by
 obtain ⟨N0,hN⟩:=h;refine ⟨N0,fun N hNN=>?_⟩
 have h1:=hN N hNN;unfold vW;rw [show (⟨Z.heap,Z.y,Z.y⟩:St)=Z.re from rfl,h1];show vX Z v Z'=_;unfold vX;rw [(zX _ _).2 hl,hv];rfl
structure New (Z Z':St):Prop where
 le:Le Z Z'
 low:∀ m,m<=Z.low->m<=Z.y->m<=Z'.low
theorem New.refl (Z:St):New Z Z:=⟨Le.refl _,fun _ h _=>h⟩
theorem New.trans {Z₁ Z₂ Z₃:St} (h:New Z₁ Z₂) (k:New Z₂ Z₃):New Z₁ Z₃:=⟨h.le.trans k.le,fun m h1 h2=>k.low m (h.low m h1 h2) (Nat.le_trans h2 h.le.y)⟩
theorem New.row (Z:St) (cs:List Value) (n:Nat):New Z (Z.row cs n):=⟨Le.row _ _ _,fun _ h _=>h⟩
theorem New.add (Z:St) (y:Blk):New Z (Z.add y):=⟨Le.add _ _,fun _ h _=>h⟩
theorem wAD {f:FuncId} {args:List Value} {v:Value} {Q:Value->St->Prop} (h:xZP P f args Z.re v Z') (hn:New Z.re Z') (hq:Q v Z') (hQ:∀ s s',Q v s->Le s s'->Q v s') (hr:zW RD v=true->Q v Z) :
  ∃ v Z'',zD P f args Z v Z''/\New Z Z''/\Q v Z'':=by
 obtain ⟨N0,hN⟩:=h;have h2:Z.y<=Z'.low:=hn.low _ (Nat.le_refl _) (Nat.le_refl _);have h3:Z.y<=Z'.y:=hn.le.y;cases hrv:zW RD v with
 | true =>
  refine ⟨v,Z,⟨N0,fun N hNN=>?_⟩,New.refl _,hr hrv⟩
  have h1:=hN N hNN;unfold vW;rw [show (⟨Z.heap,Z.y,Z.y⟩:St)=Z.re from rfl,h1];show vX Z v Z'=_;unfold vX;rw [(zX _ _).2 h2,hrv];rfl
 | false =>
  refine ⟨v,⟨Z'.heap,Z'.y,min Z.low Z'.low⟩,⟨N0,fun N hNN=>?_⟩,⟨⟨h3,fun b hb=>hn.le.get b hb⟩,fun m h4 h5=>?_⟩,hQ _ _ hq ⟨Nat.le_refl _,fun _ _=>rfl⟩⟩
  ·have h1:=hN N hNN;unfold vW;rw [show (⟨Z.heap,Z.y,Z.y⟩:St)=Z.re from rfl,h1];show vX Z v Z'=_;unfold vX;rw [hrv,Bool.and_false,cond_false,(zX _ _).2 h3,cond_true,wE,uU]
  ·show m<=min Z.low Z'.low;omega
theorem yE {a b:Int} (h:a<=b):leI a b=true:=(wU a b).2 h
theorem yG {a b:Int} (h:¬ a<=b):leI a b=false:=by rw [yJS];simp;omega
theorem zR {a b:Int} (h:a<b):ltI a b=true:=(zHF a b).2 h
theorem zT {a b:Int} (h:¬ a<b):ltI a b=false:=by rw [yJQ];simp;omega
theorem xL {a b:Int} (h:a=b):eqI a b=true:=(xCM a b).2 h
theorem xK {a b:Int} (h:¬ a=b):eqI a b=false:=by rw [Bool.eq_false_iff];exact fun e=>h ((xCM a b).1 e)
theorem uW {a b:Int} (h:¬ a=b):(!eqI a b)=true:=by rw [xK h];rfl
theorem uB {a b:Int} (h:a=b):(!eqI a b)=false:=by rw [xL h];rfl
end
end Go.Lay

namespace Go.Lay
open Go
section
variable {P:Program} {rec:Rec} {U:Inj} {Z Z':St} {w:World}

def xLF (aw:FuncId) (rec:Rec):Rec:=fun r args Z=>match r with
 | .func f=>match args with
  | []=>bif Nat.beq f aw then some (.bool true,Z) else rec (.func f) [] Z
  | a::l=>rec (.func f) (a::l) Z
 | .yield l=>rec (.yield l) args Z
def zVS (P:Program) (aw:FuncId) (N:Nat):Rec:=xLF aw (zV P N)
structure ShutF (P:Program) (aw:FuncId):Prop where
 ok : ∀ (U : Inj) (Z : St) (w : World), Rep U Z w → (∃ fn, P.funcs[aw]? = some fn ∧ fn.body.isSome = true ∧ fn.name ≠ "runtime.NumGoroutine") ∧ ∀ n, CallsIn (Fw none) n P aw ⟨[]⟩ w (zLB U Z w (.bool true) Z)
theorem yOA {aw:FuncId} (h:RecSound P rec) (hc:ShutF P aw):RecSound P (xLF aw rec):=by
 refine ⟨fun f args Z v Z' hr U w args' hrep ha=>?_,fun l args Z v Z' hr=>h.yield l args Z v Z' hr⟩
 cases args with
 | cons a l=>exact h.func f (a::l) Z v Z' hr U w args' hrep ha
 | nil =>
  have hr:(bif Nat.beq f aw then some (.bool true,Z) else rec (.func f) [] Z)=some (v,Z'):=hr;rcases zAM hr with ⟨hf,hr⟩ | ⟨_,hr⟩
  ·have hf:=Nat.eq_of_beq_eq_true hf;simp at hr;obtain ⟨rfl,rfl⟩:=hr;subst hf;cases ha
   exact hc.ok U Z w hrep
  ·exact h.func f [] Z v Z' hr U w args' hrep ha
theorem ySX (hP:ProgOk P) {aw:FuncId} (hc:ShutF P aw) (N:Nat):RecSound P (zVS P aw N):=yOA (zGU hP N) hc
theorem xHX (hP:ProgOk P) {l:List Ent} (hl:zLA P l) {N:Nat} {f:FuncId} (h:okB (zIG P (yPD l (zV P N)) N f [] xMO)=true):ShutF P f:=by
 refine ⟨fun U Z w hr=>?_⟩
 obtain ⟨Z',hb⟩:=xMM h;obtain ⟨h1,h2⟩:=zEW hP (zOA hP hl N) hb (xXP w) .nil;refine ⟨h1,fun n=>CallsIn.mono (h2 n) (fun e w' hR=>?_)⟩
 cases e with
 | returned v' =>
  obtain ⟨U',hv,hg⟩:=hR;have hs:∀ c,c<w.heap.size->w'.heap[c]?=w.heap[c]?:=fun c hc=>hg.pres.same c hc (fun b hb=>by simp [xBP] at hb)
  have hv:=hv.bool_inv;subst hv;exact ⟨U,.bool true,Ext.refl _ _ _,hr.grown hg.pres.size hs,⟨hg.pres.size,fun c hc _=>hs c hc,hg.pres.tape,hg.pres.os,hg.pres.output,hg.pres.fr⟩,Nat.le_refl _,Nat.le_refl _⟩
 | panicked _=>exact hR.elim
 | outgrown=>exact hR.elim
theorem xDG {aw:FuncId} {N:Nat}:vW (zVS P aw N) (.func aw) [] Z=some (.bool true,Z):=by
 unfold vW;have e:zVS P aw N (.func aw) [] ⟨Z.heap,Z.y,Z.y⟩=some (.bool true,⟨Z.heap,Z.y,Z.y⟩):=by
  show (bif Nat.beq aw aw then _ else _)=_;rw [Nat.beq_refl];rfl
 rw [e];show vX Z _ _=_;unfold vX;rw [(zX _ _).2 (Nat.le_refl _)];rfl

variable {H:Type} {enc:TypeId × Value->H} {held:Bool}
def WTs (P:Program) (Z:St) (n:Nat):List TypeId->List Value->Prop
 | [],[]=>True
 | t::ts,v::vs=>WT P Z n t v.cells.toList/\WTs P Z n ts vs
 | _,_=>False
theorem yWH {n:Nat} {t:TypeId} {v:Value} {d:DataW H} {ps:List MemPlace} (hp:zHB P n t=true) (h:DataW.Trod enc P w 0 (fun _=>true) held t v d ps) (hr:Rep U Z w) (ho:Ro U w) (hrow:zOR w v.cells.toList) :
  ∃ U' Z' av,Rep U' Z' w/\Ro U' w/\Sub U U'/\Le Z Z'/\VR U' av v/\WT P Z' n t av.cells.toList:=by
 obtain ⟨fuel,h⟩:=h;obtain ⟨U',Z',cs,r1,o1,s1,l1,v1,w1⟩:=yWI n t hp fuel _ _ U Z h hr ho hrow;have one:(∀ c,v≠.agg c)->v.cells.toList=[v]->∃ U' Z' av,Rep U' Z' w/\Ro U' w/\Sub U U'/\Le Z Z'/\VR U' av v/\WT P Z' n t av.cells.toList:=by
  intro hna e;rw [e] at v1;cases v1 with
  | cons hx hn =>
   cases hn
   rename_i x;refine ⟨U',Z',x,r1,o1,s1,l1,hx, ?_⟩
   have hc:=hx.cells;rw [e] at hc;have:x.cells.toList=[x]:=by
    cases x with
    | agg cs =>
     exfalso;cases hx with
     | atom hat=>exact absurd hat (by simp [uG])
     | agg _ _=>exact hna _ rfl
    | _=>rfl
   rw [this];exact w1
 cases v with
 | agg c =>
  refine ⟨U',Z',.agg ⟨cs⟩,r1,o1,s1,l1, ?_,w1⟩
  cases c with | mk l=>exact VR.agg' v1
 | _=>exact one (by simp) rfl
theorem yOW {n:Nat}:∀ {ts:List TypeId} {vs:List Value} {ds:List (DataW H)} {ps:List MemPlace} {U:Inj} {Z:St},DataW.TrodAll enc P w 0 (fun _=>true) held ts vs ds ps->(∀ t∈ts,zHB P n t=true)->Rep U Z w->Ro U w->(∀ v∈vs,zOR w v.cells.toList) ->
  ∃ U' Z' avs,Rep U' Z' w/\Ro U' w/\Le Z Z'/\Sub U U'/\VRs U' avs vs/\WTs P Z' n ts avs
 | [],[],[],ps,U,Z,h,_,hr,ho,_=>⟨U,Z,[],hr,ho,Le.refl _,Sub.refl _,.nil,trivial⟩
 | t::ts,v::vs,d::ds,ps,U,Z,h,hp,hr,ho,hrow=>by
  obtain ⟨p,q,h1,h2,_⟩:=h;obtain ⟨U1,Z1,av,r1,o1,s1,l1,v1,w1⟩:=yWH (hp t (by simp)) h1 hr ho (hrow v (by simp));obtain ⟨U2,Z2,avs,r2,o2,l2,s2,v2,w2⟩:=yOW h2 (fun t ht=>hp t (by simp [ht])) r1 o1 (fun v hv=>hrow v (by simp [hv]));exact ⟨U2,Z2,av::avs,r2,o2,l1.trans l2,s1.trans s2,.cons (v1.sub s2) v2,w1.le l2,w2⟩
 | [],_::_,_,_,_,_,h,_,_,_,_=>h.elim
 | _::_,[],_,_,_,_,h,_,_,_,_=>h.elim
 | [],[],_::_,_,_,_,h,_,_,_,_=>h.elim
 | _::_,_::_,[],_,_,_,h,_,_,_,_=>h.elim

theorem yGN {t:TypeId} {v:Value} (h:Value.okWide P w .any 0 t v):zOR w v.cells.toList:=by
  have cell:∀ {u:TypeId} {A:Addr} {len cap:Nat},Cell.okWide P w .any 0 u (.slice (some A) len cap)->∃ (c:Nat) (arr:Array Value) (el:TypeId) (fr:Nat × Nat),w.heap[c]?=some (.cells arr el fr):=by
    intro u A len cap hc;have hok:Cell.ok P w .any 0 u (.slice (some A) len cap):=by
      unfold Cell.okWide at hc;split at hc <;> first | exact hc | (rename_i heq;cases heq)
    unfold Cell.ok at hok;split at hok <;> first | (rename_i heq;cases heq;done) | skip
    all_goals first
      | (rename_i heq;cases heq;obtain ⟨_,_,_,_,row,cells,hs,_⟩:=hok
         unfold World.shape? at hs
         split at hs
         · rename_i c elem hh;exact ⟨_,_,_,_,hh⟩
         · cases hs)
      | exact hok.elim
      | skip
  intro A len cap hm;unfold Value.okWide at h;split at h
  · obtain ⟨cs,rfl,_,ts,_,_,hc⟩:=h;obtain ⟨i,hi⟩:=List.getElem?_of_mem hm;obtain ⟨u,_,hu⟩:=hc i _ (by simpa [Value.cells] using hi);exact cell hu
  · obtain ⟨cs,rfl,_,ts,_,_,hc⟩:=h;obtain ⟨i,hi⟩:=List.getElem?_of_mem hm;obtain ⟨u,_,hu⟩:=hc i _ (by simpa [Value.cells] using hi);exact cell hu
  · cases v with
    | slice a l c =>
      simp [Value.cells] at hm;obtain ⟨rfl,rfl,rfl⟩:=hm;exact cell h
    | agg cs =>
      exfalso;unfold Cell.okWide at h;split at h <;> first | (rename_i heq;cases heq;done) | skip
      unfold Cell.ok at h;split at h <;> first | (rename_i heq;cases heq;done) | exact h.elim | skip
    | _=>simp [Value.cells] at hm
end
end Go.Lay

namespace Go.Lay
open Go Go.RowKit
theorem zMU {W W':World} (h:Grown W W') {b:Nat} (hb:b<W.heap.size):W'.heap[b]?=W.heap[b]?:=by
 have:=h.1.2.2 b hb;split at this
 ·rename_i c t fr c' t' fr' h1 h2;obtain ⟨rfl,rfl,hs,hj⟩:=this;rw [h1,h2];have:c'=c:=Array.ext_getElem? (fun j=>hj j (fun f=>f));rw [this]
 ·rename_i h1 h2;rcases this with f | ⟨rfl,rfl⟩
  ·exact f.elim
  ·rw [h1,h2]
 ·exact this
theorem yCM {W W':World} (h:Grown W W') {p:MemPlace} (hp:p.block<W.heap.size):W.sameAt W' p:=by
 cases p with
 | cell b o=>exact World.cell?_of_block (w:=W) (zMU h hp)
 | map b=>exact zMU h hp
section
variable {H:Type} {enc:TypeId × Value->H} {P:Program} {w w':World} {b:Nat} {sp:Nat->Bool} {held:Bool}
theorem zML:∀ {ts:List TypeId} {vs:List Value} {ds:List (DataW H)} {ps:List MemPlace},DataW.TrodAll enc P w b sp held ts vs ds ps->(∀ p∈ps,w.sameAt w' p)->DataW.TrodAll enc P w' b sp held ts vs ds ps
 | [],[],[],_,h,_=>h
 | _::_,_::_,_::_,_,⟨p,q,⟨n,h1⟩,h2,e⟩,hs=>⟨p,q,⟨n,DataW.trod_carry _ _ _ _ h1 (fun x hx=>hs x (by rw [e];exact List.mem_append_left _ hx))⟩,zML h2 (fun x hx=>hs x (by rw [e];exact List.mem_append_right _ hx)),e⟩
theorem xIO (K:Kids P (· < P.types.size)) (hz:∀ (t:Nat) (e:TypeId),t<P.types.size->P.underlying t=some (.slice e)->0<P.cellsOf e) {ts:List TypeId} {vs:List Value} {ds:List (DataW H)} {ps:List MemPlace}
  (hT:∀ t∈ts,t<P.types.size) (h:DataW.TrodAll enc P w 0 (fun _=>true) true ts vs ds ps) (hg:Grown w w') (hlt:∀ p∈ps,p.block<w.heap.size) (hs:∀ p∈ps,sp p.block=true):DataW.TrodAll enc P w' 0 sp true ts vs ds ps :=
 zML (DataW.TrodAll.respare K hz hT h hs) (fun p hp=>yCM hg (hlt p hp))
end
end Go.Lay

namespace Go.Lay
open Go
section
variable {P:Program} {R:Nat->Rec} {rd:Option Nat} {c:Code} {fr fr':Fr} {Z Z':St} {e:Exit} {aw:FuncId}
def xAG (P:Program) (l:Nat) (args:List Value) (Z:St) (v:Value) (Z':St):Prop:=∃ N0,∀ N,N0<=N->vW (zV P N) (.yield l) args Z=some (v,Z')
end
end Go.Lay

namespace Go.Lay
open Go
section
variable {P:Program} {Z Z':St} {cs:List Value}
end
end Go.Lay

namespace Go.Lay
open Go
structure Only (S:Nat->Prop) (Z Z':St):Prop where
 y:Z.y<=Z'.y
 get:∀ b,b<Z.y->¬ S b->yH Z'.heap b=yH Z.heap b
 low:∀ m,m<=Z.low->m<=Z.y->(∀ b,b<Z.y->S b->m<=b)->m<=Z'.low
section
variable {P:Program} {S T:Nat->Prop} {Z Z' Z₁ Z₂ Z₃:St} {cs:List Value} {n b:Nat}
theorem Only.refl (S:Nat->Prop) (Z:St):Only S Z Z:=⟨Nat.le_refl _,fun _ _ _=>rfl,fun _ h _ _=>h⟩
theorem Only.trans (h:Only S Z₁ Z₂) (k:Only T Z₂ Z₃) (hT:∀ b,b<Z₁.y->T b->S b) (hT2:∀ m,m<=Z₁.y->(∀ b,b<Z₁.y->S b->m<=b)->∀ b,b<Z₂.y->T b->m<=b:=by intro m h1 h2 b h3 h4;(first | exact h4.elim | omega)):Only S Z₁ Z₃ :=
 ⟨Nat.le_trans h.y k.y,fun b hb hs=>(k.get b (Nat.lt_of_lt_of_le hb h.y) (fun ht=>hs (hT b hb ht))).trans (h.get b hb hs),fun m h1 h2 h3=>k.low m (h.low m h1 h2 h3) (Nat.le_trans h2 h.y) (hT2 m h2 h3)⟩
theorem Only.trans' (h:Only S Z₁ Z₂) (k:Only T Z₂ Z₃) (hT:∀ b,b<Z₂.y->T b->S b\/Z₁.y<=b):Only S Z₁ Z₃ :=
 ⟨Nat.le_trans h.y k.y,fun b hb hs=>(k.get b (Nat.lt_of_lt_of_le hb h.y) (fun ht=>(hT b (Nat.lt_of_lt_of_le hb h.y) ht).elim hs (fun h=>by omega))).trans (h.get b hb hs),fun m h1 h2 h3=>k.low m (h.low m h1 h2 h3) (Nat.le_trans h2 h.y) (fun b hb ht=>by
  rcases hT b hb ht with h4 | h4
  ·by_cases hb':b<Z₁.y
   ·exact h3 b hb' h4
   ·omega
  ·omega)⟩
theorem Only.mono (h:Only S Z Z') (hT:∀ b,b<Z.y->S b->T b):Only T Z Z':=⟨h.y,fun b hb hs=>h.get b hb (fun k=>hs (hT b hb k)),fun m h1 h2 h3=>h.low m h1 h2 (fun b hb k=>h3 b hb (hT b hb k))⟩
theorem New.only (h:New Z Z'):Only S Z Z':=⟨h.le.y,fun b hb _=>h.le.get b hb,fun m h1 h2 _=>h.low m h1 h2⟩
theorem Only.add (Z:St) (y:Blk):Only S Z (Z.add y):=(New.add Z y).only
theorem Only.row (Z:St) (cs:List Value) (n:Nat):Only S Z (Z.row cs n):=(New.row Z cs n).only
theorem Only.put {y:Blk} (hs:Z.y<=b\/S b):Only S Z (Z.put b y):=⟨Nat.le_refl _,fun c hc hs'=>by rw [St.put_get,if_neg (by rintro rfl;rcases hs with h | h;omega;exact hs' h)],fun m h1 h2 h3=>by
 simp only [St.put_low];rcases hs with h | h
 ·omega
 ·by_cases hb:b<Z.y
  ·have:=h3 b hb h;omega
  ·omega⟩
theorem Only.own (hs:Z.y<=b\/S b):Only S Z (Z.own b cs n):=Only.put hs
theorem Only.re (Z:St):Only S Z Z.re:=⟨Nat.le_refl _,fun _ _ _=>rfl,fun _ _ h _=>h⟩
theorem Only.own' (h:Only S Z Z') (k:Own Z b cs n) (hs:¬ S b):Own Z' b cs n:=⟨by rw [h.get b k.lt hs];exact k.get,Nat.lt_of_lt_of_le k.lt h.y⟩
theorem Only.rw' {a:Addr} (h:Only S Z Z') (k:Row Z a cs) (hs:¬ S a.block):Row Z' a cs:=⟨by
 have:=k.rd
 unfold yP at this ⊢
 rw [h.get _ k.lt hs];exact this,Nat.lt_of_lt_of_le k.lt h.y⟩
theorem Only.slp' {len:Nat} {p:Option Addr} (h:Only S Z Z') (k:SlP Z n p len cs) (hs:∀ a,p=some a->¬ S a.block):SlP Z' n p len cs:=by
 refine ⟨k.1, ?_⟩
 cases p with
 | none=>exact k.2
 | some a=>exact h.rw' (show Row Z a cs from k.2) (hs a rfl)
theorem Only.slv' {t len:Nat} {p:Option Addr} {vs:List Value} (h:Only S Z Z') (k:SlV P Z t n p len vs) (hs:∀ a,p=some a->¬ S a.block):SlV P Z' t n p len vs:=⟨h.slp' k.1 hs,k.2⟩
theorem Only.app' {n0 len:Nat} {v:Value} (h:Only S Z Z') (k:App Z n0 n v len cs) (hs:∀ a l c,v=.slice (some a) l c->¬ S a.block):App Z' n0 n v len cs:=by
 cases k with
 | nil=>exact .nil
 | more g1 g2 g3 g4 g5 g6 g7=>exact .more (by rw [h.get _ g4 (hs _ _ _ rfl)];exact g1) g2 g3 (Nat.lt_of_lt_of_le g4 h.y) g5 g6 g7
theorem Own.low {m:Nat} (h:Own Z b cs n):Own ⟨Z.heap,Z.y,m⟩ b cs n:=⟨h.get,h.lt⟩
def xZQ (P:Program) (R:Nat->Rec) (g:Operand) (ps:Array Tmp) (as bo:Code) (fr:Fr) (Z:St) (e:Exit) (fr':Fr) (Z':St):Prop:=∃ N0,∀ N,N0<=N->zNN (R N) none g ps as bo fr Z=some (e,fr',Z')
def xDA (ms:List Nat) (Z Z':St):Prop:=zOT ms Z fun s=>s=Z'
theorem zNF:∀ {ms:List Nat} {Z:St} {K:St->Prop},xDA ms Z Z'->K Z'->zOT ms Z K
 | [],_,_,h,k=>by cases h;exact k
 | _::_,_,_,h,k=>⟨h.1,zNF h.2 k⟩
theorem zPA:∀ {ms:List Nat} {Z:St},(∀ d∈ms,yH Z.heap d=some .defd)->ms.Nodup->∃ Z',xDA ms Z Z'/\Z'.y=Z.y/\(∀ b,b ∉ ms->yH Z'.heap b=yH Z.heap b)/\∀ m,m<=Z.low->(∀ d∈ms,m<=d)->m<=Z'.low
 | [],Z,_,_=>⟨Z,rfl,rfl,fun _ _=>rfl,fun _ h _=>h⟩
 | d::ms,Z,h,hn=>by
  have hn:=List.nodup_cons.1 hn;obtain ⟨Z',h1,h2,h3,h4⟩:=zPA (ms:=ms) (Z:=Z.shut d) (fun c hc=>by
   rw [St.shut_get,if_neg (by rintro rfl;exact hn.1 hc)];exact h c (by simp [hc])) hn.2
  refine ⟨Z',⟨h d (by simp),h1⟩,h2,fun b hb=>?_,fun m hm hd=>h4 m ?_ (fun c hc=>hd c (by simp [hc]))⟩
  ·simp at hb;rw [h3 b hb.2,St.shut_get,if_neg hb.1]
  ·have:=hd d (by simp);simp;omega
end
end Go.Lay

namespace Go.Lay
open Go
section
variable {P:Program} {Z Z':St} {cs:List Value}
def AtP (p:Option Addr) (b:Nat):Prop:=∃ a,p=some a/\a.block=b
theorem AtP.none {b:Nat}:¬ AtP none b:=by rintro ⟨a,h,_⟩;cases h
theorem yHK {st xt e n m k len n0:Nat} {a2:Addr} {p:Option Addr} {c:Nat} {xs:List Value} (T:AppT P st xt e n) (hA:App Z n0 n (.slice p len c) len cs) (hr:Row Z a2 xs) (hm:xs.length=m*n) (hp:0<m) (hroom:len+m<=1073741824)
  (hc:xs.all cellB=true) (hn0:n0<=Z.y):∃ p' c' Z',yM P st xt (.slice p len c) (.slice (some a2) m k) Z=some (.slice p' (len+m) c',Z')/\App Z' n0 n (.slice p' (len+m) c') (len+m) (cs++xs)/\Only (AtP p) Z Z'/\(∀ b,AtP p' b->AtP p b\/Z.y<=b):=by
 obtain ⟨p',c',Z',h1,h2,h3⟩:=xQK (k:=k) T hA hr hm hp hroom hc hn0;refine ⟨p',c',Z',h1,h2, ?_⟩
 obtain ⟨xd,hxd,hxi⟩:=T.src;obtain ⟨ei,z,hei,hz,hby,hrz,hzl⟩:=T.info;have hrd:=hr.rd;rw [hm] at hrd;have hsrc:zAC Z n z xd (.slice (some a2) m k)=some (m,xs):=by
  unfold zAC;cases xd with
  | int _=>cases hxi
  | _=>simp only [wH,hrd,Option.map_some]
 have hcond:(zAH (len+m) n ei.bytes && xs.all cellB && Nat.beq xs.length (m*n) && zW RD z && Nat.beq z.cells.toList.length n)=true:=by
  unfold zAH;rw [(zX _ _).2 hroom,(zX _ _).2 T.le,(zX _ _).2 hby,hc,hm,Nat.beq_refl,hrz,hzl];rfl
 have hble:∀ x:Nat,Nat.ble (x+m) x=false:=fun x=>by rw [Bool.eq_false_iff];intro e;have:=(zX _ _).1 e;omega
 cases hA with
 | nil =>
  have hc0:yN 0=0:=by unfold yN;have:=vV;rw [if_neg (by omega)]
  have hc1:xA 0=true:=(xE 0).2 vV;unfold yM at h1;simp only [T.el,hxd,hei,hz,hsrc,hcond,cond_true,vE,hc0,hble,cond_false,hc1,Nat.beq_refl,yO,Option.some.injEq,Prod.mk.injEq,Value.slice.injEq] at h1;obtain ⟨⟨rfl,_,_⟩,rfl⟩:=h1;exact ⟨Only.add _ _,fun b' hb=>.inr (by obtain ⟨a,e,rfl⟩:=hb;cases e;exact Nat.le_refl _)⟩
 | @more b' s nx _ _ sp log h hs hb hlt hl hpp hsn =>
  have hex:wW ((s,cs.length)::log) (yC ⟨b',0,sp⟩)=some cs.length:=by
   have:Nat.beq s (yC ⟨b',0,sp⟩)=true:=by unfold yC;simp only [hs];exact Nat.beq_refl _
   simp only [wW,this,cond_true]
  have hlf:wL ((s,cs.length)::log) (yC ⟨b',0,sp⟩)=(s,cs.length)::log:=by
   have:Nat.beq s (yC ⟨b',0,sp⟩)=true:=by unfold yC;simp only [hs];exact Nat.beq_refl _
   simp only [wL,this,cond_true]
  have hg:(Nat.beq len len && Nat.beq (0+len*n) cs.length && Nat.beq n n && !false && Nat.blt 0 n)=true:=by
   rw [Nat.beq_refl,Nat.zero_add,hl,Nat.beq_refl,Nat.beq_refl,(wA 0 n).2 T.pos];rfl
  unfold yM at h1;simp only [T.el,hxd,hei,hz,hsrc,hcond,cond_true,vE,zAK,hble,cond_false,zFI,zIB,h,hex,hg,zEC,wE,St.write_eq,hlf,Option.some.injEq,Prod.mk.injEq,Value.slice.injEq] at h1;obtain ⟨⟨rfl,_,_⟩,rfl⟩:=h1;exact ⟨Only.put (.inr ⟨_,rfl,rfl⟩),fun b'' hb=>.inl (by obtain ⟨a,e,rfl⟩:=hb;cases e;exact ⟨_,rfl,rfl⟩)⟩
theorem Own.ldI {b n i:Nat} {t:TypeId} {v:Value} (h:Own Z b cs n) (ht:wJ P t=some false) (hi:cs[i]?=some v):zB P Z t (zL ⟨b,0,none⟩ (Int.toNat (i:Int)*1))=some v:=by
 rw [Int.toNat_natCast,Nat.mul_one];have:=h.rw.load1 (P:=P) ht (k:=i) hi;exact this
theorem Own.stI {b n i:Nat} {t:TypeId} {v:Value} (h:Own Z b cs n) (hv:v.cells.toList=[v]) (hs:yV P t=some 1) (hc:cellB v=true) (hi:i<cs.length) :
  zQ P (evL [.pointer (some (zL ⟨b,0,none⟩ (Int.toNat (i:Int)*1))),v]) Z (.store t (.tmp 0) (.tmp 1))=some (undef,Z.own b (cs.set i v) n):=by
 have e:zL ⟨b,0,none⟩ (Int.toNat (i:Int)*1)=⟨b,i,none⟩:=by rw [Int.toNat_natCast,Nat.mul_one];simp [zL]
 rw [e];refine h.store (k:=i) hv hs (by simp [hc]) (by simp;omega) ?_
 rw [List.set_eq_take_append_cons_drop,if_pos hi];rfl
end
end Go.Lay

namespace Go.Lay
open Go
def yJU:Value->Bool
 | .tuple ⟨[]⟩=>true
 | _=>false
theorem yWS {v:Value} (h:yJU v=true):v=undef:=by
 unfold yJU at h;split at h
 ·rfl
 ·cases h
def shp:Nat->Bool->Tr Value->Bool
 | 0,_,.leaf=>true
 | d+1,c,.node (some v) l r=>(c || yJU v) && (shp d false l && shp d true r)
 | _,_,_=>false
def zDJ:List Bool->Nat
 | []=>0
 | b::p=>(bif b then 1 else 0)+2*zDJ p
def xPW:Bool->List Bool->Prop
 | c,[]=>c=true
 | _,b::p=>xPW b p
theorem yTF {g:Nat->Value}:∀ (d:Nat) (c:Bool) (t:Tr Value) (w a:Nat),shp d c t=true->(∀ p v,xPW c p->Tr.getP p t=some v->g (a+w*zDJ p)=v)->t=trF g d w a c
 | 0,c,.leaf,w,a,_,_=>rfl
 | 0,c,.node _ _ _,w,a,h,_=>by simp [shp] at h
 | d+1,c,.leaf,w,a,h,_=>by simp [shp] at h
 | d+1,c,.node none l r,w,a,h,_=>by simp [shp] at h
 | d+1,c,.node (some v) l r,w,a,h,hg=>by
  simp only [shp,Bool.and_eq_true] at h;obtain ⟨h1,h2,h3⟩:=h;have e1:v=bif c then g a else undef:=by
   cases c with
   | true =>
    have:=hg [] v rfl rfl;simp [zDJ] at this;simp [this]
   | false=>simpa using yWS (by simpa using h1)
  have e2:=yTF d false l (w*2) a h2 (fun p x hp hx=>by
   have:=hg (false::p) x (by cases p <;> exact hp) hx;simp [zDJ] at this;rw [<- this];congr 1;rw [Nat.mul_assoc])
  have e3:=yTF d true r (w*2) (a+w) h3 (fun p x hp hx=>by
   have:=hg (true::p) x (by cases p <;> exact hp) hx;simp only [zDJ,cond_true] at this;rw [<- this];congr 1;rw [Nat.mul_add,Nat.mul_one,Nat.mul_assoc,Nat.add_assoc])
  rw [e2,e3,e1];rfl
theorem yRP:∀ (p:List Bool),xPW true p->∀ f,zDJ p<=f->bits f (zDJ p)=p
 | [],_,f,_=>by
  cases f with
  | zero=>rfl
  | succ f=>simp [bits,zDJ]
 | b::p,hp,f,hf=>by
  have hp:xPW b p:=hp;have hpos:0<(bif b then 1 else 0)+2*zDJ p:=by
   cases p with
   | nil =>
    have:b=true:=hp;subst this;simp [zDJ]
   | cons b2 q =>
    have key:∀ (q:List Bool) (b:Bool),xPW b q->b=true\/0<zDJ q:=by
     intro q;induction q with
     | nil=>intro b h;exact .inl h
     | cons c q ih =>
      intro b h;rcases ih c h with h1 | h1
      ·right;simp [zDJ,h1];omega
      ·right;simp only [zDJ];omega
    rcases key q b2 hp with h1 | h1
    ·simp [zDJ,h1];omega
    ·simp only [zDJ];omega
  simp only [zDJ] at hf ⊢;match f with
  | 0=>omega
  | f+1 =>
   have ih:bits f (zDJ p)=p:=by
    cases p with
    | nil=>cases f <;> simp [bits,zDJ]
    | cons b2 q=>exact yRP (b2::q) hp f (by cases b <;> simp at hf <;> omega)
   have hb:Nat.beq ((bif b then 1 else 0)+2*zDJ p) 0=false:=by
    rw [Bool.eq_false_iff];intro e;have:=Nat.eq_of_beq_eq_true e;omega
   have h2:((bif b then 1 else 0)+2*zDJ p) / 2=zDJ p:=by cases b <;> simp <;> omega
   have h3:Nat.beq (((bif b then 1 else 0)+2*zDJ p) % 2) 1=b:=by
    cases b
    ·rw [Bool.eq_false_iff];intro e;have:=Nat.eq_of_beq_eq_true e;simp at this
    ·have:((bif true then 1 else 0)+2*zDJ p) % 2=1:=by simp
     rw [this];rfl
   simp only [bits,hb,cond_false,h3,h2,ih]
def yJY (n:Nat) (f:Tm):Bool:=Nat.beq f.n n && shp ((way n).length+1) true f.t
def AG (f:Tm):List (Nat × Value)->Prop
 | []=>True
 | (i,v)::l=>f.nth i=v/\AG f l
def ARf:List (Nat × Value)->Prop
 | []=>True
 | (_,v)::l=>v=v/\ARf l
theorem arf:∀ l:List (Nat × Value),ARf l
 | []=>trivial
 | (_,_)::l=>⟨rfl,arf l⟩
theorem xWO {f:Tm}:∀ {l:List (Nat × Value)},AG f l->ov l f.nth=f.nth
 | [],_=>rfl
 | (i,v)::l,h=>by
  have ih:=xWO h.2;funext j;unfold ov;cases hb:Nat.beq i j with
  | false=>rw [cond_false,ih]
  | true=>rw [cond_true,<- Nat.eq_of_beq_eq_true hb,h.1]
theorem yQJ {n:Nat} {f:Tm} {l:List (Nat × Value)} (h:yJY n f=true) (hl:AG f l):f=Fm n (ov l f.nth):=by
 unfold yJY at h;simp only [Bool.and_eq_true] at h;obtain ⟨h1,h2⟩:=h;have h1:=Nat.eq_of_beq_eq_true h1;subst h1;rw [xWO hl];have:=yTF (g:=f.nth) ((way f.n).length+1) true f.t 1 0 h2 (fun p v hp hv=>by
  rw [Nat.zero_add,Nat.one_mul];unfold Tm.nth way;rw [yRP p hp _ (Nat.le_refl _),hv])
 cases f with
 | mk n t=>unfold Fm;exact congrArg (Tm.mk n) this

def zCR (R:Nat->Rec):zRD:=fun r args Z v Z'=>∃ N0,∀ N,N0<=N->vW (R N) r args Z=some (v,Z')
def ySC (n:Nat):List Alt->Exit->Fr->St->Prop
 | [],_,_,_=>False
 | a::as,e,fr,Z=>(e=a.e/\∃ t g,fr=⟨Fm n (ov (a.l t) g),a.ms t⟩/\a.Q t Z)\/ySC n as e fr Z
def ySB:List (Exit × (St->Prop))->Exit->St->Prop
 | [],_,_=>False
 | a::as,e,Z=>(e=a.1/\a.2 Z)\/ySB as e Z
def yHV (n:Nat):List Alt->(Exit->Fr->St->Prop)->Prop
 | [],_=>True
 | a::as,K=>(∀ (t:a.T) (g:Nat->Value) (Z:St),a.Q t Z->K a.e ⟨Fm n (ov (a.l t) g),a.ms t⟩ Z)/\yHV n as K
def xAF (n:Nat) (l:List (Nat × Value)) (ms:List Nat):List (Exit × (St->Prop))->(Exit->Fr->St->Prop)->Prop
 | [],_=>True
 | a::as,K=>(∀ (g:Nat->Value) (Z:St),a.2 Z->K a.1 ⟨Fm n (ov l g),ms⟩ Z)/\xAF n l ms as K
theorem zSU {n:Nat} {K:Exit->Fr->St->Prop} {e:Exit} {fr:Fr} {Z:St}:∀ {l:List Alt},yHV n l K->ySC n l e fr Z->K e fr Z
 | [],_,h=>h.elim
 | a::as,hc,h=>by
  rcases h with ⟨rfl,t,g,rfl,hq⟩ | h
  ·exact hc.1 t g Z hq
  ·exact zSU hc.2 h
theorem yAY {n:Nat} {l0:List (Nat × Value)} {ms:List Nat} {K:Exit->Fr->St->Prop} {e:Exit} {g:Nat->Value} {Z:St}:∀ {l:List (Exit × (St->Prop))},xAF n l0 ms l K->ySB l e Z->K e ⟨Fm n (ov l0 g),ms⟩ Z
 | [],_,h=>h.elim
 | a::as,hc,h=>by
  rcases h with ⟨rfl,hq⟩ | h
  ·exact hc.1 g Z hq
  ·exact yAY hc.2 h
section
variable (P:Program) (R:Nat->Rec)
def yJ (rd:Option Nat) (c:Code) (n:Nat) (l:List (Nat × Value)) (ms:List Nat) (alts:List Alt) (Z:St):Prop :=
 ∀ g:Nat->Value,∃ e fr' Z',zBB P R rd c ⟨Fm n (ov l g),ms⟩ Z e fr' Z'/\ySC n alts e fr' Z'
def yS (rd:Option Nat) (c:Code) (n:Nat) (l:List (Nat × Value)) (ms:List Nat) (alts:List Alt) (Z:St):Prop :=
 ∀ g:Nat->Value,∃ e fr' Z',zVN P R rd c ⟨Fm n (ov l g),ms⟩ Z e fr' Z'/\ySC n alts e fr' Z'
def zTL (gx:Operand) (ps:Array Tmp) (a b:Code) (n:Nat) (l:List (Nat × Value)) (alts:List (Exit × (St->Prop))) (Z:St):Prop :=
 ∀ (g:Nat->Value) (ms:List Nat),∃ e Z',xZQ P R gx ps a b ⟨Fm n (ov l g),ms⟩ Z e ⟨Fm n (ov l g),Z.y::ms⟩ Z'/\ySB alts e Z'
def wpE (rd:Option Nat):Code->List Ans->Fr->St->(Exit->Fr->St->List Ans->Prop)->Prop
 | .skip,as,fr,Z,K=>K .normal fr Z as
 | .label _,as,fr,Z,K=>K .normal fr Z as
 | .ret,as,fr,Z,K=>K .ret fr Z as
 | .exit id,as,fr,Z,K=>K (.exit id) fr Z as
 | .seq x y,as,fr,Z,K=>wpE rd x as fr Z fun e fr Z as=>match e with
  | .normal=>wpE rd y as fr Z K
  | e=>K e fr Z as
 | .cond c x y,as,fr,Z,K=>match as with
  | .cut n l alts::_=>(yJY n fr.f=true/\AG fr.f l/\yJ P R rd (.cond c x y) n l fr.marks alts Z)/\yHV n alts fun e fr Z=>∃ as,K e fr Z as
  | as=>match yF fr.f c with
   | .bool true=>wpE rd x as fr Z K
   | .bool false=>wpE rd y as fr Z K
   | _=>False
 | .block id c,as,fr,Z,K=>match as with
  | .cut n l alts::_=>(yJY n fr.f=true/\AG fr.f l/\yJ P R rd (.block id c) n l fr.marks alts Z)/\yHV n alts fun e fr Z=>∃ as,K e fr Z as
  | as=>wpE rd c as fr Z fun e fr Z as=>match e with
   | .exit i=>match Nat.beq i id with
    | true=>K .normal fr Z as
    | false=>K (.exit i) fr Z as
   | e=>K e fr Z as
 | .scope c,as,fr,Z,K=>wpE rd c as fr Z K
 | .region _ ops d,as,fr,Z,K=>zIL P (zCR R) ops d as fr Z K
 | .loop c,as,fr,Z,K=>match as with
  | .lf n l alts::_=>(yJY n fr.f=true/\AG fr.f l/\yS P R rd c n l fr.marks alts Z)/\yHV n alts fun e fr Z=>∃ as,K e fr Z as
  | _=>False
 | .rangeFunc g ps a b,as,fr,Z,K=>match as,rd with
  | .rf n l alts::_,none=>(yJY n fr.f=true/\AG fr.f l/\zTL P R g ps a b n l alts Z)/\xAF n l (Z.y::fr.marks) alts fun e fr Z=>∃ as,K e fr Z as
  | _,_=>False
 | .goto _,_,_,_,_=>False
 | .refuse _,_,_,_,_=>False
end
section
variable {P:Program} {R:Nat->Rec} {rd:Option Nat}
theorem zLF {C:zRD} {f:Tm} {Z:St} {o:Op} {as:List Ans} {K K':Value->St->List Ans->Prop} (h:zXG P C f Z o as K) (hk:∀ v s a,K v s a->K' v s a):zXG P C f Z o as K':=by
 unfold zXG at h ⊢;repeat' split at h
 all_goals first
  | exact h.elim
  | (simp only [*];exact ⟨h.1,hk _ _ _ h.2⟩)
  | (simp only [*];exact hk _ _ _ h)
  | exact ⟨h.1,hk _ _ _ h.2⟩
  | exact hk _ _ _ h
abbrev At3 (v:Value) (Z':St) (as':List Ans):Value->St->List Ans->Prop:=fun v2 s2 a2=>v2=v/\s2=Z'/\a2=as'
theorem yDL {f:Tm} {Z:St} {o:Op} {as:List Ans} {K:Value->St->List Ans->Prop} (h:zXG P (zCR R) f Z o as K):∃ v Z' as',K v Z' as'/\∃ N0,∀ N,N0<=N->zXG P (zVC (R N)) f Z o as (At3 v Z' as'):=by
 unfold zXG at h;unfold zXG;repeat' split at h
 all_goals first
  | exact h.elim
  | (obtain ⟨⟨N0,hN⟩,hk⟩:=h;exact ⟨_,_,_,hk,N0,fun N hl=>⟨hN N hl,rfl,rfl,rfl⟩⟩)
  | exact ⟨_,_,_,h,0,fun N _=>⟨rfl,rfl,rfl⟩⟩
  | exact ⟨_,_,_,h.2,0,fun N _=>by simp only [*];exact ⟨h.1,rfl,rfl,rfl⟩⟩
  | exact ⟨_,_,_,h,0,fun N _=>by simp only [*];exact ⟨rfl,rfl,rfl⟩⟩
  | exact ⟨_,_,_,h.2,0,fun N _=>⟨h.1,rfl,rfl,rfl⟩⟩
theorem zGN {ops:Array Oper}:∀ (rest:List Oper) (as:List Ans) (f:Tm) (Z:St) (l:List Seen) (K:Tm->St->List Seen->List Ans->Prop),zFL P (zCR R) ops rest as f Z l K ->
  ∃ f' Z' l' as',K f' Z' l' as'/\∃ N0,∀ N,N0<=N->zFL P (zVC (R N)) ops rest as f Z l fun f2 s2 l2 a2=>f2=f'/\s2=Z'/\l2=l'/\a2=as'
 | [],as,f,Z,l,K,h=>⟨f,Z,l,as,h,0,fun _ _=>⟨rfl,rfl,rfl,rfl⟩⟩
 | o::rest,as,f,Z,l,K,h=>by
  unfold zFL at h;unfold zFL;split at h
  ·rename_i hg;obtain ⟨v,Z1,as1,h1,N1,k1⟩:=yDL h;obtain ⟨f',Z',l',as',h2,N2,k2⟩:=zGN rest _ _ _ _ _ h1;refine ⟨f',Z',l',as',h2,N1+N2,fun N hN=>?_⟩
   try simp only [hg]
   refine zLF (k1 N (by omega)) ?_
   rintro _ _ _ ⟨rfl,rfl,rfl⟩;exact k2 N (by omega)
  ·rename_i hg;obtain ⟨f',Z',l',as',h2,N2,k2⟩:=zGN rest _ _ _ _ _ h;exact ⟨f',Z',l',as',h2,N2,fun N hN=>by (try simp only [hg]);exact k2 N hN⟩
  ·exact h.elim
theorem zIN {ops:Array Oper}:∀ (rest:List Oper) (as:List Ans) (f:Tm) (Z:St) (l:List Lk) (K:Tm->St->List Lk->List Ans->Prop),zCL P (zCR R) ops rest as f Z l K ->
  ∃ f' Z' l' as',K f' Z' l' as'/\∃ N0,∀ N,N0<=N->zCL P (zVC (R N)) ops rest as f Z l fun f2 s2 l2 a2=>f2=f'/\s2=Z'/\l2=l'/\a2=as'
 | [],as,f,Z,l,K,h=>⟨f,Z,l,as,h,0,fun _ _=>⟨rfl,rfl,rfl,rfl⟩⟩
 | o::rest,as,f,Z,l,K,h=>by
  unfold zCL at h;unfold zCL;split at h
  ·rename_i hg;obtain ⟨v,Z1,as1,h1,N1,k1⟩:=yDL h;obtain ⟨f',Z',l',as',h2,N2,k2⟩:=zIN rest _ _ _ _ _ h1;refine ⟨f',Z',l',as',h2,N1+N2,fun N hN=>?_⟩
   try simp only [hg]
   refine zLF (k1 N (by omega)) ?_
   rintro _ _ _ ⟨rfl,rfl,rfl⟩;exact k2 N (by omega)
  ·rename_i hg;obtain ⟨f',Z',l',as',h2,N2,k2⟩:=zIN rest _ _ _ _ _ h;exact ⟨f',Z',l',as',h2,N2,fun N hN=>by (try simp only [hg]);exact k2 N hN⟩
  ·exact h.elim
theorem zGM {C:zRD} {ops:Array Oper}:∀ (rest:List Oper) (as:List Ans) (f:Tm) (Z:St) (l:List Seen) {K K':Tm->St->List Seen->List Ans->Prop},zFL P C ops rest as f Z l K->(∀ f s l a,K f s l a->K' f s l a)->zFL P C ops rest as f Z l K'
 | [],as,f,Z,l,K,K',h,hk=>hk _ _ _ _ h
 | o::rest,as,f,Z,l,K,K',h,hk=>by
  unfold zFL at h ⊢;split at h
  ·rename_i hg;try simp only [hg]
   exact zLF h fun v s a hh=>zGM rest _ _ _ _ hh hk
  ·rename_i hg;try simp only [hg]
   exact zGM rest _ _ _ _ h hk
  ·exact h.elim
theorem zIM {C:zRD} {ops:Array Oper}:∀ (rest:List Oper) (as:List Ans) (f:Tm) (Z:St) (l:List Lk) {K K':Tm->St->List Lk->List Ans->Prop},zCL P C ops rest as f Z l K->(∀ f s l a,K f s l a->K' f s l a)->zCL P C ops rest as f Z l K'
 | [],as,f,Z,l,K,K',h,hk=>hk _ _ _ _ h
 | o::rest,as,f,Z,l,K,K',h,hk=>by
  unfold zCL at h ⊢;split at h
  ·rename_i hg;try simp only [hg]
   exact zLF h fun v s a hh=>zIM rest _ _ _ _ hh hk
  ·rename_i hg;try simp only [hg]
   exact zIM rest _ _ _ _ h hk
  ·exact h.elim
theorem zKX {K K':Prop}:∀ {l:List Lk},zEJ l K->(K->K')->zEJ l K'
 | [],h,hk=>hk h
 | s::ss,h,hk=>by
  unfold zEJ at h ⊢;split
  ·rename_i hs;(try simp only [hs] at h);exact ⟨h.1,zKX h.2 hk⟩
  ·rename_i hs;(try simp only [hs] at h);exact zKX h hk
theorem zOO {K:Prop}:∀ {l:List Lk},zEJ l K->K
 | [],h=>h
 | s::ss,h=>by
  unfold zEJ at h;split at h
  ·exact zOO h.2
  ·exact zOO h
theorem zFA {K K':Prop} {l:List Lk}:∀ {ps:List (Nat × Nat)},uD l ps K->(K->K')->uD l ps K'
 | [],h,hk=>hk h
 | p::ps,h,hk=>by
  unfold uD at h ⊢;split at h
  ·rename_i sj sk h1 h2;try simp only [h1,h2]
   split at h
   ·rename_i hw;exact ⟨h.1,h.2.1,zFA h.2.2 hk⟩
   ·rename_i hw;exact zFA h hk
  ·exact h.elim
theorem zGT {K:Prop} {l:List Lk}:∀ {ps:List (Nat × Nat)},uD l ps K->K
 | [],h=>h
 | p::ps,h=>by
  unfold uD at h;split at h
  ·split at h
   ·exact zGT h.2.2
   ·exact zGT h
  ·exact h.elim
theorem yLS {id:Nat} {ops:Array Oper} {d:Bool} {as:List Ans} {fr:Fr} {Z:St} {K:Exit->Fr->St->List Ans->Prop} (h:zIL P (zCR R) ops d as fr Z K) :
  ∃ e fr' Z' as',zBB P R rd (.region id ops d) fr Z e fr' Z'/\K e fr' Z' as':=by
 have fin:∀ (f':Tm) (Z':St) (as':List Ans),K .normal ⟨f',fr.marks⟩ Z' as'->(∃ N0,∀ N,N0<=N->zIL P (zVC (R N)) ops d as fr Z fun e f2 s2 a2=>e=.normal/\f2=⟨f',fr.marks⟩/\s2=Z')->∃ e fr' Z' as',zBB P R rd (.region id ops d) fr Z e fr' Z'/\K e fr' Z' as':=by
  rintro f' Z' as' hk ⟨N0,hN⟩;refine ⟨.normal,⟨f',fr.marks⟩,Z',as',⟨N0,fun N hl=>?_⟩,hk⟩
  obtain ⟨e₂,f₂,s₂,_,h1,rfl,rfl,rfl⟩:=xDC (rec:=R N) N rd (.region id ops d) as fr Z (fun e f2 s2 _=>e=.normal/\f2=⟨f',fr.marks⟩/\s2=Z') (by simp only [wpC];exact hN N hl);exact h1
 cases d with
 | false =>
  simp only [zIL] at h;obtain ⟨f',Z',l',as',h1,N0,hN⟩:=zGN _ _ _ _ _ _ h;refine fin f' Z' as' h1 ⟨N0,fun N hl=>?_⟩;simp only [zIL];exact zGM _ _ _ _ _ (hN N hl) (by rintro _ _ _ _ ⟨rfl,rfl,rfl,rfl⟩;refine ⟨?_, ?_, ?_⟩ <;> first | rfl | trivial)
 | true =>
  simp only [zIL] at h;split at h
  ·rename_i h0 hp hf;obtain ⟨f',Z',l',as',h1,N0,hN⟩:=zGN _ _ _ _ _ _ h;refine fin f' Z' as' h1 ⟨N0,fun N hl=>?_⟩;unfold zIL;simp only [];rw [h0,hp,hf];exact zGM _ _ _ _ _ (hN N hl) (by rintro _ _ _ _ ⟨rfl,rfl,rfl,rfl⟩;refine ⟨?_, ?_, ?_⟩ <;> first | rfl | trivial)
  ·rename_i ps fb h0 hno;obtain ⟨f',Z',l',as',h1,N0,hN⟩:=zIN _ _ _ _ _ _ h;refine fin f' Z' as' (zGT (zOO h1)) ⟨N0,fun N hl=>?_⟩;unfold zIL;dsimp only;have key:=zIM (K':=fun f2 s2 l2 a2=>zEJ l2 (uD l2 (zZI ops (CheckFast.beforeF ops)) (Exit.normal=Exit.normal/\(⟨f2,fr.marks⟩:Fr)=⟨f',fr.marks⟩/\s2=Z'))) _ _ _ _ _ (hN N hl) (by
    rintro _ _ _ _ ⟨rfl,rfl,rfl,rfl⟩;exact zKX h1 (fun x=>zFA x (fun _=>⟨rfl,rfl,rfl⟩)))
   split
   ·rename_i g0 gp gf;exact absurd gf (hno gp)
   ·exact key
   ·rename_i g0;rw [h0] at g0;cases g0
  ·exact h.elim
theorem zBB.seqN {x y:Code} {fr fr1 fr2:Fr} {Z Z1 Z2:St} {e:Exit} (h1:zBB P R rd x fr Z .normal fr1 Z1) (h2:zBB P R rd y fr1 Z1 e fr2 Z2):zBB P R rd (.seq x y) fr Z e fr2 Z2:=by
 obtain ⟨N1,k1⟩:=h1;obtain ⟨N2,k2⟩:=h2;refine ⟨N1+N2,fun N hN=>?_⟩
 simp only [yQ,yTG,k1 N (by omega)];exact k2 N (by omega)
theorem zBB.seqX {x y:Code} {fr fr1:Fr} {Z Z1:St} {e:Exit} (h1:zBB P R rd x fr Z e fr1 Z1) (he:e≠.normal):zBB P R rd (.seq x y) fr Z e fr1 Z1:=by
 obtain ⟨N1,k1⟩:=h1;refine ⟨N1,fun N hN=>?_⟩
 simp only [yQ,yTG,k1 N hN];cases e <;> first | rfl | exact absurd rfl he
theorem zBB.mapD {x y:Code} {fr fr1:Fr} {Z Z1:St} {e:Exit} (h1:zBB P R rd x fr Z e fr1 Z1) (h:∀ N,yQ P (R N) N rd y fr Z=yQ P (R N) N rd x fr Z):zBB P R rd y fr Z e fr1 Z1:=by
 obtain ⟨N1,k1⟩:=h1;exact ⟨N1,fun N hN=>by rw [h];exact k1 N hN⟩
theorem zVN.code {c:Code} {fr fr':Fr} {Z Z':St} {e:Exit} (h:zVN P R rd c fr Z e fr' Z'):zBB P R rd (.loop c) fr Z e fr' Z':=by
 obtain ⟨N0,hN⟩:=h;exact ⟨N0,fun N hl=>by simp only [yQ];exact hN N N hl hl⟩
theorem yHB {c:Code} {n:Nat} {l:List (Nat × Value)} {alts:List Alt} {fr:Fr} {Z:St} {K:Exit->Fr->St->List Ans->Prop}
  (h:(yJY n fr.f=true/\AG fr.f l/\yJ P R rd c n l fr.marks alts Z)/\yHV n alts fun e fr Z=>∃ as,K e fr Z as):∃ e fr' Z' as',zBB P R rd c fr Z e fr' Z'/\K e fr' Z' as':=by
 obtain ⟨⟨h1,h2,h3⟩,h4⟩:=h;obtain ⟨e,fr',Z',h5,h6⟩:=h3 fr.f.nth;rw [<- yQJ h1 h2] at h5;obtain ⟨as,hk⟩:=zSU h4 h6;exact ⟨e,fr',Z',as,h5,hk⟩
theorem zDB:∀ (c:Code) (as:List Ans) (fr:Fr) (Z:St) (K:Exit->Fr->St->List Ans->Prop),wpE P R rd c as fr Z K ->
  ∃ e fr' Z' as',zBB P R rd c fr Z e fr' Z'/\K e fr' Z' as':=by
 intro c;induction c with
 | skip=>intro as fr Z K h;exact ⟨_,_,_,_,⟨0,fun _ _=>rfl⟩,h⟩
 | label _=>intro as fr Z K h;exact ⟨_,_,_,_,⟨0,fun _ _=>rfl⟩,h⟩
 | ret=>intro as fr Z K h;exact ⟨_,_,_,_,⟨0,fun _ _=>rfl⟩,h⟩
 | exit _=>intro as fr Z K h;exact ⟨_,_,_,_,⟨0,fun _ _=>rfl⟩,h⟩
 | goto _=>intro as fr Z K h;simp [wpE] at h
 | refuse _=>intro as fr Z K h;simp [wpE] at h
 | seq x y ihx ihy =>
  intro as fr Z K h;simp only [wpE] at h;obtain ⟨e,fr1,Z1,as1,h1,h2⟩:=ihx _ _ _ _ h;cases e with
  | normal =>
   obtain ⟨e,fr2,Z2,as2,h3,h4⟩:=ihy _ _ _ _ h2;exact ⟨e,fr2,Z2,as2,h1.seqN h3,h4⟩
  | _=>exact ⟨_,fr1,Z1,as1,h1.seqX (by simp),h2⟩
 | cond c x y ihx ihy =>
  intro as fr Z K h;unfold wpE at h;split at h
  ·exact yHB h
  ·split at h
   ·rename_i hc;obtain ⟨e,fr1,Z1,as1,h1,h2⟩:=ihx _ _ _ _ h;exact ⟨e,fr1,Z1,as1,h1.mapD (fun N=>by simp only [yQ,yAZ,hc]),h2⟩
   ·rename_i hc;obtain ⟨e,fr1,Z1,as1,h1,h2⟩:=ihy _ _ _ _ h;exact ⟨e,fr1,Z1,as1,h1.mapD (fun N=>by simp only [yQ,yAZ,hc]),h2⟩
   ·exact h.elim
 | block id c ih =>
  intro as fr Z K h;unfold wpE at h;split at h
  ·exact yHB h
  ·obtain ⟨e,fr1,Z1,as1,⟨N1,h1⟩,h2⟩:=ih _ _ _ _ h;cases e with
   | exit i =>
    simp only at h2;cases hb:Nat.beq i id with
    | true =>
     rw [hb] at h2;exact ⟨_,fr1,Z1,as1,⟨N1,fun N hN=>by simp only [yQ,zHU,h1 N hN,hb,cond_true]⟩,h2⟩
    | false =>
     rw [hb] at h2;exact ⟨_,fr1,Z1,as1,⟨N1,fun N hN=>by simp only [yQ,zHU,h1 N hN,hb,cond_false]⟩,h2⟩
   | _=>exact ⟨_,fr1,Z1,as1,⟨N1,fun N hN=>by simp only [yQ,zHU,h1 N hN]⟩,h2⟩
 | scope c ih =>
  intro as fr Z K h;simp only [wpE] at h;obtain ⟨e,fr1,Z1,as1,h1,h2⟩:=ih _ _ _ _ h;exact ⟨e,fr1,Z1,as1,h1.mapD (fun N=>by simp only [yQ]),h2⟩
 | region id ops d =>
  intro as fr Z K h;simp only [wpE] at h;exact yLS h
 | loop c _ =>
  intro as fr Z K h;unfold wpE at h;split at h;rotate_left
  ·exact h.elim
  obtain ⟨⟨h1,h2,h3⟩,h4⟩:=h;obtain ⟨e,fr',Z',h5,h6⟩:=h3 fr.f.nth;rw [<- yQJ h1 h2] at h5;obtain ⟨as,hk⟩:=zSU h4 h6;exact ⟨e,fr',Z',as,h5.code,hk⟩
 | rangeFunc g ps a b _ _ =>
  intro as fr Z K h;unfold wpE at h;split at h;rotate_left
  ·exact h.elim
  obtain ⟨⟨h1,h2,h3⟩,h4⟩:=h;obtain ⟨e,Z',⟨N0,h5⟩,h6⟩:=h3 fr.f.nth fr.marks;rw [<- yQJ h1 h2] at h5;obtain ⟨as,hk⟩:=yAY (g:=fr.f.nth) h4 h6;rw [<- yQJ h1 h2] at hk;exact ⟨e,_,Z',as,⟨N0,fun N hN=>by simp only [yQ];exact h5 N hN⟩,hk⟩
end
end Go.Lay

namespace Go.Lay
open Go
@[simp] theorem wBB (a:Addr) (n:Nat):(zL a n).block=a.block:=rfl
@[simp] theorem wBY (Z:St):Z.re.y=Z.y:=rfl
@[simp] theorem wBZ (Z:St):Z.re.low=Z.y:=rfl
theorem tt:true=true:=rfl
@[irreducible] def Hid (p:Prop):Prop:=p
theorem hid {p:Prop} (h:Hid p):p:=by unfold Hid at h;exact h
theorem kc {a b:Prop} (h:a=b) (x:b):a:=h.mpr x
def In (a:Alt):List Alt->Prop
 | []=>False
 | b::l=>a=b\/In a l
theorem in0 {a:Alt} {l:List Alt}:In a (a::l):=.inl rfl
theorem inS {a b:Alt} {l:List Alt} (h:In a l):In a (b::l):=.inr h
def zFK (n:Nat) (alts:List Alt):Exit->Fr->St->List Ans->Prop:=fun e fr Z as=>match as with
 | [.fin a t]=>(e=a.e/\yJY n fr.f=true/\AG fr.f (a.l t)/\fr.marks=a.ms t)/\(a.Q t Z/\In a alts)
 | _=>False
def FIN (alts:List Alt) (a:Alt) (t:a.T) (Z:St):Prop:=(a.e=a.e/\true=true/\ARf (a.l t)/\a.ms t=a.ms t)/\(a.Q t Z/\In a alts)
theorem fin {alts:List Alt} (a:Alt) (t:a.T) {Z:St} (h:a.Q t Z) (hi:In a alts):FIN alts a t Z:=⟨⟨rfl,rfl,arf _,rfl⟩,h,hi⟩
section
variable {P:Program} {R:Nat->Rec} {rd:Option Nat} {c:Code} {n:Nat} {l:List (Nat × Value)} {ms:List Nat} {alts:List Alt} {Z Z':St}
theorem yNS {a:Alt} {t:a.T} {fr:Fr} (h1:yJY n fr.f=true) (h2:AG fr.f (a.l t)) (h3:fr.marks=a.ms t) (h4:a.Q t Z):∀ {alts:List Alt},In a alts->ySC n alts a.e fr Z
 | [],h=>h.elim
 | b::as,h=>by
  rcases h with rfl | h
  ·refine .inl ⟨rfl,t,fr.f.nth, ?_,h4⟩;rw [<- yQJ h1 h2,<- h3]
  ·exact .inr (yNS h1 h2 h3 h4 h)
theorem zCC (as:List Ans) (h:∀ g:Nat->Value,Hid (wpE P R rd c as ⟨Fm n (ov l g),ms⟩ Z (zFK n alts))):yJ P R rd c n l ms alts Z:=by
 intro g;obtain ⟨e,fr',Z',as',h1,h2⟩:=zDB _ _ _ _ _ (hid (h g));refine ⟨e,fr',Z',h1, ?_⟩
 unfold zFK at h2;split at h2
 ·obtain ⟨⟨rfl,k1,k2,k3⟩,k4,k5⟩:=h2;exact yNS k1 k2 k3 k4 k5
 ·exact h2.elim
theorem xY (i:Nat):Exit.exit i≠.normal:=fun h=>by cases h
theorem uQ:Exit.ret≠.normal:=fun h=>by cases h
def zVM:List Alt->Prop
 | []=>True
 | a::l=>a.e≠.normal/\zVM l
theorem zVM.get:∀ {l:List Alt} {a:Alt},zVM l->In a l->a.e≠.normal
 | [],_,_,h=>h.elim
 | b::l,a,h,k=>by
  rcases k with rfl | k
  ·exact h.1
  ·exact h.2.get k
theorem zLS {T:Type} {lf:T->List (Nat × Value)} {mf:T->List Nat} {Inv:Nat->T->St->Prop} (hne:zVM alts)
  (hb:∀ k t Z,Inv k t Z->yJ P R rd c n (lf t) (mf t) (⟨T,.normal,lf,mf,fun t' Z'=>∃ k',k' < k/\Inv k' t' Z'⟩::alts) Z):∀ k t Z,Inv k t Z->yS P R rd c n (lf t) (mf t) alts Z:=by
 intro k;induction k using Nat.strongRecOn with
 | ind k ih =>
  intro t Z hi g;obtain ⟨e,fr',Z',h1,h2⟩:=hb k t Z hi g;rcases h2 with ⟨rfl,t',g',rfl,k',hk,hi'⟩ | h2
  ·obtain ⟨e2,fr2,Z2,h3,h4⟩:=ih k' hk t' Z' hi' g';exact ⟨e2,fr2,Z2,.step h1 h3,h4⟩
  ·have he:e≠.normal:=by
    clear h1 ih hb hi;induction alts with
    | nil=>exact h2.elim
    | cons a as ih2 =>
     rcases h2 with ⟨rfl,_⟩ | h2
     ·exact hne.1
     ·exact ih2 hne.2 h2
   exact ⟨e,fr',Z',.exit h1 he,h2⟩
def kAt (P:Program) (R:Nat->Rec) (rd:Option Nat):Code->List Nat->(Exit->Fr->St->List Ans->Prop)->Exit->Fr->St->List Ans->Prop
 | .seq x y,0::p,K=>kAt P R rd x p fun e fr Z as=>match e with
  | .normal=>wpE P R rd y as fr Z K
  | e=>K e fr Z as
 | .seq _ y,1::p,K=>kAt P R rd y p K
 | .cond _ x _,0::p,K=>kAt P R rd x p K
 | .cond _ _ y,1::p,K=>kAt P R rd y p K
 | .block id c,0::p,K=>kAt P R rd c p fun e fr Z as=>match e with
  | .exit i=>match Nat.beq i id with
   | true=>K .normal fr Z as
   | false=>K (.exit i) fr Z as
  | e=>K e fr Z as
 | .scope c,0::p,K=>kAt P R rd c p K
 | _,_,K=>K
def kFn (P:Program) (f:FuncId) (Q:Value->St->Prop):Exit->Fr->St->List Ans->Prop:=fun e fr Z as =>
 match P.funcs[f]? with
 | some fn=>match e with
  | .normal=>zIO P fn fr Z as Q
  | .ret=>zIO P fn fr Z as Q
  | _=>False
 | none=>False
theorem zD.top {aw f:FuncId} {a:Value} {as:List Value} {v:Value} (h:zD P f (a::as) Z v Z'):zCR (zVS P aw) (.func f) (a::as) Z v Z':=h
def xAI (P:Program) (R:Nat->Rec) (f:FuncId) (args:List Value) (as:List Ans) (Z:St) (K:Value->St->Prop):Prop :=
 match P.funcs[f]? with
 | some fn=>match fn.body with
  | some c=>wpE P R none c as ⟨(Tm.args 0 args).foldl (fun f p=>f.set p.1 p.2) (fresh (args.length+(fn.ntmps-args.length))),[]⟩ Z fun e fr Z as=>match e with
   | .normal=>zIO P fn fr Z as K
   | .ret=>zIO P fn fr Z as K
   | _=>False
  | none=>False
 | none=>False
theorem zTQ {f:FuncId} {args:List Value} {as:List Ans} {K:Value->St->Prop} (h:xAI P R f args as Z K):∃ v Z',(∃ N0,∀ N,N0<=N->zIG P (R N) N f args Z=some (v,Z'))/\K v Z':=by
 unfold xAI at h;split at h
 ·rename_i fn hfn;split at h
  ·rename_i c hc;obtain ⟨e,fr,Z₁,as',⟨N0,h1⟩,h2⟩:=zDB _ _ _ _ _ h;have fin:∀ (h2:zIO P fn fr Z₁ as' K) (he:e=.normal\/e=.ret),∃ v Z',(∃ N0,∀ N,N0<=N->zIG P (R N) N f args Z=some (v,Z'))/\K v Z':=by
    intro h2 he;obtain ⟨v,Z',h3,h4⟩:=yHX h2;refine ⟨v,Z',⟨N0,fun N hN=>?_⟩,h4⟩
    have key:xPK P fn (yQ P (R N) N none c ⟨(Tm.args 0 args).foldl (fun f p=>f.set p.1 p.2) (fresh (args.length+(fn.ntmps-args.length))),[]⟩ Z)=zIG P (R N) N f args Z:=by
     simp only [zIG,hfn,hc,Tm.puts_eq]
    rw [<- key,h1 N hN];rcases he with rfl | rfl <;> exact h3
   cases e with
   | normal=>exact fin h2 (.inl rfl)
   | ret=>exact fin h2 (.inr rfl)
   | _=>exact h2.elim
  ·exact h.elim
 ·exact h.elim
def zO (P:Program) (f:FuncId) (args:List Value) (Z:St) (Q:Value->St->Prop):Prop:=∃ v Z',xZP P f args Z v Z'/\Q v Z'
theorem xIE {N:Nat} {f:FuncId} {args:List Value}:zV P (N+1) (.func f) args Z=zIG P (zV P N) N f args Z:=by
 simp only [zV,zIG];rfl
theorem zH {f:FuncId} {args:List Value} {Q:Value->St->Prop} (as:List Ans) (h:Hid (xAI P (zV P) f args as Z Q)):zO P f args Z Q:=by
 obtain ⟨v,Z',⟨N0,hN⟩,hq⟩:=zTQ (hid h);refine ⟨v,Z',⟨N0+1,fun N hN'=>?_⟩,hq⟩
 obtain ⟨N,rfl⟩:∃ M,N=M+1:=⟨N-1,by omega⟩;rw [xIE];exact hN N (by omega)
def yDI (P:Program) (aw:FuncId) (f:FuncId) (args:List Value) (Z:St) (Q:Value->St->Prop):Prop:=∃ N v Z',zIG P (zVS P aw N) N f args Z=some (v,Z')/\Q v Z'
theorem zOY {aw f:FuncId} {args:List Value} {Q:Value->St->Prop} (as:List Ans) (h:Hid (xAI P (zVS P aw) f args as Z Q)):yDI P aw f args Z Q:=by
 obtain ⟨v,Z',⟨N0,hN⟩,hq⟩:=zTQ (hid h);exact ⟨N0,v,Z',hN N0 (Nat.le_refl _),hq⟩
theorem xJJ {aw:FuncId}:zCR (zVS P aw) (.func aw) [] Z (.bool true) Z:=⟨0,fun N _=>xDG⟩
theorem yDI.walk {W:World} {U:Inj} {aw:FuncId} (hP:ProgOk P) (hc:ShutF P aw) {f:FuncId} {avs args:List Value} (h:yDI P aw f avs Z fun v _=>v=.bool true) (hr:Rep U Z W) (ho:Ro U W) (ha:VRs U avs args) :
  Calls P f ⟨args⟩ W fun e w'=>e=.returned (.bool true)/\RowKit.Grown W w':=by
 obtain ⟨N,v,Z',hb,rfl⟩:=h;obtain ⟨_,h2⟩:=zEW hP (ySX hP hc N) hb hr ha;refine Calls.mono (callsIn_wide.1 (h2 0)) (fun e w' hR=>?_);cases e with
 | returned v' =>
  obtain ⟨U',hv,hg⟩:=hR;exact ⟨by rw [hv.bool_inv],xOM hg ho.own⟩
 | panicked _=>exact hR.elim
 | outgrown=>exact hR.elim
theorem zO.pure {f:FuncId} {args:List Value} {v:Value} (h:zO P f args Z.re fun v' s=>v'=v/\Z.y<=s.low) (hv:zW RD v=true:=by rfl):zD P f args Z v Z:=by
 obtain ⟨_,Z',h1,rfl,h2⟩:=h;exact zRN h1 h2 hv
theorem zO.new {f:FuncId} {args:List Value} {Q:Value->St->Prop} (h:zO P f args Z.re fun v s=>New Z.re s/\Q v s) (hQ:∀ v s s',Q v s->Le s s'->Q v s') (hQ2:∀ v s,zW RD v=true->Q v s->Q v Z):∃ v Z',zD P f args Z v Z'/\New Z Z'/\Q v Z':=by
 obtain ⟨v,Z',h1,h2,h3⟩:=h;obtain ⟨v,Z'',k1,k2,k3⟩:=wAD (Q:=Q) h1 h2 h3 (fun s s' a b=>hQ _ s s' a b) (fun hr=>hQ2 _ _ hr h3);exact ⟨v,Z'',k1,k2,k3⟩
def xYX (tm:Tm) (ps:List Tmp) (a b:Code) (db:Nat):Exit->Blk
 | .ret=>.loop tm ps a b .done (some .ret) db
 | .exit id=>.loop tm ps a b .done (some (.exit id)) db
 | _=>.loop tm ps a b .ready none db
def yAO:Exit->Bool
 | .normal=>true
 | _=>false
def wBC (alts:List Alt) (e:Exit) (s:St):Prop:=∃ a,In a alts/\e=a.e/\∃ t,a.Q t s
def ySE (alts:List Alt):Exit->Fr->St->List Ans->Prop:=fun e _ Z as=>match as with
 | [.fin a t]=>e=a.e/\(a.Q t Z/\In a alts)
 | _=>False
def wBX (alts:List Alt) (a:Alt) (t:a.T) (Z:St):Prop:=a.e=a.e/\(a.Q t Z/\In a alts)
theorem xYU {alts:List Alt} (a:Alt) (t:a.T) {Z:St} (h:a.Q t Z) (hi:In a alts):wBX alts a t Z:=⟨rfl,h,hi⟩
def KAs (P:Program) (R:Nat->Rec) (lo:Nat) (b:Code) (τ τ':St) (K:Exit->Fr->St->List Ans->Prop):Exit->Fr->St->List Ans->Prop:=fun e fr s an=>(e=.normal/\s=τ)/\wpE P R (some lo) b an fr τ' K
def zFJ (P:Program) (lo:Nat) (args:List Value) (τ:St) (tm:Tm) (ps:List Tmp) (a b:Code) (db:Nat) (alts:List Alt):Prop :=
 ∃ e s,wBC alts e s/\(e=.normal\/e=.ret\/(∃ i,e=.exit i)->lo<τ.y->yH s.heap lo=some (.loop tm ps a b .busy none db)->τ.y<=s.y->xAG P lo args τ (.bool (yAO e)) ⟨(s.put lo (xYX tm ps a b db e)).heap,s.y,min τ.low (min s.low lo)⟩)
theorem xKB {lo db:Nat} {tm:Tm} {ps:List Tmp} {a b:Code} {args:List Value} {τ:St} (hl:yH τ.heap lo=some (.loop tm ps a b .ready none db)) (hn:args.length=ps.length) {Z1:St} (hZ:Z1=τ.re.put lo (.loop tm ps a b .busy none db)) (as:List Ans)
  (h:Hid (wpE P (zV P) (some lo) a as ⟨(ps.zip args).foldl (fun f p=>f.set p.1 p.2) tm,[]⟩ τ.re (KAs P (zV P) lo b τ.re Z1 (ySE alts)))) :
  zFJ P lo args τ tm ps a b db alts:=by
 subst hZ;obtain ⟨e1,fr1,s1,an1,⟨N1,h1⟩,⟨rfl,rfl⟩,h2⟩:=zDB _ _ _ _ _ (hid h);obtain ⟨e,fr2,s,an2,⟨N2,h3⟩,h4⟩:=zDB _ _ _ _ _ h2;unfold ySE at h4;split at h4;rotate_left
 ·exact h4.elim
 obtain ⟨rfl,h5,h6⟩:=h4;rename_i al t;refine ⟨_,s,⟨al,h6,rfl,t,h5⟩,fun he hlt hb hs=>⟨N1+N2+1,fun N hN=>?_⟩⟩
 obtain ⟨N,rfl⟩:∃ N',N=N'+1:=⟨N-1,by omega⟩;have k1:=h1 N (by omega);have k3:=h3 N (by omega);have hr:(⟨τ.heap,τ.y,τ.y⟩:St)=τ.re:=rfl;have hlr:yH τ.re.heap lo=some (.loop tm ps a b .ready none db):=hl;unfold vW;rw [hr];simp only [zV,hlr,hn,Nat.beq_refl,cond_true,Tm.puts_eq,k1,zLI,St.write_eq,k3];have key:∀ y:Blk,vX τ (.bool (yAO al.e)) (s.put lo y)=some (.bool (yAO al.e),⟨(s.put lo y).heap,s.y,min τ.low (min s.low lo)⟩):=by
  intro y;unfold vX;have e1:Nat.ble τ.y (s.put lo y).low=false:=by
   rw [Bool.eq_false_iff];intro e;have:=(zX _ _).1 e;simp only [St.put_low] at this;omega
  have e2:Nat.ble τ.y (s.put lo y).y=true:=(zX _ _).2 hs;simp only [e1,Bool.false_and,cond_false,e2,cond_true,wE,uU];rfl
 rcases he with e | e | ⟨i,e⟩ <;> (rw [e] at key ⊢;simp only [zLH,zDN,hb,St.write_eq];exact key _)
def xPF:Option Code->Exit
 | some .ret=>.ret
 | some (.exit id)=>.exit id
 | _=>.normal
theorem xED {gx:Operand} {ps:Array Tmp} {a b:Code} {xs:List (Exit × (St->Prop))} {f:FuncId} {fs:List Value} (hg:∀ g,yF (Fm n (ov l g)) gx=.func (.func f) ⟨[]⟩ ⟨fs⟩)
  (h:∀ g,∃ v s st pend,zD P f (.func (.yield (Z.y+1)) ⟨[]⟩ ⟨[]⟩::fs) ((Z.add .defd).add (.loop (Fm n (ov l g)) ps.toList a b .ready none Z.y)) v s/\yH s.heap (Z.y+1)=some (.loop (Fm n (ov l g)) ps.toList a b st pend Z.y) /\
   ((st=.ready/\pend=none)\/(st=.done/\(pend=some .ret\/∃ i,pend=some (.exit i))))/\ySB xs (xPF pend) (s.put (Z.y+1) (.loop (Fm n (ov l g)) ps.toList a b .exhausted pend Z.y))):zTL P (zV P) gx ps a b n l xs Z:=by
 intro g ms;obtain ⟨v,s,st,pend,⟨N0,hN⟩,hb,hst,hq⟩:=h g;refine ⟨xPF pend,_,⟨N0,fun N hl=>?_⟩,hq⟩
 have h1:=hN N hl;simp only [zNN,zGV,St.new_eq,hg,zMQ,List.nil_append,List.singleton_append,St.add_next];simp only [h1,zDO,hb,St.write_eq];rcases hst with ⟨rfl,rfl⟩ | ⟨rfl,rfl | ⟨i,rfl⟩⟩ <;> rfl
end
end Go.Lay

namespace Go.Lay
open Go
section
variable {P:Program} {Z τ τ':St} {S:Nat->Prop}
theorem New.of_only (h:New Z τ) (k:Only S τ τ') (hs:∀ b,S b->Z.y<=b):New Z τ' :=
  ⟨⟨Nat.le_trans h.le.y k.y,fun b hb=>(k.get b (Nat.lt_of_lt_of_le hb h.le.y) (fun hS=>by have:=hs b hS;omega)).trans (h.le.get b hb)⟩,
   fun m h1 h2=>k.low m (h.low m h1 h2) (Nat.le_trans h2 h.le.y) (fun b _ hS=>Nat.le_trans h2 (hs b hS))⟩
theorem New.own {b n:Nat} {cs:List Value} (h:New Z τ) (hb:Z.y<=b):New Z (τ.own b cs n):=h.of_only (S:=(·=b)) (Only.own (.inr rfl)) (by rintro _ rfl;exact hb)
theorem New.row' {cs:List Value} {n:Nat} (h:New Z τ):New Z (τ.row cs n):=h.trans (New.row _ _ _)
theorem New.nx (h:New Z τ):Z.y<=τ.y:=h.le.y
theorem New.lw (h:New Z.re τ):Z.y<=τ.low:=h.low _ (Nat.le_refl _) (Nat.le_refl _)
structure Gr (P:Program) (Z:St) (n0 t n:Nat) (p:Option Addr) (len c:Nat) (vs:List Value):Prop where
 app:App Z n0 n (.slice p len c) len (wV vs)
 len_eq:vs.length=len
 el:∀ v∈vs,zHM P t n v
theorem Gr.nil {n0 t n:Nat}:Gr P Z n0 t n none 0 0 []:=⟨App.nil,rfl,by simp⟩
theorem Gr.le {n0 t n len c:Nat} {p:Option Addr} {vs:List Value} (h:Gr P Z n0 t n p len c vs) (k:Le Z τ):Gr P τ n0 t n p len c vs:=⟨h.app.keep k,h.len_eq,h.el⟩
theorem Gr.only {n0 t n len c:Nat} {p:Option Addr} {vs:List Value} (h:Gr P Z n0 t n p len c vs) (k:Only S Z τ) (hs:∀ b,AtP p b->¬ S b):Gr P τ n0 t n p len c vs :=
 ⟨k.app' h.app (by rintro a l c ⟨⟩;exact hs _ ⟨a,rfl,rfl⟩),h.len_eq,h.el⟩
theorem Gr.slv {n0 t n len c:Nat} {p:Option Addr} {vs:List Value} (h:Gr P Z n0 t n p len c vs):SlV P Z t n p len vs:=h.app.slv h.len_eq h.el
theorem Gr.bd {n0 t n len c b:Nat} {p:Option Addr} {vs:List Value} (h:Gr P Z n0 t n p len c vs) (hb:AtP p b):n0<=b/\b<Z.y:=by
 obtain ⟨a,e,rfl⟩:=hb;exact ⟨h.app.ge a e,h.app.lt a e⟩
theorem yQA {st xt t n n0 len c:Nat} {p:Option Addr} {vs:List Value} (v:Value) {cs:List Value} (T:AppT P st xt t n) (h:Gr P Z n0 t n p len c vs) (hle:Le Z τ) (hv:zHM P t n v) (hroom:len+1<=1073741824) (hn:n0<=Z.y) (e:v.cells.toList=cs:=by rfl) (hc:cs.all cellB=true:=by first | rfl | simp) :
  ∃ p' c' τ',yM P st xt (.slice p len c) (.slice (some ⟨τ.y,0,none⟩) 1 1) (τ.row cs n)=some (.slice p' (len+1) c',τ')/\Gr P τ' n0 t n p' (len+1) c' (vs++[v])/\Only (AtP p) (τ.row cs n) τ'/\(∀ b,AtP p' b->AtP p b\/τ.y<=b):=by
 subst e;have hl:=hv.len;obtain ⟨p',c',τ',h1,h2,h3,h4⟩:=yHK (k:=1) (m:=1) T ((h.le hle).app.keep (Le.row _ _ _)) (xM τ v.cells.toList n) (by omega) (by omega) hroom hc (by have:=hle.y;simp;omega);refine ⟨p',c',τ',h1,⟨by rw [zET];simpa [wV] using h2,by simp [h.len_eq], ?_⟩,h3,fun b hb=>?_⟩
 ·intro x hx;simp at hx;rcases hx with hx | rfl
  ·exact h.el x hx
  ·exact hv
 ·rcases h4 b hb with h5 | h5
  ·exact .inl h5
  ·right;simp at h5;omega
theorem wBU {Z0:St} {st xt t n len c:Nat} {p:Option Addr} {vs:List Value} (v:Value) {cs:List Value} (T:AppT P st xt t n) (h:Gr P Z Z0.y t n p len c vs) (hN:New Z0 Z) (hle:New Z τ) (hv:zHM P t n v) (hroom:len+1<=1073741824) (e:v.cells.toList=cs:=by rfl) (hc:cs.all cellB=true:=by first | rfl | simp) :
  ∃ p' c' τ',yM P st xt (.slice p len c) (.slice (some ⟨τ.y,0,none⟩) 1 1) (τ.row cs n)=some (.slice p' (len+1) c',τ')/\Gr P τ' Z0.y t n p' (len+1) c' (vs++[v])/\New Z0 τ'/\Only (AtP p) (τ.row cs n) τ'/\(∀ b,AtP p' b->AtP p b\/τ.y<=b):=by
 obtain ⟨p',c',τ',h1,h2,h3,h4⟩:=yQA v T h hle.le hv hroom hN.nx e hc;exact ⟨p',c',τ',h1,h2,((hN.trans hle).row').of_only h3 (fun b hb=>(h.bd hb).1),h3,h4⟩
theorem zO.newSl {f:FuncId} {args:List Value} {t n len:Nat} {vs:List Value} (h:zO P f args Z.re fun v s=>New Z.re s/\∃ p c,v=.slice p len c/\SlV P s t n p len vs/\∀ b,AtP p b->Z.y<=b) :
  ∃ p c Z',zD P f args Z (.slice p len c) Z'/\New Z Z'/\SlV P Z' t n p len vs/\∀ b,AtP p b->Z.y<=b:=by
 obtain ⟨v,Z',h1,h2,p,c,rfl,h3,h4⟩:=zO.new (Q:=fun v s=>∃ p c,v=.slice p len c/\SlV P s t n p len vs/\∀ b,AtP p b->Z.y<=b) h (by
  rintro v s s' ⟨p,c,rfl,g1,g2⟩ hle;exact ⟨p,c,rfl,g1.le hle,g2⟩) (by
  rintro v s hr ⟨p,c,rfl,g1,g2⟩;cases p with
  | none=>exact ⟨none,c,rfl,zIU g1,fun b hb=>(AtP.none hb).elim⟩
  | some a=>exact Bool.noConfusion (show false=true from hr))
 exact ⟨p,c,Z',h1,h2,h3,h4⟩
def wAF (P:Program) (st e n:Nat) (z:Value):Bool :=
 (match xX P st with | some (e',n')=>Nat.beq e e' && Nat.beq n n' | none=>false) && (match P.info? e with | some ei=>Nat.ble ei.bytes 4096 | none=>false) && Nat.beq z.cells.toList.length n && Nat.ble n 4096 && Nat.blt 0 n
theorem xUA {st e n:Nat} {z:Value} (hb:wAF P st e n z=true) (hz:uO P e=some z) {len:Nat} (hl:len<=1073741824) :
  zQ P (evL [.int .i64 (len:Int),.int .i64 (len:Int)]) Z (.makeSlice st (.tmp 0) (.tmp 1))=some (.slice (some ⟨Z.y,0,none⟩) len len,Z.row (yX z.cells.toList len) n):=by
 unfold wAF at hb;simp only [Bool.and_eq_true] at hb;obtain ⟨⟨⟨⟨h1,h2⟩,h3⟩,h4⟩,h5⟩:=hb;split at h1;rotate_left
 ·cases h1
 rename_i e' n' he;simp only [Bool.and_eq_true] at h1;rw [<- Nat.eq_of_beq_eq_true h1.1,<- Nat.eq_of_beq_eq_true h1.2] at he;split at h2;rotate_left
 ·cases h2
 rename_i ei hi;have k1:leI 0 (len:Int)=true:=(wU _ _).2 (Int.natCast_nonneg _);have k2:leI (len:Int) (len:Int)=true:=(wU _ _).2 (Int.le_refl _);have k3:leI (len:Int) 1073741824=true:=(wU _ _).2 (by omega);have k4:zAH len n ei.bytes=true:=by unfold zAH;rw [(zX _ _).2 hl,h4,h2];rfl
 have e0:∀ l:List Value,evL l (.tmp 0)=l.getD 0 undef:=fun _=>rfl
 have e1:∀ l:List Value,evL l (.tmp 1)=l.getD 1 undef:=fun _=>rfl
 unfold zQ;simp only [he,e0,e1,List.getD_cons_zero,List.getD_cons_succ,hz,hi,k1,k2,k3,Int.toNat_natCast,k4,h3,h5,Bool.and_self,cond_true,yO];rfl
def wQ (n:Nat) (P:Nat->Int):List Value:=(List.range n).map fun s=>.int .i64 (P s)
theorem zAO {n:Nat} {P:Nat->Int}:(wQ n P).length=n:=by simp [wQ]
theorem zXK {n s:Nat} {P:Nat->Int} (h:s<n):(wQ n P)[s]?=some (.int .i64 (P s)):=by simp [wQ,h]
theorem xJI {n s:Nat} {P:Nat->Int} {v:Int} (h:s<n):(wQ n P).set s (.int .i64 v)=wQ n (fun s'=>if s'=s then v else P s'):=by
 apply List.ext_getElem?;intro i;rw [List.getElem?_set];by_cases e:s=i
 ·subst e;simp [wQ,h]
 ·rw [if_neg e];by_cases hi:i<n
  ·rw [zXK hi,zXK hi,if_neg (fun x=>e x.symm)]
  ·rw [List.getElem?_eq_none (by rw [zAO];omega),List.getElem?_eq_none (by rw [zAO];omega)]
theorem zDI {n:Nat} {P Q:Nat->Int} (h:∀ s,s<n->P s=Q s):wQ n P=wQ n Q:=by
 unfold wQ;apply List.map_congr_left;intro s hs;rw [h s (by simpa using hs)]
theorem Only.lower {m:Nat} (h:Only S Z.re τ):Only S Z ⟨τ.heap,τ.y,min Z.low τ.low⟩ :=
 ⟨h.y,h.get,fun k h1 h2 h3=>by have:=h.low k h2 h2 h3;show k<=min _ _;omega⟩
theorem zO.mut {f:FuncId} {args:List Value} {Q:Value->St->Prop} (h:zO P f args Z.re fun v s=>Only S Z.re s/\(s.low<Z.y\/zW RD v=false)/\Q v s) (hQ:∀ v s m,Q v s->Q v ⟨s.heap,s.y,m⟩):∃ v Z',zD P f args Z v Z'/\Only S Z Z'/\Q v Z':=by
 obtain ⟨v,s,⟨N0,hN⟩,h1,h2,h3⟩:=h;refine ⟨v,⟨s.heap,s.y,min Z.low s.low⟩,⟨N0,fun N hl=>?_⟩,h1.lower (m:=0),hQ _ _ _ h3⟩
 unfold vW;rw [show (⟨Z.heap,Z.y,Z.y⟩:St)=Z.re from rfl,hN N hl];show vX Z v s=_;unfold vX;have e1:(Nat.ble Z.y s.low && zW RD v)=false:=by
  rcases h2 with h2 | h2
  ·rw [Bool.and_eq_false_iff];left;rw [Bool.eq_false_iff];intro e;have:=(zX _ _).1 e;omega
  ·rw [h2,Bool.and_false]
 have e2:Nat.ble Z.y s.y=true:=(zX _ _).2 h1.y;rw [e1,cond_false,e2,cond_true,wE,uU]
theorem Own.at_ {b n:Nat} {cs:List Value} (h:Own Z b cs n) (k:yH τ.heap b=yH Z.heap b) (hn:Z.y<=τ.y):Own τ b cs n:=⟨by rw [k];exact h.get,Nat.lt_of_lt_of_le h.lt hn⟩
end
end Go.Lay

namespace Go.Lay
open Go
section
variable {P:Program} {Z τ:St}
def zTN (Z:St) (n:Nat) (p:Option Addr) (len c:Nat):Prop :=
 (p=none/\len=0/\c=0)\/∃ b rs nx ro,p=some ⟨b,0,none⟩/\len<=c/\xA c=true/\yH Z.heap b=some (.cells rs n [(0,rs.length)] nx ro)/\rs.length=len*n/\b<Z.y
theorem zSZ {c:Nat} (h:xA c=true):yN c=c:=by
 have:=(xE c).1 h;unfold yN;rw [if_neg (by omega)]
theorem yZL {k:IntKind} {x d top:Nat} {i:Int} (hi:i=(x:Int)) (h:x<=top):vL (some (.int k i)) d top=some x:=by
 subst hi;have h1:leI 0 (x:Int)=true:=(wU _ _).2 (by omega);have h2:leI (x:Int) (.ofNat top)=true:=(wU _ _).2 (by show (x:Int)<=(top:Int);omega);show (bif leI 0 (x:Int) && leI (x:Int) (.ofNat top) then some (x:Int).toNat else none)=some x;rw [h1,h2];rfl
end
end Go.Lay

namespace Go.Lay
open Go
section
variable {P:Program}
theorem xH {α β:Type} (x:Sem α) (f:α->Sem β):zZ P (x >>= f)=(zZ P x).bind fun a=>zZ P (f a):=by
 induction x with
 | pure a=>rfl
 | program k ih=>exact ih P
 | _=>rfl
theorem zPO {α:Type} (a:α):zZ P (pure a:Sem α)=some a:=rfl
theorem yIZ:zZ P program=some P:=rfl
theorem zJR {t:TypeId} {d:TypeDesc} (h:P.underlying t=some d):zZ P (underlying t)=some d:=by
 unfold underlying;rw [xH,yIZ];simp only [Option.bind_some,h];rfl
theorem xKY {t:TypeId} {k:IntKind} (h:P.underlying t=some (.int k)):zZ P (isAgg t)=some false:=by
 unfold isAgg;rw [xH,zJR h];rfl
theorem xAX {t:TypeId} {k:IntKind} (h:P.underlying t=some (.int k)) {cs:Array Value} {off:Nat} {v:Value} (hv:cs[off]?=some v):zZ P (part t cs off)=some v:=by
 unfold part;rw [xH,xKY h];simp only [Option.bind_some,Bool.false_eq_true,if_false,hv];rfl
theorem zHA {d:Nat} {t:TypeId} {k:IntKind} (h:P.underlying t=some (.int k)) (q:IntKind) (a b:Int):zZ P (Op.equalIn (d+1) t (.int q a) (.int q b))=some (a == b):=by
 unfold Op.equalIn;rw [xH,zJR h];simp only [Option.bind_some,if_true];rfl
def xBV (P:Program):Nat->List Field->Bool
 | _,[]=>true
 | i, f :: fs => (match P.underlying f.type with | some (.int _) => true | _ => false) && Nat.beq f.offset i && (f.name != "_") && xBV P (i + 1) fs
theorem xGO {f:Field} (h:(match P.underlying f.type with | some (.int _)=>true | _=>false)=true):∃ k,P.underlying f.type=some (.int k):=by
 split at h
 ·exact ⟨_,by assumption⟩
 ·cases h
theorem yEM {d:Nat} {xs ys:Array Value} {q:Nat->IntKind}:∀ (fs:List Field) (i:Nat) (as bs:List Int),xBV P i fs=true->as.length=fs.length->bs.length=fs.length->(∀ j x,as[j]?=some x->xs[i+j]?=some (.int (q (i+j)) x))->(∀ j x,bs[j]?=some x->ys[i+j]?=some (.int (q (i+j)) x)) ->
  zZ P (forIn fs ((none,()):Option Bool × Unit) fun f __s =>
   if f.name ≠ "_" then do
    let a <- part f.type xs f.offset
    let b <- part f.type ys f.offset
    let r <- Op.equalIn (d+1) f.type a b
    if (!r)=true then pure (ForInStep.done (some false,())) else pure (ForInStep.yield (none,()))
   else pure (ForInStep.yield (none,())))=some (if as=bs then (none,()) else (some false,()))
 | [],i,as,bs,_,ha,hb,_,_=>by
  have h1:as=[]:=by simpa using ha
  have h2:bs=[]:=by simpa using hb
  subst h1 h2;rfl
 | f::fs,i,[],bs,_,ha,_,_,_=>by simp at ha
 | f::fs,i,a::as,[],_,_,hb,_,_=>by simp at hb
 | f::fs,i,a::as,b::bs,h,ha,hb,hx,hy=>by
  simp only [xBV,Bool.and_eq_true] at h;obtain ⟨⟨⟨h1,h2⟩,h3⟩,h4⟩:=h;obtain ⟨ku,hu⟩:=xGO h1;have ho:=Nat.eq_of_beq_eq_true h2;have hn : f.name ≠ "_" := by simpa using h3
  have ea:xs[f.offset]?=some (.int (q i) a):=by rw [ho];simpa using hx 0 a rfl
  have eb:ys[f.offset]?=some (.int (q i) b):=by rw [ho];simpa using hy 0 b rfl
  rw [List.forIn_cons,xH];simp only [if_pos hn];rw [xH,xAX hu ea];simp only [Option.bind_some];rw [xH,xAX hu eb];simp only [Option.bind_some];rw [xH,zHA hu];simp only [Option.bind_some];by_cases e:a=b
  ·subst e;simp only [beq_self_eq_true,Bool.not_true,Bool.false_eq_true,if_false,zPO,Option.bind_some];have ih:=yEM (d:=d) (xs:=xs) (ys:=ys) fs (i+1) as bs h4 (by simpa using ha) (by simpa using hb) (fun j x hj=>by have:=hx (j+1) x (by simpa using hj);rwa [show i+(j+1)=i+1+j by omega] at this) (fun j x hj=>by have:=hy (j+1) x (by simpa using hj);rwa [show i+(j+1)=i+1+j by omega] at this);rw [ih];by_cases e2:as=bs
   ·rw [if_pos e2,if_pos (by rw [e2])]
   ·rw [if_neg e2,if_neg (by simpa using e2)]
  ·have e1:(a == b)=false:=by simpa using e
   simp only [e1,Bool.not_false,if_true,zPO,Option.bind_some];rw [if_neg (by intro k;exact e (by cases k;rfl))]
def yWW (P:Program) (t n:Nat):Bool:=match P.underlying t with
 | some (.struct fs)=>xBV P 0 fs.toList && Nat.beq fs.size n && !P.stoodInHeld t
 | _=>false
theorem xSU {t n d:Nat} (q:Nat->IntKind) (h:yWW P t n=true) {as bs:List Int} {xs ys:Array Value} (ha:as.length=n) (hb:bs.length=n) (hx:∀ (j:Nat) (x:Int),as[j]?=some x->xs[j]?=some (Value.int (q j) x)) (hy:∀ (j:Nat) (x:Int),bs[j]?=some x->ys[j]?=some (Value.int (q j) x)):zZ P (Op.equalIn (d+2) t (.agg xs) (.agg ys))=some (decide (as=bs)):=by
 unfold yWW at h;split at h;rotate_left
 ·cases h
 rename_i fs hu;simp only [Bool.and_eq_true,Bool.not_eq_true'] at h;obtain ⟨⟨h1,h2⟩,h3⟩:=h;have h2:=Nat.eq_of_beq_eq_true h2;have hl:fs.toList.length=n:=by simpa using h2
 have key:=yEM (d:=d) (xs:=xs) (ys:=ys) (q:=q) fs.toList 0 as bs h1 (by omega) (by omega) (fun j x hj=>by simpa using hx j x hj) (fun j x hj=>by simpa using hy j x hj);unfold Op.equalIn;rw [xH,zJR hu];simp only [Option.bind_some];rw [xH,yIZ];simp only [Option.bind_some,h3,Bool.false_eq_true,if_false];rw [xH,<- Array.forIn_toList];rw [key];simp only [Option.bind_some];by_cases e:as=bs
 ·rw [if_pos e];simp [e];rfl
 ·rw [if_neg e];simp [e];rfl
theorem xXU {t n d:Nat} (h:yWW P t n=true) {as bs:List Int} (ha:as.length=n) (hb:bs.length=n):zZ P (Op.equalIn (d+2) t (.agg ⟨as.map fun x=>.int .i64 x⟩) (.agg ⟨bs.map fun x=>.int .i64 x⟩))=some (decide (as=bs)) :=
 xSU (fun _=>.i64) h ha hb (fun j x hj=>by simp [hj]) (fun j x hj=>by simp [hj])
structure KeyT (P:Program) (kt:TypeId) {κ:Type} [DecidableEq κ] (enc:κ->Value):Prop where
 eq:∀ a b,zZ P (Op.equal kt (enc a) (enc b))=some (decide (a=b))
 ok:∀ e a,zIF P e kt (enc a)=true
 bits:∀ a,Instr.sameBits 10000 (enc a) (enc a)=true
section
variable {κ α:Type} [DecidableEq κ] {Z τ:St} {b kt et mt:Nat} {enc:κ->Value} {vf:α->Value} {F:κ->Option α}
def zKF (m:List (κ × α)) (k:κ):Option α:=match m with
 | []=>none
 | e::m=>if k=e.1 then some e.2 else zKF m k
def yAD (k:κ):List (κ × α)->Nat->Option Nat
 | [],_=>none
 | e::m,i=>if k=e.1 then some i else yAD k m (i+1)
theorem zLT (hk:KeyT P kt enc) (k:κ):∀ (m:List (κ × α)) (i:Nat),zAA P kt (enc k) (m.map fun e=>(enc e.1,vf e.2)) i=some (yAD k m i)
 | [],i=>rfl
 | e::m,i=>by
  simp only [List.map_cons,zAA,hk.eq,yAD];by_cases h:k=e.1
  ·simp [h]
  ·simp only [h,decide_false,if_false];exact zLT hk k m (i+1)
theorem zLV {k:κ}:∀ {m:List (κ × α)} {i j:Nat},yAD k m i=some j->∃ v,i<=j/\m[j-i]?=some (k,v)/\zKF m k=some v
 | [],_,_,h=>by cases h
 | e::m,i,j,h=>by
  unfold yAD at h;split at h
  ·rename_i hk;cases h
   exact ⟨e.2,Nat.le_refl _,by simp [hk],by simp [zKF,hk]⟩
  ·rename_i hk;obtain ⟨v,h1,h2,h3⟩:=zLV h;refine ⟨v,by omega, ?_,by simp [zKF,hk,h3]⟩
   rw [show j-i=(j-(i+1))+1 by omega,List.getElem?_cons_succ];exact h2
theorem zSJ {k:κ}:∀ {m:List (κ × α)} {i:Nat},yAD k m i=none->zKF m k=none
 | [],_,_=>rfl
 | e::m,i,h=>by
  unfold yAD at h;split at h
  ·cases h
  ·rename_i hk;simp [zKF,hk,zSJ h]
def zGJ (P:Program) (Z:St) (b:Nat) (enc:κ->Value) (vf:α->Value) (F:κ->Option α):Prop:=b<Z.y/\∃ m:List (κ × α),yH Z.heap b=some (.map (m.map fun e=>(enc e.1,vf e.2)))/\∀ k,F k=zKF m k
theorem zGJ.le (h:zGJ P Z b enc vf F) (k:Le Z τ):zGJ P τ b enc vf F:=by
 obtain ⟨h1,m,h2,h3⟩:=h;exact ⟨Nat.lt_of_lt_of_le h1 k.y,m,by rw [k.get _ h1];exact h2,h3⟩
theorem zGJ.at_ (h:zGJ P Z b enc vf F) (k:yH τ.heap b=yH Z.heap b) (hn:Z.y<=τ.y):zGJ P τ b enc vf F:=by
 obtain ⟨h1,m,h2,h3⟩:=h;exact ⟨Nat.lt_of_lt_of_le h1 hn,m,by rw [k];exact h2,h3⟩
theorem zGJ.new (Z:St):zGJ P (Z.add (.map [])) Z.y enc vf (fun _=>none):=⟨by simp,[],by rw [St.add_get,if_pos rfl];rfl,fun _=>rfl⟩
theorem zGJ.look {z:Value} {ok:Bool} (h:zGJ P Z b enc vf F) (hk:KeyT P kt enc) (hm:zDV P mt=some (kt,et)) (hz:uO P et=some z) (k:κ) :
  xP P (evL [.map (some b),enc k]) Z (.lookup mt (.tmp 0) (.tmp 1) ok)=some (let v:=match F k with | some v=>vf v | none=>z;bif ok then .tuple ⟨[v,.bool (F k).isSome]⟩ else v):=by
 obtain ⟨h1,m,h2,h3⟩:=h;have e0:∀ l:List Value,evL l (.tmp 0)=l.getD 0 undef:=fun _=>rfl
 have e1:∀ l:List Value,evL l (.tmp 1)=l.getD 1 undef:=fun _=>rfl
 unfold xP;simp only [hm,hz,e0,e1,List.getD_cons_zero,List.getD_cons_succ,h2,hk.ok,cond_true,zLT hk];rw [h3 k];cases hi:yAD k m 0 with
 | none=>simp only [zSJ hi];rfl
 | some j =>
  obtain ⟨v,_,g2,g3⟩:=zLV hi;simp only [g3];rw [Nat.sub_zero] at g2;simp [g2]
theorem zGJ.look1 {z:Value} (h:zGJ P Z b enc vf F) (hk:KeyT P kt enc) (hm:zDV P mt=some (kt,et)) (hz:uO P et=some z) {k:κ} {v:α} (hv:F k=some v) :
  xP P (evL [.map (some b),enc k]) Z (.lookup mt (.tmp 0) (.tmp 1) true)=some (.tuple ⟨[vf v,.bool true]⟩):=by rw [h.look hk hm hz k,hv];rfl
theorem zGJ.look0 {z:Value} (h:zGJ P Z b enc vf F) (hk:KeyT P kt enc) (hm:zDV P mt=some (kt,et)) (hz:uO P et=some z) {k:κ} (hv:F k=none) :
  xP P (evL [.map (some b),enc k]) Z (.lookup mt (.tmp 0) (.tmp 1) true)=some (.tuple ⟨[z,.bool false]⟩):=by rw [h.look hk hm hz k,hv];rfl
theorem yQH {m:List (κ × α)} {k k':κ} {x:α} (h:zKF m k=none):zKF (m++[(k,x)]) k'=if k'=k then some x else zKF m k':=by
 induction m with
 | nil=>simp [zKF]
 | cons e m ih =>
  simp only [zKF] at h;split at h
  ·cases h
  ·rename_i hk;simp only [List.cons_append,zKF,ih h];by_cases h1:k'=e.1
   ·have:¬ k'=k:=fun h2=>hk (h2 ▸ h1)
    rw [if_pos h1,if_pos h1,if_neg this]
   ·rw [if_neg h1,if_neg h1]
theorem yQG {k k':κ} {x:α}:∀ {m:List (κ × α)} {i j:Nat},yAD k m i=some j->zKF (m.set (j-i) (k,x)) k'=if k'=k then some x else zKF m k'
 | [],_,_,h=>by cases h
 | e::m,i,j,h=>by
  unfold yAD at h;split at h
  ·rename_i hk;cases h
   simp only [Nat.sub_self,List.set_cons_zero,zKF];by_cases h1:k'=k
   ·rw [if_pos h1,if_pos h1]
   ·rw [if_neg h1,if_neg h1,if_neg (fun h2=>h1 (h2.trans hk.symm))]
  ·rename_i hk;obtain ⟨v,h1,_,_⟩:=zLV h;rw [show j-i=(j-(i+1))+1 by omega,List.set_cons_succ];simp only [zKF];rw [yQG h];by_cases h2:k'=e.1
   ·have:¬ k'=k:=fun h3=>hk (h3 ▸ h2)
    rw [if_pos h2,if_pos h2,if_neg this]
   ·rw [if_neg h2,if_neg h2]
theorem zGJ.put (h:zGJ P Z b enc vf F) (hk:KeyT P kt enc) (hm:zDV P mt=some (kt,et)) (k:κ) (x:α) :
  ∃ es,zQ P (evL [.map (some b),enc k,vf x]) Z (.mapUpdate mt (.tmp 0) (.tmp 1) (.tmp 2))=some (undef,Z.put b (.map es))/\zGJ P (Z.put b (.map es)) b enc vf (fun k'=>if k'=k then some x else F k'):=by
 obtain ⟨h1,m,h2,h3⟩:=h;have e0:∀ l:List Value,evL l (.tmp 0)=l.getD 0 undef:=fun _=>rfl
 have e1:∀ l:List Value,evL l (.tmp 1)=l.getD 1 undef:=fun _=>rfl
 have e2:∀ l:List Value,evL l (.tmp 2)=l.getD 2 undef:=fun _=>rfl
 cases hi:yAD k m 0 with
 | none =>
  refine ⟨(m++[(k,x)]).map fun e=>(enc e.1,vf e.2), ?_,by simpa using h1,m++[(k,x)],by rw [St.put_get,if_pos rfl],fun k'=>?_⟩
  ·unfold zQ;simp only [hm,e0,e1,e2,List.getD_cons_zero,List.getD_cons_succ,h2,hk.ok,cond_true,zLT hk,hi,St.write_eq,List.map_append,List.map_cons,List.map_nil]
  ·show (if k'=k then some x else F k')=_;rw [yQH (zSJ hi),h3 k']
 | some j =>
  obtain ⟨v,_,g2,g3⟩:=zLV hi;rw [Nat.sub_zero] at g2;refine ⟨(m.set j (k,x)).map fun e=>(enc e.1,vf e.2), ?_,by simpa using h1,m.set j (k,x),by rw [St.put_get,if_pos rfl],fun k'=>?_⟩
  ·have g2':(m.map fun e=>(enc e.1,vf e.2))[j]?=some (enc k,vf v):=by simp [g2]
   unfold zQ;simp only [hm,e0,e1,e2,List.getD_cons_zero,List.getD_cons_succ,h2,hk.ok,cond_true,zLT hk,hi,g2',hk.bits,St.write_eq,List.map_set]
  ·have:=yQG (x:=x) (k':=k') hi;rw [Nat.sub_zero] at this;show (if k'=k then some x else F k')=_;rw [this,h3 k']
end
end
end Go.Lay

namespace Go.Lay
open Go
def Keys:List (Nat × Nat)->Nat->Prop
 | [],_=>True
 | (k,_)::l,nx=>k<nx/\Keys l k
theorem Keys.mono:∀ {l:List (Nat × Nat)} {m n:Nat},Keys l m->m<=n->Keys l n
 | [],_,_,_,_=>trivial
 | (_,_)::_,_,_,h,hm=>⟨Nat.lt_of_lt_of_le h.1 hm,h.2⟩
theorem Keys.tail:∀ {l:List (Nat × Nat)} {a:Nat × Nat} {m:Nat},Keys (a::l) m->Keys l m
 | _,(_,_),_,h=>h.2.mono (Nat.le_of_lt h.1)
theorem Keys.lt:∀ {l r:List (Nat × Nat)} {k e m:Nat},Keys (l++(k,e)::r) m->k<m
 | [],_,_,_,_,h=>h.1
 | (_,_)::l,_,_,_,_,h=>Nat.lt_trans (Keys.lt h.2) h.1
theorem Keys.drop:∀ {l r:List (Nat × Nat)} {m:Nat},Keys (l++r) m->Keys r m
 | [],_,_,h=>h
 | (_,_)::l,_,_,h=>(Keys.drop h.2).mono (Nat.le_of_lt h.1)
theorem Keys.find:∀ {l r:List (Nat × Nat)} {k e m:Nat},Keys (l++(k,e)::r) m->wW (l++(k,e)::r) k=some e/\wL (l++(k,e)::r) k=(k,e)::r
 | [],r,k,e,_,_=>by simp [wW,wL]
 | (k',e')::l,r,k,e,_,h=>by
  have h1:k<k':=Keys.lt h.2;have h2:Nat.beq k' k=false:=by rw [Bool.eq_false_iff];intro e;have:=Nat.eq_of_beq_eq_true e;omega
  obtain ⟨h3,h4⟩:=Keys.find h.2;exact ⟨by rw [List.cons_append,wW,h2,cond_false];exact h3,by rw [List.cons_append,wL,h2,cond_false];exact h4⟩
def Stk (z:St) (n0:Nat) (p:Option Addr) (len c:Nat) (xs:List Value) (sf:List (Nat × Nat)):Prop :=
 (p=none/\len=0/\c=0/\xs=[]/\sf=[])\/∃ b s bc pre r nx,p=some ⟨b,0,s⟩/\c=len+vZ/\xs.length=len/\0<len/\sf=(s.getD 0,len)::r/\n0<=b/\b<z.y/\yH z.heap b=some (.cells bc 1 (pre++sf) nx false)/\bc.take len=xs/\Keys (pre++sf) nx
def Kid (n0:Nat) (p:Option Addr) (len c:Nat) (xs:List Value) (sf:List (Nat × Nat)) (p':Option Addr) (xs':List Value) (sf':List (Nat × Nat)):Prop :=
 (p=none/\len=0/\c=0/\xs=[]/\sf=[])\/∃ b s s' e r,p=some ⟨b,0,s⟩/\p'=some ⟨b,0,s'⟩/\sf'=e::sf/\sf=(s.getD 0,len)::r/\c=len+vZ/\xs.length=len/\0<len/\xs'.take len=xs/\n0<=b
section
variable {P:Program} {S:Nat->Prop} {z z':St} {n0 len c len' c':Nat} {p p':Option Addr} {xs xs':List Value} {sf sf':List (Nat × Nat)}
theorem Stk.nil:Stk z n0 none 0 0 [] []:=.inl ⟨rfl,rfl,rfl,rfl,rfl⟩
theorem Stk.leq (h:Stk z n0 p len c xs sf):xs.length=len:=by
 rcases h with ⟨_,rfl,_,rfl,_⟩ | ⟨_,_,_,_,_,_,_,_,h,_⟩
 ·rfl
 ·exact h
theorem Stk.bd (h:Stk z n0 p len c xs sf):∀ b,AtP p b->n0<=b/\b<z.y:=by
 rintro b ⟨a,rfl,rfl⟩;rcases h with ⟨h,_⟩ | ⟨b,s,bc,pre,r,nx,h1,h2,h3,h4,h5,h6,h7,_⟩
 ·cases h
 ·cases h1;exact ⟨h6,h7⟩
theorem Stk.only (h:Stk z n0 p len c xs sf) (k:Only S z z') (hs:∀ b,AtP p b->¬ S b):Stk z' n0 p len c xs sf:=by
 rcases h with h | ⟨b,s,bc,pre,r,nx,rfl,h2,h3,h4,h5,h6,h7,h8,h9⟩
 ·exact .inl h
 ·exact .inr ⟨b,s,bc,pre,r,nx,rfl,h2,h3,h4,h5,h6,Nat.lt_of_lt_of_le h7 k.y,by rw [k.get b h7 (hs b ⟨_,rfl,rfl⟩)];exact h8,h9⟩
theorem Stk.le (h:Stk z n0 p len c xs sf) (k:Le z z'):Stk z' n0 p len c xs sf:=by
 rcases h with h | ⟨b,s,bc,pre,r,nx,rfl,h2,h3,h4,h5,h6,h7,h8,h9⟩
 ·exact .inl h
 ·exact .inr ⟨b,s,bc,pre,r,nx,rfl,h2,h3,h4,h5,h6,Nat.lt_of_lt_of_le h7 k.y,by rw [k.get b h7];exact h8,h9⟩
theorem Stk.slp (h:Stk z n0 p len c xs sf):SlP z 1 p len xs:=by
 rcases h with ⟨rfl,rfl,_,rfl,_⟩ | ⟨b,s,bc,pre,r,nx,rfl,h2,h3,h4,rfl,h6,h7,h8,h9,h10⟩
 ·exact SlP.nil _ _
 ·refine ⟨by omega, ?_,h7⟩
  have hle:Nat.ble (0+len) len=true:=(zX _ _).2 (by omega);unfold yP;simp only [h8,yC,(Keys.find h10).1,hle,cond_true,List.drop_zero,h3,h9]
theorem Stk.slv {t:Nat} (h:Stk z n0 p len c xs sf) (he:∀ v∈xs,zHM P t 1 v/\v.cells.toList=[v]):SlV P z t 1 p len xs:=by
 have hf:wV xs=xs:=by
  have:∀ l:List Value,(∀ v∈l,v.cells.toList=[v])->wV l=l:=by
   intro l;induction l with
   | nil=>intro _;rfl
   | cons v l ih =>
    intro h;have h1:=h v List.mem_cons_self;have h2:=ih (fun x hx=>h x (List.mem_cons_of_mem _ hx));have:wV (v::l)=v.cells.toList++wV l:=by simp [wV]
    rw [this,h1,h2];rfl
  exact this xs (fun v hv=>(he v hv).2)
 exact ⟨by rw [hf];exact h.slp,h.leq,fun v hv=>(he v hv).1⟩
theorem Kid.pop (h:Kid n0 p len c xs sf p' xs' sf') (k:Stk z n0 p' len' c' xs' sf'):Stk z n0 p len c xs sf:=by
 rcases h with h | ⟨b,s,s',e,r,rfl,rfl,rfl,rfl,rfl,h1,h2,h3,h4⟩
 ·exact .inl h
 ·rcases k with ⟨k,_⟩ | ⟨b',s2,bc,pre,r',nx,k1,k2,k3,k4,k5,k6,k7,k8,k9,k10⟩
  ·cases k
  ·cases k1
   refine .inr ⟨b,s,bc,pre++[e],r,nx,rfl,rfl,h1,h2,rfl,h4,k7, ?_, ?_, ?_⟩
   ·rw [List.append_assoc];exact k8
   ·have hl:len<=len':=by
     have:=congrArg List.length h3;simp at this;omega
    rw [<- h3,<- k9,List.take_take,Nat.min_eq_left hl]
   ·rw [List.append_assoc];exact k10
theorem Stk.push {st xt e:Nat} {v:Value} (T:AppT P st xt e 1) (h:Stk z n0 p len c xs sf) (hc:cellB v=true) (hroom:len+1<=1073741824) (hn:n0<=z.y) :
  ∃ p' c' sf' z',yM P st xt (.slice p len c) (.slice (some ⟨z.y,0,none⟩) 1 1) (z.row [v] 1)=some (.slice p' (len+1) c',z')/\Stk z' n0 p' (len+1) c' (xs++[v]) sf'/\Kid n0 p len c xs sf p' (xs++[v]) sf'/\Only (AtP p) z z'/\z'.low<=z.low/\∀ b,AtP p' b->AtP p b\/z.y<=b:=by
 obtain ⟨xd,hxd,hxi⟩:=T.src;obtain ⟨ei,zv,hei,hz,hby,hrz,hzl⟩:=T.info;have hrow:=xM z [v] 1;have hsrc:zAC (z.row [v] 1) 1 zv xd (.slice (some ⟨z.y,0,none⟩) 1 1)=some (1,[v]):=by
  have:wH (z.row [v] 1) 1 (.slice (some ⟨z.y,0,none⟩) 1 1)=some (1,[v]):=by
   have hrd:=hrow.rd;have hrd:yP (z.row [v] 1) ⟨z.y,0,none⟩ (1*1)=some [v]:=hrd;simp [wH,hrd]
  unfold zAC;cases xd with
  | int _=>cases hxi
  | _=>simp only [this]
 have hcond:(zAH (len+1) 1 ei.bytes && [v].all cellB && Nat.beq [v].length (1*1) && zW RD zv && Nat.beq zv.cells.toList.length 1)=true:=by
  unfold zAH;have:Nat.beq [v].length (1*1)=true:=rfl;rw [(zX _ _).2 hroom,(zX _ _).2 T.le,(zX _ _).2 hby,this,hrz,hzl];simp [hc]
 have hc0:yN 0=0:=by unfold yN;have:=vV;rw [if_neg (by omega)]
 have hc1:xA 0=true:=(xE 0).2 vV;rcases h with ⟨rfl,rfl,rfl,rfl,rfl⟩ | ⟨b,s,bc,pre,r,nx,rfl,rfl,h3,h4,rfl,h6,h7,h8,h9,h10⟩
 ·refine ⟨some ⟨(z.row [v] 1).y,0,none⟩,0+1+vZ,[(0,1)],(z.row [v] 1).add (.cells [v] 1 [(0,1)] 1 false), ?_, ?_,.inl ⟨rfl,rfl,rfl,rfl,rfl⟩, ?_,Nat.le_refl _,fun b hb=>.inr (by obtain ⟨a,e,rfl⟩:=hb;cases e;simp)⟩
  ·have hble:Nat.ble (0+1) 0=false:=rfl;unfold yM;simp only [T.el,hxd,hei,hz,hsrc,hcond,cond_true,vE,hc0,hble,cond_false,hc1,yO];rfl
  ·refine .inr ⟨(z.row [v] 1).y,none,[v],[],[],1,rfl,rfl,rfl,by omega,rfl,by simp;omega,by simp, ?_,rfl,⟨by simp,trivial⟩⟩;rw [St.add_get,if_pos rfl];rfl
  ·exact (Only.row _ _ _).trans' (Only.add _ _:Only (AtP none) _ _) (fun b _ h=>.inl h)
 ·obtain ⟨f1,f2⟩:=Keys.find h10;have hcx:xA (len+vZ)=false:=by unfold xA;rw [(zX _ _).2 (by omega)];rfl
  have hcl:yN (len+vZ)=len:=zAK _;have hble:Nat.ble (len+1) len=false:=by rw [Bool.eq_false_iff];intro e;have:=(zX _ _).1 e;omega
  have hgb:yH (z.row [v] 1).heap b=some (.cells bc 1 (pre++(s.getD 0,len)::r) nx false):=by
   rw [(Le.row z [v] 1).get b h7];exact h8
  have hg:(Nat.beq len len && Nat.beq (0+len*1) len && Nat.beq 1 1 && !false && Nat.blt 0 1)=true:=by
   rw [Nat.beq_refl,show 0+len*1=len by omega,Nat.beq_refl];rfl
  have hbl:(bc.take len).length=len:=by rw [h9];exact h3
  refine ⟨some ⟨b,0,some nx⟩,len+1+vZ,(nx,len+1)::(s.getD 0,len)::r,(z.row [v] 1).put b (.cells (bc.take len++[v]) 1 ((nx,len+1)::(s.getD 0,len)::r) (nx+1) false), ?_, ?_, ?_, ?_, ?_,fun b' hb=>.inl (by obtain ⟨a,e,rfl⟩:=hb;cases e;exact ⟨_,rfl,rfl⟩)⟩
  ·unfold yM;simp only [T.el,hxd,hei,hz,hsrc,hcond,cond_true,vE,hcl,hble,cond_false,hcx];unfold zIB;simp only [hgb,yC,f1,f2,hg,cond_true,zEC,wE,St.write_eq]
  ·refine .inr ⟨b,some nx,bc.take len++[v],[],(s.getD 0,len)::r,nx+1,rfl,rfl,by simp [h3],by omega,rfl,h6,by simp;omega, ?_, ?_,⟨by omega, ?_⟩⟩
   ·rw [St.put_get,if_pos rfl];rfl
   ·rw [List.take_of_length_le (by simp [hbl]),h9]
   ·have:=h10.drop;exact ⟨Keys.lt h10,this.2⟩
  ·exact .inr ⟨b,s,some nx,(nx,len+1),r,rfl,rfl,rfl,rfl,rfl,h3,h4,by rw [List.take_append_of_le_length (by omega),List.take_of_length_le (by omega)],h6⟩
  ·exact (Only.row _ _ _).trans' (Only.put (S:=AtP (some ⟨b,0,s⟩)) (.inr ⟨_,rfl,rfl⟩)) (fun b _ h=>.inl h)
  ·simp;omega
end
end Go.Lay
