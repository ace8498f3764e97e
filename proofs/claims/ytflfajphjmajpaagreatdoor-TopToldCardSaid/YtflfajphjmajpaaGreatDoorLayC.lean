
import Derived.ChangeArms
import Derived.ReadAgain
import Derived.ChangeBears
import Derived.Below
import Derived.Test.YtflfajphjmajpaaGreatDoorLayB
set_option linter.unusedVariables false
set_option linter.unusedSimpArgs false
namespace Go.Lay
open Go

def ov:List (Nat × Value)->(Nat->Value)->Nat->Value
 | [],g,i=>g i
 | (k,v)::l,g,i=>bif Nat.beq k i then v else ov l g i
def trF (g:Nat->Value):Nat->Nat->Nat->Bool->Tr Value
 | 0,_,_,_=>.leaf
 | d+1,w,a,c=>.node (some (bif c then g a else undef)) (trF g d (w*2) a false) (trF g d (w*2) (a+w) true)
def Fm (n:Nat) (g:Nat->Value):Tm:=⟨n,trF g ((way n).length+1) 1 0 true⟩
structure Alt where
 T:Type
 e:Exit
 l:T->List (Nat × Value)
 ms:T->List Nat
 Q:T->St->Prop

inductive Ans
 | g
 | b (t:Bool)
 | n (z:Int)
 | l (v:Value)
 | i
 | v (v:Value)
 | e (v:Value) (Z:St)
 | c (v:Value) (Z:St)
 | lp (e:Exit) (fr:Fr) (Z:St)
 | lf (n:Nat) (l:List (Nat × Value)) (alts:List Alt)
 | rf (n:Nat) (l:List (Nat × Value)) (alts:List (Exit × (St->Prop)))
 | fin (a:Alt) (t:a.T)
 | cut (n:Nat) (l:List (Nat × Value)) (alts:List Alt)
 | die
 | dx (v:Value) (Z:St)

def St.row (Z:St) (cs:List Value) (esz:Nat):St:=Z.add (.cells cs esz [(0,cs.length)] 1 false)

def yWB (P:Program) (ev:Operand->Value) (Z:St) (o:Op):Option (Value × St) :=
 match o with
 | .alloc t=>match uQ P t with
  | some z=>some (.pointer (some ⟨Z.y,0,none⟩),Z.row z.cells.toList (xQR P t z.cells.toList.length))
  | none=>none
 | .box t x=>some (.pointer (some ⟨Z.y,0,none⟩),Z.row (ev x).cells.toList (xQR P t (ev x).cells.toList.length))
 | .buildSlice t len ps =>
  match xS P t with
  | some (e,n)=>match uQ P e with
   | some z =>
    bif Nat.ble (len*n) 16777216 && Nat.beq z.cells.toList.length n then
     match zMO (fun i=>some (i*n,n)) (yL z.cells.toList len) (ps.toList.map fun p=>(p.1,ev p.2)) with
     | some cs=>some (.slice (some ⟨Z.y,0,none⟩) len len,Z.row cs n)
     | none=>none
    else none
   | none=>none
  | none=>none
 | .makeMap t none=>match zDR P t with
  | some _=>some (.map (some Z.y),Z.add (.map []))
  | none=>none
 | o=>match xY P ev o with
  | some v=>some (v,Z)
  | none=>none

def evL (l:List Value):Operand->Value
 | .tmp i=>l.getD i undef
 | _=>undef
def wN (n:Nat):List Operand:=(List.range n).map .tmp
def uD (i:Int) (len:Nat):Prop:=0<=i/\i<(len:Int)

def xSQ (P:Program) (f:Tm) (Z:St) (o:Op) (v:Value):Prop :=
 match o with
 | .slice t x lo hi mx=>xZ P Z t (yC f x) (lo.map (yC f)) (hi.map (yC f)) (mx.map (yC f))=some v
 | .lookup t m k ok=>xV P (evL [yC f m,yC f k]) Z (.lookup t (.tmp 0) (.tmp 1) ok)=some v
 | .index t x k=>zDQ P t (yC f x) (yC f k)=some v
 | .binOp op t x y _=>uP P op t x y (yC f x) (yC f y)=some v
 | .convert s d x=>xJ P (evL [yC f x]) Z (.convert s d (.tmp 0))=some v
 | .call c=>xJ P (evL (c.args.toList.map (yC f))) Z (.call { c with args:=⟨wN c.args.toList.length⟩ })=some v
 | o=>xJ P (yC f) Z o=some v
def xSS (P:Program) (f:Tm) (Z:St) (o:Op) (v:Value) (Z':St):Prop :=
 match o with
 | .store t a x=>zN P (evL [yC f a,yC f x]) Z (.store t (.tmp 0) (.tmp 1))=some (v,Z')
 | .mapUpdate t m k x=>zN P (evL [yC f m,yC f k,yC f x]) Z (.mapUpdate t (.tmp 0) (.tmp 1) (.tmp 2))=some (v,Z')
 | .insert t m k x=>zN P (evL [yC f m,yC f k,yC f x]) Z (.insert t (.tmp 0) (.tmp 1) (.tmp 2))=some (v,Z')
 | .makeSlice t l c=>zN P (evL [yC f l,yC f c]) Z (.makeSlice t (.tmp 0) (.tmp 1))=some (v,Z')
 | .call c=>match c.callee,c.argTypes.toList,c.args.toList.map (yC f) with
  | .builtin .append,[st,xt],[s,x]=>yA P st xt s x Z=some (v,Z')
  | .value (.func g),_,as=>yCM P Z (.func g) as=some v/\Z'=Z
  | _,_,_=>zN P (yC f) Z (.call c)=some (v,Z')
 | o=>zN P (yC f) Z o=some (v,Z')

abbrev zJC:=FnRef->List Value->St->Value->St->Prop
abbrev zQQ (rec:Rec):zJC:=fun r args Z v Z'=>uE rec r args Z=some (v,Z')
def zRI (P:Program) (C:zJC) (f:Tm) (Z:St) (o:Op):List Ans->(Value->St->List Ans->Prop)->Prop
 | .g::as,K=>match yWB P (yC f) Z o with
  | some (v,Z')=>K v Z' as
  | none=>False
 | .b t::as,K=>match xY P (yC f) o with
  | some (.bool e)=>e=t/\K (.bool t) Z as
  | _=>False
 | .n z::as,K=>match xY P (yC f) o with
  | some (.int k e)=>e=z/\K (.int k z) Z as
  | _=>False
 | .l v::as,K=>match o with
  | .load t x=>match yC f x with
   | .pointer (some a)=>zH P Z t a=some v/\K v Z as
   | _=>False
  | _=>False
 | .i::as,K=>match o with
  | .indexAddr t x k=>match yC f k,yC f x,P.underlying t with
   | .int _ i,.pointer (some a),some (.array len elem)=>match yU P elem with
    | some n=>uD i len/\K (.pointer (some (zS a (i.toNat*n)))) Z as
    | none=>False
   | .int _ i,.slice (some a) len _,some (.slice elem)=>match yU P elem with
    | some n=>uD i len/\K (.pointer (some (zS a (i.toNat*n)))) Z as
    | none=>False
   | _,_,_=>False
  | _=>False
 | .v v::as,K=>xSQ P f Z o v/\K v Z as
 | .e v Z'::as,K=>xSS P f Z o v Z'/\K v Z' as
 | .c v Z'::as,K=>match o with
  | .call c=>match c.callee with
   | .value fx=>match zCB (yC f fx) (c.args.toList.map (yC f)) with
    | some (r,args)=>match xDC P fx Z r args with
     | none=>C r args Z v Z'/\K v Z' as
     | some _=>False
    | none=>False
   | _=>False
  | _=>False
 | _,_=>False

def zGE (P:Program) (C:zJC) (ops:Array Oper):List Oper->List Ans->Tm->St->List Seen->(Tm->St->List Seen->List Ans->Prop)->Prop
 | [],as,f,Z,l,K=>K f Z l as
 | o::rest,as,f,Z,l,K =>
  match uI ops f o with
  | some true=>zRI P C f Z o.op as fun v Z' as=>zGE P C ops rest as (zCI f o.dst v) Z' (l++[⟨f,v,true,Z,Z'⟩]) K
  | some false=>zGE P C ops rest as (zCI f o.dst undef) Z (l++[⟨f,undef,false,Z,Z⟩]) K
  | none=>False

def yB:Nat->Value->Bool
 | 0,_=>false
 | n+1,.agg cs=>cs.toList.all (yB n)
 | n+1,.tuple cs=>cs.toList.all (yB n)
 | n+1,.iface _ v=>yB n v
 | n+1,.func (.func _) f c=>f.toList.all (yB n) && c.toList.all (yB n)
 | _+1,.int k _=>zGG k k
 | _+1,.bool _ | _+1,.string _ | _+1,.pointer _ | _+1,.slice _ _ _ | _+1,.map _ | _+1,.nilFunc | _+1,.nilIface=>true
 | _+1,_=>false
structure Lk where
 want:Bool
 need:Bool
 low:Prop
 look:St->Prop
 before:St
 after:St
def zX (n:Nat) (vs:List Value):Prop:=vs.all (xL RD n)=true
def xPR (f:Tm):Option Operand->List Value
 | some x=>[yC f x]
 | none=>[]
def yZA (P:Program) (f:Tm) (o:Op) (v:Value) (Z:St):Prop :=
 match o with
 | .load t x=>match yC f x with
  | .pointer (some a)=>(a.block<Z.y/\yB RD v=true)/\zH P Z t a=some v
  | _=>False
 | .slice t x lo hi mx=>(zX Z.y (yC f x::(xPR f lo++(xPR f hi++xPR f mx)))/\yB RD v=true)/\xZ P Z t (yC f x) (lo.map (yC f)) (hi.map (yC f)) (mx.map (yC f))=some v
 | .lookup t m k ok=>(zX Z.y [yC f m,yC f k]/\yB RD v=true)/\xV P (evL [yC f m,yC f k]) Z (.lookup t (.tmp 0) (.tmp 1) ok)=some v
 | .convert s d x=>(zX Z.y [yC f x]/\yB RD v=true)/\xJ P (evL [yC f x]) Z (.convert s d (.tmp 0))=some v
 | .call c=>(zX Z.y (c.args.toList.map (yC f))/\yB RD v=true)/\c.callee=.builtin .len/\xJ P (evL (c.args.toList.map (yC f))) Z (.call { c with args:=⟨wN c.args.toList.length⟩ })=some v
 | _=>False
def yXH:Value->Bool
 | .bool _ | .int .. | .string _ | .nilFunc | .nilIface=>true
 | _=>false
def xIT (f:Tm) (o:Op):List Value:=(o.operands.toList.filter fun x=>!xKG x).map (yC f)
def xUE (f:Tm) (o:Op):Bool:=(xX o || zCL o) && !(xIT f o).all yXH
def zDO (P:Program) (C:zJC) (ops:Array Oper):List Oper->List Ans->Tm->St->List Lk->(Tm->St->List Lk->List Ans->Prop)->Prop
 | [],as,f,Z,l,K=>K f Z l as
 | o::rest,as,f,Z,l,K =>
  match uI ops f o with
  | some true=>zRI P C f Z o.op as fun v Z' as=>zDO P C ops rest as (zCI f o.dst v) Z' (l++[⟨true,xUE f o.op,zX Z.y (xIT f o.op),yZA P f o.op v,Z,Z'⟩]) K
  | some false=>zDO P C ops rest as (zCI f o.dst undef) Z (l++[⟨false,false,True,fun _=>True,Z,Z⟩]) K
  | none=>False
def uT (l:List Lk):List (Nat × Nat)->Prop->Prop
 | [],K=>K
 | p::ps,K=>match l[p.1]?,l[p.2]? with
  | some sj,some sk=>match sj.want with
   | true=>sj.look sk.before/\sj.look sk.after/\uT l ps K
   | false=>uT l ps K
  | _,_=>False
def zFG:List Lk->Prop->Prop
 | [],K=>K
 | s::ss,K=>match s.need with
  | true=>s.low/\zFG ss K
  | false=>zFG ss K

def zEL (P:Program) (C:zJC) (ops:Array Oper) (draw:Bool) (as:List Ans) (fr:Fr) (Z:St) (K:Exit->Fr->St->List Ans->Prop):Prop :=
 match draw with
 | false=>zGE P C ops ops.toList as fr.f Z [] fun f Z _ as=>K .normal ⟨f,fr.marks⟩ Z as
 | true=>match yJD ops (CheckFast.beforeF ops),zXH ops (CheckFast.beforeF ops),xSW ops (CheckFast.beforeF ops) with
  | true,[],false=>zGE P C ops ops.toList as fr.f Z [] fun f Z _ as=>K .normal ⟨f,fr.marks⟩ Z as
  | true,ps,_=>zDO P C ops ops.toList as fr.f Z [] fun f Z l as=>zFG l (uT l ps (K .normal ⟨f,fr.marks⟩ Z as))
  | false,_,_=>False

def wpC (P:Program) (rec:Rec) (N:Nat) (rd:Option Nat):Code->List Ans->Fr->St->(Exit->Fr->St->List Ans->Prop)->Prop
 | .skip,as,fr,Z,K=>K .normal fr Z as
 | .label _,as,fr,Z,K=>K .normal fr Z as
 | .ret,as,fr,Z,K=>K .ret fr Z as
 | .exit id,as,fr,Z,K=>K (.exit id) fr Z as
 | .seq x y,as,fr,Z,K=>wpC P rec N rd x as fr Z fun e fr Z as=>match e with
  | .normal=>wpC P rec N rd y as fr Z K
  | e=>K e fr Z as
 | .cond c x y,as,fr,Z,K=>match yC fr.f c with
  | .bool true=>wpC P rec N rd x as fr Z K
  | .bool false=>wpC P rec N rd y as fr Z K
  | _=>False
 | .block id c,as,fr,Z,K=>wpC P rec N rd c as fr Z fun e fr Z as=>match e with
  | .exit i=>match Nat.beq i id with
   | true=>K .normal fr Z as
   | false=>K (.exit i) fr Z as
  | e=>K e fr Z as
 | .scope c,as,fr,Z,K=>wpC P rec N rd c as fr Z K
 | .region _ ops d,as,fr,Z,K=>zEL P (zQQ rec) ops d as fr Z K
 | .loop c,.lp e fr' Z'::as,fr,Z,K=>zCC (yK P rec N rd c) N fr Z=some (e,fr',Z')/\K e fr' Z' as
 | .rangeFunc g ps a bo,.lp e fr' Z'::as,fr,Z,K=>zND rec rd g ps a bo fr Z=some (e,fr',Z')/\K e fr' Z' as
 | _,_,_,_,_=>False

section
variable {P:Program} {rec:Rec}

theorem yJJ {o:Op} {f:Tm} {Z:St} {r:Value × St} (h:yWB P (yC f) Z o=some r):opA P rec (yC f) Z o=some r:=by
 unfold yWB at h;split at h
 ·split at h
  ·rename_i z hz;simp [opA,zII,zN,hz,yO,wL] at h ⊢;exact h
  ·cases h
 ·simp [opA,zII,zN,yO,wL] at h ⊢;exact h
 ·split at h
  ·rename_i e n hes;split at h
   ·rename_i z hz;obtain ⟨hc,h⟩:=yT h;split at h
    ·rename_i cs hf;simp only [opA,zII,zN,hes,hz,hc,cond_true,hf,yO];exact h
    ·cases h
   ·cases h
  ·cases h
 ·split at h
  ·rename_i ke hmo;simp only [opA,zII,zN,hmo,cond_true,St.new_eq];exact h
  ·cases h
 ·rename_i hn1 hn2 hn3 hn4;split at h
  ·rename_i v hv;cases h
   unfold opA;split
   ·rename_i c;unfold zKS;split
    ·rename_i fx hc;exfalso;simp only [xY] at hv;split at hv <;> simp_all
    ·rename_i hc;exfalso;simp [xY,hc] at hv
    ·rename_i hc;exfalso;simp [xY,hc] at hv
    ·rename_i hc;exfalso;simp [xY,hc] at hv
    ·rename_i hc;rw [hv]
    ·rename_i hc;rw [hv];rfl
    ·rename_i hc;exfalso;simp [xY,hc] at hv
   ·simp [xY] at hv
   ·simp [xY] at hv
   ·simp [xY] at hv
   ·rw [hv]
   ·have:zII o=false:=by
     cases o <;> first | rfl | (simp [xY] at hv;done) | (exfalso;rename_i hx _ _ _ _;exact hx _ rfl)
    rw [this,hv];rfl
  ·cases h
end
end Go.Lay

namespace Go.Lay
open Go
variable {o:Op} {ev:Operand->Value} {Z:St} {v:Value} {f:Tm} {as:List Ans} {n:Nat} {s:Seen}
section
variable {P:Program} {rec:Rec}

theorem zAE (hv:xY P ev o=some v):opA P rec ev Z o=some (v,Z):=by
 unfold opA;split
 ·rename_i c;unfold zKS;split
  ·rename_i fx hc;exfalso;simp only [xY] at hv;split at hv <;> simp_all
  ·rename_i hc;exfalso;simp [xY,hc] at hv
  ·rename_i hc;exfalso;simp [xY,hc] at hv
  ·rename_i hc;exfalso;simp [xY,hc] at hv
  ·rename_i hc;rw [hv]
  ·rename_i hc;rw [hv];rfl
  ·rename_i hc;exfalso;simp [xY,hc] at hv
 ·simp [xY] at hv
 ·simp [xY] at hv
 ·simp [xY] at hv
 ·rw [hv]
 ·have:zII o=false:=by
   cases o <;> first | rfl | (simp [xY] at hv;done) | (exfalso;rename_i hx _ _ _ _;exact hx _ rfl)
  rw [this,hv];rfl

theorem zCM (hv:xY P ev o=none) (hl:xV P ev Z o=some v):opA P rec ev Z o=some (v,Z):=by
 unfold opA;split
 ·rename_i c;unfold zKS;split
  ·rename_i fx hc;exfalso;simp only [xV,hc] at hl;cases hl
  ·rename_i hc;exfalso;simp only [xV,hc] at hl;cases hl
  ·rename_i hc;exfalso;simp only [xV,hc] at hl;cases hl
  ·rename_i hc;exfalso;simp only [xV,hc] at hl;cases hl
  ·rename_i hc;rw [hv,hl];rfl
  ·rename_i b _ _ _ hb hc;exfalso;simp only [xV,hc] at hl;cases b <;> first | (simp at hl;done) | exact hb rfl
  ·rename_i hc;exfalso;simp only [xV,hc] at hl;cases hl
 ·rw [hl];rfl
 ·rw [hl];rfl
 ·rw [hl];rfl
 ·rw [hv,hl];rfl
 ·exfalso;cases o <;> first | (simp [xV] at hl;done) | (rename_i h1 h2 h3 h4 h5;first | exact h1 _ rfl | exact h2 _ _ rfl | exact h3 _ _ _ _ rfl | exact h4 _ _ _ _ _ rfl | exact h5 _ _ _ rfl)

theorem xDD {Z':St} (h:zN P ev Z o=some (v,Z')):opA P rec ev Z o=some (v,Z'):=by
 unfold opA;split
 ·rename_i c;unfold zKS;split
  ·rename_i fx hc;simp only [zN,hc] at h;split at h
   ·rename_i r as href;simp only [Option.map_eq_some_iff] at h;obtain ⟨v0,h1,h2⟩:=h;simp only [h1];rw [h2]
   ·cases h
  ·exact h
  ·exact h
  ·exact h
  ·rename_i hc;exfalso;simp only [zN,hc] at h;cases h
  ·rename_i b ha hcp hcl _ hc;exfalso;simp only [zN,hc] at h;cases b <;> first | (simp at h;done) | exact ha rfl | exact hcp rfl | exact hcl rfl
  ·rename_i hc;exfalso;simp only [zN,hc] at h;cases h
 ·simp [zN] at h
 ·simp [zN] at h
 ·simp [zN] at h
 ·simp [zN] at h
 ·have:zII o=true:=by
   cases o <;> first | rfl | (simp [zN] at h;done) | (exfalso;rename_i hx _ _ _ _;exact hx _ rfl)
  rw [this];exact h

theorem xLS (l:List Value):(wN l.length).map (evL l)=l:=by
 apply List.ext_getElem
 ·simp [wN]
 ·intro i h1 h2;simp [wN,evL,List.getD,h2]
theorem zWJ {c:Call} (h:xJ P (evL (c.args.toList.map ev)) Z (.call { c with args:=⟨wN c.args.toList.length⟩ })=some v):xJ P ev Z (.call c)=some v:=by
 have e:(wN c.args.toList.length).map (evL (c.args.toList.map ev))=c.args.toList.map ev:=by
  have:=xLS (c.args.toList.map ev);rwa [List.length_map] at this
 simp only [xJ,xY,xV,e] at h ⊢;exact h

theorem zHK {K:Value->St->List Ans->Prop} (h:zRI P (zQQ rec) f Z o as K):∃ v Z' as',opA P rec (yC f) Z o=some (v,Z')/\K v Z' as':=by
 unfold zRI at h;split at h
 ·split at h
  ·rename_i v Z' ho;exact ⟨v,Z',_,yJJ ho,h⟩
  ·exact h.elim
 ·split at h
  ·rename_i e he;obtain ⟨rfl,h⟩:=h;exact ⟨_,_,_,zAE he,h⟩
  ·exact h.elim
 ·split at h
  ·rename_i k e he;obtain ⟨rfl,h⟩:=h;exact ⟨_,_,_,zAE he,h⟩
  ·exact h.elim
 ·split at h
  ·split at h
   ·rename_i a ha;exact ⟨_,_,_,zCM rfl (by simp only [xV,ha];exact h.1),h.2⟩
   ·exact h.elim
  ·exact h.elim
 ·split at h
  ·rename_i t x k;split at h
   ·rename_i kd i a len elem hk hx hd;split at h
    ·rename_i n hn;refine ⟨_,_,_,zAE (v:=.pointer (some (zS a (i.toNat*n)))) ?_,h.2⟩
     have h1:leI 0 i=true:=(vG 0 i).2 h.1.1;have h2:ltI i (.ofNat len)=true:=(zIF i _).2 h.1.2;simp only [xY,zFC,hk,hx,hd,hn,h1,h2,Bool.and_self,cond_true]
    ·exact h.elim
   ·rename_i kd i a len cp elem hk hx hd;split at h
    ·rename_i n hn;refine ⟨_,_,_,zAE (v:=.pointer (some (zS a (i.toNat*n)))) ?_,h.2⟩
     have h1:leI 0 i=true:=(vG 0 i).2 h.1.1;have h2:ltI i (.ofNat len)=true:=(zIF i _).2 h.1.2;simp only [xY,zFC,hk,hx,hd,hn,h1,h2,Bool.and_self,cond_true]
    ·exact h.elim
   ·exact h.elim
  ·exact h.elim
 ·obtain ⟨hs,h⟩:=h;refine ⟨_,_,_, ?_,h⟩
  unfold xSQ at hs;split at hs
  ·exact zCM rfl hs
  ·exact zCM rfl hs
  ·exact zAE hs
  ·exact zAE hs
  ·unfold xJ at hs;split at hs
   ·rename_i v0 hv;cases hs;exact zAE hv
   ·rename_i hv;exact zCM hv hs
  ·have hs:=zWJ hs;unfold xJ at hs;split at hs
   ·rename_i v0 hv;cases hs;exact zAE hv
   ·rename_i hv;exact zCM hv hs
  ·unfold xJ at hs;split at hs
   ·rename_i v0 hv;cases hs;exact zAE hv
   ·rename_i hv;exact zCM hv hs
 ·obtain ⟨he,h⟩:=h;refine ⟨_,_,_,xDD ?_,h⟩
  unfold xSS at he;split at he
  ·exact he
  ·exact he
  ·exact he
  ·exact he
  ·split at he
   ·rename_i hc ht ha;simp only [zN,hc,ht,ha];exact he
   ·rename_i hc;obtain ⟨he,rfl⟩:=he;simp only [zN,hc,yC,zCB,List.nil_append,List.append_nil,xDC,xKG,cond_true,he,Option.map_some]
   ·exact he
  ·exact he
 ·split at h
  ·split at h
   ·rename_i fx hc;split at h
    ·rename_i r args href;split at h
     ·rename_i hx;refine ⟨_,_,_, ?_,h.2⟩
      simp only [opA,zKS,hc,href,hx];exact h.1
     ·exact h.elim
    ·exact h.elim
   ·exact h.elim
  ·exact h.elim
 ·exact h.elim

theorem zFP {ops:Array Oper}:∀ (rest:List Oper) (as:List Ans) (f:Tm) (Z:St) (l:List Seen) (K:Tm->St->List Seen->List Ans->Prop),zGE P (zQQ rec) ops rest as f Z l K ->
  ∃ l' t U as',zBN P rec ops rest f Z=some (l',t,U)/\K t U (l++l') as'
 | [],as,f,Z,l,K,h=>⟨[],f,Z,as,rfl,by rw [List.append_nil];exact h⟩
 | o::rest,as,f,Z,l,K,h=>by
  unfold zGE at h;split at h
  ·rename_i hg;obtain ⟨v,Z',as',h1,h2⟩:=zHK h;obtain ⟨l',t,U,as2,h3,h4⟩:=zFP rest _ _ _ _ _ h2;exact ⟨⟨f,v,true,Z,Z'⟩::l',t,U,as2,by simp [zBN,hg,h1,zGX,xH,h3],by rw [List.append_assoc] at h4;exact h4⟩
  ·rename_i hg;obtain ⟨l',t,U,as2,h3,h4⟩:=zFP rest _ _ _ _ _ h;exact ⟨⟨f,undef,false,Z,Z⟩::l',t,U,as2,by simp [zBN,hg,xH,h3],by rw [List.append_assoc] at h4;exact h4⟩
  ·exact h.elim

theorem zCJ {ops:Array Oper}:∀ (rest:List Oper) (f:Tm) (Z:St) (l:List Seen) (t:Tm) (U:St),zBN P rec ops rest f Z=some (l,t,U)->zAX P rec ops rest f Z=some (t,U)
 | [],f,Z,l,t,U,h=>by simp [zBN] at h;simp [zAX,h.2.1,h.2.2]
 | o::rest,f,Z,l,t,U,h=>by
  unfold zBN at h;split at h
  ·rename_i hg;split at h
   ·rename_i v Z' hop;rw [zGX,xH] at h;split at h
    ·rename_i l' t' U' hs;simp at h;obtain ⟨_,rfl,rfl⟩:=h;have:=zCJ rest _ _ _ _ _ hs;simp [zAX,hg,hop,xH,this]
    ·cases h
   ·cases h
  ·rename_i hg;rw [xH] at h;split at h
   ·rename_i l' t' U' hs;simp at h;obtain ⟨_,rfl,rfl⟩:=h;have:=zCJ rest _ _ _ _ _ hs;simp [zAX,hg,xH,this]
   ·cases h
  ·cases h

theorem xGJ:∀ (n:Nat) (v:Value),yB n v=true->veq n v v=true:=by
 intro n;induction n with
 | zero=>intro v h;simp [yB] at h
 | succ n ih =>
  have lists:∀ (l:List Value),l.all (yB n)=true->veq.veqs n l l=true:=by
   intro l;induction l with
   | nil=>intro _;rfl
   | cons x l ihl =>
    intro h;simp only [List.all_cons,Bool.and_eq_true] at h;simp only [veq.veqs,Bool.and_eq_true];exact ⟨ih x h.1,ihl h.2⟩
  intro v h;cases v with
  | agg cs=>simp only [yB] at h;simp only [veq];exact lists _ h
  | tuple cs=>simp only [yB] at h;simp only [veq];exact lists _ h
  | iface t x=>simp only [yB] at h;simp only [veq,Bool.and_eq_true];exact ⟨Nat.beq_refl _,ih x h⟩
  | func fn f c =>
   cases fn with
   | func g=>simp only [yB,Bool.and_eq_true] at h;simp only [veq,Bool.and_eq_true];exact ⟨⟨Nat.beq_refl _,lists _ h.1⟩,lists _ h.2⟩
   | _=>simp [yB] at h
  | bool b=>simp [veq]
  | int k n=>simp only [yB] at h;simp only [veq,zTC,Bool.and_eq_true];exact ⟨h,by simp⟩
  | string s=>simp [veq]
  | pointer a=>simp [veq]
  | slice a l c=>simp [veq]
  | map a=>simp [veq]
  | nilFunc=>rfl
  | nilIface=>rfl
  | _=>simp [yB] at h

structure LkOk (P:Program) (o:Oper) (k:Lk) (s:Seen):Prop where
 want:k.want=s.want
 before:k.before=s.before
 after:k.after=s.after
 low:(k.need=true->k.low)->(!s.want || zDH s.before.y s.f o || !(xX o.op || zCL o.op))=true
 look:s.want=true->∀ Z,k.look Z->steady P o s Z=true
inductive LkAll (P:Program):List Oper->List Lk->List Seen->Prop
 | nil:LkAll P [] [] []
 | cons {o:Oper} {k:Lk} {s:Seen} {os:List Oper} {ks:List Lk} {ss:List Seen} (h:LkOk P o k s) (t:LkAll P os ks ss):LkAll P (o::os) (k::ks) (s::ss)
theorem LkAll.get {os:List Oper} {ks:List Lk} {ss:List Seen} (h:LkAll P os ks ss):∀ (i:Nat) (k:Lk),ks[i]?=some k->∃ o s,os[i]?=some o/\ss[i]?=some s/\LkOk P o k s:=by
 induction h with
 | nil=>intro i k h;simp at h
 | cons h _ ih =>
  intro i k hk;cases i with
  | zero=>simp at hk;subst hk;exact ⟨_,_,rfl,rfl,h⟩
  | succ i=>simpa using ih i k (by simpa using hk)

theorem zFH {o:Oper} (h:zX n (o.op.operands.toList.map (yC f))):zDH n f o=true:=by
 unfold zX at h;rw [List.all_map] at h;exact h
theorem yRU {vs:List Value} (h:vs.all yXH=true):zX n vs:=by
 refine List.all_eq_true.2 (fun v hv=>?_);have:=List.all_eq_true.1 h v hv;cases v <;> first | rfl | (simp [yXH] at this;done)
theorem yAM {o:Oper} (h:zX n (xIT f o.op)):zDH n f o=true:=by
 refine List.all_eq_true.2 (fun x hx=>?_);cases hx2:xKG x with
 | true=>cases x <;> first | (simp [xKG] at hx2;done) | rfl
 | false =>
  have:=List.all_eq_true.1 h (yC f x) (List.mem_map_of_mem (List.mem_filter.2 ⟨hx,by rw [hx2];rfl⟩));exact this
theorem zGF {o:Oper} (h1:zDH Z.y s.f o=true) (h2:yB RD s.v=true) (h3:xJ P (yC s.f) Z o.op=some s.v):steady P o s Z=true:=by
 unfold steady;cases hw:s.want with
 | true=>rw [cond_true,h1,Bool.true_and,h3];exact xGJ _ _ h2
 | false=>rfl
theorem yMC {o:Oper} (h:yZA P s.f o.op s.v Z):steady P o s Z=true:=by
 unfold yZA at h;split at h
 ·rename_i t x ho;split at h
  ·rename_i a ha;refine zGF ?_ h.1.2 (by rw [ho];simp only [xJ,xY,xV,ha];exact h.2);refine zFH (n:=Z.y) ?_
   unfold zX;rw [ho];simp only [Op.operands,List.map_cons,List.map_nil,ha,List.all_cons,List.all_nil,Bool.and_true];exact (zAQ _ _).2 h.1.1
  ·exact h.elim
 ·rename_i t x lo hi mx ho;refine zGF ?_ h.1.2 (by rw [ho];exact h.2);refine zFH (n:=Z.y) ?_
  have h1:=h.1.1;unfold zX at h1 ⊢;rw [ho];cases lo <;> cases hi <;> cases mx <;> simpa [Op.operands,xPR] using h1
 ·rename_i t m k ok ho;refine zGF ?_ h.1.2 (by rw [ho];exact h.2);refine zFH (n:=Z.y) ?_
  have h1:=h.1.1;unfold zX at h1 ⊢;rw [ho];simpa [Op.operands] using h1
 ·rename_i t m k ho;refine zGF ?_ h.1.2 (by rw [ho];exact h.2);refine zFH (n:=Z.y) ?_
  have h1:=h.1.1;unfold zX at h1 ⊢;rw [ho];simpa [Op.operands] using h1
 ·rename_i c ho;refine zGF ?_ h.1.2 (by rw [ho];exact zWJ h.2.2);refine zFH (n:=Z.y) ?_
  have h1:=h.1.1;unfold zX at h1 ⊢;rw [ho];simpa [Op.operands,Call.operands,h.2.1] using h1
 ·exact h.elim

theorem zHJ {ops:Array Oper}:∀ (rest:List Oper) (as:List Ans) (f:Tm) (Z:St) (l:List Lk) (K:Tm->St->List Lk->List Ans->Prop),zDO P (zQQ rec) ops rest as f Z l K ->
  ∃ l' t U as' lk,zBN P rec ops rest f Z=some (l',t,U)/\LkAll P rest lk l'/\K t U (l++lk) as'
 | [],as,f,Z,l,K,h=>⟨[],f,Z,as,[],rfl,.nil,by rw [List.append_nil];exact h⟩
 | o::rest,as,f,Z,l,K,h=>by
  unfold zDO at h;split at h
  ·rename_i hg;obtain ⟨v,Z',as',h1,h2⟩:=zHK h;obtain ⟨l',t,U,as2,lk,h3,h4,h5⟩:=zHJ rest _ _ _ _ _ h2;refine ⟨⟨f,v,true,Z,Z'⟩::l',t,U,as2,⟨true,xUE f o.op,zX Z.y (xIT f o.op),yZA P f o.op v,Z,Z'⟩::lk,by simp [zBN,hg,h1,zGX,xH,h3],.cons ⟨rfl,rfl,rfl,fun hl=>?_,fun _ Z₁ hl=>yMC (s:=⟨f,v,true,Z,Z'⟩) hl⟩ h4,by rw [List.append_assoc] at h5;exact h5⟩
   simp only at hl;cases ha:xX o.op || zCL o.op with
   | false=>simp
   | true =>
    have hb:zDH Z.y f o=true:=by
     cases ht:(xIT f o.op).all yXH with
     | true=>exact yAM (yRU ht)
     | false=>exact yAM (hl (by unfold xUE;rw [ha,ht];rfl))
    simp only [hb];simp
  ·rename_i hg;obtain ⟨l',t,U,as2,lk,h3,h4,h5⟩:=zHJ rest _ _ _ _ _ h;exact ⟨⟨f,undef,false,Z,Z⟩::l',t,U,as2,⟨false,false,True,fun _=>True,Z,Z⟩::lk,by simp [zBN,hg,xH,h3],.cons ⟨rfl,rfl,rfl,fun _=>rfl,fun h=>by cases h⟩ h4,by rw [List.append_assoc] at h5;exact h5⟩
  ·exact h.elim

theorem zIR:∀ {os:List Oper} {ks:List Lk} {ss:List Seen} {K:Prop},LkAll P os ks ss->zFG ks K->zHB os ss=true/\K
 | [],_,_,_,.nil,hb=>⟨rfl,hb⟩
 | _::_,k::_,_::_,K,.cons h t,hb=>by
  simp only [zFG] at hb;simp only [zHB,Bool.and_eq_true];cases hn:k.need with
  | true =>
   rw [hn] at hb;obtain ⟨h1,h2⟩:=zIR t hb.2;exact ⟨⟨h.low (fun _=>hb.1),h1⟩,h2⟩
  | false =>
   rw [hn] at hb;obtain ⟨h1,h2⟩:=zIR t hb;exact ⟨⟨h.low (fun e=>by rw [hn] at e;cases e),h1⟩,h2⟩
theorem zEO {ops:Array Oper} {ks:List Lk} {l:List Seen} {K:Prop} (h:LkAll P ops.toList ks l):∀ (ps:List (Nat × Nat)),uT ks ps K->ps.all (yIB P ops l)=true/\K
 | [],hk=>⟨rfl,hk⟩
 | p::ps,hs=>by
  simp only [uT] at hs;rw [List.all_cons,Bool.and_eq_true];unfold yIB;split at hs
  ·rename_i sj sk e1 e2;obtain ⟨oj,s1,a1,a2,a3⟩:=h.get _ _ e1;obtain ⟨_,s2,_,b2,b3⟩:=h.get _ _ e2;have a1:ops[p.1]?=some oj:=by simpa using a1
   rw [a1,a2,b2];simp only;cases hw:s1.want with
   | true =>
    rw [a3.want,hw] at hs;simp only at hs;rw [b3.before,b3.after] at hs;obtain ⟨g1,g2⟩:=zEO h ps hs.2.2;rw [a3.look hw _ hs.1,a3.look hw _ hs.2.1];exact ⟨⟨rfl,g1⟩,g2⟩
   | false =>
    rw [a3.want,hw] at hs;obtain ⟨g1,g2⟩:=zEO h ps hs;exact ⟨⟨by simp [steady,hw],g1⟩,g2⟩
  ·exact hs.elim

theorem yRO (N:Nat) (rd:Option Nat) {id:Nat} {ops:Array Oper} {draw:Bool} {as:List Ans} {fr:Fr} {Z:St} {K:Exit->Fr->St->List Ans->Prop} (h:zEL P (zQQ rec) ops draw as fr Z K) :
  ∃ e fr' Z' as',yK P rec N rd (.region id ops draw) fr Z=some (e,fr',Z')/\K e fr' Z' as':=by
 cases draw with
 | false =>
  simp only [zEL] at h;obtain ⟨l',t,U,as',h1,h2⟩:=zFP _ _ _ _ _ _ h;exact ⟨.normal,⟨t,fr.marks⟩,U,as',by simp only [yK,zBT,zCJ _ _ _ _ _ _ h1],h2⟩
 | true =>
  simp only [zEL] at h;split at h
  ·rename_i h0 hp hf;obtain ⟨l',t,U,as',h1,h2⟩:=zFP _ _ _ _ _ _ h;refine ⟨.normal,⟨t,fr.marks⟩,U,as', ?_,h2⟩
   simp only [yK,zBT,zFU,h0,hp,hf,cond_true,zCJ _ _ _ _ _ _ h1]
  ·rename_i ps _ h0 hno;obtain ⟨l',t,U,as',lk,h1,hlk,h2⟩:=zHJ _ _ _ _ _ _ h;rw [List.nil_append] at h2;obtain ⟨h3,h2⟩:=zIR hlk h2;obtain ⟨h4,h2⟩:=zEO hlk _ h2;refine ⟨.normal,⟨t,fr.marks⟩,U,as', ?_,h2⟩
   have hd:zFU P rec ops fr.f Z=some (t,U):=by
    unfold zFU;rw [h0,cond_true];split
    ·exact zCJ _ _ _ _ _ _ h1
    ·rw [h1];simp only;rw [h3,h4];rfl
   simp only [yK,zBT,hd]
  ·exact h.elim
def zOU:List Nat->St->(St->Prop)->Prop
 | [],Z,K=>K Z
 | d::ds,Z,K=>yD Z.heap d=some .defd/\zOU ds (Z.shut d) K
def yDB (P:Program) (f:Tm) (Z:St):List ResultVar->List Ans->List Value->(List Value->Prop)->Prop
 | [],_,vs,K=>K vs
 | .tmp t::rs,as,vs,K=>yDB P f Z rs as (vs++[f.nth t]) K
 | .cell a t::rs,as,vs,K=>match as,f.nth a with
  | .l v::as,.pointer (some a)=>zH P Z t a=some v/\yDB P f Z rs as (vs++[v]) K
  | _,_=>False
def zXM:List Value->Value
 | [v]=>v
 | vs=>.tuple ⟨vs⟩
def zEM (P:Program) (fn:Func) (fr:Fr) (Z:St) (as:List Ans) (K:Value->St->Prop):Prop :=
 zOU fr.marks Z fun Z=>yDB P fr.f Z fn.results.toList as [] fun vs=>K (zXM vs) Z
def xXT (P:Program) (n:Nat) (f:FuncId) (args:List Value) (as:List Ans) (Z:St) (K:Value->St->Prop):Prop :=
 match P.funcs[f]? with
 | some fn=>match fn.body with
  | some c=>wpC P (zW P n) n none c as ⟨(Tm.args 0 args).foldl (fun f p=>f.set p.1 p.2) (fresh (args.length+(fn.ntmps-args.length))),[]⟩ Z fun e fr Z as=>match e with
   | .normal=>zEM P fn fr Z as K
   | .ret=>zEM P fn fr Z as K
   | _=>False
  | none=>False
 | none=>False

theorem zMD:∀ (ms:List Nat) (Z:St) (K:St->Prop),zOU ms Z K->∃ Z',zCQ ms Z=some Z'/\K Z'
 | [],Z,K,h=>⟨Z,rfl,h⟩
 | d::ds,Z,K,h=>by
  obtain ⟨Z',h1,h2⟩:=zMD ds _ K h.2;exact ⟨Z',by simp only [zCQ,h.1,St.drop_eq,h1],h2⟩
theorem zFN {f:Tm} {Z:St}:∀ (rs:List ResultVar) (as:List Ans) (vs:List Value) (K:List Value->Prop),yDB P f Z rs as vs K->∃ ws,zAF P f Z rs=some ws/\K (vs++ws)
 | [],as,vs,K,h=>⟨[],rfl,by rw [List.append_nil];exact h⟩
 | .tmp t::rs,as,vs,K,h=>by
  obtain ⟨ws,h1,h2⟩:=zFN rs as _ K h;exact ⟨f.nth t::ws,by simp only [zAF,zPF,h1],by rw [List.append_assoc] at h2;exact h2⟩
 | .cell a t::rs,as,vs,K,h=>by
  unfold yDB at h;split at h
  ·rename_i v as' a0 ha;obtain ⟨ws,h1,h2⟩:=zFN rs _ _ K h.2;exact ⟨v::ws,by simp only [zAF,zPF,ha,h.1,h1],by rw [List.append_assoc] at h2;exact h2⟩
  ·exact h.elim
theorem zOV {fn:Func} {fr:Fr} {K:Value->St->Prop} (h:zEM P fn fr Z as K):∃ v Z',zHA P fn fr Z=some (v,Z')/\K v Z':=by
 obtain ⟨Z',h1,h2⟩:=zMD _ _ _ h;obtain ⟨ws,h3,h4⟩:=zFN _ _ _ _ h2;rw [List.nil_append] at h4;refine ⟨zXM ws,Z', ?_,h4⟩
 have:vC P fn fr.f Z'=some (zXM ws):=by
  unfold vC;rw [h3];match ws with
  | []=>rfl
  | [v]=>rfl
  | _::_::_=>rfl
 simp only [zHA,h1,this,zGX]
end
end Go.Lay

namespace Go.Lay
open Go
variable {n b k:Nat} {s:Option Nat}

theorem xXL (a b:Int):(leI a b=true/\a<=b)\/(leI a b=false/\b<a):=by
 by_cases h:a<=b
 ·exact .inl ⟨(vG a b).2 h,h⟩
 ·exact .inr ⟨by rw [yIQ];simp;omega,by omega⟩
theorem xXK (a b:Int):(ltI a b=true/\a<b)\/(ltI a b=false/\b<=a):=by
 by_cases h:a<b
 ·exact .inl ⟨(zIF a b).2 h,h⟩
 ·exact .inr ⟨by rw [zSI];simp;omega,by omega⟩
theorem yJC (a b:Int):eqI a b=true↔a=b:=by rw [zTC];simp
theorem vS {n:Int} (h1:-9223372036854775808<=n) (h2:n<=9223372036854775807):vV .i64 n=n:=by
 have e1:(2:Int) ^ 64=18446744073709551616:=by decide
 have e2:(2:Int) ^ (64-1)=9223372036854775808:=by decide
 rw [zEK];simp only [IntKind.wrap,IntKind.bits,IntKind.signed,e1,e2,Bool.true_and,decide_eq_true_eq];split <;> omega

structure Row (Z:St) (a:Addr) (cs:List Value):Prop where
 rd:yR Z a cs.length=some cs
 lt:a.block<Z.y
structure Le (Z Z':St):Prop where
 y:Z.y<=Z'.y
 get:∀ b,b<Z.y->yD Z'.heap b=yD Z.heap b
def St.re (Z:St):St:=⟨Z.heap,Z.y,Z.y⟩

section
variable {P:Program} {Z Z':St} {a:Addr} {cs:List Value}
theorem Le.refl (Z:St):Le Z Z:=⟨Nat.le_refl _,fun _ _=>rfl⟩
theorem Le.trans {Z₁ Z₂ Z₃:St} (h:Le Z₁ Z₂) (k:Le Z₂ Z₃):Le Z₁ Z₃:=⟨Nat.le_trans h.y k.y,fun b hb=>(k.get b (Nat.lt_of_lt_of_le hb h.y)).trans (h.get b hb)⟩
theorem Le.add (Z:St) (y:Blk):Le Z (Z.add y):=⟨by simp,fun b hb=>by rw [St.add_get,if_neg (Nat.ne_of_lt hb)]⟩
theorem Le.row (Z:St) (cs:List Value) (n:Nat):Le Z (Z.row cs n):=Le.add _ _
theorem ySP (h:Le Z Z') (hb:a.block<Z.y) (n:Nat):yR Z' a n=yR Z a n:=by
 unfold yR;rw [h.get _ hb]
theorem Row.le (h:Row Z a cs) (l:Le Z Z'):Row Z' a cs:=⟨by rw [ySP l h.lt];exact h.rd,Nat.lt_of_lt_of_le h.lt l.y⟩
theorem Row.row (h:Row Z a cs) {ds:List Value} {n:Nat}:Row (Z.row ds n) a cs:=h.le (Le.row _ _ _)
theorem Row.re (h:Row Z a cs):Row Z.re a cs:=⟨h.rd,h.lt⟩
theorem Le.re' (h:Le Z Z'):Le Z Z'.re:=⟨h.y,h.get⟩
theorem zPE (Z:St) (cs:List Value) (n:Nat):Row (Z.row cs n) ⟨Z.y,0,none⟩ cs:=by
 refine ⟨?_,by simp [St.row]⟩
 have h1:yD (Z.row cs n).heap Z.y=some (.cells cs n [(0,cs.length)] 1 false):=by
  show yD (Z.add _).heap Z.y=_;rw [St.add_get,if_pos rfl]
 have h2:Nat.ble (0+cs.length) cs.length=true:=(zP _ _).2 (by omega);have h3:Nat.beq 0 0=true:=rfl;unfold yR;simp only [h1,zZ,Option.getD_none,wR,h3,cond_true,h2,List.drop_zero,List.take_length]
theorem Row.part (h:Row Z a cs) {k m:Nat} (hk:k+m<=cs.length):Row Z (zS a k) ((cs.drop k).take m):=by
 have hl:((cs.drop k).take m).length=m:=by simp;omega
 refine ⟨?_,h.lt⟩
 have hr:=h.rd;rw [hl];unfold yR at hr;split at hr
 ·rename_i bc esz log nx ro hb;split at hr
  ·rename_i e he;obtain ⟨hle,hr⟩:=yT hr;have hle:=(zP _ _).1 hle;have key:yR Z (zS a k) m=bif Nat.ble (a.off+k+m) e then some ((bc.drop (a.off+k)).take m) else none:=by
    unfold yR;rw [show yD Z.heap (zS a k).block=some (.cells bc esz log nx ro) from hb];show (match wR log (zZ a) with | some e=>bif Nat.ble (a.off+k+m) e then some ((bc.drop (a.off+k)).take m) else none | none=>none)=_;rw [he]
   rw [key,(zP (a.off+k+m) e).2 (by omega),cond_true];have hr2:(bc.drop a.off).take cs.length=cs:=by simpa using hr
   congr 1;rw [show (cs.drop k).take m=((((bc.drop a.off).take cs.length)).drop k).take m from by rw [hr2]];rw [List.drop_take,List.drop_drop,List.take_take];congr 1;omega
  ·cases hr
 ·cases hr
theorem Row.load1 (h:Row Z a cs) {t:TypeId} (ht:vE P t=some false) {k:Nat} {v:Value} (hv:cs[k]?=some v):zH P Z t (zS a k)=some v:=by
 have hk:k<cs.length:=(List.getElem?_eq_some_iff.1 hv).1;have hp:=(h.part (k:=k) (m:=1) (by omega)).rd;have e:(cs.drop k).take 1=[v]:=by
  rw [List.drop_eq_getElem_cons hk];have:=(List.getElem?_eq_some_iff.1 hv).2;simp [this]
 rw [e] at hp;unfold zH;simp only [ht];have hp:yR Z (zS a k) 1=some [v]:=hp;rw [hp]
theorem Row.loadN (h:Row Z a cs) {t:TypeId} {n:Nat} (ht:vE P t=some true) (hs:yU P t=some n) {k:Nat} {ds:List Value} (hd:(cs.drop k).take n=ds) (hl:ds.length=n) (hk:k+n<=cs.length):zH P Z t (zS a k)=some (.agg ⟨ds⟩):=by
 have hp:=(h.part (k:=k) (m:=n) hk).rd;rw [hd,hl] at hp;unfold zH;simp only [ht,hs,hp,Option.map_some]
theorem Row.ld (h:Row Z ⟨b,0,s⟩ cs) {t:TypeId} (ht:vE P t=some false) {v:Value} (hv:cs[k]?=some v):zH P Z t ⟨b,k,s⟩=some v:=by
 have:=h.load1 (P:=P) ht hv;simpa [zS] using this
theorem Row.ldN (h:Row Z ⟨b,0,s⟩ cs) {t:TypeId} (ht:vE P t=some true) (hs:yU P t=some n) {ds:List Value} (hd:(cs.drop k).take n=ds) (hl:ds.length=n) (hk:k+n<=cs.length):zH P Z t ⟨b,k,s⟩=some (.agg ⟨ds⟩):=by
 have:=h.loadN (P:=P) ht hs hd hl hk;simpa [zS] using this

structure Own (Z:St) (b:Nat) (cs:List Value) (n:Nat):Prop where
 get:yD Z.heap b=some (.cells cs n [(0,cs.length)] 1 false)
 lt:b<Z.y
def St.own (Z:St) (b:Nat) (cs:List Value) (n:Nat):St:=Z.put b (.cells cs n [(0,cs.length)] 1 false)
theorem zI (Z:St) (cs:List Value) (n:Nat):Own (Z.row cs n) Z.y cs n:=⟨by
 show yD (Z.add _).heap Z.y=_
 rw [St.add_get,if_pos rfl],by simp [St.row]⟩
theorem Own.le (h:Own Z b cs n) (l:Le Z Z'):Own Z' b cs n:=⟨by rw [l.get _ h.lt];exact h.get,Nat.lt_of_lt_of_le h.lt l.y⟩
theorem Own.row {b n:Nat} (h:Own Z b cs n) {ds:List Value} {m:Nat}:Own (Z.row ds m) b cs n:=h.le (Le.row _ _ _)
theorem Own.add {b n:Nat} (h:Own Z b cs n) {y:Blk}:Own (Z.add y) b cs n:=h.le (Le.add _ _)
theorem Own.re {b n:Nat} (h:Own Z b cs n):Own Z.re b cs n:=⟨h.get,h.lt⟩
theorem Own.own {b n c m:Nat} (h:Own Z b cs n) {ds:List Value} (hne:b≠c):Own (Z.own c ds m) b cs n:=⟨by
 show yD (Z.put _ _).heap b=_
 rw [St.put_get,if_neg hne];exact h.get,h.lt⟩
theorem Own.put {b n:Nat} (h:Own Z b cs n) {ds:List Value}:Own (Z.own b ds n) b ds n:=⟨by
 show yD (Z.put _ _).heap b=_
 rw [St.put_get,if_pos rfl],h.lt⟩
theorem Own.rw (h:Own Z b cs n):Row Z ⟨b,0,none⟩ cs:=by
 refine ⟨?_,h.lt⟩
 have h2:Nat.ble (0+cs.length) cs.length=true:=(zP _ _).2 (by omega);have h3:Nat.beq 0 0=true:=rfl;unfold yR;simp only [h.get,zZ,Option.getD_none,wR,h3,cond_true,h2,List.drop_zero,List.take_length]
theorem Own.store {b n k:Nat} (h:Own Z b cs n) {t:TypeId} {v:Value} {vs ds:List Value} (hv:v.cells.toList=vs) (hs:yU P t=some vs.length) (hc:vs.all cellB=true) (hk:k+vs.length<=cs.length) (hd:cs.take k++(vs++cs.drop (k+vs.length))=ds) :
  zN P (evL [.pointer (some ⟨b,k,none⟩),v]) Z (.store t (.tmp 0) (.tmp 1))=some (undef,Z.own b ds n):=by
 have h1:Nat.beq v.cells.toList.length vs.length=true:=by rw [hv];exact Nat.beq_refl _
 have h2:(Nat.beq 0 0 && Nat.ble (k+vs.length) cs.length && !false && vs.all cellB)=true:=by
  rw [(zP _ _).2 hk,hc];rfl
 have hl:ds.length=cs.length:=by rw [<- hd];simp;omega
 have hw:yZ Z ⟨b,k,none⟩ vs=some (Z.own b ds n):=by
  unfold yZ;simp only [h.get,zZ,Option.getD_none,h2,cond_true,zBU,St.write_eq,hd];unfold St.own;rw [hl]
 have:zHN P Z t ⟨b,k,none⟩ v=some (Z.own b ds n):=by
  unfold zHN;rw [hv] at h1 ⊢;simp only [hs,h1,cond_true,hw]
 show (zHN P Z t ⟨b,k,none⟩ v).map _=_;rw [this];rfl
@[simp] theorem St.own_next (Z:St) (b:Nat) (cs:List Value) (n:Nat):(Z.own b cs n).y=Z.y:=rfl
@[simp] theorem St.own_low (Z:St) (b:Nat) (cs:List Value) (n:Nat):(Z.own b cs n).low=min Z.low b:=rfl
@[simp] theorem St.row_next (Z:St) (cs:List Value) (n:Nat):(Z.row cs n).y=Z.y+1:=rfl
@[simp] theorem St.row_low (Z:St) (cs:List Value) (n:Nat):(Z.row cs n).low=Z.low:=rfl

def SlP (Z:St) (n:Nat) (p:Option Addr) (len:Nat) (l:List Value):Prop :=
 l.length=len*n/\match p with
  | none=>len=0
  | some a=>Row Z a l
theorem SlP.le {n len:Nat} {p:Option Addr} {l:List Value} (h:SlP Z n p len l) (k:Le Z Z'):SlP Z' n p len l:=by
 refine ⟨h.1, ?_⟩
 cases p with
 | none=>exact h.2
 | some a=>exact Row.le h.2 k
theorem SlP.row {n len:Nat} {p:Option Addr} {l:List Value} (h:SlP Z n p len l) {ds:List Value} {m:Nat}:SlP (Z.row ds m) n p len l:=h.le (Le.row _ _ _)
theorem SlP.re {n len:Nat} {p:Option Addr} {l:List Value} (h:SlP Z n p len l):SlP Z.re n p len l:=h.le (Le.re' (Le.refl _))
theorem SlP.some {n len:Nat} {p:Option Addr} {l:List Value} (h:SlP Z n p len l) (hl:0<len):∃ a,p=.some a/\Row Z a l:=by
 cases p with
 | none=>have:=h.2;omega
 | some a=>exact ⟨a,rfl,h.2⟩
theorem SlP.nil (Z:St) (n:Nat):SlP Z n none 0 []:=⟨by simp,rfl⟩

def xNR (P:Program) (f:FuncId) (args:List Value) (Z:St) (v:Value) (Z':St):Prop:=∃ N0,∀ N,N0<=N->zW P N (.func f) args Z=some (v,Z')
def zJ (P:Program) (f:FuncId) (args:List Value) (Z:St) (v:Value) (Z':St):Prop:=∃ N0,∀ N,N0<=N->uE (zW P N) (.func f) args Z=some (v,Z')
end
end Go.Lay

namespace Go.Lay
open Go
variable {st xt n t i:Nat} {v:Value} {vs:List Value}

def Code.part:List Nat->Code->Code
 | 0::p,.seq a _=>Code.part p a
 | 1::p,.seq _ b=>Code.part p b
 | 0::p,.cond _ a _=>Code.part p a
 | 1::p,.cond _ _ b=>Code.part p b
 | 0::p,.block _ c=>Code.part p c
 | 0::p,.scope c=>Code.part p c
 | 0::p,.loop c=>Code.part p c
 | 0::p,.rangeFunc _ _ a _=>Code.part p a
 | 1::p,.rangeFunc _ _ _ b=>Code.part p b
 | _,c=>c
def zR (P:Program) (f:FuncId):Code:=match P.funcs[f]? with | some fn=>(match fn.body with | some c=>c | none=>.skip) | none=>.skip

def xTC (P:Program) (rd:Option Nat) (c:Code) (fr:Fr) (Z:St) (e:Exit) (fr':Fr) (Z':St):Prop :=
 ∃ N0,∀ N,N0<=N->yK P (zW P N) N rd c fr Z=some (e,fr',Z')
def yRH (P:Program) (rd:Option Nat) (c:Code) (fr:Fr) (Z:St) (e:Exit) (fr':Fr) (Z':St):Prop :=
 ∃ N0,∀ N m,N0<=N->N0<=m->zCC (yK P (zW P N) N rd c) m fr Z=some (e,fr',Z')
section
variable {P:Program} {rd:Option Nat} {c:Code} {fr fr' fr₁:Fr} {Z Z' Z₁:St} {e:Exit}
theorem yRH.step (h:xTC P rd c fr Z .normal fr₁ Z₁) (k:yRH P rd c fr₁ Z₁ e fr' Z'):yRH P rd c fr Z e fr' Z':=by
 obtain ⟨N1,h1⟩:=h;obtain ⟨N2,h2⟩:=k;refine ⟨N1+N2+1,fun N m hN hm=>?_⟩
 obtain ⟨m,rfl⟩:∃ m',m=m'+1:=⟨m-1,by omega⟩;simp only [zCC,h1 N (by omega)];exact h2 N m (by omega) (by omega)
theorem yRH.exit (h:xTC P rd c fr Z e fr' Z') (he:e≠.normal):yRH P rd c fr Z e fr' Z':=by
 obtain ⟨N1,h1⟩:=h;refine ⟨N1+1,fun N m hN hm=>?_⟩
 obtain ⟨m,rfl⟩:∃ m',m=m'+1:=⟨m-1,by omega⟩;simp only [zCC,h1 N (by omega)];split
 ·rename_i heq;cases heq;exact absurd rfl he
 ·rfl
end

structure Keep (n0:Nat) (Z Z':St):Prop where
 y:Z.y<=Z'.y
 get:∀ b,b<n0->yD Z'.heap b=yD Z.heap b
 low:min Z.low n0<=Z'.low
section
variable {P:Program} {Z Z':St} {a:Addr} {cs:List Value} {n0:Nat}
theorem Keep.add (hn:n0<=Z.y) (y:Blk):Keep n0 Z (Z.add y):=⟨by simp,fun b hb=>by rw [St.add_get,if_neg (by omega)],by simp;omega⟩
theorem Keep.put {b:Nat} (hb:n0<=b) (y:Blk):Keep n0 Z (Z.put b y):=⟨by simp,fun c hc=>by rw [St.put_get,if_neg (by omega)],by simp;omega⟩
inductive App (Z:St) (n0 n:Nat):Value->Nat->List Value->Prop
 | nil:App Z n0 n (.slice none 0 0) 0 []
 | more {b s nx len:Nat} {cs:List Value} {sp:Option Nat} {log:List (Nat × Nat)} (h:yD Z.heap b=some (.cells cs n ((s,cs.length)::log) nx false)) (hs:sp.getD 0=s) (hb:n0<=b) (hlt:b<Z.y) (hl:cs.length=len*n) (hp:0<len) (hsn:s<nx) :
   App Z n0 n (.slice (some ⟨b,0,sp⟩) len (len+vU)) len cs

def xKF:TypeDesc->Bool
 | .int _=>true
 | _=>false
structure AppT (P:Program) (st xt e n:Nat):Prop where
 el:xS P st=some (e,n)
 src:∃ xd,P.underlying xt=some xd/\xKF xd=false
 info:∃ ei z,P.info? e=some ei/\ei.zero=some z/\ei.bytes<=4096/\zQ RD z=true/\Nat.beq z.cells.toList.length n=true
 le:n<=4096
 pos:0<n
def xTA (P:Program) (st xt e n:Nat):Bool :=
 (match xS P st with | some (e',n')=>Nat.beq e e' && Nat.beq n n' | none=>false) &&
 (match P.underlying xt with | some xd=>!xKF xd | none=>false) &&
 (match P.info? e with | some ei=>(match ei.zero with | some z=>Nat.ble ei.bytes 4096 && zQ RD z && Nat.beq z.cells.toList.length n | none=>false) | none=>false) &&
 Nat.ble n 4096 && Nat.blt 0 n
theorem zBF {P:Program} {e:Nat} (h:xTA P st xt e n=true):AppT P st xt e n:=by
 unfold xTA at h;simp only [Bool.and_eq_true] at h;obtain ⟨⟨⟨⟨h1,h2⟩,h3⟩,h4⟩,h5⟩:=h;refine ⟨?_, ?_, ?_,(zP _ _).1 h4,(zP _ _).1 h5⟩
 ·split at h1
  ·rename_i e' n' he;simp only [Bool.and_eq_true] at h1;rw [he,Nat.eq_of_beq_eq_true h1.1,Nat.eq_of_beq_eq_true h1.2]
  ·cases h1
 ·split at h2
  ·rename_i xd hx;exact ⟨xd,hx,by simpa using h2⟩
  ·cases h2
 ·split at h3
  ·rename_i ei hi;split at h3
   ·rename_i z hz;simp only [Bool.and_eq_true] at h3;exact ⟨ei,z,hi,hz,(zP _ _).1 h3.1.1,h3.1.2,h3.2⟩
   ·cases h3
  ·cases h3

theorem wY (x:Nat):yE (x+vU)=x:=by unfold yE;rw [if_pos (by omega)];omega
theorem zDB (x:Nat):yY (x+vU)=false:=by rw [Bool.eq_false_iff];intro e;have:=(xI _).1 e;omega
theorem zDE:0<vU:=by unfold vU;decide

theorem yWC {e m k len:Nat} {a2:Addr} {xs:List Value} (T:AppT P st xt e n) (hA:App Z n0 n v len cs) (hr:Row Z a2 xs) (hm:xs.length=m*n) (hp:0<m) (hroom:len+m<=1073741824) (hc:xs.all cellB=true) (hn0:n0<=Z.y) :
  ∃ v' Z',yA P st xt v (.slice (some a2) m k) Z=some (v',Z')/\App Z' n0 n v' (len+m) (cs++xs)/\Keep n0 Z Z':=by
 obtain ⟨xd,hxd,hxi⟩:=T.src;obtain ⟨ei,z,hei,hz,hby,hrz,hzl⟩:=T.info;have hrd:=hr.rd;rw [hm] at hrd;have hsrc:zCS Z n z xd (.slice (some a2) m k)=some (m,xs):=by
  unfold zCS;cases xd with
  | int _=>cases hxi
  | _=>simp only [wU,hrd,Option.map_some]
 have hcond:(zCA (len+m) n ei.bytes && xs.all cellB && Nat.beq xs.length (m*n) && zQ RD z && Nat.beq z.cells.toList.length n)=true:=by
  unfold zCA;rw [(zP _ _).2 hroom,(zP _ _).2 T.le,(zP _ _).2 hby,hc,hm,Nat.beq_refl,hrz,hzl];rfl
 have hble:∀ x:Nat,Nat.ble (x+m) x=false:=fun x=>by rw [Bool.eq_false_iff];intro e;have:=(zP _ _).1 e;omega
 cases hA with
 | nil =>
  refine ⟨.slice (some ⟨Z.y,0,none⟩) (0+m) (0+m+vU),Z.add (.cells xs n [(0,xs.length)] 1 false), ?_, ?_,Keep.add hn0 _⟩
  ·have hc0:yE 0=0:=by unfold yE;have:=zDE;rw [if_neg (by omega)]
   have hc1:yY 0=true:=(xI 0).2 zDE;unfold yA;simp only [T.el,hxd,hei,hz,hsrc,hcond,cond_true,vZ,hc0,hble,cond_false,hc1,Nat.beq_refl,yO]
  ·have e1:0+m=m:=Nat.zero_add m;rw [e1,List.nil_append];exact .more (b:=Z.y) (s:=0) (nx:=1) (log:=[]) (by rw [St.add_get,if_pos rfl]) rfl hn0 (by simp) hm hp (by omega)
 | @more b s nx _ _ sp log h hs hb hlt hl hpp hsn =>
  have hex:wR ((s,cs.length)::log) (zZ ⟨b,0,sp⟩)=some cs.length:=by
   have:Nat.beq s (zZ ⟨b,0,sp⟩)=true:=by unfold zZ;simp only [hs];exact Nat.beq_refl _
   simp only [wR,this,cond_true]
  have hlf:vY ((s,cs.length)::log) (zZ ⟨b,0,sp⟩)=(s,cs.length)::log:=by
   have:Nat.beq s (zZ ⟨b,0,sp⟩)=true:=by unfold zZ;simp only [hs];exact Nat.beq_refl _
   simp only [vY,this,cond_true]
  have hg:(Nat.beq len len && Nat.beq (0+len*n) cs.length && Nat.beq n n && !false && Nat.blt 0 n)=true:=by
   rw [Nat.beq_refl,Nat.zero_add,hl,Nat.beq_refl,Nat.beq_refl,(zAQ 0 n).2 T.pos];rfl
  refine ⟨.slice (some ⟨b,0,some nx⟩) (len+m) (len+m+vU),Z.put b (.cells (cs.take cs.length++xs) n ((nx,cs.length+m*n)::(s,cs.length)::log) (nx+1) false), ?_, ?_,Keep.put hb _⟩
  ·unfold yA;simp only [T.el,hxd,hei,hz,hsrc,hcond,cond_true,vZ,wY,hble,cond_false,zDB,zIU,h,hex,hg,zBU,wL,St.write_eq,hlf]
  ·refine .more (b:=b) (s:=nx) (nx:=nx+1) (log:=(s,cs.length)::log) ?_ rfl hb hlt ?_ (by omega) (by omega)
   ·rw [St.put_get,if_pos rfl,List.take_length];simp [hm]
   ·simp [hl,hm,Nat.add_mul]
theorem App.sl {len:Nat} (h:App Z n0 n v len cs):∃ p cap,v=.slice p len cap/\SlP Z n p len cs:=by
 cases h with
 | nil=>exact ⟨none,0,rfl,SlP.nil _ _⟩
 | @more b s nx _ _ sp log h hs hb hlt hl hp hsn =>
  refine ⟨_,_,rfl,hl, ?_,hlt⟩
  have hex:wR ((s,cs.length)::log) (zZ ⟨b,0,sp⟩)=some cs.length:=by
   have:Nat.beq s (zZ ⟨b,0,sp⟩)=true:=by unfold zZ;simp only [hs];exact Nat.beq_refl _
   simp only [wR,this,cond_true]
  have h2:Nat.ble (0+cs.length) cs.length=true:=(zP _ _).2 (by omega);unfold yR;simp only [h,hex,h2,cond_true,List.drop_zero,List.take_length]
theorem App.keep {len:Nat} (h:App Z n0 n v len cs) (hk:Le Z Z'):App Z' n0 n v len cs:=by
 cases h with
 | nil=>exact .nil
 | more h hs hb hlt hl hp hsn=>exact .more (by rw [hk.get _ hlt];exact h) hs hb (Nat.lt_of_lt_of_le hlt hk.y) hl hp hsn
def wI (vs:List Value):List Value:=vs.flatMap fun v=>v.cells.toList
def zGZ (P:Program) (t:TypeId) (n:Nat) (v:Value):Prop :=
 (vE P t=some false/\n=1/\v.cells.toList=[v])\/(vE P t=some true/\yU P t=some n/\∃ cs:List Value,v=.agg ⟨cs⟩/\cs.length=n)
theorem zGZ.len (h:zGZ P t n v):v.cells.toList.length=n:=by
 rcases h with ⟨_,h1,h2⟩ | ⟨_,_,ds,rfl,h⟩
 ·rw [h2,h1];rfl
 ·exact h
theorem zQD {t n:Nat}:∀ {vs:List Value} {i:Nat} {v:Value},(∀ v∈vs,zGZ P t n v)->vs[i]?=some v->((wI vs).drop (i*n)).take n=v.cells.toList/\i*n+n<=(wI vs).length
 | [],i,v,_,h=>by simp at h
 | x::vs,0,v,hv,h=>by
  simp at h;subst h;have h1:=(hv x (by simp)).len;unfold wI;rw [List.flatMap_cons,Nat.zero_mul,List.drop_zero,Nat.zero_add,List.length_append];exact ⟨by rw [<- h1,List.take_left'  rfl],by omega⟩
 | x::vs,i+1,v,hv,h=>by
  have h1:=(hv x (by simp)).len;have ih:=zQD (vs:=vs) (i:=i) (v:=v) (fun x hx=>hv x (by simp [hx])) (by simpa using h);unfold wI at ih ⊢;rw [List.flatMap_cons,Nat.add_mul,Nat.one_mul,List.length_append];refine ⟨?_,by omega⟩
  rw [show i*n+n=x.cells.toList.length+i*n by omega,List.drop_append];simp only [Nat.add_sub_cancel_left];rw [List.drop_of_length_le (by omega),List.nil_append];exact ih.1
theorem Row.el (h:Row Z a (wI vs)) (he:∀ v∈vs,zGZ P t n v) (hv:vs[i]?=some v):zH P Z t (zS a (i*n))=some v:=by
 obtain ⟨h1,h2⟩:=zQD he hv;rcases he v (List.mem_of_getElem? hv) with ⟨g1,g2,g3⟩ | ⟨g1,g2,ds,rfl,g3⟩
 ·subst g2;refine h.load1 g1 ?_
  rw [g3] at h1;have:=congrArg (fun l=>l[0]?) h1;simp only [List.getElem?_cons_zero] at this;rw [List.getElem?_take_of_lt (by omega),List.getElem?_drop] at this;simpa using this
 ·exact h.loadN g1 g2 h1 g3 h2
def SlV (P:Program) (Z:St) (t n:Nat) (p:Option Addr) (len:Nat) (vs:List Value):Prop:=SlP Z n p len (wI vs)/\vs.length=len/\∀ v∈vs,zGZ P t n v
theorem SlV.le {t n len:Nat} {p:Option Addr} {vs:List Value} (h:SlV P Z t n p len vs) (k:Le Z Z'):SlV P Z' t n p len vs:=⟨h.1.le k,h.2⟩
theorem SlV.row {t n len:Nat} {p:Option Addr} {vs:List Value} (h:SlV P Z t n p len vs) {ds:List Value} {m:Nat}:SlV P (Z.row ds m) t n p len vs:=⟨h.1.row,h.2⟩
theorem SlV.re {t n len:Nat} {p:Option Addr} {vs:List Value} (h:SlV P Z t n p len vs):SlV P Z.re t n p len vs:=⟨h.1.re,h.2⟩
theorem SlV.some {t n len i:Nat} {p:Option Addr} {vs:List Value} (h:SlV P Z t n p len vs) (hi:i<len):∃ a,p=.some a/\Row Z a (wI vs):=h.1.some (by omega)
theorem SlV.at {len:Nat} {p:Option Addr} {a:Addr} (h:SlV P Z t n p len vs) (hp:p=Option.some a) (hv:vs[i]?=Option.some v):zH P Z t (zS a (Int.toNat (i:Int)*n))=Option.some v:=by
 subst hp;have hr:Row Z a (wI vs):=h.1.2;rw [Int.toNat_natCast];exact hr.el h.2.2 hv
theorem zQG (h:vE P t=some false) (k:IntKind) (n:Int):zGZ P t 1 (.int k n):=.inl ⟨h,rfl,rfl⟩

end
end Go.Lay

namespace Go.Lay
open Go

def zJM (V:Inj) (b c o z:Nat):Inj:={ V with loc:=fun b' s=>if b'=b/\s=0 then some ⟨c,0,o,z⟩ else V.loc b' s }
structure Ro (V:Inj) (w:World):Prop where
 own:∀ c,V.own c=none
 csz:∀ (c:Nat) arr el fr,w.heap[c]?=some (.cells arr el fr)->V.csz c=arr.size
def yKP (w:World):Inj:={ loc:=fun _ _=>none,own:=fun _=>none,csz:=fun c=>match w.heap[c]? with | some (.cells arr _ _)=>arr.size | _=>0 }
theorem xHN (w:World):Rep (yKP w) xJE w/\Ro (yKP w) w :=
 ⟨⟨fun b y h=>by simp [xJE,yD,Tr.getP_leaf] at h,fun _ _ _ h=>by simp [yKP] at h,fun _ _ h=>by simp [yKP] at h,fun _ _ _=>rfl⟩,⟨fun _=>rfl,fun c arr el fr h=>by simp [yKP,h]⟩⟩

section
variable {P:Program} {w:World} {V:Inj} {Z Z':St}

theorem yDO (hr:Rep V Z w) (c o z:Nat):Sub V (zJM V Z.y c o z):=by
 refine ⟨fun b s L h=>?_,fun _ _ _ _=>rfl⟩
 simp only [zJM];rw [if_neg];exact h;rintro ⟨rfl,rfl⟩;rw [hr.fresh _ _ (Nat.le_refl _)] at h;cases h

theorem xVO (hr:Rep V Z w) (ho:Ro V w) {c o:Nat} {arr:Array Value} {el:TypeId} {fr:Nat × Nat} (hc:w.heap[c]?=some (.cells arr el fr)) {rs:List Value} (z:Nat) (hl:o+rs.length<=arr.size)
  (hv:∀ (j:Nat) v,rs[j]?=some v->∃ v',arr[o+j]?=some v'/\VR V v v') :
  Rep (zJM V Z.y c o z) (Z.add (.cells rs z [(0,rs.length)] 1 true)) w/\Ro (zJM V Z.y c o z) w:=by
 have hs:=yDO hr c o z;have hcw:c<w.heap.size:=by
  have:=(Array.getElem?_eq_some_iff.1 hc).1;exact this
 refine ⟨⟨fun b y hb=>?_,fun b s L h=>?_,fun c' b h=>?_,fun b s h=>?_⟩,⟨ho.own,ho.csz⟩⟩
 ·rw [St.add_get] at hb;by_cases hbn:b=Z.y
  ·rw [if_pos hbn] at hb;cases hb;subst hbn;refine ⟨by simp,.cells (fun s e hm=>?_) (by simp) (fun s₁ e₁ s₂ e₂ L₁ L₂ h₁ h₂ l₁ l₂ _=>?_) (fun s hs'=>?_)⟩
   ·simp at hm;obtain ⟨rfl,rfl⟩:=hm;refine ⟨by omega,Nat.le_refl _,⟨c,0,o,z⟩,by simp [zJM],⟨arr,el,fr,hc,(ho.csz _ _ _ _ hc).symm,by simp,by simpa using hl,fun j _ h2=>?_⟩,rfl,Nat.zero_le _,by simpa [zJM] using ho.own c⟩
    obtain ⟨v',g1,g2⟩:=hv j rs[j] (by simp [h2]);exact ⟨rs[j],v',by simp [h2],by simpa using g1,g2.sub hs⟩
   ·simp at h₁ h₂;obtain ⟨rfl,_⟩:=h₁;obtain ⟨rfl,_⟩:=h₂;rw [l₁] at l₂;cases l₂;rfl
   ·simp only [zJM];rw [if_neg (by omega)];exact hr.fresh _ _ (Nat.le_refl _)
  ·rw [if_neg hbn] at hb;have h:=hr.blk b y hb;refine ⟨by simp;omega,h.2.keepS hs (fun s L _=>rfl) (fun _ _ _ _=>rfl) (fun cs esz log next ro hyy s hs'=>?_)⟩
   have:=h.2;subst hyy;cases this with
   | cells _ _ _ fresh =>
    simp only [zJM];rw [if_neg (fun e=>hbn e.1)];exact fresh s hs'
 ·simp only [zJM] at h;split at h
  ·cases h;exact hcw
  ·exact hr.lt _ _ _ h
 ·have:V.own c'=some b:=h;rw [ho.own c'] at this;cases this
 ·simp only [zJM];simp at h;rw [if_neg (by omega)];exact hr.fresh _ _ (by omega)

def zTE (P:Program):List Field->Nat->Nat->Bool
 | [],o,tot=>Nat.beq o tot
 | f::fs,o,tot=>Nat.beq f.offset o && zTE P fs (o+P.cellsOf f.type) tot
def zHX (P:Program):Nat->TypeId->Bool
 | 0,_=>false
 | n+1,t=>match P.underlying t with
  | some .bool=>true
  | some (.int _)=>true
  | some .string=>true
  | some (.slice e)=>Nat.blt 0 (P.cellsOf e) && zHX P n e
  | some (.struct fs)=>zTE P fs.toList 0 (P.cellsOf t) && fs.toList.all fun f=>zHX P n f.type
  | _=>false
def WT (P:Program) (Z:St):Nat->TypeId->List Value->Prop
 | 0,_,_=>False
 | n+1,t,cs=>match P.underlying t with
  | some .bool=>∃ b,cs=[.bool b]
  | some (.int k)=>∃ i,cs=[.int k i]/\k.min<=i/\i<=k.max
  | some .string=>∃ s:ByteArray,cs=[.string s]/\s.size<=maxLen
  | some (.slice e)=>cs=[.slice none 0 0]\/∃ b len cap rs,cs=[.slice (some ⟨b,0,none⟩) len cap]/\len<=maxLen/\(len<=yE cap/\yY cap=true)/\rs.length=len*P.cellsOf e /\
    yD Z.heap b=some (.cells rs (P.cellsOf e) [(0,rs.length)] 1 true)/\b<Z.y/\∀ i,i<len->WT P Z n e ((rs.drop (i*P.cellsOf e)).take (P.cellsOf e))
  | some (.struct fs)=>cs.length=P.cellsOf t/\∀ f∈fs.toList,f.offset+P.cellsOf f.type<=cs.length/\WT P Z n f.type ((cs.drop f.offset).take (P.cellsOf f.type))
  | _=>False

theorem WT.le:∀ {n:Nat} {t:TypeId} {cs:List Value},WT P Z n t cs->Le Z Z'->WT P Z' n t cs:=by
 intro n;induction n with
 | zero=>intro t cs h;exact h.elim
 | succ n ih =>
  intro t cs h k;unfold WT at h ⊢;split at h <;> rename_i hu
  ·exact h
  ·exact h
  ·exact h
  ·rcases h with h | ⟨b,len,cap,rs,h1,h2,h3,h4,h5,h6,h7⟩
   ·exact .inl h
   ·exact .inr ⟨b,len,cap,rs,h1,h2,h3,h4,by rw [k.get _ h6];exact h5,Nat.lt_of_lt_of_le h6 k.y,fun i hi=>ih (h7 i hi) k⟩
  ·exact ⟨h.1,fun f hf=>⟨(h.2 f hf).1,ih (h.2 f hf).2 k⟩⟩
  ·exact h.elim

theorem yPP {a:Addr} {arr:Array Value} {el:TypeId} {fr:Nat × Nat} (hc:w.heap[a.block]?=some (.cells arr el fr)) (hs:a.spot=none) (m i:Nat):w.cell? ((a.add m).add i)=arr[a.off+m+i]?:=by
 have key:∀ (x:Addr) (j:Nat),x.spot=none->(x.add j).block=x.block/\(x.add j).off=x.off+j/\(x.add j).spot=none:=by
  intro x j hx;unfold Addr.add;split
  ·rename_i e;subst e;exact ⟨rfl,rfl,hx⟩
  ·exact ⟨rfl,rfl,rfl⟩
 obtain ⟨k1,k2,k3⟩:=key a m hs;obtain ⟨k4,k5,k6⟩:=key (a.add m) i k3;simp only [World.cell?,k4,k1,hc,k6,k5,k2,Option.isSome_none];rfl

variable {H:Type} {enc:TypeId × Value->H} {held:Bool}

def zOR (w:World) (cs':List Value):Prop:=∀ A len cap,Value.slice (some A) len cap∈cs'->∃ (c:Nat) (arr:Array Value) (el:TypeId) (fr:Nat × Nat),w.heap[c]?=some (.cells arr el fr)
def yGV (P:Program) (w:World) (V:Inj) (Z:St) (cs':List Value) (Q:St->List Value->Prop):Prop :=
 ∃ V' Z' cs,Rep V' Z' w/\Ro V' w/\Sub V V'/\Le Z Z'/\VRs V' cs cs'/\Q Z' cs

theorem yFZ:∀ {fs:List Field} {o tot:Nat},zTE P fs o tot=true->o<=tot
 | [],o,tot,h=>by have:=Nat.eq_of_beq_eq_true h;omega
 | f::fs,o,tot,h=>by
  simp only [zTE,Bool.and_eq_true] at h;have:=yFZ h.2;omega

theorem yLM {n fuel:Nat}
  (ih:∀ t,zHX P n t=true->∀ fuel cs' x V Z,DataW.trod enc P w 0 (fun _=>true) held fuel t cs'=some x->Rep V Z w->Ro V w->zOR w cs'->yGV P w V Z cs' fun Z' cs=>WT P Z' n t cs) {cs':List Value} (hrow:zOR w cs') :
  ∀ (fs:List Field) (o:Nat) (V:Inj) (Z:St),zTE P fs o cs'.length=true->(∀ f∈fs,zHX P n f.type=true)->(∀ f∈fs,∃ x,DataW.trod enc P w 0 (fun _=>true) held fuel f.type ((cs'.drop f.offset).take (P.cellsOf f.type))=some x) ->
   Rep V Z w->Ro V w->yGV P w V Z (cs'.drop o) fun Z' cs=>∀ f∈fs,o<=f.offset/\f.offset+P.cellsOf f.type<=cs'.length/\WT P Z' n f.type ((cs.drop (f.offset-o)).take (P.cellsOf f.type)):=by
 intro fs;induction fs with
 | nil =>
  intro o V Z hc _ _ hr ho;have:=Nat.eq_of_beq_eq_true hc;refine ⟨V,Z,[],hr,ho,Sub.refl _,Le.refl _, ?_,fun f hf=>by cases hf⟩
  rw [List.drop_of_length_le (by omega)];exact .nil
 | cons f fs ihf =>
  intro o V Z hc hp ht hr ho;simp only [zTE,Bool.and_eq_true] at hc;have hoff:=Nat.eq_of_beq_eq_true hc.1;have hle:=yFZ hc.2;obtain ⟨x,hx⟩:=ht f (by simp);obtain ⟨V₁,Z₁,c1,r1,o1,s1,l1,v1,w1⟩:=ih f.type (hp f (by simp)) _ _ _ V Z hx hr ho (fun A len cap hm=>hrow A len cap (List.mem_of_mem_drop (List.mem_of_mem_take hm)));obtain ⟨V₂,Z₂,c2,r2,o2,s2,l2,v2,w2⟩:=ihf (o+P.cellsOf f.type) V₁ Z₁ hc.2 (fun g hg=>hp g (by simp [hg])) (fun g hg=>ht g (by simp [hg])) r1 o1;have hlen:c1.length=P.cellsOf f.type:=by rw [v1.length];simp;omega
  refine ⟨V₂,Z₂,c1++c2,r2,o2,s1.trans s2,l1.trans l2, ?_,fun g hg=>?_⟩
  ·have e:cs'.drop o=(cs'.drop f.offset).take (P.cellsOf f.type)++cs'.drop (o+P.cellsOf f.type):=by
    rw [hoff,<- List.drop_drop,List.take_append_drop]
   rw [e];exact VRs.append (v1.sub s2) v2
  ·rcases List.mem_cons.1 hg with rfl | hg
   ·refine ⟨by omega,by omega, ?_⟩
    rw [hoff,Nat.sub_self,List.drop_zero,<- hlen,List.take_left']
    ·exact w1.le l2
    ·rfl
   ·obtain ⟨g1,g2,g3⟩:=w2 g hg;refine ⟨by omega,g2, ?_⟩
    have e:(c1++c2).drop (g.offset-o)=c2.drop (g.offset-(o+P.cellsOf f.type)):=by
     rw [List.drop_append,List.drop_of_length_le (by omega),List.nil_append];congr 1;omega
    rw [e];exact g3

theorem zXL {n fuel:Nat} {e:TypeId} {a:Addr} {arr:Array Value} {el:TypeId} {fr:Nat × Nat} (hc:w.heap[a.block]?=some (.cells arr el fr)) (hs:a.spot=none)
  (ih:∀ fuel cs' x V Z,DataW.trod enc P w 0 (fun _=>true) held fuel e cs'=some x->Rep V Z w->Ro V w->zOR w cs'->yGV P w V Z cs' fun Z' cs=>WT P Z' n e cs) (hr:Rep V Z w) (ho:Ro V w) :
  ∀ (k:Nat),(∀ i,i<k->∃ x,(w.cells? 0 (a.add (i*P.cellsOf e)) (P.cellsOf e)).bind (DataW.trod enc P w 0 (fun _=>true) held fuel e)=some x) ->
   ∃ (V':Inj) (Z':St) (rs:List Value),Rep V' Z' w/\Ro V' w/\Sub V V'/\Le Z Z'/\rs.length=k*P.cellsOf e/\(∀ i,i<k->WT P Z' n e ((rs.drop (i*P.cellsOf e)).take (P.cellsOf e))) /\
    ∀ (j:Nat) v,rs[j]?=some v->∃ v',arr[a.off+j]?=some v'/\VR V' v v'
 | 0,_=>⟨V,Z,[],hr,ho,Sub.refl _,Le.refl _,by simp,fun i hi=>by omega,fun j v h=>by simp at h⟩
 | k+1,ht=>by
  obtain ⟨V₁,Z₁,rs,r1,o1,s1,l1,n1,w1,v1⟩:=zXL hc hs ih hr ho k (fun i hi=>ht i (by omega));obtain ⟨x,hx⟩:=ht k (by omega);simp only [Option.bind_eq_some_iff] at hx;obtain ⟨zFW,hch,hx⟩:=hx;obtain ⟨_,hlen,hcells⟩:=World.cells?_some hch;obtain ⟨V₂,Z₂,c,r2,o2,s2,l2,v2,w2⟩:=ih _ _ _ V₁ Z₁ hx r1 o1 (fun _ _ _ _=>⟨_,_,_,_,hc⟩);have hcl:c.length=P.cellsOf e:=by rw [v2.length];exact hlen
  refine ⟨V₂,Z₂,rs++c,r2,o2,s1.trans s2,l1.trans l2,by rw [List.length_append,n1,hcl,Nat.add_mul];omega,fun i hi=>?_,fun j v hj=>?_⟩
  ·by_cases hik:i<k
   ·have h1:i*P.cellsOf e+P.cellsOf e<=rs.length:=by
     rw [n1,show i*P.cellsOf e+P.cellsOf e=(i+1)*P.cellsOf e by rw [Nat.add_mul,Nat.one_mul]];exact Nat.mul_le_mul_right _ hik
    have e1:((rs++c).drop (i*P.cellsOf e)).take (P.cellsOf e)=(rs.drop (i*P.cellsOf e)).take (P.cellsOf e):=by
     rw [List.drop_append_of_le_length (by omega),List.take_append_of_le_length (by simp;omega)]
    rw [e1];exact (w1 i hik).le l2
   ·have:i=k:=by omega
    subst this;rw [<- n1,List.drop_left' rfl,List.take_of_length_le (by omega)];exact w2
  ·by_cases hjr:j<rs.length
   ·rw [List.getElem?_append_left hjr] at hj;obtain ⟨v',g1,g2⟩:=v1 j v hj;exact ⟨v',g1,g2.sub s2⟩
   ·rw [List.getElem?_append_right (by omega)] at hj;obtain ⟨v',g1,g2⟩:=v2.get_some hj;have hjc:j-rs.length<P.cellsOf e:=by rw [<- hcl];exact (List.getElem?_eq_some_iff.1 hj).1
    refine ⟨v', ?_,g2⟩
    have:=hcells (j-rs.length) hjc;rw [yPP hc hs,g1] at this;rw [<- this,<- n1];congr 1;omega

theorem yTJ:∀ (n:Nat) (t:TypeId),zHX P n t=true->∀ (fuel:Nat) (cs':List Value) (x:DataW H × List MemPlace) (V:Inj) (Z:St),DataW.trod enc P w 0 (fun _=>true) held fuel t cs'=some x->Rep V Z w->Ro V w->zOR w cs' ->
  yGV P w V Z cs' fun Z' cs=>WT P Z' n t cs:=by
 intro n;induction n with
 | zero=>intro t h;simp [zHX] at h
 | succ n ih =>
  intro t hp fuel cs' x V Z h hr ho hrow;have one:∀ (v:Value),zQ RD v=true->cs'=[v]->WT P Z (n+1) t [v]->yGV P w V Z cs' fun Z' cs=>WT P Z' (n+1) t cs :=
   fun v hv e hw=>⟨V,Z,[v],hr,ho,Sub.refl _,Le.refl _,by rw [e];exact .cons (.refl_rigid _ hv) .nil,hw⟩
  unfold zHX at hp;split at hp <;> rename_i hu
  ·obtain ⟨b,e,_⟩:=DataW.trod_bool hu h;exact one _ rfl e (by unfold WT;rw [hu];exact ⟨b,rfl⟩)
  ·obtain ⟨i,e,_,hw⟩:=DataW.trod_int hu h;exact one _ rfl e (by unfold WT;rw [hu];exact ⟨i,rfl,by simpa [Lit.wf] using hw⟩)
  ·obtain ⟨s,e,_,hw⟩:=DataW.trod_string hu h;exact one _ rfl e (by unfold WT;rw [hu];exact ⟨s,rfl,hw⟩)
  ·rename_i e;simp only [Bool.and_eq_true] at hp;have hpos:0<P.cellsOf e:=(zAQ _ _).1 hp.1;rcases DataW.trod_slice hu h with ⟨hcs,_⟩ | ⟨a,len,cap,elems,rest,m,rfl,hcs,_,_,hle,hmax,hel,hget,hrest,_⟩
   ·exact one _ rfl hcs (by unfold WT;rw [hu];exact .inl rfl)
   ·have hx:yY cap=true:=(xI cap).2 (by unfold vU;unfold maxLen at hmax;omega);obtain ⟨capA,hcapR,hcl,hc0⟩:∃ capA,zKQ capA cap/\(len<=yE capA/\yY capA=true)/\(cap=0->capA=0) :=
     ⟨cap,by unfold zKQ;rw [if_pos hx],⟨by have:=(xI cap).1 hx;unfold yE;rw [if_neg (by omega)];exact hle,hx⟩,fun e=>e⟩
    have fin:∀ {V₁:Inj} {Z₁:St} {rs:List Value} {c o:Nat} {arr:Array Value} {el:TypeId} {fr:Nat × Nat},Rep V₁ Z₁ w->Ro V₁ w->Sub V V₁->Le Z Z₁->w.heap[c]?=some (.cells arr el fr)->rs.length=len*P.cellsOf e ->
      (∀ i,i<len->WT P Z₁ n e ((rs.drop (i*P.cellsOf e)).take (P.cellsOf e)))->(∀ (j:Nat) v,rs[j]?=some v->∃ v',arr[o+j]?=some v'/\VR V₁ v v')->o+cap*P.cellsOf e<=arr.size ->
      (a=⟨c,o,none⟩\/(len=0/\capA=0/\cap=0))->yGV P w V Z cs' fun Z' cs=>WT P Z' (n+1) t cs:=by
     intro V₁ Z₁ rs c o arr el fr hr1 ho1 hs1 hl1 hc hlen hw hv hsz hA
     have hlo:len*P.cellsOf e<=cap*P.cellsOf e:=Nat.mul_le_mul_right _ hle
     obtain ⟨g1,g2⟩:=xVO hr1 ho1 hc (P.cellsOf e) (by omega) hv
     have hsub:=yDO hr1 c o (P.cellsOf e)
     refine ⟨_,_,[.slice (some ⟨Z₁.y,0,none⟩) len capA],g1,g2,hs1.trans hsub,hl1.trans (Le.add _ _), ?_, ?_⟩
     ·rw [hcs];refine .cons (.slice (L:=⟨c,0,o,P.cellsOf e⟩) (by simp [zJM,zZ]) (Nat.zero_le _) ?_ hcapR ?_) .nil
      ·rcases hA with rfl | hA
       ·exact .inl (by simp [Loc.at])
       ·exact .inr ⟨hA.1,by rw [hA.2.1];unfold yE;split <;> omega,hA.2.2⟩
      ·show o+(0-0)+cap*P.cellsOf e<=V₁.csz c;rw [ho1.csz _ _ _ _ hc];omega
     ·unfold WT;rw [hu];refine .inr ⟨Z₁.y,len,capA,rs,rfl,by omega,hcl,hlen,by rw [St.add_get,if_pos rfl],by simp,fun i hi=>(hw i hi).le (Le.add _ _)⟩
    by_cases hcap:cap=0
    ·subst hcap;have hl0:len=0:=by omega
     have hca:capA=0:=hc0 rfl;obtain ⟨c,arr,el,fr,hc⟩:=hrow a len 0 (by rw [hcs];simp);exact fin (rs:=[]) (o:=0) hr ho (Sub.refl _) (Le.refl _) hc (by rw [hl0];simp) (fun i hi=>by omega) (fun j v hj=>by simp at hj) (by omega) (.inr ⟨hl0,hca,rfl⟩)
    ·have hall:∀ i,i<cap->∃ x,(w.cells? 0 (a.add (i*P.cellsOf e)) (P.cellsOf e)).bind (DataW.trod enc P w 0 (fun _=>true) held m e)=some x:=by
      intro i hi;by_cases hil:i<len
      ·exact ⟨elems[i]'(by omega),by rw [hget i hil];simp⟩
      ·obtain ⟨r1,r2⟩:=hrest rfl;have:=r2 (i-len) (by omega);rw [show len+(i-len)=i by omega] at this;exact ⟨rest[i-len]'(by omega),by rw [this];simp⟩
     obtain ⟨x0,hx0⟩:=hall 0 (by omega);simp only [Option.bind_eq_some_iff] at hx0;obtain ⟨ch0,hc0,_⟩:=hx0;obtain ⟨_,hl0,hcell0⟩:=World.cells?_some hc0;have h00:=hcell0 0 hpos;have ha0:(a.add (0*P.cellsOf e)).add 0=a:=by simp [Addr.add]
     rw [ha0] at h00;have hsome:∃ v,w.cell? a=some v:=⟨ch0[0]'(by omega),by rw [h00];simp⟩;obtain ⟨v0,hv0⟩:=hsome;obtain ⟨arr,el,fr,hc,hsp⟩:∃ arr el fr,w.heap[a.block]?=some (.cells arr el fr)/\a.spot=none:=by
      unfold World.cell? at hv0;split at hv0
      ·rename_i arr el fr hc;refine ⟨arr,el,fr,hc, ?_⟩
       cases hs:a.spot with
       | none=>rfl
       | some s=>rw [hs] at hv0;simp at hv0
      ·cases hv0
     obtain ⟨V₁,Z₁,rs,r1,o1,s1,l1,n1,w1,v1⟩:=zXL hc hsp (fun fuel cs' x V Z=>ih e hp.2 fuel cs' x V Z) hr ho len (fun i hi=>hall i (by omega));refine fin r1 o1 s1 l1 hc n1 w1 v1 ?_ (.inl ?_)
     ·obtain ⟨x1,hx1⟩:=hall (cap-1) (by omega);simp only [Option.bind_eq_some_iff] at hx1;obtain ⟨ch1,hc1,_⟩:=hx1;obtain ⟨_,hl1,hcell1⟩:=World.cells?_some hc1;have h1:=hcell1 (P.cellsOf e-1) (by omega);rw [yPP hc hsp] at h1;have hb:a.off+(cap-1)*P.cellsOf e+(P.cellsOf e-1)<arr.size:=by
       rcases Nat.lt_or_ge (a.off+(cap-1)*P.cellsOf e+(P.cellsOf e-1)) arr.size with hlt | hge
       ·exact hlt
       ·rw [Array.getElem?_eq_none hge] at h1;have:ch1[P.cellsOf e-1]?=some (ch1[P.cellsOf e-1]'(by omega)):=by simp
        rw [this] at h1;cases h1
      have e1:(cap-1)*P.cellsOf e+P.cellsOf e=cap*P.cellsOf e:=by
       rw [show cap*P.cellsOf e=(cap-1+1)*P.cellsOf e by rw [Nat.sub_add_cancel (by omega)],Nat.add_mul,Nat.one_mul]
      omega
     ·cases a with | mk b o s=>simp at hsp;subst hsp;rfl
  ·rename_i fs;simp only [Bool.and_eq_true] at hp;obtain ⟨xs,m,rfl,_,hl,hxl,hget⟩:=DataW.trod_struct hu h;obtain ⟨V₁,Z₁,c,r1,o1,s1,l1,v1,w1⟩:=yLM (fuel:=m) ih hrow fs.toList 0 V Z (by rw [hl];exact hp.1) (fun f hf=>List.all_eq_true.1 hp.2 f hf) (fun f hf=>by
    obtain ⟨i,hi⟩:=List.getElem?_of_mem hf;have hi2:fs[i]?=some f:=by simpa using hi
    have hlt:i<xs.length:=by rw [hxl];exact (Array.getElem?_eq_some_iff.1 hi2).1
    exact ⟨xs[i],by rw [hget i f hi2];simp [hlt]⟩) hr ho
   refine ⟨V₁,Z₁,c,r1,o1,s1,l1,by simpa using v1, ?_⟩
   unfold WT;rw [hu];have hcl:c.length=cs'.length:=by have:=v1.length;simpa using this
   refine ⟨by rw [hcl,hl],fun f hf=>?_⟩
   obtain ⟨_,g2,g3⟩:=w1 f hf;exact ⟨by omega,by simpa using g3⟩
  ·cases hp
end
end Go.Lay

namespace Go.Lay
open Go
variable {t n len i k t' m l n0:Nat} {a b:Int} {vs cs args:List Value} {v:Value} {p:Option Addr} {f:FuncId}

def zBQ (P:Program) (R:Nat->Rec) (rd:Option Nat) (c:Code) (fr:Fr) (Z:St) (e:Exit) (fr':Fr) (Z':St):Prop:=∃ N0,∀ N,N0<=N->yK P (R N) N rd c fr Z=some (e,fr',Z')
def zUT (P:Program) (R:Nat->Rec) (rd:Option Nat) (c:Code) (fr:Fr) (Z:St) (e:Exit) (fr':Fr) (Z':St):Prop :=
 ∃ N0,∀ N m,N0<=N->N0<=m->zCC (yK P (R N) N rd c) m fr Z=some (e,fr',Z')
section
variable {P:Program} {R:Nat->Rec} {rd:Option Nat} {c:Code} {fr fr' fr₁:Fr} {Z Z' Z₁:St} {e:Exit}
theorem zUT.step (h:zBQ P R rd c fr Z .normal fr₁ Z₁) (k:zUT P R rd c fr₁ Z₁ e fr' Z'):zUT P R rd c fr Z e fr' Z':=by
 obtain ⟨N1,h1⟩:=h;obtain ⟨N2,h2⟩:=k;refine ⟨N1+N2+1,fun N m hN hm=>?_⟩
 obtain ⟨m,rfl⟩:∃ m',m=m'+1:=⟨m-1,by omega⟩;simp only [zCC,h1 N (by omega)];exact h2 N m (by omega) (by omega)
theorem zUT.exit (h:zBQ P R rd c fr Z e fr' Z') (he:e≠.normal):zUT P R rd c fr Z e fr' Z':=by
 obtain ⟨N1,h1⟩:=h;refine ⟨N1+1,fun N m hN hm=>?_⟩
 obtain ⟨m,rfl⟩:∃ m',m=m'+1:=⟨m-1,by omega⟩;simp only [zCC,h1 N (by omega)];split
 ·rename_i heq;cases heq;exact absurd rfl he
 ·rfl
end

section
variable {P:Program} {Z Z':St}
theorem uF {a:Addr} {x:Value} (h:SlV P Z t n (some a) len vs) (hv:vs[i]?=some (.agg ⟨cs⟩)) (hx:cs[k]?=some x) (ht':vE P t'=some false) :
  zH P Z t' (zS a (Int.toNat (i:Int)*n+k))=some x:=by
 obtain ⟨h1,h2⟩:=zQD h.2.2 hv;have hr:Row Z a (wI vs):=h.1.2;rw [Int.toNat_natCast];have hk:k<n:=by
  have:=(h.2.2 _ (List.mem_of_getElem? hv)).len;have h3:=(List.getElem?_eq_some_iff.1 hx).1;have e:(Value.agg ⟨cs⟩).cells.toList=cs:=rfl;rw [e] at this;omega
 refine hr.load1 ht' ?_
 have e:(Value.agg ⟨cs⟩).cells.toList=cs:=rfl;rw [e] at h1;rw [<- h1,List.getElem?_take_of_lt hk,List.getElem?_drop] at hx;exact hx
theorem yKL {a:Addr} {ds:List Value} (h:SlV P Z t n (some a) len vs) (hv:vs[i]?=some (.agg ⟨cs⟩)) (hx:(cs.drop k).take m=ds) (hl:ds.length=m) (hk:k+m<=n) (ht':vE P t'=some true) (hs:yU P t'=some m) :
  zH P Z t' (zS a (Int.toNat (i:Int)*n+k))=some (.agg ⟨ds⟩):=by
 obtain ⟨h1,h2⟩:=zQD h.2.2 hv;have hr:Row Z a (wI vs):=h.1.2;rw [Int.toNat_natCast];refine hr.loadN ht' hs ?_ hl (by omega);have e:(Value.agg ⟨cs⟩).cells.toList=cs:=rfl;rw [e] at h1;rw [<- hx,<- h1,List.drop_take,List.take_take,List.drop_drop];congr 1;omega
theorem Own.ld {b n k:Nat} {cs:List Value} {s:Option Nat} (h:Own Z b cs n) (hs:s=none) {t:TypeId} (ht:vE P t=some false) {v:Value} (hv:cs[k]?=some v):zH P Z t ⟨b,k,s⟩=some v:=by subst hs;exact h.rw.ld ht hv
theorem Own.ldN {b n k m:Nat} {cs ds:List Value} (h:Own Z b cs n) {t:TypeId} (ht:vE P t=some true) (hs:yU P t=some m) (hd:(cs.drop k).take m=ds) (hl:ds.length=m) (hk:k+m<=cs.length):zH P Z t ⟨b,k,none⟩=some (.agg ⟨ds⟩) :=
 h.rw.ldN ht hs hd hl hk

theorem Row.ld1 {a:Addr} (h:Row Z a [v]) {t:TypeId} (ht:vE P t=some false):zH P Z t a=some v:=by
 have:=h.load1 (P:=P) ht (k:=0) (v:=v) rfl;simpa [zS] using this
theorem zCR (h:zQ RD v=true):xL RD n v=true:=by
 have key:∀ (d:Nat) (v:Value),zQ d v=true->xL d n v=true:=by
  intro d;induction d with
  | zero=>intro v h;simp [zQ] at h
  | succ d ih =>
   intro v h;have lists:∀ (l:List Value),l.all (zQ d)=true->l.all (xL d n)=true:=fun l hl=>List.all_eq_true.2 (fun x hx=>ih x (List.all_eq_true.1 hl x hx))
   cases v with
   | agg cs=>simp only [zQ] at h;simp only [xL];exact lists _ h
   | tuple cs=>simp only [zQ] at h;simp only [xL];exact lists _ h
   | iface t x=>simp only [zQ] at h;simp only [xL];exact ih x h
   | pointer a=>cases a with | none=>rfl | some _=>simp [zQ,uL] at h
   | slice a l c=>cases a with | none=>rfl | some _=>simp [zQ,uL] at h
   | map a=>cases a with | none=>rfl | some _=>simp [zQ,uL] at h
   | func fn f c =>
    cases fn with
    | func g=>simp only [zQ,Bool.and_eq_true] at h;simp only [xL,Bool.and_eq_true];exact ⟨⟨trivial,lists _ h.1⟩,lists _ h.2⟩
    | _=>simp [zQ,uL] at h
   | _=>rfl
 exact key RD v h
theorem zV {a:Addr} (h:a.block<n):xL RD n (.pointer (some a))=true:=(zAQ _ _).2 h
theorem zBK {c:Nat} {a:Addr} (h:a.block<n):xL RD n (.slice (some a) l c)=true:=(zAQ _ _).2 h
theorem zEH {c:Nat} (h:∀ a,p=some a->a.block<n):xL RD n (.slice p l c)=true:=by
 cases p with
 | none=>rfl
 | some a=>exact zBK (h a rfl)
theorem zO:zX n []:=rfl
theorem zM (h:xL RD n v=true) (t:zX n vs):zX n (v::vs):=by
 unfold zX at t ⊢;rw [List.all_cons,h,t];rfl
theorem zAV (h:SlV P Z t n none len vs):SlV P Z' t n none len vs:=⟨⟨h.1.1,h.1.2⟩,h.2⟩
theorem zEP (h:SlV P Z t n p len vs):∀ a,p=some a->a.block<Z.y:=by
 intro a e;subst e;exact (show Row Z a (wI vs) from h.1.2).lt
theorem zDF (xs ys:List Value):wI (xs++ys)=wI xs++wI ys:=by simp [wI]
theorem xCX (xs:List Int) (k:IntKind):wI (xs.map fun x=>.int k x)=xs.map fun x=>.int k x:=by
 induction xs with
 | nil=>rfl
 | cons x xs ih =>
  rw [List.map_cons,show (Value.int k x::xs.map fun x=>Value.int k x)=[Value.int k x]++xs.map fun x=>Value.int k x from rfl,zDF,ih];rfl
theorem App.ge {c:Nat} (h:App Z n0 n (.slice p len c) len cs):∀ a,p=some a->n0<=a.block:=by
 intro a e;subst e;cases h with
 | more h hs hb hlt hl hp hsn=>exact hb
theorem xMS {st xt e:Nat} {a2:Addr} {c:Nat} {xs:List Value} (T:AppT P st xt e n) (hA:App Z n0 n (.slice p len c) len cs) (hr:Row Z a2 xs) (hm:xs.length=m*n) (hp:0<m) (hroom:len+m<=1073741824)
  (hc:xs.all cellB=true) (hn0:n0<=Z.y):∃ p' c' Z',yA P st xt (.slice p len c) (.slice (some a2) m k) Z=some (.slice p' (len+m) c',Z')/\App Z' n0 n (.slice p' (len+m) c') (len+m) (cs++xs)/\Keep n0 Z Z':=by
 obtain ⟨v',Z',h1,h2,h3⟩:=yWC (k:=k) T hA hr hm hp hroom hc hn0;obtain ⟨p',c',rfl,_⟩:=h2.sl;exact ⟨p',c',Z',h1,h2,h3⟩
theorem App.slv {c:Nat} (h:App Z n0 n (.slice p len c) len (wI vs)) (hl:vs.length=len) (he:∀ v∈vs,zGZ P t n v):SlV P Z t n p len vs:=by
 obtain ⟨p',c',e,hs⟩:=h.sl;cases e
 exact ⟨hs,hl,he⟩
theorem App.lt {c:Nat} (h:App Z n0 n (.slice p len c) len cs):∀ a,p=some a->a.block<Z.y:=by
 intro a e;subst e;cases h with
 | more h hs hb hlt hl hp hsn=>exact hlt
theorem zNE (h:xNR P f args Z.re v Z') (hl:Z.y<=Z'.low) (hv:zQ RD v=true):zJ P f args Z v Z:=by
 obtain ⟨N0,hN⟩:=h;refine ⟨N0,fun N hNN=>?_⟩
 have h1:=hN N hNN;unfold uE;rw [show (⟨Z.heap,Z.y,Z.y⟩:St)=Z.re from rfl,h1];show vW Z v Z'=_;unfold vW;rw [(zP _ _).2 hl,hv];rfl
structure New (Z Z':St):Prop where
 le:Le Z Z'
 low:∀ m,m<=Z.low->m<=Z.y->m<=Z'.low
theorem New.refl (Z:St):New Z Z:=⟨Le.refl _,fun _ h _=>h⟩
theorem New.trans {Z₁ Z₂ Z₃:St} (h:New Z₁ Z₂) (k:New Z₂ Z₃):New Z₁ Z₃:=⟨h.le.trans k.le,fun m h1 h2=>k.low m (h.low m h1 h2) (Nat.le_trans h2 h.le.y)⟩
theorem New.row (Z:St) (cs:List Value) (n:Nat):New Z (Z.row cs n):=⟨Le.row _ _ _,fun _ h _=>h⟩
theorem New.add (Z:St) (y:Blk):New Z (Z.add y):=⟨Le.add _ _,fun _ h _=>h⟩
theorem xWE {Q:Value->St->Prop} (h:xNR P f args Z.re v Z') (hn:New Z.re Z') (hq:Q v Z') (hQ:∀ s s',Q v s->Le s s'->Q v s') (hr:zQ RD v=true->Q v Z) :
  ∃ v Z'',zJ P f args Z v Z''/\New Z Z''/\Q v Z'':=by
 obtain ⟨N0,hN⟩:=h;have h2:Z.y<=Z'.low:=hn.low _ (Nat.le_refl _) (Nat.le_refl _);have h3:Z.y<=Z'.y:=hn.le.y;cases hrv:zQ RD v with
 | true =>
  refine ⟨v,Z,⟨N0,fun N hNN=>?_⟩,New.refl _,hr hrv⟩
  have h1:=hN N hNN;unfold uE;rw [show (⟨Z.heap,Z.y,Z.y⟩:St)=Z.re from rfl,h1];show vW Z v Z'=_;unfold vW;rw [(zP _ _).2 h2,hrv];rfl
 | false =>
  refine ⟨v,⟨Z'.heap,Z'.y,min Z.low Z'.low⟩,⟨N0,fun N hNN=>?_⟩,⟨⟨h3,fun b hb=>hn.le.get b hb⟩,fun m h4 h5=>?_⟩,hQ _ _ hq ⟨Nat.le_refl _,fun _ _=>rfl⟩⟩
  ·have h1:=hN N hNN;unfold uE;rw [show (⟨Z.heap,Z.y,Z.y⟩:St)=Z.re from rfl,h1];show vW Z v Z'=_;unfold vW;rw [hrv,Bool.and_false,cond_false,(zP _ _).2 h3,cond_true,wL,zBD]
  ·show m<=min Z.low Z'.low;omega
theorem uW (h:a<=b):leI a b=true:=(vG a b).2 h
theorem zDP (h:¬ a<=b):leI a b=false:=by rw [yIQ];simp;omega
theorem zU (h:a<b):ltI a b=true:=(zIF a b).2 h
theorem zY (h:¬ a<b):ltI a b=false:=by rw [zSI];simp;omega
theorem vT (h:a=b):eqI a b=true:=(yJC a b).2 h
theorem vD (h:¬ a=b):eqI a b=false:=by rw [Bool.eq_false_iff];exact fun e=>h ((yJC a b).1 e)
theorem zDZ (h:¬ a=b):(!eqI a b)=true:=by rw [vD h];rfl
theorem xN (h:a=b):(!eqI a b)=false:=by rw [vT h];rfl
end
end Go.Lay

namespace Go.Lay
open Go
variable {aw:FuncId} {t:TypeId} {v:Value}
section
variable {P:Program} {rec:Rec} {V:Inj} {Z Z':St} {w:World}

def xIR (aw:FuncId) (rec:Rec):Rec:=fun r args Z=>match r with
 | .func f=>match args with
  | []=>bif Nat.beq f aw then some (.bool true,Z) else rec (.func f) [] Z
  | a::l=>rec (.func f) (a::l) Z
 | .yield l=>rec (.yield l) args Z
def zDC (P:Program) (aw:FuncId) (N:Nat):Rec:=xIR aw (zW P N)
structure ShutF (P:Program) (aw:FuncId):Prop where
 ok : ∀ (V : Inj) (Z : St) (w : World), Rep V Z w → (∃ fn, P.funcs[aw]? = some fn ∧ fn.body.isSome = true ∧ fn.name ≠ "runtime.NumGoroutine") ∧ ∀ n, CallsIn (Fw none) n P aw ⟨[]⟩ w (zDJ V Z w (.bool true) Z)
theorem yLG (h:RecSound P rec) (hc:ShutF P aw):RecSound P (xIR aw rec):=by
 refine ⟨fun f args Z v Z' hr V w args' hrep ha=>?_,fun l args Z v Z' hr=>h.yield l args Z v Z' hr⟩
 cases args with
 | cons a l=>exact h.func f (a::l) Z v Z' hr V w args' hrep ha
 | nil =>
  have hr:(bif Nat.beq f aw then some (.bool true,Z) else rec (.func f) [] Z)=some (v,Z'):=hr;rcases vB hr with ⟨hf,hr⟩ | ⟨_,hr⟩
  ·have hf:=Nat.eq_of_beq_eq_true hf;simp at hr;obtain ⟨rfl,rfl⟩:=hr;subst hf;cases ha
   exact hc.ok V Z w hrep
  ·exact h.func f [] Z v Z' hr V w args' hrep ha
theorem yRV (hP:ProgOk P) {aw:FuncId} (hc:ShutF P aw) (N:Nat):RecSound P (zDC P aw N):=yLG (zNC hP N) hc
theorem xEF (hP:ProgOk P) {l:List Ent} (hl:zOH P l) {N:Nat} {f:FuncId} (h:okB (zDS P (yYX l (zW P N)) (zES P N) N f [] xJE)=true):ShutF P f:=by
 refine ⟨fun V Z w hr=>?_⟩
 obtain ⟨Z',hb⟩:=xIW h;obtain ⟨h1,h2⟩:=zKT hP (zXQ hP hl N) (zWL hP N) hb (xTT w) .nil;refine ⟨h1,fun n=>CallsIn.mono (h2 n) (fun e w' hR=>?_)⟩
 cases e with
 | returned v' =>
  obtain ⟨V',hv,hg⟩:=hR;have hs:∀ c,c<w.heap.size->w'.heap[c]?=w.heap[c]?:=fun c hc=>hg.pres.same c hc (fun b hb=>by simp [yYT] at hb)
  have hv:=hv.bool_inv;subst hv;exact ⟨V,.bool true,Ext.refl _ _ _,hr.grown hg.pres.size hs,⟨hg.pres.size,fun c hc _=>hs c hc,hg.pres.tape,hg.pres.os,hg.pres.output,hg.pres.fr,hg.pres.drawn⟩,Nat.le_refl _,Nat.le_refl _⟩
 | panicked _=>exact hR.elim
 | outgrown=>exact hR.elim
theorem xAO {N:Nat}:uE (zDC P aw N) (.func aw) [] Z=some (.bool true,Z):=by
 unfold uE;have e:zDC P aw N (.func aw) [] ⟨Z.heap,Z.y,Z.y⟩=some (.bool true,⟨Z.heap,Z.y,Z.y⟩):=by
  show (bif Nat.beq aw aw then _ else _)=_;rw [Nat.beq_refl];rfl
 rw [e];show vW Z _ _=_;unfold vW;rw [(zP _ _).2 (Nat.le_refl _)];rfl

variable {H:Type} {enc:TypeId × Value->H} {held:Bool}
def WTs (P:Program) (Z:St) (n:Nat):List TypeId->List Value->Prop
 | [],[]=>True
 | t::ts,v::vs=>WT P Z n t v.cells.toList/\WTs P Z n ts vs
 | _,_=>False
theorem yTI {n:Nat} {d:DataW H} {ps:List MemPlace} (hp:zHX P n t=true) (h:DataW.Trod enc P w 0 (fun _=>true) held t v d ps) (hr:Rep V Z w) (ho:Ro V w) (hrow:zOR w v.cells.toList) :
  ∃ V' Z' av,Rep V' Z' w/\Ro V' w/\Sub V V'/\Le Z Z'/\VR V' av v/\WT P Z' n t av.cells.toList:=by
 obtain ⟨fuel,h⟩:=h;obtain ⟨V',Z',cs,r1,o1,s1,l1,v1,w1⟩:=yTJ n t hp fuel _ _ V Z h hr ho hrow;have one:(∀ c,v≠.agg c)->v.cells.toList=[v]->∃ V' Z' av,Rep V' Z' w/\Ro V' w/\Sub V V'/\Le Z Z'/\VR V' av v/\WT P Z' n t av.cells.toList:=by
  intro hna e;rw [e] at v1;cases v1 with
  | cons hx hn =>
   cases hn
   rename_i x;refine ⟨V',Z',x,r1,o1,s1,l1,hx, ?_⟩
   have hc:=hx.cells;rw [e] at hc;have:x.cells.toList=[x]:=by
    cases x with
    | agg cs =>
     exfalso;cases hx with
     | atom hat=>exact absurd hat (by simp [uL])
     | agg _ _=>exact hna _ rfl
    | _=>rfl
   rw [this];exact w1
 cases v with
 | agg c =>
  refine ⟨V',Z',.agg ⟨cs⟩,r1,o1,s1,l1, ?_,w1⟩
  cases c with | mk l=>exact VR.agg' v1
 | _=>exact one (by simp) rfl
theorem yLN {n:Nat}:∀ {ts:List TypeId} {vs:List Value} {ds:List (DataW H)} {ps:List MemPlace} {V:Inj} {Z:St},DataW.TrodAll enc P w 0 (fun _=>true) held ts vs ds ps->(∀ t∈ts,zHX P n t=true)->Rep V Z w->Ro V w->(∀ v∈vs,zOR w v.cells.toList) ->
  ∃ V' Z' avs,Rep V' Z' w/\Ro V' w/\Le Z Z'/\Sub V V'/\VRs V' avs vs/\WTs P Z' n ts avs
 | [],[],[],ps,V,Z,h,_,hr,ho,_=>⟨V,Z,[],hr,ho,Le.refl _,Sub.refl _,.nil,trivial⟩
 | t::ts,v::vs,d::ds,ps,V,Z,h,hp,hr,ho,hrow=>by
  obtain ⟨p,q,h1,h2,_⟩:=h;obtain ⟨V1,Z1,av,r1,o1,s1,l1,v1,w1⟩:=yTI (hp t (by simp)) h1 hr ho (hrow v (by simp));obtain ⟨V2,Z2,avs,r2,o2,l2,s2,v2,w2⟩:=yLN h2 (fun t ht=>hp t (by simp [ht])) r1 o1 (fun v hv=>hrow v (by simp [hv]));exact ⟨V2,Z2,av::avs,r2,o2,l1.trans l2,s1.trans s2,.cons (v1.sub s2) v2,w1.le l2,w2⟩
 | [],_::_,_,_,_,_,h,_,_,_,_=>h.elim
 | _::_,[],_,_,_,_,h,_,_,_,_=>h.elim
 | [],[],_::_,_,_,_,h,_,_,_,_=>h.elim
 | _::_,_::_,[],_,_,_,h,_,_,_,_=>h.elim

theorem zTA (h:Value.okWide P w .any 0 t v):zOR w v.cells.toList:=by
  have cell:∀ {u:TypeId} {A:Addr} {len cap:Nat},Cell.okWide P w .any 0 u (.slice (some A) len cap)->∃ (c:Nat) (arr:Array Value) (el:TypeId) (fr:Nat × Nat),w.heap[c]?=some (.cells arr el fr):=by
    intro u A len cap hc;have hok:Cell.ok P w .any 0 u (.slice (some A) len cap):=by
      unfold Cell.okWide at hc;split at hc <;> first | exact hc | (rename_i heq;cases heq)
    unfold Cell.ok at hok;split at hok <;> first | (rename_i heq;cases heq;done) | skip
    all_goals first
      | (rename_i heq;cases heq;obtain ⟨_,_,_,_,row,cells,hs,_⟩:=hok
         unfold World.shape? at hs
         split at hs
         · rename_i c elem hh;exact ⟨_,_,_,_,hh⟩
         · cases hs)
      | exact hok.elim
      | skip
  intro A len cap hm;unfold Value.okWide at h;split at h
  · obtain ⟨cs,rfl,_,ts,_,_,hc⟩:=h;obtain ⟨i,hi⟩:=List.getElem?_of_mem hm;obtain ⟨u,_,hu⟩:=hc i _ (by simpa [Value.cells] using hi);exact cell hu
  · obtain ⟨cs,rfl,_,ts,_,_,hc⟩:=h;obtain ⟨i,hi⟩:=List.getElem?_of_mem hm;obtain ⟨u,_,hu⟩:=hc i _ (by simpa [Value.cells] using hi);exact cell hu
  · cases v with
    | slice a l c =>
      simp [Value.cells] at hm;obtain ⟨rfl,rfl,rfl⟩:=hm;exact cell h
    | agg cs =>
      exfalso;unfold Cell.okWide at h;split at h <;> first | (rename_i heq;cases heq;done) | skip
      unfold Cell.ok at h;split at h <;> first | (rename_i heq;cases heq;done) | exact h.elim | skip
    | _=>simp [Value.cells] at hm
end
end Go.Lay

namespace Go.Lay
open Go Go.RowKit
variable {W W':World}
theorem zMK (h:GrownO W W') {b:Nat} (hb:b<W.heap.size):W'.heap[b]?=W.heap[b]?:=h.same b hb
theorem GrownO.frame (h:GrownO W W') (may:MemPlace->Prop):W.keptBut W' may:=by
 refine ⟨h.os,h.output,fun i hi=>?_⟩
 rw [h.same i hi];split <;> rename_i h1 h2
 ·rw [h1] at h2;cases h2;exact ⟨rfl,rfl,rfl,fun _ _=>rfl⟩
 ·rw [h1] at h2;cases h2;exact .inr ⟨rfl,rfl⟩
 ·rfl
theorem yBY (h:GrownO W W') {p:MemPlace} (hp:p.block<W.heap.size):W.sameAt W' p:=by
 cases p with
 | cell b o=>exact World.cell?_of_block (w:=W) (zMK h hp)
 | map b=>exact zMK h hp
section
variable {H:Type} {enc:TypeId × Value->H} {P:Program} {w w':World} {b:Nat} {sp:Nat->Bool} {held:Bool}
theorem zMF:∀ {ts:List TypeId} {vs:List Value} {ds:List (DataW H)} {ps:List MemPlace},DataW.TrodAll enc P w b sp held ts vs ds ps->(∀ p∈ps,w.sameAt w' p)->DataW.TrodAll enc P w' b sp held ts vs ds ps
 | [],[],[],_,h,_=>h
 | _::_,_::_,_::_,_,⟨p,q,⟨n,h1⟩,h2,e⟩,hs=>⟨p,q,⟨n,DataW.trod_carry _ _ _ _ h1 (fun x hx=>hs x (by rw [e];exact List.mem_append_left _ hx))⟩,zMF h2 (fun x hx=>hs x (by rw [e];exact List.mem_append_right _ hx)),e⟩
theorem xEN (K:Kids P (· < P.types.size)) (hz:∀ (t:Nat) (e:TypeId),t<P.types.size->P.underlying t=some (.slice e)->0<P.cellsOf e) {ts:List TypeId} {vs:List Value} {ds:List (DataW H)} {ps:List MemPlace}
  (hT:∀ t∈ts,t<P.types.size) (h:DataW.TrodAll enc P w 0 (fun _=>true) true ts vs ds ps) (hg:GrownO w w') (hlt:∀ p∈ps,p.block<w.heap.size) (hs:∀ p∈ps,sp p.block=true):DataW.TrodAll enc P w' 0 sp true ts vs ds ps :=
 zMF (DataW.TrodAll.respare K hz hT h hs) (fun p hp=>yBY hg (hlt p hp))
end
end Go.Lay

namespace Go.Lay
open Go
section
variable {P:Program} {R:Nat->Rec} {rd:Option Nat} {c:Code} {fr fr':Fr} {Z Z':St} {e:Exit} {aw:FuncId}
def zAC (P:Program) (l:Nat) (args:List Value) (Z:St) (v:Value) (Z':St):Prop:=∃ N0,∀ N,N0<=N->uE (zW P N) (.yield l) args Z=some (v,Z')
end
end Go.Lay

namespace Go.Lay
open Go
section
variable {P:Program} {Z Z':St} {cs:List Value}
end
end Go.Lay

namespace Go.Lay
open Go
variable {len:Nat} {p:Option Addr}
structure Only (S:Nat->Prop) (Z Z':St):Prop where
 y:Z.y<=Z'.y
 get:∀ b,b<Z.y->¬ S b->yD Z'.heap b=yD Z.heap b
 low:∀ m,m<=Z.low->m<=Z.y->(∀ b,b<Z.y->S b->m<=b)->m<=Z'.low
section
variable {P:Program} {S T:Nat->Prop} {Z Z' Z₁ Z₂ Z₃:St} {cs:List Value} {n b:Nat}
theorem Only.refl (S:Nat->Prop) (Z:St):Only S Z Z:=⟨Nat.le_refl _,fun _ _ _=>rfl,fun _ h _ _=>h⟩
theorem Only.trans' (h:Only S Z₁ Z₂) (k:Only T Z₂ Z₃) (hT:∀ b,b<Z₂.y->T b->S b\/Z₁.y<=b):Only S Z₁ Z₃ :=
 ⟨Nat.le_trans h.y k.y,fun b hb hs=>(k.get b (Nat.lt_of_lt_of_le hb h.y) (fun ht=>(hT b (Nat.lt_of_lt_of_le hb h.y) ht).elim hs (fun h=>by omega))).trans (h.get b hb hs),fun m h1 h2 h3=>k.low m (h.low m h1 h2 h3) (Nat.le_trans h2 h.y) (fun b hb ht=>by
  rcases hT b hb ht with h4 | h4
  ·by_cases hb':b<Z₁.y
   ·exact h3 b hb' h4
   ·omega
  ·omega)⟩
theorem Only.mono (h:Only S Z Z') (hT:∀ b,b<Z.y->S b->T b):Only T Z Z':=⟨h.y,fun b hb hs=>h.get b hb (fun k=>hs (hT b hb k)),fun m h1 h2 h3=>h.low m h1 h2 (fun b hb k=>h3 b hb (hT b hb k))⟩
theorem New.only (h:New Z Z'):Only S Z Z':=⟨h.le.y,fun b hb _=>h.le.get b hb,fun m h1 h2 _=>h.low m h1 h2⟩
theorem Only.add (Z:St) (y:Blk):Only S Z (Z.add y):=(New.add Z y).only
theorem Only.row (Z:St) (cs:List Value) (n:Nat):Only S Z (Z.row cs n):=(New.row Z cs n).only
theorem Only.put {y:Blk} (hs:Z.y<=b\/S b):Only S Z (Z.put b y):=⟨Nat.le_refl _,fun c hc hs'=>by rw [St.put_get,if_neg (by rintro rfl;rcases hs with h | h;omega;exact hs' h)],fun m h1 h2 h3=>by
 simp only [St.put_low];rcases hs with h | h
 ·omega
 ·by_cases hb:b<Z.y
  ·have:=h3 b hb h;omega
  ·omega⟩
theorem Only.own (hs:Z.y<=b\/S b):Only S Z (Z.own b cs n):=Only.put hs
theorem Only.re (Z:St):Only S Z Z.re:=⟨Nat.le_refl _,fun _ _ _=>rfl,fun _ _ h _=>h⟩
theorem Only.own' (h:Only S Z Z') (k:Own Z b cs n) (hs:¬ S b):Own Z' b cs n:=⟨by rw [h.get b k.lt hs];exact k.get,Nat.lt_of_lt_of_le k.lt h.y⟩
theorem Only.rw' {a:Addr} (h:Only S Z Z') (k:Row Z a cs) (hs:¬ S a.block):Row Z' a cs:=⟨by
 have:=k.rd
 unfold yR at this ⊢
 rw [h.get _ k.lt hs];exact this,Nat.lt_of_lt_of_le k.lt h.y⟩
theorem Only.slp' (h:Only S Z Z') (k:SlP Z n p len cs) (hs:∀ a,p=some a->¬ S a.block):SlP Z' n p len cs:=by
 refine ⟨k.1, ?_⟩
 cases p with
 | none=>exact k.2
 | some a=>exact h.rw' (show Row Z a cs from k.2) (hs a rfl)
theorem Only.slv' {t:Nat} {vs:List Value} (h:Only S Z Z') (k:SlV P Z t n p len vs) (hs:∀ a,p=some a->¬ S a.block):SlV P Z' t n p len vs:=⟨h.slp' k.1 hs,k.2⟩
theorem Only.app' {n0:Nat} {v:Value} (h:Only S Z Z') (k:App Z n0 n v len cs) (hs:∀ a l c,v=.slice (some a) l c->¬ S a.block):App Z' n0 n v len cs:=by
 cases k with
 | nil=>exact .nil
 | more g1 g2 g3 g4 g5 g6 g7=>exact .more (by rw [h.get _ g4 (hs _ _ _ rfl)];exact g1) g2 g3 (Nat.lt_of_lt_of_le g4 h.y) g5 g6 g7
def xVR (P:Program) (R:Nat->Rec) (g:Operand) (ps:Array Tmp) (as bo:Code) (fr:Fr) (Z:St) (e:Exit) (fr':Fr) (Z':St):Prop:=∃ N0,∀ N,N0<=N->zND (R N) none g ps as bo fr Z=some (e,fr',Z')
def yGS (ms:List Nat) (Z Z':St):Prop:=zOU ms Z fun s=>s=Z'
theorem zHL:∀ {ms:List Nat} {Z:St} {K:St->Prop},yGS ms Z Z'->K Z'->zOU ms Z K
 | [],_,_,h,k=>by cases h;exact k
 | _::_,_,_,h,k=>⟨h.1,zHL h.2 k⟩
theorem zWH:∀ {ms:List Nat} {Z:St},(∀ d∈ms,yD Z.heap d=some .defd)->ms.Nodup->∃ Z',yGS ms Z Z'/\Z'.y=Z.y/\(∀ b,b ∉ ms->yD Z'.heap b=yD Z.heap b)/\∀ m,m<=Z.low->(∀ d∈ms,m<=d)->m<=Z'.low
 | [],Z,_,_=>⟨Z,rfl,rfl,fun _ _=>rfl,fun _ h _=>h⟩
 | d::ms,Z,h,hn=>by
  have hn:=List.nodup_cons.1 hn;obtain ⟨Z',h1,h2,h3,h4⟩:=zWH (ms:=ms) (Z:=Z.shut d) (fun c hc=>by
   rw [St.shut_get,if_neg (by rintro rfl;exact hn.1 hc)];exact h c (by simp [hc])) hn.2
  refine ⟨Z',⟨h d (by simp),h1⟩,h2,fun b hb=>?_,fun m hm hd=>h4 m ?_ (fun c hc=>hd c (by simp [hc]))⟩
  ·simp at hb;rw [h3 b hb.2,St.shut_get,if_neg hb.1]
  ·have:=hd d (by simp);simp;omega
end
end Go.Lay

namespace Go.Lay
open Go
variable {n b i:Nat} {t:TypeId} {v:Value}
section
variable {P:Program} {Z Z':St} {cs:List Value}
def AtP (p:Option Addr) (b:Nat):Prop:=∃ a,p=some a/\a.block=b
theorem AtP.none {b:Nat}:¬ AtP none b:=by rintro ⟨a,h,_⟩;cases h
theorem yGM {st xt e m k len n0:Nat} {a2:Addr} {p:Option Addr} {c:Nat} {xs:List Value} (T:AppT P st xt e n) (hA:App Z n0 n (.slice p len c) len cs) (hr:Row Z a2 xs) (hm:xs.length=m*n) (hp:0<m) (hroom:len+m<=1073741824)
  (hc:xs.all cellB=true) (hn0:n0<=Z.y):∃ p' c' Z',yA P st xt (.slice p len c) (.slice (some a2) m k) Z=some (.slice p' (len+m) c',Z')/\App Z' n0 n (.slice p' (len+m) c') (len+m) (cs++xs)/\Only (AtP p) Z Z'/\(∀ b,AtP p' b->AtP p b\/Z.y<=b):=by
 obtain ⟨p',c',Z',h1,h2,h3⟩:=xMS (k:=k) T hA hr hm hp hroom hc hn0;refine ⟨p',c',Z',h1,h2, ?_⟩
 obtain ⟨xd,hxd,hxi⟩:=T.src;obtain ⟨ei,z,hei,hz,hby,hrz,hzl⟩:=T.info;have hrd:=hr.rd;rw [hm] at hrd;have hsrc:zCS Z n z xd (.slice (some a2) m k)=some (m,xs):=by
  unfold zCS;cases xd with
  | int _=>cases hxi
  | _=>simp only [wU,hrd,Option.map_some]
 have hcond:(zCA (len+m) n ei.bytes && xs.all cellB && Nat.beq xs.length (m*n) && zQ RD z && Nat.beq z.cells.toList.length n)=true:=by
  unfold zCA;rw [(zP _ _).2 hroom,(zP _ _).2 T.le,(zP _ _).2 hby,hc,hm,Nat.beq_refl,hrz,hzl];rfl
 have hble:∀ x:Nat,Nat.ble (x+m) x=false:=fun x=>by rw [Bool.eq_false_iff];intro e;have:=(zP _ _).1 e;omega
 cases hA with
 | nil =>
  have hc0:yE 0=0:=by unfold yE;have:=zDE;rw [if_neg (by omega)]
  have hc1:yY 0=true:=(xI 0).2 zDE;unfold yA at h1;simp only [T.el,hxd,hei,hz,hsrc,hcond,cond_true,vZ,hc0,hble,cond_false,hc1,Nat.beq_refl,yO,Option.some.injEq,Prod.mk.injEq,Value.slice.injEq] at h1;obtain ⟨⟨rfl,_,_⟩,rfl⟩:=h1;exact ⟨Only.add _ _,fun b' hb=>.inr (by obtain ⟨a,e,rfl⟩:=hb;cases e;exact Nat.le_refl _)⟩
 | @more b' s nx _ _ sp log h hs hb hlt hl hpp hsn =>
  have hex:wR ((s,cs.length)::log) (zZ ⟨b',0,sp⟩)=some cs.length:=by
   have:Nat.beq s (zZ ⟨b',0,sp⟩)=true:=by unfold zZ;simp only [hs];exact Nat.beq_refl _
   simp only [wR,this,cond_true]
  have hlf:vY ((s,cs.length)::log) (zZ ⟨b',0,sp⟩)=(s,cs.length)::log:=by
   have:Nat.beq s (zZ ⟨b',0,sp⟩)=true:=by unfold zZ;simp only [hs];exact Nat.beq_refl _
   simp only [vY,this,cond_true]
  have hg:(Nat.beq len len && Nat.beq (0+len*n) cs.length && Nat.beq n n && !false && Nat.blt 0 n)=true:=by
   rw [Nat.beq_refl,Nat.zero_add,hl,Nat.beq_refl,Nat.beq_refl,(zAQ 0 n).2 T.pos];rfl
  unfold yA at h1;simp only [T.el,hxd,hei,hz,hsrc,hcond,cond_true,vZ,wY,hble,cond_false,zDB,zIU,h,hex,hg,zBU,wL,St.write_eq,hlf,Option.some.injEq,Prod.mk.injEq,Value.slice.injEq] at h1;obtain ⟨⟨rfl,_,_⟩,rfl⟩:=h1;exact ⟨Only.put (.inr ⟨_,rfl,rfl⟩),fun b'' hb=>.inl (by obtain ⟨a,e,rfl⟩:=hb;cases e;exact ⟨_,rfl,rfl⟩)⟩
theorem Own.ldI (h:Own Z b cs n) (ht:vE P t=some false) (hi:cs[i]?=some v):zH P Z t (zS ⟨b,0,none⟩ (Int.toNat (i:Int)*1))=some v:=by
 rw [Int.toNat_natCast,Nat.mul_one];have:=h.rw.load1 (P:=P) ht (k:=i) hi;exact this
theorem Own.stI (h:Own Z b cs n) (hv:v.cells.toList=[v]) (hs:yU P t=some 1) (hc:cellB v=true) (hi:i<cs.length) :
  zN P (evL [.pointer (some (zS ⟨b,0,none⟩ (Int.toNat (i:Int)*1))),v]) Z (.store t (.tmp 0) (.tmp 1))=some (undef,Z.own b (cs.set i v) n):=by
 have e:zS ⟨b,0,none⟩ (Int.toNat (i:Int)*1)=⟨b,i,none⟩:=by rw [Int.toNat_natCast,Nat.mul_one];simp [zS]
 rw [e];refine h.store (k:=i) hv hs (by simp [hc]) (by simp;omega) ?_
 rw [List.set_eq_take_append_cons_drop,if_pos hi];rfl
end
end Go.Lay

namespace Go.Lay
open Go
variable {n:Nat} {f:Tm} {l:List (Nat × Value)} {Z Z1:St} {o:Op} {as:List Ans} {K:Value->St->List Ans->Prop} {fr fr1:Fr} {x y c:Code} {e:Exit}
def yIU:Value->Bool
 | .tuple ⟨[]⟩=>true
 | _=>false
theorem yUL {v:Value} (h:yIU v=true):v=undef:=by
 unfold yIU at h;split at h
 ·rfl
 ·cases h
def shp:Nat->Bool->Tr Value->Bool
 | 0,_,.leaf=>true
 | d+1,c,.node (some v) l r=>(c || yIU v) && (shp d false l && shp d true r)
 | _,_,_=>false
def zEN:List Bool->Nat
 | []=>0
 | b::p=>(bif b then 1 else 0)+2*zEN p
def xMK:Bool->List Bool->Prop
 | c,[]=>c=true
 | _,b::p=>xMK b p
theorem ySB {g:Nat->Value}:∀ (d:Nat) (c:Bool) (t:Tr Value) (w a:Nat),shp d c t=true->(∀ p v,xMK c p->Tr.getP p t=some v->g (a+w*zEN p)=v)->t=trF g d w a c
 | 0,c,.leaf,w,a,_,_=>rfl
 | 0,c,.node _ _ _,w,a,h,_=>by simp [shp] at h
 | d+1,c,.leaf,w,a,h,_=>by simp [shp] at h
 | d+1,c,.node none l r,w,a,h,_=>by simp [shp] at h
 | d+1,c,.node (some v) l r,w,a,h,hg=>by
  simp only [shp,Bool.and_eq_true] at h;obtain ⟨h1,h2,h3⟩:=h;have e1:v=bif c then g a else undef:=by
   cases c with
   | true =>
    have:=hg [] v rfl rfl;simp [zEN] at this;simp [this]
   | false=>simpa using yUL (by simpa using h1)
  have e2:=ySB d false l (w*2) a h2 (fun p x hp hx=>by
   have:=hg (false::p) x (by cases p <;> exact hp) hx;simp [zEN] at this;rw [<- this];congr 1;rw [Nat.mul_assoc])
  have e3:=ySB d true r (w*2) (a+w) h3 (fun p x hp hx=>by
   have:=hg (true::p) x (by cases p <;> exact hp) hx;simp only [zEN,cond_true] at this;rw [<- this];congr 1;rw [Nat.mul_add,Nat.mul_one,Nat.mul_assoc,Nat.add_assoc])
  rw [e2,e3,e1];rfl
theorem yPW:∀ (p:List Bool),xMK true p->∀ f,zEN p<=f->bits f (zEN p)=p
 | [],_,f,_=>by
  cases f with
  | zero=>rfl
  | succ f=>simp [bits,zEN]
 | b::p,hp,f,hf=>by
  have hp:xMK b p:=hp;have hpos:0<(bif b then 1 else 0)+2*zEN p:=by
   cases p with
   | nil =>
    have:b=true:=hp;subst this;simp [zEN]
   | cons b2 q =>
    have key:∀ (q:List Bool) (b:Bool),xMK b q->b=true\/0<zEN q:=by
     intro q;induction q with
     | nil=>intro b h;exact .inl h
     | cons c q ih =>
      intro b h;rcases ih c h with h1 | h1
      ·right;simp [zEN,h1];omega
      ·right;simp only [zEN];omega
    rcases key q b2 hp with h1 | h1
    ·simp [zEN,h1];omega
    ·simp only [zEN];omega
  simp only [zEN] at hf ⊢;match f with
  | 0=>omega
  | f+1 =>
   have ih:bits f (zEN p)=p:=by
    cases p with
    | nil=>cases f <;> simp [bits,zEN]
    | cons b2 q=>exact yPW (b2::q) hp f (by cases b <;> simp at hf <;> omega)
   have hb:Nat.beq ((bif b then 1 else 0)+2*zEN p) 0=false:=by
    rw [Bool.eq_false_iff];intro e;have:=Nat.eq_of_beq_eq_true e;omega
   have h2:((bif b then 1 else 0)+2*zEN p) / 2=zEN p:=by cases b <;> simp <;> omega
   have h3:Nat.beq (((bif b then 1 else 0)+2*zEN p) % 2) 1=b:=by
    cases b
    ·rw [Bool.eq_false_iff];intro e;have:=Nat.eq_of_beq_eq_true e;simp at this
    ·have:((bif true then 1 else 0)+2*zEN p) % 2=1:=by simp
     rw [this];rfl
   simp only [bits,hb,cond_false,h3,h2,ih]
def fits (n:Nat) (f:Tm):Bool:=Nat.beq f.n n && shp ((way n).length+1) true f.t
def AG (f:Tm):List (Nat × Value)->Prop
 | []=>True
 | (i,v)::l=>f.nth i=v/\AG f l
def ARf:List (Nat × Value)->Prop
 | []=>True
 | (_,v)::l=>v=v/\ARf l
theorem arf:∀ l:List (Nat × Value),ARf l
 | []=>trivial
 | (_,_)::l=>⟨rfl,arf l⟩
theorem xSU {f:Tm}:∀ {l:List (Nat × Value)},AG f l->ov l f.nth=f.nth
 | [],_=>rfl
 | (i,v)::l,h=>by
  have ih:=xSU h.2;funext j;unfold ov;cases hb:Nat.beq i j with
  | false=>rw [cond_false,ih]
  | true=>rw [cond_true,<- Nat.eq_of_beq_eq_true hb,h.1]
theorem yFP (h:fits n f=true) (hl:AG f l):f=Fm n (ov l f.nth):=by
 unfold fits at h;simp only [Bool.and_eq_true] at h;obtain ⟨h1,h2⟩:=h;have h1:=Nat.eq_of_beq_eq_true h1;subst h1;rw [xSU hl];have:=ySB (g:=f.nth) ((way f.n).length+1) true f.t 1 0 h2 (fun p v hp hv=>by
  rw [Nat.zero_add,Nat.one_mul];unfold Tm.nth way;rw [yPW p hp _ (Nat.le_refl _),hv])
 cases f with
 | mk n t=>unfold Fm;exact congrArg (Tm.mk n) this

def uJ (R:Nat->Rec):zJC:=fun r args Z v Z'=>∃ N0,∀ N,N0<=N->uE (R N) r args Z=some (v,Z')
def yBQ (n:Nat):List Alt->Exit->Fr->St->Prop
 | [],_,_,_=>False
 | a::as,e,fr,Z=>(e=a.e/\∃ t g,fr=⟨Fm n (ov (a.l t) g),a.ms t⟩/\a.Q t Z)\/yBQ n as e fr Z
def yRE:List (Exit × (St->Prop))->Exit->St->Prop
 | [],_,_=>False
 | a::as,e,Z=>(e=a.1/\a.2 Z)\/yRE as e Z
def yBV (n:Nat):List Alt->(Exit->Fr->St->Prop)->Prop
 | [],_=>True
 | a::as,K=>(∀ (t:a.T) (g:Nat->Value) (Z:St),a.Q t Z->K a.e ⟨Fm n (ov (a.l t) g),a.ms t⟩ Z)/\yBV n as K
def yWY (n:Nat) (l:List (Nat × Value)) (ms:List Nat):List (Exit × (St->Prop))->(Exit->Fr->St->Prop)->Prop
 | [],_=>True
 | a::as,K=>(∀ (g:Nat->Value) (Z:St),a.2 Z->K a.1 ⟨Fm n (ov l g),ms⟩ Z)/\yWY n l ms as K
theorem zLZ {n:Nat} {K:Exit->Fr->St->Prop} {e:Exit} {fr:Fr} {Z:St}:∀ {l:List Alt},yBV n l K->yBQ n l e fr Z->K e fr Z
 | [],_,h=>h.elim
 | a::as,hc,h=>by
  rcases h with ⟨rfl,t,g,rfl,hq⟩ | h
  ·exact hc.1 t g Z hq
  ·exact zLZ hc.2 h
theorem zZD {n:Nat} {l0:List (Nat × Value)} {ms:List Nat} {K:Exit->Fr->St->Prop} {e:Exit} {g:Nat->Value} {Z:St}:∀ {l:List (Exit × (St->Prop))},yWY n l0 ms l K->yRE l e Z->K e ⟨Fm n (ov l0 g),ms⟩ Z
 | [],_,h=>h.elim
 | a::as,hc,h=>by
  rcases h with ⟨rfl,hq⟩ | h
  ·exact hc.1 g Z hq
  ·exact zZD hc.2 h
section
variable (P:Program) (R:Nat->Rec)
def xK (rd:Option Nat) (c:Code) (n:Nat) (l:List (Nat × Value)) (ms:List Nat) (alts:List Alt) (Z:St):Prop :=
 ∀ g:Nat->Value,∃ e fr' Z',zBQ P R rd c ⟨Fm n (ov l g),ms⟩ Z e fr' Z'/\yBQ n alts e fr' Z'
def xO (rd:Option Nat) (c:Code) (n:Nat) (l:List (Nat × Value)) (ms:List Nat) (alts:List Alt) (Z:St):Prop :=
 ∀ g:Nat->Value,∃ e fr' Z',zUT P R rd c ⟨Fm n (ov l g),ms⟩ Z e fr' Z'/\yBQ n alts e fr' Z'
def yBP (gx:Operand) (ps:Array Tmp) (a b:Code) (n:Nat) (l:List (Nat × Value)) (alts:List (Exit × (St->Prop))) (Z:St):Prop :=
 ∀ (g:Nat->Value) (ms:List Nat),∃ e Z',xVR P R gx ps a b ⟨Fm n (ov l g),ms⟩ Z e ⟨Fm n (ov l g),Z.y::ms⟩ Z'/\yRE alts e Z'
def wpE (rd:Option Nat):Code->List Ans->Fr->St->(Exit->Fr->St->List Ans->Prop)->Prop
 | .skip,as,fr,Z,K=>K .normal fr Z as
 | .label _,as,fr,Z,K=>K .normal fr Z as
 | .ret,as,fr,Z,K=>K .ret fr Z as
 | .exit id,as,fr,Z,K=>K (.exit id) fr Z as
 | .seq x y,as,fr,Z,K=>wpE rd x as fr Z fun e fr Z as=>match e with
  | .normal=>wpE rd y as fr Z K
  | e=>K e fr Z as
 | .cond c x y,as,fr,Z,K=>match as with
  | .cut n l alts::_=>(fits n fr.f=true/\AG fr.f l/\xK P R rd (.cond c x y) n l fr.marks alts Z)/\yBV n alts fun e fr Z=>∃ as,K e fr Z as
  | as=>match yC fr.f c with
   | .bool true=>wpE rd x as fr Z K
   | .bool false=>wpE rd y as fr Z K
   | _=>False
 | .block id c,as,fr,Z,K=>match as with
  | .cut n l alts::_=>(fits n fr.f=true/\AG fr.f l/\xK P R rd (.block id c) n l fr.marks alts Z)/\yBV n alts fun e fr Z=>∃ as,K e fr Z as
  | as=>wpE rd c as fr Z fun e fr Z as=>match e with
   | .exit i=>match Nat.beq i id with
    | true=>K .normal fr Z as
    | false=>K (.exit i) fr Z as
   | e=>K e fr Z as
 | .scope c,as,fr,Z,K=>wpE rd c as fr Z K
 | .region _ ops d,as,fr,Z,K=>zEL P (uJ R) ops d as fr Z K
 | .loop c,as,fr,Z,K=>match as with
  | .lf n l alts::_=>(fits n fr.f=true/\AG fr.f l/\xO P R rd c n l fr.marks alts Z)/\yBV n alts fun e fr Z=>∃ as,K e fr Z as
  | _=>False
 | .rangeFunc g ps a b,as,fr,Z,K=>match as,rd with
  | .rf n l alts::_,none=>(fits n fr.f=true/\AG fr.f l/\yBP P R g ps a b n l alts Z)/\yWY n l (Z.y::fr.marks) alts fun e fr Z=>∃ as,K e fr Z as
  | _,_=>False
 | .goto _,_,_,_,_=>False
 | .refuse _,_,_,_,_=>False
end
section
variable {P:Program} {R:Nat->Rec} {rd:Option Nat}
theorem zLH {C:zJC} {K':Value->St->List Ans->Prop} (h:zRI P C f Z o as K) (hk:∀ v s a,K v s a->K' v s a):zRI P C f Z o as K':=by
 unfold zRI at h ⊢;repeat' split at h
 all_goals first
  | exact h.elim
  | (simp only [*];exact ⟨h.1,hk _ _ _ h.2⟩)
  | (simp only [*];exact hk _ _ _ h)
  | exact ⟨h.1,hk _ _ _ h.2⟩
  | exact hk _ _ _ h
abbrev At3 (v:Value) (Z':St) (as':List Ans):Value->St->List Ans->Prop:=fun v2 s2 a2=>v2=v/\s2=Z'/\a2=as'
theorem zLI (h:zRI P (uJ R) f Z o as K):∃ v Z' as',K v Z' as'/\∃ N0,∀ N,N0<=N->zRI P (zQQ (R N)) f Z o as (At3 v Z' as'):=by
 unfold zRI at h;unfold zRI;repeat' split at h
 all_goals first
  | exact h.elim
  | (obtain ⟨⟨N0,hN⟩,hk⟩:=h;exact ⟨_,_,_,hk,N0,fun N hl=>⟨hN N hl,rfl,rfl,rfl⟩⟩)
  | exact ⟨_,_,_,h,0,fun N _=>⟨rfl,rfl,rfl⟩⟩
  | exact ⟨_,_,_,h.2,0,fun N _=>by simp only [*];exact ⟨h.1,rfl,rfl,rfl⟩⟩
  | exact ⟨_,_,_,h,0,fun N _=>by simp only [*];exact ⟨rfl,rfl,rfl⟩⟩
  | exact ⟨_,_,_,h.2,0,fun N _=>⟨h.1,rfl,rfl,rfl⟩⟩
theorem zHI {ops:Array Oper}:∀ (rest:List Oper) (as:List Ans) (f:Tm) (Z:St) (l:List Seen) (K:Tm->St->List Seen->List Ans->Prop),zGE P (uJ R) ops rest as f Z l K ->
  ∃ f' Z' l' as',K f' Z' l' as'/\∃ N0,∀ N,N0<=N->zGE P (zQQ (R N)) ops rest as f Z l fun f2 s2 l2 a2=>f2=f'/\s2=Z'/\l2=l'/\a2=as'
 | [],as,f,Z,l,K,h=>⟨f,Z,l,as,h,0,fun _ _=>⟨rfl,rfl,rfl,rfl⟩⟩
 | o::rest,as,f,Z,l,K,h=>by
  unfold zGE at h;unfold zGE;split at h
  ·rename_i hg;obtain ⟨v,Z1,as1,h1,N1,k1⟩:=zLI h;obtain ⟨f',Z',l',as',h2,N2,k2⟩:=zHI rest _ _ _ _ _ h1;refine ⟨f',Z',l',as',h2,N1+N2,fun N hN=>?_⟩
   try simp only [hg]
   refine zLH (k1 N (by omega)) ?_
   rintro _ _ _ ⟨rfl,rfl,rfl⟩;exact k2 N (by omega)
  ·rename_i hg;obtain ⟨f',Z',l',as',h2,N2,k2⟩:=zHI rest _ _ _ _ _ h;exact ⟨f',Z',l',as',h2,N2,fun N hN=>by (try simp only [hg]);exact k2 N hN⟩
  ·exact h.elim
theorem zJH {ops:Array Oper}:∀ (rest:List Oper) (as:List Ans) (f:Tm) (Z:St) (l:List Lk) (K:Tm->St->List Lk->List Ans->Prop),zDO P (uJ R) ops rest as f Z l K ->
  ∃ f' Z' l' as',K f' Z' l' as'/\∃ N0,∀ N,N0<=N->zDO P (zQQ (R N)) ops rest as f Z l fun f2 s2 l2 a2=>f2=f'/\s2=Z'/\l2=l'/\a2=as'
 | [],as,f,Z,l,K,h=>⟨f,Z,l,as,h,0,fun _ _=>⟨rfl,rfl,rfl,rfl⟩⟩
 | o::rest,as,f,Z,l,K,h=>by
  unfold zDO at h;unfold zDO;split at h
  ·rename_i hg;obtain ⟨v,Z1,as1,h1,N1,k1⟩:=zLI h;obtain ⟨f',Z',l',as',h2,N2,k2⟩:=zJH rest _ _ _ _ _ h1;refine ⟨f',Z',l',as',h2,N1+N2,fun N hN=>?_⟩
   try simp only [hg]
   refine zLH (k1 N (by omega)) ?_
   rintro _ _ _ ⟨rfl,rfl,rfl⟩;exact k2 N (by omega)
  ·rename_i hg;obtain ⟨f',Z',l',as',h2,N2,k2⟩:=zJH rest _ _ _ _ _ h;exact ⟨f',Z',l',as',h2,N2,fun N hN=>by (try simp only [hg]);exact k2 N hN⟩
  ·exact h.elim
theorem zHH {C:zJC} {ops:Array Oper}:∀ (rest:List Oper) (as:List Ans) (f:Tm) (Z:St) (l:List Seen) {K K':Tm->St->List Seen->List Ans->Prop},zGE P C ops rest as f Z l K->(∀ f s l a,K f s l a->K' f s l a)->zGE P C ops rest as f Z l K'
 | [],as,f,Z,l,K,K',h,hk=>hk _ _ _ _ h
 | o::rest,as,f,Z,l,K,K',h,hk=>by
  unfold zGE at h ⊢;split at h
  ·rename_i hg;try simp only [hg]
   exact zLH h fun v s a hh=>zHH rest _ _ _ _ hh hk
  ·rename_i hg;try simp only [hg]
   exact zHH rest _ _ _ _ h hk
  ·exact h.elim
theorem zJG {C:zJC} {ops:Array Oper}:∀ (rest:List Oper) (as:List Ans) (f:Tm) (Z:St) (l:List Lk) {K K':Tm->St->List Lk->List Ans->Prop},zDO P C ops rest as f Z l K->(∀ f s l a,K f s l a->K' f s l a)->zDO P C ops rest as f Z l K'
 | [],as,f,Z,l,K,K',h,hk=>hk _ _ _ _ h
 | o::rest,as,f,Z,l,K,K',h,hk=>by
  unfold zDO at h ⊢;split at h
  ·rename_i hg;try simp only [hg]
   exact zLH h fun v s a hh=>zJG rest _ _ _ _ hh hk
  ·rename_i hg;try simp only [hg]
   exact zJG rest _ _ _ _ h hk
  ·exact h.elim
theorem zKU {K K':Prop}:∀ {l:List Lk},zFG l K->(K->K')->zFG l K'
 | [],h,hk=>hk h
 | s::ss,h,hk=>by
  unfold zFG at h ⊢;split
  ·rename_i hs;(try simp only [hs] at h);exact ⟨h.1,zKU h.2 hk⟩
  ·rename_i hs;(try simp only [hs] at h);exact zKU h hk
theorem zOG {K:Prop}:∀ {l:List Lk},zFG l K->K
 | [],h=>h
 | s::ss,h=>by
  unfold zFG at h;split at h
  ·exact zOG h.2
  ·exact zOG h
theorem zFZ {K K':Prop} {l:List Lk}:∀ {ps:List (Nat × Nat)},uT l ps K->(K->K')->uT l ps K'
 | [],h,hk=>hk h
 | p::ps,h,hk=>by
  unfold uT at h ⊢;split at h
  ·rename_i sj sk h1 h2;try simp only [h1,h2]
   split at h
   ·rename_i hw;exact ⟨h.1,h.2.1,zFZ h.2.2 hk⟩
   ·rename_i hw;exact zFZ h hk
  ·exact h.elim
theorem zHO {K:Prop} {l:List Lk}:∀ {ps:List (Nat × Nat)},uT l ps K->K
 | [],h=>h
 | p::ps,h=>by
  unfold uT at h;split at h
  ·split at h
   ·exact zHO h.2.2
   ·exact zHO h
  ·exact h.elim
theorem zFO {id:Nat} {ops:Array Oper} {d:Bool} {K:Exit->Fr->St->List Ans->Prop} (h:zEL P (uJ R) ops d as fr Z K) :
  ∃ e fr' Z' as',zBQ P R rd (.region id ops d) fr Z e fr' Z'/\K e fr' Z' as':=by
 have fin:∀ (f':Tm) (Z':St) (as':List Ans),K .normal ⟨f',fr.marks⟩ Z' as'->(∃ N0,∀ N,N0<=N->zEL P (zQQ (R N)) ops d as fr Z fun e f2 s2 a2=>e=.normal/\f2=⟨f',fr.marks⟩/\s2=Z')->∃ e fr' Z' as',zBQ P R rd (.region id ops d) fr Z e fr' Z'/\K e fr' Z' as':=by
  rintro f' Z' as' hk ⟨N0,hN⟩;refine ⟨.normal,⟨f',fr.marks⟩,Z',as',⟨N0,fun N hl=>?_⟩,hk⟩
  obtain ⟨e₂,f₂,s₂,_,h1,rfl,rfl,rfl⟩:=yRO (id:=id) (rec:=R N) N rd (K:=fun e f2 s2 _=>e=.normal/\f2=⟨f',fr.marks⟩/\s2=Z') (hN N hl);exact h1
 cases d with
 | false =>
  simp only [zEL] at h;obtain ⟨f',Z',l',as',h1,N0,hN⟩:=zHI _ _ _ _ _ _ h;refine fin f' Z' as' h1 ⟨N0,fun N hl=>?_⟩;simp only [zEL];exact zHH _ _ _ _ _ (hN N hl) (by rintro _ _ _ _ ⟨rfl,rfl,rfl,rfl⟩;refine ⟨?_, ?_, ?_⟩ <;> first | rfl | trivial)
 | true =>
  simp only [zEL] at h;split at h
  ·rename_i h0 hp hf;obtain ⟨f',Z',l',as',h1,N0,hN⟩:=zHI _ _ _ _ _ _ h;refine fin f' Z' as' h1 ⟨N0,fun N hl=>?_⟩;unfold zEL;simp only [];rw [h0,hp,hf];exact zHH _ _ _ _ _ (hN N hl) (by rintro _ _ _ _ ⟨rfl,rfl,rfl,rfl⟩;refine ⟨?_, ?_, ?_⟩ <;> first | rfl | trivial)
  ·rename_i ps fb h0 hno;obtain ⟨f',Z',l',as',h1,N0,hN⟩:=zJH _ _ _ _ _ _ h;refine fin f' Z' as' (zHO (zOG h1)) ⟨N0,fun N hl=>?_⟩;unfold zEL;dsimp only;have key:=zJG (K':=fun f2 s2 l2 a2=>zFG l2 (uT l2 (zXH ops (CheckFast.beforeF ops)) (Exit.normal=Exit.normal/\(⟨f2,fr.marks⟩:Fr)=⟨f',fr.marks⟩/\s2=Z'))) _ _ _ _ _ (hN N hl) (by
    rintro _ _ _ _ ⟨rfl,rfl,rfl,rfl⟩;exact zKU h1 (fun x=>zFZ x (fun _=>⟨rfl,rfl,rfl⟩)))
   split
   ·rename_i g0 gp gf;exact absurd gf (hno gp)
   ·exact key
   ·rename_i g0;rw [h0] at g0;cases g0
  ·exact h.elim
theorem zBQ.seqN {fr2:Fr} {Z2:St} (h1:zBQ P R rd x fr Z .normal fr1 Z1) (h2:zBQ P R rd y fr1 Z1 e fr2 Z2):zBQ P R rd (.seq x y) fr Z e fr2 Z2:=by
 obtain ⟨N1,k1⟩:=h1;obtain ⟨N2,k2⟩:=h2;refine ⟨N1+N2,fun N hN=>?_⟩
 simp only [yK,xAT,k1 N (by omega)];exact k2 N (by omega)
theorem zBQ.seqX (h1:zBQ P R rd x fr Z e fr1 Z1) (he:e≠.normal):zBQ P R rd (.seq x y) fr Z e fr1 Z1:=by
 obtain ⟨N1,k1⟩:=h1;refine ⟨N1,fun N hN=>?_⟩
 simp only [yK,xAT,k1 N hN];cases e <;> first | rfl | exact absurd rfl he
theorem zBQ.mapD (h1:zBQ P R rd x fr Z e fr1 Z1) (h:∀ N,yK P (R N) N rd y fr Z=yK P (R N) N rd x fr Z):zBQ P R rd y fr Z e fr1 Z1:=by
 obtain ⟨N1,k1⟩:=h1;exact ⟨N1,fun N hN=>by rw [h];exact k1 N hN⟩
theorem zUT.code {fr':Fr} {Z':St} (h:zUT P R rd c fr Z e fr' Z'):zBQ P R rd (.loop c) fr Z e fr' Z':=by
 obtain ⟨N0,hN⟩:=h;exact ⟨N0,fun N hl=>by simp only [yK];exact hN N N hl hl⟩
theorem yFY {alts:List Alt} {K:Exit->Fr->St->List Ans->Prop}
  (h:(fits n fr.f=true/\AG fr.f l/\xK P R rd c n l fr.marks alts Z)/\yBV n alts fun e fr Z=>∃ as,K e fr Z as):∃ e fr' Z' as',zBQ P R rd c fr Z e fr' Z'/\K e fr' Z' as':=by
 obtain ⟨⟨h1,h2,h3⟩,h4⟩:=h;obtain ⟨e,fr',Z',h5,h6⟩:=h3 fr.f.nth;rw [<- yFP h1 h2] at h5;obtain ⟨as,hk⟩:=zLZ h4 h6;exact ⟨e,fr',Z',as,h5,hk⟩
theorem zCE:∀ (c:Code) (as:List Ans) (fr:Fr) (Z:St) (K:Exit->Fr->St->List Ans->Prop),wpE P R rd c as fr Z K ->
  ∃ e fr' Z' as',zBQ P R rd c fr Z e fr' Z'/\K e fr' Z' as':=by
 intro c;induction c with
 | skip=>intro as fr Z K h;exact ⟨_,_,_,_,⟨0,fun _ _=>rfl⟩,h⟩
 | label _=>intro as fr Z K h;exact ⟨_,_,_,_,⟨0,fun _ _=>rfl⟩,h⟩
 | ret=>intro as fr Z K h;exact ⟨_,_,_,_,⟨0,fun _ _=>rfl⟩,h⟩
 | exit _=>intro as fr Z K h;exact ⟨_,_,_,_,⟨0,fun _ _=>rfl⟩,h⟩
 | goto _=>intro as fr Z K h;simp [wpE] at h
 | refuse _=>intro as fr Z K h;simp [wpE] at h
 | seq x y ihx ihy =>
  intro as fr Z K h;simp only [wpE] at h;obtain ⟨e,fr1,Z1,as1,h1,h2⟩:=ihx _ _ _ _ h;cases e with
  | normal =>
   obtain ⟨e,fr2,Z2,as2,h3,h4⟩:=ihy _ _ _ _ h2;exact ⟨e,fr2,Z2,as2,h1.seqN h3,h4⟩
  | _=>exact ⟨_,fr1,Z1,as1,h1.seqX (by simp),h2⟩
 | cond c x y ihx ihy =>
  intro as fr Z K h;unfold wpE at h;split at h
  ·exact yFY h
  ·split at h
   ·rename_i hc;obtain ⟨e,fr1,Z1,as1,h1,h2⟩:=ihx _ _ _ _ h;exact ⟨e,fr1,Z1,as1,h1.mapD (fun N=>by simp only [yK,yGC,hc]),h2⟩
   ·rename_i hc;obtain ⟨e,fr1,Z1,as1,h1,h2⟩:=ihy _ _ _ _ h;exact ⟨e,fr1,Z1,as1,h1.mapD (fun N=>by simp only [yK,yGC,hc]),h2⟩
   ·exact h.elim
 | block id c ih =>
  intro as fr Z K h;unfold wpE at h;split at h
  ·exact yFY h
  ·obtain ⟨e,fr1,Z1,as1,⟨N1,h1⟩,h2⟩:=ih _ _ _ _ h;cases e with
   | exit i =>
    simp only at h2;cases hb:Nat.beq i id with
    | true =>
     rw [hb] at h2;exact ⟨_,fr1,Z1,as1,⟨N1,fun N hN=>by simp only [yK,zOF,h1 N hN,hb,cond_true]⟩,h2⟩
    | false =>
     rw [hb] at h2;exact ⟨_,fr1,Z1,as1,⟨N1,fun N hN=>by simp only [yK,zOF,h1 N hN,hb,cond_false]⟩,h2⟩
   | _=>exact ⟨_,fr1,Z1,as1,⟨N1,fun N hN=>by simp only [yK,zOF,h1 N hN]⟩,h2⟩
 | scope c ih =>
  intro as fr Z K h;simp only [wpE] at h;obtain ⟨e,fr1,Z1,as1,h1,h2⟩:=ih _ _ _ _ h;exact ⟨e,fr1,Z1,as1,h1.mapD (fun N=>by simp only [yK]),h2⟩
 | region id ops d =>
  intro as fr Z K h;simp only [wpE] at h;exact zFO h
 | loop c _ =>
  intro as fr Z K h;unfold wpE at h;split at h;rotate_left
  ·exact h.elim
  obtain ⟨⟨h1,h2,h3⟩,h4⟩:=h;obtain ⟨e,fr',Z',h5,h6⟩:=h3 fr.f.nth;rw [<- yFP h1 h2] at h5;obtain ⟨as,hk⟩:=zLZ h4 h6;exact ⟨e,fr',Z',as,h5.code,hk⟩
 | rangeFunc g ps a b _ _ =>
  intro as fr Z K h;unfold wpE at h;split at h;rotate_left
  ·exact h.elim
  obtain ⟨⟨h1,h2,h3⟩,h4⟩:=h;obtain ⟨e,Z',⟨N0,h5⟩,h6⟩:=h3 fr.f.nth fr.marks;rw [<- yFP h1 h2] at h5;obtain ⟨as,hk⟩:=zZD (g:=fr.f.nth) h4 h6;rw [<- yFP h1 h2] at hk;exact ⟨e,_,Z',as,⟨N0,fun N hN=>by simp only [yK];exact h5 N hN⟩,hk⟩
end
end Go.Lay

namespace Go.Lay
open Go
variable {a:Alt} {b:Code} {alts:List Alt} {aw f:FuncId} {v:Value} {args:List Value} {Q:Value->St->Prop}
@[simp] theorem xXD (a:Addr) (n:Nat):(zS a n).block=a.block:=rfl
@[simp] theorem xXS (Z:St):Z.re.y=Z.y:=rfl
@[simp] theorem yXZ (Z:St):Z.re.low=Z.y:=rfl
theorem tt:true=true:=rfl
@[irreducible] def Hid (p:Prop):Prop:=p
theorem hid {p:Prop} (h:Hid p):p:=by unfold Hid at h;exact h
theorem kc {a b:Prop} (h:a=b) (x:b):a:=h.mpr x
def In (a:Alt):List Alt->Prop
 | []=>False
 | b::l=>a=b\/In a l
theorem in0 {l:List Alt}:In a (a::l):=.inl rfl
theorem inS {b:Alt} {l:List Alt} (h:In a l):In a (b::l):=.inr h
def yBS (n:Nat) (alts:List Alt):Exit->Fr->St->List Ans->Prop:=fun e fr Z as=>match as with
 | [.fin a t]=>(e=a.e/\fits n fr.f=true/\AG fr.f (a.l t)/\fr.marks=a.ms t)/\(a.Q t Z/\In a alts)
 | _=>False
def FIN (alts:List Alt) (a:Alt) (t:a.T) (Z:St):Prop:=(a.e=a.e/\true=true/\ARf (a.l t)/\a.ms t=a.ms t)/\(a.Q t Z/\In a alts)
theorem fin (a:Alt) (t:a.T) {Z:St} (h:a.Q t Z) (hi:In a alts):FIN alts a t Z:=⟨⟨rfl,rfl,arf _,rfl⟩,h,hi⟩
section
variable {P:Program} {R:Nat->Rec} {rd:Option Nat} {c:Code} {n:Nat} {l:List (Nat × Value)} {ms:List Nat} {alts:List Alt} {Z Z':St}
theorem zWY {a:Alt} {t:a.T} {fr:Fr} (h1:fits n fr.f=true) (h2:AG fr.f (a.l t)) (h3:fr.marks=a.ms t) (h4:a.Q t Z):∀ {alts:List Alt},In a alts->yBQ n alts a.e fr Z
 | [],h=>h.elim
 | b::as,h=>by
  rcases h with rfl | h
  ·refine .inl ⟨rfl,t,fr.f.nth, ?_,h4⟩;rw [<- yFP h1 h2,<- h3]
  ·exact .inr (zWY h1 h2 h3 h4 h)
theorem zVQ (as:List Ans) (h:∀ g:Nat->Value,Hid (wpE P R rd c as ⟨Fm n (ov l g),ms⟩ Z (yBS n alts))):xK P R rd c n l ms alts Z:=by
 intro g;obtain ⟨e,fr',Z',as',h1,h2⟩:=zCE _ _ _ _ _ (hid (h g));refine ⟨e,fr',Z',h1, ?_⟩
 unfold yBS at h2;split at h2
 ·obtain ⟨⟨rfl,k1,k2,k3⟩,k4,k5⟩:=h2;exact zWY k1 k2 k3 k4 k5
 ·exact h2.elim
theorem vN (i:Nat):Exit.exit i≠.normal:=fun h=>by cases h
theorem zAW:Exit.ret≠.normal:=fun h=>by cases h
def zUS:List Alt->Prop
 | []=>True
 | a::l=>a.e≠.normal/\zUS l
theorem zGU {T:Type} {lf:T->List (Nat × Value)} {mf:T->List Nat} {Inv:Nat->T->St->Prop} (hne:zUS alts)
  (hb:∀ k t Z,Inv k t Z->xK P R rd c n (lf t) (mf t) (⟨T,.normal,lf,mf,fun t' Z'=>∃ k',k' < k/\Inv k' t' Z'⟩::alts) Z):∀ k t Z,Inv k t Z->xO P R rd c n (lf t) (mf t) alts Z:=by
 intro k;induction k using Nat.strongRecOn with
 | ind k ih =>
  intro t Z hi g;obtain ⟨e,fr',Z',h1,h2⟩:=hb k t Z hi g;rcases h2 with ⟨rfl,t',g',rfl,k',hk,hi'⟩ | h2
  ·obtain ⟨e2,fr2,Z2,h3,h4⟩:=ih k' hk t' Z' hi' g';exact ⟨e2,fr2,Z2,.step h1 h3,h4⟩
  ·have he:e≠.normal:=by
    clear h1 ih hb hi;induction alts with
    | nil=>exact h2.elim
    | cons a as ih2 =>
     rcases h2 with ⟨rfl,_⟩ | h2
     ·exact hne.1
     ·exact ih2 hne.2 h2
   exact ⟨e,fr',Z',.exit h1 he,h2⟩
def kAt (P:Program) (R:Nat->Rec) (rd:Option Nat):Code->List Nat->(Exit->Fr->St->List Ans->Prop)->Exit->Fr->St->List Ans->Prop
 | .seq x y,0::p,K=>kAt P R rd x p fun e fr Z as=>match e with
  | .normal=>wpE P R rd y as fr Z K
  | e=>K e fr Z as
 | .seq _ y,1::p,K=>kAt P R rd y p K
 | .cond _ x _,0::p,K=>kAt P R rd x p K
 | .cond _ _ y,1::p,K=>kAt P R rd y p K
 | .block id c,0::p,K=>kAt P R rd c p fun e fr Z as=>match e with
  | .exit i=>match Nat.beq i id with
   | true=>K .normal fr Z as
   | false=>K (.exit i) fr Z as
  | e=>K e fr Z as
 | .scope c,0::p,K=>kAt P R rd c p K
 | _,_,K=>K
def kFn (P:Program) (f:FuncId) (Q:Value->St->Prop):Exit->Fr->St->List Ans->Prop:=fun e fr Z as =>
 match P.funcs[f]? with
 | some fn=>match e with
  | .normal=>zEM P fn fr Z as Q
  | .ret=>zEM P fn fr Z as Q
  | _=>False
 | none=>False
theorem zJ.top {a:Value} {as:List Value} (h:zJ P f (a::as) Z v Z'):uJ (zDC P aw) (.func f) (a::as) Z v Z':=h
def yXB (P:Program) (R:Nat->Rec) (f:FuncId) (args:List Value) (as:List Ans) (Z:St) (K:Value->St->Prop):Prop :=
 match P.funcs[f]? with
 | some fn=>match fn.body with
  | some c=>wpE P R none c as ⟨(Tm.args 0 args).foldl (fun f p=>f.set p.1 p.2) (fresh (args.length+(fn.ntmps-args.length))),[]⟩ Z fun e fr Z as=>match e with
   | .normal=>zEM P fn fr Z as K
   | .ret=>zEM P fn fr Z as K
   | _=>False
  | none=>False
 | none=>False
theorem zTP {as:List Ans} {K:Value->St->Prop} (h:yXB P R f args as Z K):∃ v Z',(∃ N0,∀ N,N0<=N->zDT P (R N) N f args Z=some (v,Z'))/\K v Z':=by
 unfold yXB at h;split at h
 ·rename_i fn hfn;split at h
  ·rename_i c hc;obtain ⟨e,fr,Z₁,as',⟨N0,h1⟩,h2⟩:=zCE _ _ _ _ _ h;have fin:∀ (h2:zEM P fn fr Z₁ as' K) (he:e=.normal\/e=.ret),∃ v Z',(∃ N0,∀ N,N0<=N->zDT P (R N) N f args Z=some (v,Z'))/\K v Z':=by
    intro h2 he;obtain ⟨v,Z',h3,h4⟩:=zOV h2;refine ⟨v,Z',⟨N0,fun N hN=>?_⟩,h4⟩
    have key:xLV P fn (yK P (R N) N none c ⟨(Tm.args 0 args).foldl (fun f p=>f.set p.1 p.2) (fresh (args.length+(fn.ntmps-args.length))),[]⟩ Z)=zDT P (R N) N f args Z:=by
     simp only [zDT,hfn,hc,Tm.puts_eq]
    rw [<- key,h1 N hN];rcases he with rfl | rfl <;> exact h3
   cases e with
   | normal=>exact fin h2 (.inl rfl)
   | ret=>exact fin h2 (.inr rfl)
   | _=>exact h2.elim
  ·exact h.elim
 ·exact h.elim
def zL (P:Program) (f:FuncId) (args:List Value) (Z:St) (Q:Value->St->Prop):Prop:=∃ v Z',xNR P f args Z v Z'/\Q v Z'
theorem zK (as:List Ans) (h:Hid (yXB P (zW P) f args as Z Q)) (ho:zEX f=false:=by rfl):zL P f args Z Q:=by
 obtain ⟨v,Z',⟨N0,hN⟩,hq⟩:=zTP (hid h);refine ⟨v,Z',⟨N0+1,fun N hN'=>?_⟩,hq⟩
 obtain ⟨N,rfl⟩:∃ M,N=M+1:=⟨N-1,by omega⟩;exact xPC ho (hN N (by omega))
def yCY (P:Program) (aw:FuncId) (f:FuncId) (args:List Value) (Z:St) (Q:Value->St->Prop):Prop:=∃ N v Z',zDT P (zDC P aw N) N f args Z=some (v,Z')/\Q v Z'
theorem zOY (as:List Ans) (h:Hid (yXB P (zDC P aw) f args as Z Q)):yCY P aw f args Z Q:=by
 obtain ⟨v,Z',⟨N0,hN⟩,hq⟩:=zTP (hid h);exact ⟨N0,v,Z',hN N0 (Nat.le_refl _),hq⟩
theorem xGQ:uJ (zDC P aw) (.func aw) [] Z (.bool true) Z:=⟨0,fun N _=>xAO⟩
theorem yCY.walk {W:World} {V:Inj} (hP:ProgOk P) (hc:ShutF P aw) {f:FuncId} {avs args:List Value} (h:yCY P aw f avs Z fun v _=>v=.bool true) (hr:Rep V Z W) (ho:Ro V W) (ha:VRs V avs args) :
  Calls P f ⟨args⟩ W fun e w'=>e=.returned (.bool true)/\GrownO W w':=by
 obtain ⟨N,v,Z',hb,rfl⟩:=h;obtain ⟨_,h2⟩:=zUQ hP (yRV hP hc N) hb hr ha;refine Calls.mono (callsIn_wide.1 (h2 0)) (fun e w' hR=>?_);cases e with
 | returned v' =>
  obtain ⟨V',hv,hg⟩:=hR;exact ⟨by rw [hv.bool_inv],xKY hg ho.own⟩
 | panicked _=>exact hR.elim
 | outgrown=>exact hR.elim
theorem zL.mono {Q':Value->St->Prop} (h:zL P f args Z Q) (hk:∀ v s,Q v s->Q' v s):zL P f args Z Q':=by
 obtain ⟨v,Z',h1,h2⟩:=h;exact ⟨v,Z',h1,hk _ _ h2⟩
theorem zL.pure (h:zL P f args Z.re fun v' s=>v'=v/\Z.y<=s.low) (hv:zQ RD v=true:=by rfl):zJ P f args Z v Z:=by
 obtain ⟨_,Z',h1,rfl,h2⟩:=h;exact zNE h1 h2 hv
theorem zL.new (h:zL P f args Z.re fun v s=>New Z.re s/\Q v s) (hQ:∀ v s s',Q v s->Le s s'->Q v s') (hQ2:∀ v s,zQ RD v=true->Q v s->Q v Z):∃ v Z',zJ P f args Z v Z'/\New Z Z'/\Q v Z':=by
 obtain ⟨v,Z',h1,h2,h3⟩:=h;obtain ⟨v,Z'',k1,k2,k3⟩:=xWE (Q:=Q) h1 h2 h3 (fun s s' a b=>hQ _ s s' a b) (fun hr=>hQ2 _ _ hr h3);exact ⟨v,Z'',k1,k2,k3⟩
def zZB (tm:Tm) (ps:List Tmp) (a b:Code) (db:Nat):Exit->Blk
 | .ret=>.loop tm ps a b .done (some .ret) db
 | .exit id=>.loop tm ps a b .done (some (.exit id)) db
 | _=>.loop tm ps a b .ready none db
def zYM:Exit->Bool
 | .normal=>true
 | _=>false
def xXF (alts:List Alt) (e:Exit) (s:St):Prop:=∃ a,In a alts/\e=a.e/\∃ t,a.Q t s
def xAJ (alts:List Alt):Exit->Fr->St->List Ans->Prop:=fun e _ Z as=>match as with
 | [.fin a t]=>e=a.e/\(a.Q t Z/\In a alts)
 | _=>False
def xXR (alts:List Alt) (a:Alt) (t:a.T) (Z:St):Prop:=a.e=a.e/\(a.Q t Z/\In a alts)
theorem xCZ (a:Alt) (t:a.T) {Z:St} (h:a.Q t Z) (hi:In a alts):xXR alts a t Z:=⟨rfl,h,hi⟩
def KAs (P:Program) (R:Nat->Rec) (lo:Nat) (b:Code) (U U':St) (K:Exit->Fr->St->List Ans->Prop):Exit->Fr->St->List Ans->Prop:=fun e fr s an=>(e=.normal/\s=U)/\wpE P R (some lo) b an fr U' K
def zCT (P:Program) (lo:Nat) (args:List Value) (U:St) (tm:Tm) (ps:List Tmp) (a b:Code) (db:Nat) (alts:List Alt):Prop :=
 ∃ e s,xXF alts e s/\(e=.normal\/e=.ret\/(∃ i,e=.exit i)->lo<U.y->yD s.heap lo=some (.loop tm ps a b .busy none db)->U.y<=s.y->zAC P lo args U (.bool (zYM e)) ⟨(s.put lo (zZB tm ps a b db e)).heap,s.y,min U.low (min s.low lo)⟩)
theorem zWN {lo db:Nat} {tm:Tm} {ps:List Tmp} {a:Code} {U:St} (hl:yD U.heap lo=some (.loop tm ps a b .ready none db)) (hn:args.length=ps.length) {Z1:St} (hZ:Z1=U.re.put lo (.loop tm ps a b .busy none db)) (as:List Ans)
  (h:Hid (wpE P (zW P) (some lo) a as ⟨(ps.zip args).foldl (fun f p=>f.set p.1 p.2) tm,[]⟩ U.re (KAs P (zW P) lo b U.re Z1 (xAJ alts)))) :
  zCT P lo args U tm ps a b db alts:=by
 subst hZ;obtain ⟨e1,fr1,s1,an1,⟨N1,h1⟩,⟨rfl,rfl⟩,h2⟩:=zCE _ _ _ _ _ (hid h);obtain ⟨e,fr2,s,an2,⟨N2,h3⟩,h4⟩:=zCE _ _ _ _ _ h2;unfold xAJ at h4;split at h4;rotate_left
 ·exact h4.elim
 obtain ⟨rfl,h5,h6⟩:=h4;rename_i al t;refine ⟨_,s,⟨al,h6,rfl,t,h5⟩,fun he hlt hb hs=>⟨N1+N2+1,fun N hN=>?_⟩⟩
 obtain ⟨N,rfl⟩:∃ N',N=N'+1:=⟨N-1,by omega⟩;have k1:=h1 N (by omega);have k3:=h3 N (by omega);have hr:(⟨U.heap,U.y,U.y⟩:St)=U.re:=rfl;have hlr:yD U.re.heap lo=some (.loop tm ps a b .ready none db):=hl;unfold uE;rw [hr];rw [zWM];simp only [zRG,hlr,hn,Nat.beq_refl,cond_true,Tm.puts_eq,k1,zLM,St.write_eq,k3];have key:∀ y:Blk,vW U (.bool (zYM al.e)) (s.put lo y)=some (.bool (zYM al.e),⟨(s.put lo y).heap,s.y,min U.low (min s.low lo)⟩):=by
  intro y;unfold vW;have e1:Nat.ble U.y (s.put lo y).low=false:=by
   rw [Bool.eq_false_iff];intro e;have:=(zP _ _).1 e;simp only [St.put_low] at this;omega
  have e2:Nat.ble U.y (s.put lo y).y=true:=(zP _ _).2 hs;simp only [e1,Bool.false_and,cond_false,e2,cond_true,wL,zBD];rfl
 rcases he with e | e | ⟨i,e⟩ <;> (rw [e] at key ⊢;simp only [zLL,zET,hb,St.write_eq];exact key _)
def xLR:Option Code->Exit
 | some .ret=>.ret
 | some (.exit id)=>.exit id
 | _=>.normal
theorem yEC {gx:Operand} {ps:Array Tmp} {a:Code} {xs:List (Exit × (St->Prop))} {fs:List Value} (hg:∀ g,yC (Fm n (ov l g)) gx=.func (.func f) ⟨[]⟩ ⟨fs⟩)
  (h:∀ g,∃ v s st pend,zJ P f (.func (.yield (Z.y+1)) ⟨[]⟩ ⟨[]⟩::fs) ((Z.add .defd).add (.loop (Fm n (ov l g)) ps.toList a b .ready none Z.y)) v s/\yD s.heap (Z.y+1)=some (.loop (Fm n (ov l g)) ps.toList a b st pend Z.y) /\
   ((st=.ready/\pend=none)\/(st=.done/\(pend=some .ret\/∃ i,pend=some (.exit i))))/\yRE xs (xLR pend) (s.put (Z.y+1) (.loop (Fm n (ov l g)) ps.toList a b .exhausted pend Z.y))):yBP P (zW P) gx ps a b n l xs Z:=by
 intro g ms;obtain ⟨v,s,st,pend,⟨N0,hN⟩,hb,hst,hq⟩:=h g;refine ⟨xLR pend,_,⟨N0,fun N hl=>?_⟩,hq⟩
 have h1:=hN N hl;simp only [zND,zHR,St.new_eq,hg,zCB,List.nil_append,List.singleton_append,St.add_next];simp only [h1,zEU,hb,St.write_eq];rcases hst with ⟨rfl,rfl⟩ | ⟨rfl,rfl | ⟨i,rfl⟩⟩ <;> rfl
end
end Go.Lay

namespace Go.Lay
open Go
variable {cs vs args:List Value} {n n0 t len c b st xt s:Nat} {p:Option Addr} {f:FuncId}
section
variable {P:Program} {Z U U':St} {S:Nat->Prop}
theorem New.of_only (h:New Z U) (k:Only S U U') (hs:∀ b,S b->Z.y<=b):New Z U' :=
  ⟨⟨Nat.le_trans h.le.y k.y,fun b hb=>(k.get b (Nat.lt_of_lt_of_le hb h.le.y) (fun hS=>by have:=hs b hS;omega)).trans (h.le.get b hb)⟩,
   fun m h1 h2=>k.low m (h.low m h1 h2) (Nat.le_trans h2 h.le.y) (fun b _ hS=>Nat.le_trans h2 (hs b hS))⟩
theorem New.own {b n:Nat} {cs:List Value} (h:New Z U) (hb:Z.y<=b):New Z (U.own b cs n):=h.of_only (S:=(·=b)) (Only.own (.inr rfl)) (by rintro _ rfl;exact hb)
theorem New.row' (h:New Z U):New Z (U.row cs n):=h.trans (New.row _ _ _)
theorem New.nx (h:New Z U):Z.y<=U.y:=h.le.y
theorem New.lw (h:New Z.re U):Z.y<=U.low:=h.low _ (Nat.le_refl _) (Nat.le_refl _)
structure Gr (P:Program) (Z:St) (n0 t n:Nat) (p:Option Addr) (len c:Nat) (vs:List Value):Prop where
 app:App Z n0 n (.slice p len c) len (wI vs)
 len_eq:vs.length=len
 el:∀ v∈vs,zGZ P t n v
theorem Gr.nil {n0 t n:Nat}:Gr P Z n0 t n none 0 0 []:=⟨App.nil,rfl,by simp⟩
theorem Gr.le (h:Gr P Z n0 t n p len c vs) (k:Le Z U):Gr P U n0 t n p len c vs:=⟨h.app.keep k,h.len_eq,h.el⟩
theorem Gr.only (h:Gr P Z n0 t n p len c vs) (k:Only S Z U) (hs:∀ b,AtP p b->¬ S b):Gr P U n0 t n p len c vs :=
 ⟨k.app' h.app (by rintro a l c ⟨⟩;exact hs _ ⟨a,rfl,rfl⟩),h.len_eq,h.el⟩
theorem Gr.slv {n0 t n len c:Nat} {p:Option Addr} {vs:List Value} (h:Gr P Z n0 t n p len c vs):SlV P Z t n p len vs:=h.app.slv h.len_eq h.el
theorem Gr.bd (h:Gr P Z n0 t n p len c vs) (hb:AtP p b):n0<=b/\b<Z.y:=by
 obtain ⟨a,e,rfl⟩:=hb;exact ⟨h.app.ge a e,h.app.lt a e⟩
theorem zGW (v:Value) {cs:List Value} (T:AppT P st xt t n) (h:Gr P Z n0 t n p len c vs) (hle:Le Z U) (hv:zGZ P t n v) (hroom:len+1<=1073741824) (hn:n0<=Z.y) (e:v.cells.toList=cs:=by rfl) (hc:cs.all cellB=true:=by first | rfl | simp) :
  ∃ p' c' U',yA P st xt (.slice p len c) (.slice (some ⟨U.y,0,none⟩) 1 1) (U.row cs n)=some (.slice p' (len+1) c',U')/\Gr P U' n0 t n p' (len+1) c' (vs++[v])/\Only (AtP p) (U.row cs n) U'/\(∀ b,AtP p' b->AtP p b\/U.y<=b):=by
 subst e;have hl:=hv.len;obtain ⟨p',c',U',h1,h2,h3,h4⟩:=yGM (k:=1) (m:=1) T ((h.le hle).app.keep (Le.row _ _ _)) (zPE U v.cells.toList n) (by omega) (by omega) hroom hc (by have:=hle.y;simp;omega);refine ⟨p',c',U',h1,⟨by rw [zDF];simpa [wI] using h2,by simp [h.len_eq], ?_⟩,h3,fun b hb=>?_⟩
 ·intro x hx;simp at hx;rcases hx with hx | rfl
  ·exact h.el x hx
  ·exact hv
 ·rcases h4 b hb with h5 | h5
  ·exact .inl h5
  ·right;simp at h5;omega
theorem grow {Z0:St} (v:Value) {cs:List Value} (T:AppT P st xt t n) (h:Gr P Z Z0.y t n p len c vs) (hN:New Z0 Z) (hle:New Z U) (hv:zGZ P t n v) (hroom:len+1<=1073741824) (e:v.cells.toList=cs:=by rfl) (hc:cs.all cellB=true:=by first | rfl | simp) :
  ∃ p' c' U',yA P st xt (.slice p len c) (.slice (some ⟨U.y,0,none⟩) 1 1) (U.row cs n)=some (.slice p' (len+1) c',U')/\Gr P U' Z0.y t n p' (len+1) c' (vs++[v])/\New Z0 U'/\Only (AtP p) (U.row cs n) U'/\(∀ b,AtP p' b->AtP p b\/U.y<=b):=by
 obtain ⟨p',c',U',h1,h2,h3,h4⟩:=zGW v T h hle.le hv hroom hN.nx e hc;exact ⟨p',c',U',h1,h2,((hN.trans hle).row').of_only h3 (fun b hb=>(h.bd hb).1),h3,h4⟩
theorem zL.newSl (h:zL P f args Z.re fun v s=>New Z.re s/\∃ p c,v=.slice p len c/\SlV P s t n p len vs/\∀ b,AtP p b->Z.y<=b) :
  ∃ p c Z',zJ P f args Z (.slice p len c) Z'/\New Z Z'/\SlV P Z' t n p len vs/\∀ b,AtP p b->Z.y<=b:=by
 obtain ⟨v,Z',h1,h2,p,c,rfl,h3,h4⟩:=zL.new (Q:=fun v s=>∃ p c,v=.slice p len c/\SlV P s t n p len vs/\∀ b,AtP p b->Z.y<=b) h (by
  rintro v s s' ⟨p,c,rfl,g1,g2⟩ hle;exact ⟨p,c,rfl,g1.le hle,g2⟩) (by
  rintro v s hr ⟨p,c,rfl,g1,g2⟩;cases p with
  | none=>exact ⟨none,c,rfl,zAV g1,fun b hb=>(AtP.none hb).elim⟩
  | some a=>exact Bool.noConfusion (show false=true from hr))
 exact ⟨p,c,Z',h1,h2,h3,h4⟩
def xWI (P:Program) (st e n:Nat) (z:Value):Bool :=
 (match xS P st with | some (e',n')=>Nat.beq e e' && Nat.beq n n' | none=>false) && (match P.info? e with | some ei=>Nat.ble ei.bytes 4096 | none=>false) && Nat.beq z.cells.toList.length n && Nat.ble n 4096 && Nat.blt 0 n
theorem yYZ {e:Nat} {z:Value} (hb:xWI P st e n z=true) (hz:uQ P e=some z) {len:Nat} (hl:len<=1073741824) :
  zN P (evL [.int .i64 (len:Int),.int .i64 (len:Int)]) Z (.makeSlice st (.tmp 0) (.tmp 1))=some (.slice (some ⟨Z.y,0,none⟩) len len,Z.row (yL z.cells.toList len) n):=by
 unfold xWI at hb;simp only [Bool.and_eq_true] at hb;obtain ⟨⟨⟨⟨h1,h2⟩,h3⟩,h4⟩,h5⟩:=hb;split at h1;rotate_left
 ·cases h1
 rename_i e' n' he;simp only [Bool.and_eq_true] at h1;rw [<- Nat.eq_of_beq_eq_true h1.1,<- Nat.eq_of_beq_eq_true h1.2] at he;split at h2;rotate_left
 ·cases h2
 rename_i ei hi;have k1:leI 0 (len:Int)=true:=(vG _ _).2 (Int.natCast_nonneg _);have k2:leI (len:Int) (len:Int)=true:=(vG _ _).2 (Int.le_refl _);have k3:leI (len:Int) 1073741824=true:=(vG _ _).2 (by omega);have k4:zCA len n ei.bytes=true:=by unfold zCA;rw [(zP _ _).2 hl,h4,h2];rfl
 have e0:∀ l:List Value,evL l (.tmp 0)=l.getD 0 undef:=fun _=>rfl
 have e1:∀ l:List Value,evL l (.tmp 1)=l.getD 1 undef:=fun _=>rfl
 unfold zN;simp only [he,e0,e1,List.getD_cons_zero,List.getD_cons_succ,hz,hi,k1,k2,k3,Int.toNat_natCast,k4,h3,h5,Bool.and_self,cond_true,yO];rfl
def vX (n:Nat) (P:Nat->Int):List Value:=(List.range n).map fun s=>.int .i64 (P s)
theorem zVW {P:Nat->Int}:(vX n P).length=n:=by simp [vX]
theorem zOW {P:Nat->Int} (h:s<n):(vX n P)[s]?=some (.int .i64 (P s)):=by simp [vX,h]
theorem xGK {P:Nat->Int} {v:Int} (h:s<n):(vX n P).set s (.int .i64 v)=vX n (fun s'=>if s'=s then v else P s'):=by
 apply List.ext_getElem?;intro i;rw [List.getElem?_set];by_cases e:s=i
 ·subst e;simp [vX,h]
 ·rw [if_neg e];by_cases hi:i<n
  ·rw [zOW hi,zOW hi,if_neg (fun x=>e x.symm)]
  ·rw [List.getElem?_eq_none (by rw [zVW];omega),List.getElem?_eq_none (by rw [zVW];omega)]
theorem yRT {P Q:Nat->Int} (h:∀ s,s<n->P s=Q s):vX n P=vX n Q:=by
 unfold vX;apply List.map_congr_left;intro s hs;rw [h s (by simpa using hs)]
theorem Only.lower {m:Nat} (h:Only S Z.re U):Only S Z ⟨U.heap,U.y,min Z.low U.low⟩ :=
 ⟨h.y,h.get,fun k h1 h2 h3=>by have:=h.low k h2 h2 h3;show k<=min _ _;omega⟩
theorem zL.mut {Q:Value->St->Prop} (h:zL P f args Z.re fun v s=>Only S Z.re s/\(s.low<Z.y\/zQ RD v=false)/\Q v s) (hQ:∀ v s m,Q v s->Q v ⟨s.heap,s.y,m⟩):∃ v Z',zJ P f args Z v Z'/\Only S Z Z'/\Q v Z':=by
 obtain ⟨v,s,⟨N0,hN⟩,h1,h2,h3⟩:=h;refine ⟨v,⟨s.heap,s.y,min Z.low s.low⟩,⟨N0,fun N hl=>?_⟩,h1.lower (m:=0),hQ _ _ _ h3⟩
 unfold uE;rw [show (⟨Z.heap,Z.y,Z.y⟩:St)=Z.re from rfl,hN N hl];show vW Z v s=_;unfold vW;have e1:(Nat.ble Z.y s.low && zQ RD v)=false:=by
  rcases h2 with h2 | h2
  ·rw [Bool.and_eq_false_iff];left;rw [Bool.eq_false_iff];intro e;have:=(zP _ _).1 e;omega
  ·rw [h2,Bool.and_false]
 have e2:Nat.ble Z.y s.y=true:=(zP _ _).2 h1.y;rw [e1,cond_false,e2,cond_true,wL,zBD]
theorem Own.at_ (h:Own Z b cs n) (k:yD U.heap b=yD Z.heap b) (hn:Z.y<=U.y):Own U b cs n:=⟨by rw [k];exact h.get,Nat.lt_of_lt_of_le h.lt hn⟩
end
end Go.Lay

namespace Go.Lay
open Go
variable {f:Tm} {rec:Rec} {ops:Array Oper} {y:Code} {fr fr1 fr2 fr':Fr} {Z Z1 Z2:St} {e:Exit} {id:Nat} {d:Bool}
def xAK (P:Program) (f:FuncId) (args:List Value) (Z:St) (x:Value) (Z':St):Prop:=∃ N0,∀ N,N0<=N->zES P N f args Z=some (x,Z')
def zBX (P:Program) (f:FuncId) (args:List Value) (Z:St) (x:Value) (Z':St):Prop:=∃ N0,∀ N,N0<=N->zHY (zES P N) f args Z=some (x,Z')
def zDN (P:Program) (c:Code) (fr:Fr) (Z:St) (e:Exit) (fr':Fr) (Z':St):Prop:=∀ ds,∃ N0,∀ N,N0<=N->yS P (zW P N) (zES P N) N c ⟨fr.f,ds⟩ Z=some (e,⟨fr'.f,ds⟩,Z')
def zLB (P:Program) (c:Code) (fr:Fr) (Z:St) (e:Exit) (fr':Fr) (Z':St):Prop:=∀ ds,∃ N0,∀ N m,N0<=N->N0<=m->zFT (yS P (zW P N) (zES P N) N c) m ⟨fr.f,ds⟩ Z=some (e,⟨fr'.f,ds⟩,Z')
def yRM (P:Program) (c:Code) (n:Nat) (l:List (Nat × Value)) (ms:List Nat) (alts:List Alt) (Z:St):Prop :=
 ∀ g:Nat->Value,∃ e fr' Z',zDN P c ⟨Fm n (ov l g),ms⟩ Z e fr' Z'/\yBQ n alts e fr' Z'
def yRG (P:Program) (c:Code) (n:Nat) (l:List (Nat × Value)) (ms:List Nat) (alts:List Alt) (Z:St):Prop :=
 ∀ g:Nat->Value,∃ e fr' Z',zLB P c ⟨Fm n (ov l g),ms⟩ Z e fr' Z'/\yBQ n alts e fr' Z'
def yXA (P:Program) (f:Tm) (Z:St) (o:Op) (x:Value) (Z':St):Prop :=
 match o with
 | .panic y=>match yC f y with
  | .iface t v=>zQ RD (.iface t v)=true/\x=.iface t v/\Z'=Z
  | _=>False
 | .call c=>match c.callee with
  | .value fx=>match zCB (yC f fx) (c.args.toList.map (yC f)) with
   | some (.func g,args)=>match xDC P fx Z (.func g) args with
    | none=>zBX P g args Z x Z'
    | some _=>False
   | _=>False
  | _=>False
 | _=>False
def zVT (P:Program) (C:zJC) (ops:Array Oper):List Oper->List Ans->Tm->St->(Value->Tm->St->List Ans->Prop)->Prop
 | [],_,_,_,_=>False
 | o::rest,as,f,Z,K =>
  match uI ops f o with
  | some true=>match as with
   | .dx x Z'::as=>yXA P f Z o.op x Z'/\K x f Z' as
   | as=>zRI P C f Z o.op as fun v Z' as=>zVT P C ops rest as (zCI f o.dst v) Z' K
  | some false=>zVT P C ops rest as (zCI f o.dst undef) Z K
  | none=>False
def xGH (P:Program) (C:zJC) (ops:Array Oper) (draw:Bool) (as:List Ans) (fr:Fr) (Z:St) (K:Exit->Fr->St->List Ans->Prop):Prop :=
 match draw with
 | false=>zVT P C ops ops.toList as fr.f Z fun x f Z as=>K (zKG x) ⟨f,fr.marks⟩ Z as
 | true=>match ops.back? with
  | some o=>yUE ops.pop o=true/\zEL P C ops.pop true as fr Z fun e fr Z as=>match e with
   | .normal=>match uI ops fr.f o with
    | some true=>match as with
     | .dx x Z'::as=>yXA P fr.f Z o.op x Z'/\K (zKG x) fr Z' as
     | _=>False
    | _=>False
   | _=>False
  | none=>False
section
variable (P:Program)
def wpX:Code->List Ans->Fr->St->(Exit->Fr->St->List Ans->Prop)->Prop
 | .skip,as,fr,Z,K=>K .normal fr Z as
 | .label _,as,fr,Z,K=>K .normal fr Z as
 | .ret,as,fr,Z,K=>K .ret fr Z as
 | .exit id,as,fr,Z,K=>K (.exit id) fr Z as
 | .seq x y,as,fr,Z,K=>wpX x as fr Z fun e fr Z as=>match e with
  | .normal=>wpX y as fr Z K
  | e=>K e fr Z as
 | .cond c x y,as,fr,Z,K=>match yC fr.f c with
  | .bool true=>wpX x as fr Z K
  | .bool false=>wpX y as fr Z K
  | _=>False
 | .block id c,as,fr,Z,K=>wpX c as fr Z fun e fr Z as=>match e with
  | .exit i=>match Nat.beq i id with
   | true=>K .normal fr Z as
   | false=>K (.exit i) fr Z as
  | e=>K e fr Z as
 | .scope c,as,fr,Z,K=>wpX c as fr Z K
 | .region _ ops d,as,fr,Z,K=>match as with
  | .die::as=>xGH P (uJ (zW P)) ops d as fr Z K
  | as=>zEL P (uJ (zW P)) ops d as fr Z K
 | .loop c,as,fr,Z,K=>match as with
  | .lf n l alts::_=>(fits n fr.f=true/\AG fr.f l/\yRG P c n l fr.marks alts Z)/\yBV n alts fun e fr Z=>∃ as,K e fr Z as
  | _=>False
 | .rangeFunc _ _ _ _,_,_,_,_=>False
 | .goto _,_,_,_,_=>False
 | .refuse _,_,_,_,_=>False
end
section
variable {P:Program} {c:Code} {n:Nat} {l:List (Nat × Value)} {ms:List Nat} {alts:List Alt} {Z Z':St}
theorem yLH {o:Op} {x:Value} (h:yXA P f Z o x Z'):∃ N0,∀ N,N0<=N->opA P (zW P N) (yC f) Z o=none/\zTD (yC f) o=none/\zXG (zES P N) (yC f) Z o=some (x,Z'):=by
 unfold yXA at h;split at h
 ·rename_i y;split at h
  ·rename_i t v hv;obtain ⟨h1,rfl,rfl⟩:=h;exact ⟨0,fun N _=>⟨rfl,rfl,by simp only [zXG,hv,h1,cond_true]⟩⟩
  ·exact h.elim
 ·rename_i c₀;split at h
  ·rename_i fx hc;split at h
   ·rename_i g args href;split at h
    ·rename_i hx;obtain ⟨N0,hN⟩:=h;refine ⟨N0,fun N hl=>⟨?_,rfl, ?_⟩⟩
     ·have h1:=hN N hl;have h2:zW P N (.func g) args ⟨Z.heap,Z.y,Z.y⟩=none:=by
       unfold zHY at h1;split at h1
       ·cases h1
       ·rename_i hr;exact xHK hr
      simp only [opA,zKS,hc,href,hx,uE,h2]
     ·simp only [zXG,hc,href];exact hN N hl
    ·exact h.elim
   ·exact h.elim
  ·exact h.elim
 ·exact h.elim
theorem zJF {ops:Array Oper}:∀ (rest:List Oper) (as:List Ans) (f:Tm) (Z:St) (K:Value->Tm->St->List Ans->Prop),zVT P (uJ (zW P)) ops rest as f Z K ->
  ∃ x f' Z' as',K x f' Z' as'/\∃ N0,∀ N,N0<=N->∀ ds,zHZ P (zW P N) (zES P N) ops rest ⟨f,ds⟩ Z=some (some x,⟨f',ds⟩,Z')
 | [],as,f,Z,K,h=>h.elim
 | o::rest,as,f,Z,K,h=>by
  unfold zVT at h;split at h
  ·rename_i hg;split at h
   ·rename_i x Z₁ as₁;obtain ⟨h1,h2⟩:=h;obtain ⟨N0,hN⟩:=yLH h1;refine ⟨x,f,Z₁,as₁,h2,N0,fun N hl ds=>?_⟩
    obtain ⟨k1,k2,k3⟩:=hN N hl;simp only [zHZ,hg,k1,k2,k3]
   ·obtain ⟨v,Z1,as1,h1,N1,k1⟩:=zLI h;obtain ⟨x,f',Z',as',h2,N2,k2⟩:=zJF rest _ _ _ _ h1;refine ⟨x,f',Z',as',h2,N1+N2,fun N hN ds=>?_⟩
    obtain ⟨v₁,s₁,a₁,g1,rfl,rfl,rfl⟩:=zHK (k1 N (by omega));simp only [zHZ,hg,g1,xH];exact k2 N (by omega) ds
  ·rename_i hg;obtain ⟨x,f',Z',as',h2,N2,k2⟩:=zJF rest _ _ _ _ h;exact ⟨x,f',Z',as',h2,N2,fun N hN ds=>by simp only [zHZ,hg,xH];exact k2 N hN ds⟩
  ·exact h.elim
theorem zXK {rec:Rec} {ops ops':Array Oper}:∀ (rest:List Oper),(∀ o∈rest,∀ f,uI ops f o=uI ops' f o)->∀ (f:Tm) (Z:St),zAX P rec ops rest f Z=zAX P rec ops' rest f Z
 | [],_,f,Z=>rfl
 | o::rest,h,f,Z=>by
  have ih:=zXK (rec:=rec) rest fun o ho=>h o (List.mem_cons_of_mem _ ho)
  unfold zAX;rw [h o List.mem_cons_self];simp only [xH,ih]
theorem zRU {rec:Rec} {ops:Array Oper} {o:Oper}:∀ (rest:List Oper) (f t:Tm) (Z U:St),zAX P rec ops (rest++[o]) f Z=some (t,U)->∃ f₁ Z₁,zAX P rec ops rest f Z=some (f₁,Z₁)/\zAX P rec ops [o] f₁ Z₁=some (t,U)
 | [],f,t,Z,U,h=>⟨f,Z,rfl,h⟩
 | q::rest,f,t,Z,U,h=>by
  rw [List.cons_append] at h;unfold zAX at h;split at h
  ·rename_i hg;split at h
   ·rename_i v Z₁ ho;simp only [xH] at h;obtain ⟨f₁,s₁,k1,k2⟩:=zRU rest _ _ _ _ h;exact ⟨f₁,s₁,by unfold zAX;simp only [hg,ho,xH];exact k1,k2⟩
   ·cases h
  ·rename_i hg;simp only [xH] at h;obtain ⟨f₁,s₁,k1,k2⟩:=zRU rest _ _ _ _ h;exact ⟨f₁,s₁,by unfold zAX;simp only [hg,xH];exact k1,k2⟩
  ·cases h
theorem yFW {t:Tm} {U:St} (h:zFU P rec ops f Z=some (t,U)):zAX P rec ops ops.toList f Z=some (t,U):=by
 obtain ⟨_,l,hl,_⟩:=zIK h;exact zCJ _ _ _ _ _ _ hl
theorem xDE {o:Oper} {f₁:Tm} {Z₁:St} (ho:ops.back?=some o) (h:zFU P rec ops.pop f Z=some (f₁,Z₁)) (hg:uI ops f₁ o=some true) (hn:opA P rec (yC f₁) Z₁ o.op=none):zFU P rec ops f Z=none:=by
 cases hd:zFU P rec ops f Z with
 | none=>rfl
 | some r =>
  exfalso;obtain ⟨t,U⟩:=r;have h1:=yFW hd;have h2:=yFW h;obtain ⟨D,_⟩:=zIK h;obtain ⟨os,rfl⟩:=Array.back?_eq_some_iff.1 ho;rw [Array.pop_push] at h h2 D;rw [Array.toList_push] at h1;obtain ⟨f₂,Z₂,g1,g2⟩:=zRU _ _ _ _ _ h1;have hc:zAX P rec (os.push o) os.toList f Z=zAX P rec os os.toList f Z:=by
   refine zXK _ (fun q hq f=>?_) f Z;obtain ⟨j,hj⟩:=List.getElem?_of_mem hq;have hj':os[j]?=some q:=by simpa using hj
   unfold uI;cases hgq:q.guard with
   | none=>rfl
   | some p =>
    obtain ⟨i,b⟩:=p;obtain ⟨e₀,he,hbd,rfl⟩:=D.guard j q hj' i b hgq;have hlt:=D.back j q hj' e₀ he hbd;have hlt2:=(yX hj').2;have:(os.push o)[e₀.on]?=os[e₀.on]?:=by
     rw [Array.getElem?_push,if_neg (by omega)]
    simp only [this]
  rw [hc,h2] at g1;cases g1
  unfold zAX at g2;rw [hg] at g2;simp only [hn] at g2;cases g2
theorem zDN.seqN {x:Code} (h1:zDN P x fr Z .normal fr1 Z1) (h2:zDN P y fr1 Z1 e fr2 Z2):zDN P (.seq x y) fr Z e fr2 Z2:=fun ds=>by
 obtain ⟨N1,k1⟩:=h1 ds;obtain ⟨N2,k2⟩:=h2 ds;refine ⟨N1+N2,fun N hN=>?_⟩
 simp only [yS,yKM,k1 N (by omega)];exact k2 N (by omega)
theorem zDN.seqX {x:Code} (h1:zDN P x fr Z e fr1 Z1) (he:e≠.normal):zDN P (.seq x y) fr Z e fr1 Z1:=fun ds=>by
 obtain ⟨N1,k1⟩:=h1 ds;refine ⟨N1,fun N hN=>?_⟩
 simp only [yS,yKM,k1 N hN];cases e <;> first | rfl | exact absurd rfl he
theorem zDN.mapD {x:Code} (h1:zDN P x fr Z e fr1 Z1) (h:∀ N ds,yS P (zW P N) (zES P N) N y ⟨fr.f,ds⟩ Z=yS P (zW P N) (zES P N) N x ⟨fr.f,ds⟩ Z):zDN P y fr Z e fr1 Z1:=fun ds=>by
 obtain ⟨N1,k1⟩:=h1 ds;exact ⟨N1,fun N hN=>by rw [h];exact k1 N hN⟩
theorem zLB.code {c:Code} (h:zLB P c fr Z e fr' Z'):zDN P (.loop c) fr Z e fr' Z':=fun ds=>by
 obtain ⟨N0,hN⟩:=h ds;exact ⟨N0,fun N hl=>by simp only [yS];exact hN N N hl hl⟩
theorem zBQ.x (h:zBQ P (zW P) none (.region id ops d) fr Z e fr' Z'):zDN P (.region id ops d) fr Z e fr' Z':=fun ds=>by
 obtain ⟨N0,hN⟩:=h;refine ⟨N0,fun N hl=>?_⟩
 have:=hN N hl;simp only [yK] at this;simp only [yS];exact yDT this
theorem yJW {as:List Ans} {K:Exit->Fr->St->List Ans->Prop} (h:xGH P (uJ (zW P)) ops d as fr Z K) :
  ∃ e fr' Z' as',zDN P (.region id ops d) fr Z e fr' Z'/\K e fr' Z' as':=by
 unfold xGH at h;split at h
 ·obtain ⟨x,f',Z',as',h1,N0,hN⟩:=zJF _ _ _ _ _ h;exact ⟨_,_,_,_,fun ds=>⟨N0,fun N hl=>by simp only [yS,zFQ,hN N hl ds];rfl⟩,h1⟩
 ·split at h;rotate_left
  ·exact h.elim
  rename_i o ho;obtain ⟨hl,h⟩:=h;obtain ⟨e,fr₁,Z₁,as₁,⟨N1,h1⟩,h2⟩:=zFO (id:=id) (rd:=none) h;split at h2;rotate_left
  ·exact h2.elim
  split at h2;rotate_left
  ·exact h2.elim
  rename_i g2;split at h2;rotate_left
  ·exact h2.elim
  rename_i x Z₂ as₂;obtain ⟨h2,h3⟩:=h2;obtain ⟨N2,hN⟩:=yLH h2;refine ⟨_,_,_,_,fun ds=>⟨N1+N2,fun N hl'=>?_⟩,h3⟩
  have k1:=h1 N (by omega);obtain ⟨k2,k3,k4⟩:=hN N (by omega);simp only [yK,zBT] at k1;split at k1;rotate_left
  ·cases k1
  rename_i f₁ U₁ hd;simp at k1;obtain ⟨rfl,rfl⟩:=k1;simp only [yS,zFQ,xDE ho hd g2 k2,yZR,ho,hl,cond_true,hd,g2,k4]
theorem zRH:∀ (c:Code) (as:List Ans) (fr:Fr) (Z:St) (K:Exit->Fr->St->List Ans->Prop),wpX P c as fr Z K ->
  ∃ e fr' Z' as',zDN P c fr Z e fr' Z'/\K e fr' Z' as':=by
 intro c;induction c with
 | skip=>intro as fr Z K h;exact ⟨_,_,_,_,fun _=>⟨0,fun _ _=>rfl⟩,h⟩
 | label _=>intro as fr Z K h;exact ⟨_,_,_,_,fun _=>⟨0,fun _ _=>rfl⟩,h⟩
 | ret=>intro as fr Z K h;exact ⟨_,_,_,_,fun _=>⟨0,fun _ _=>rfl⟩,h⟩
 | exit _=>intro as fr Z K h;exact ⟨_,_,_,_,fun _=>⟨0,fun _ _=>rfl⟩,h⟩
 | goto _=>intro as fr Z K h;simp [wpX] at h
 | refuse _=>intro as fr Z K h;simp [wpX] at h
 | rangeFunc _ _ _ _ _ _=>intro as fr Z K h;simp [wpX] at h
 | seq x y ihx ihy =>
  intro as fr Z K h;simp only [wpX] at h;obtain ⟨e,fr1,Z1,as1,h1,h2⟩:=ihx _ _ _ _ h;cases e with
  | normal =>
   obtain ⟨e,fr2,Z2,as2,h3,h4⟩:=ihy _ _ _ _ h2;exact ⟨e,fr2,Z2,as2,h1.seqN h3,h4⟩
  | _=>exact ⟨_,fr1,Z1,as1,h1.seqX (by simp),h2⟩
 | cond c x y ihx ihy =>
  intro as fr Z K h;simp only [wpX] at h;split at h
  ·rename_i hc;obtain ⟨e,fr1,Z1,as1,h1,h2⟩:=ihx _ _ _ _ h;exact ⟨e,fr1,Z1,as1,h1.mapD (fun N ds=>by simp only [yS,yGB,hc]),h2⟩
  ·rename_i hc;obtain ⟨e,fr1,Z1,as1,h1,h2⟩:=ihy _ _ _ _ h;exact ⟨e,fr1,Z1,as1,h1.mapD (fun N ds=>by simp only [yS,yGB,hc]),h2⟩
  ·exact h.elim
 | block id c ih =>
  intro as fr Z K h;simp only [wpX] at h;obtain ⟨e,fr1,Z1,as1,h1,h2⟩:=ih _ _ _ _ h;cases e with
  | exit i =>
   simp only at h2;cases hb:Nat.beq i id with
   | true =>
    rw [hb] at h2;exact ⟨_,fr1,Z1,as1,fun ds=>by obtain ⟨N1,h1⟩:=h1 ds;exact ⟨N1,fun N hN=>by simp only [yS,zOE,h1 N hN,hb,cond_true]⟩,h2⟩
   | false =>
    rw [hb] at h2;exact ⟨_,fr1,Z1,as1,fun ds=>by obtain ⟨N1,h1⟩:=h1 ds;exact ⟨N1,fun N hN=>by simp only [yS,zOE,h1 N hN,hb,cond_false]⟩,h2⟩
  | _=>exact ⟨_,fr1,Z1,as1,fun ds=>by obtain ⟨N1,h1⟩:=h1 ds;exact ⟨N1,fun N hN=>by simp only [yS,zOE,h1 N hN]⟩,h2⟩
 | scope c ih =>
  intro as fr Z K h;simp only [wpX] at h;obtain ⟨e,fr1,Z1,as1,h1,h2⟩:=ih _ _ _ _ h;exact ⟨e,fr1,Z1,as1,h1.mapD (fun N ds=>by simp only [yS]),h2⟩
 | region id ops d =>
  intro as fr Z K h;unfold wpX at h;split at h
  ·exact yJW h
  ·obtain ⟨e,fr',Z',as',h1,h2⟩:=zFO (id:=id) (rd:=none) h;exact ⟨e,fr',Z',as',h1.x,h2⟩
 | loop c _ =>
  intro as fr Z K h;unfold wpX at h;split at h;rotate_left
  ·exact h.elim
  obtain ⟨⟨h1,h2,h3⟩,h4⟩:=h;obtain ⟨e,fr',Z',h5,h6⟩:=h3 fr.f.nth;rw [<- yFP h1 h2] at h5;obtain ⟨as,hk⟩:=zLZ h4 h6;exact ⟨e,fr',Z',as,h5.code,hk⟩
theorem vP (as:List Ans) (h:∀ g:Nat->Value,Hid (wpX P c as ⟨Fm n (ov l g),ms⟩ Z (yBS n alts))):yRM P c n l ms alts Z:=by
 intro g;obtain ⟨e,fr',Z',as',h1,h2⟩:=zRH _ _ _ _ _ (hid (h g));refine ⟨e,fr',Z',h1, ?_⟩
 unfold yBS at h2;split at h2
 ·obtain ⟨⟨rfl,k1,k2,k3⟩,k4,k5⟩:=h2;exact zWY k1 k2 k3 k4 k5
 ·exact h2.elim
theorem zLB.step (h1:zDN P c fr Z .normal fr1 Z1) (h2:zLB P c fr1 Z1 e fr2 Z2):zLB P c fr Z e fr2 Z2:=fun ds=>by
 obtain ⟨N1,k1⟩:=h1 ds;obtain ⟨N2,k2⟩:=h2 ds;refine ⟨N1+N2+1,fun N m hN hm=>?_⟩
 obtain ⟨m,rfl⟩:∃ m',m=m'+1:=⟨m-1,by omega⟩;simp only [zFT,k1 N (by omega)];exact k2 N m (by omega) (by omega)
theorem zLB.exit (h1:zDN P c fr Z e fr1 Z1) (he:e≠.normal):zLB P c fr Z e fr1 Z1:=fun ds=>by
 obtain ⟨N1,k1⟩:=h1 ds;refine ⟨N1+1,fun N m hN hm=>?_⟩
 obtain ⟨m,rfl⟩:∃ m',m=m'+1:=⟨m-1,by omega⟩;simp only [zFT,k1 N (by omega)];cases e <;> first | rfl | exact absurd rfl he
theorem yVI (x:Value):zKG x≠.normal:=fun h=>by cases h
theorem zSJ {T:Type} {lf:T->List (Nat × Value)} {mf:T->List Nat} {Inv:Nat->T->St->Prop} (hne:zUS alts)
  (hb:∀ k t Z,Inv k t Z->yRM P c n (lf t) (mf t) (⟨T,.normal,lf,mf,fun t' Z'=>∃ k',k' < k/\Inv k' t' Z'⟩::alts) Z):∀ k t Z,Inv k t Z->yRG P c n (lf t) (mf t) alts Z:=by
 intro k;induction k using Nat.strongRecOn with
 | ind k ih =>
  intro t Z hi g;obtain ⟨e,fr',Z',h1,h2⟩:=hb k t Z hi g;rcases h2 with ⟨rfl,t',g',rfl,k',hk,hi'⟩ | h2
  ·obtain ⟨e2,fr2,Z2,h3,h4⟩:=ih k' hk t' Z' hi' g';exact ⟨e2,fr2,Z2,.step h1 h3,h4⟩
  ·have he:e≠.normal:=by
    clear h1 ih hb hi;induction alts with
    | nil=>exact h2.elim
    | cons a as ih2 =>
     rcases h2 with ⟨rfl,_⟩ | h2
     ·exact hne.1
     ·exact ih2 hne.2 h2
   exact ⟨e,fr',Z',.exit h1 he,h2⟩
def zVB (P:Program):Code->List Nat->(Exit->Fr->St->List Ans->Prop)->Exit->Fr->St->List Ans->Prop
 | .seq x y,0::p,K=>zVB P x p fun e fr Z as=>match e with
  | .normal=>wpX P y as fr Z K
  | e=>K e fr Z as
 | .seq _ y,1::p,K=>zVB P y p K
 | .cond _ x _,0::p,K=>zVB P x p K
 | .cond _ _ y,1::p,K=>zVB P y p K
 | .block id c,0::p,K=>zVB P c p fun e fr Z as=>match e with
  | .exit i=>match Nat.beq i id with
   | true=>K .normal fr Z as
   | false=>K (.exit i) fr Z as
  | e=>K e fr Z as
 | .scope c,0::p,K=>zVB P c p K
 | _,_,K=>K
def yRQ (P:Program) (fn:Func) (Q QD:Value->St->Prop):Exit->Fr->St->List Ans->Prop
 | .normal,fr,Z,as=>zEM P fn ⟨fr.f,[]⟩ Z as Q
 | .ret,fr,Z,as=>zEM P fn ⟨fr.f,[]⟩ Z as Q
 | .panic [{ v:=x,recovered:=false,goexit:=false }],_,Z,_=>QD x Z
 | _,_,_,_=>False
def xQC (P:Program) (f:FuncId) (Q QD:Value->St->Prop):Exit->Fr->St->List Ans->Prop:=fun e fr Z as =>
 match P.funcs[f]? with
 | some fn=>yRQ P fn Q QD e fr Z as
 | none=>False
def xSR (P:Program) (f:FuncId) (args:List Value) (as:List Ans) (Z:St) (Q QD:Value->St->Prop):Prop :=
 match P.funcs[f]? with
 | some fn=>match fn.body with
  | some c=>wpX P c as ⟨(Tm.args 0 args).foldl (fun f p=>f.set p.1 p.2) (fresh (args.length+(fn.ntmps-args.length))),[]⟩ Z (yRQ P fn Q QD)
  | none=>False
 | none=>False
def zJA (P:Program) (f:FuncId) (args:List Value) (Z:St) (Q QD:Value->St->Prop):Prop:=(∃ v Z',xNR P f args Z v Z'/\Q v Z')\/∃ x Z',xAK P f args Z x Z'/\QD x Z'
theorem zGH {f:FuncId} {args:List Value} {Q QD:Value->St->Prop} (as:List Ans) (h:Hid (xSR P f args as Z Q QD)) (ho:zEX f=false:=by rfl):zJA P f args Z Q QD:=by
 have h:=hid h;unfold xSR at h;split at h;rotate_left
 ·exact h.elim
 rename_i fn hfn;split at h;rotate_left
 ·exact h.elim
 rename_i c hc;obtain ⟨e,fr,Z₁,as',h1,h2⟩:=zRH _ _ _ _ _ h;obtain ⟨N0,h1⟩:=h1 [];have fin:(e=.normal\/e=.ret)->zEM P fn ⟨fr.f,[]⟩ Z₁ as' Q->zJA P f args Z Q QD:=by
  intro he hd;obtain ⟨v,Z',h3,h4⟩:=zOV hd;refine .inl ⟨v,Z',⟨N0+1,fun N hN=>?_⟩,h4⟩;obtain ⟨N,rfl⟩:∃ M,N=M+1:=⟨N-1,by omega⟩;rw [zLK ho];refine xEL ?_
  unfold zMR;simp only [hfn,hc,Tm.puts_eq,h1 N (by omega)];rcases he with rfl | rfl <;> exact h3
 unfold yRQ at h2;split at h2
 ·exact fin (.inl rfl) h2
 ·exact fin (.inr rfl) h2
 ·rename_i x _ _ _;refine .inr ⟨_,_,⟨N0+1,fun N hN=>?_⟩,h2⟩;obtain ⟨N,rfl⟩:∃ M,N=M+1:=⟨N-1,by omega⟩;rw [yDK ho];unfold zQR;simp only [hfn,hc,Tm.puts_eq,h1 N (by omega)];rfl
 ·exact h2.elim
end
end Go.Lay

namespace Go.Lay
open Go
def yJX (P:Program) (C:zJC) (ops:Array Oper):List Oper->List Ans->Tm->St->(Value->Tm->St->List Ans->Prop)->Prop
 | [],_,_,_,_=>False
 | o::rest,as,f,Z,K =>
  match uI ops f o with
  | some true=>match rest with
   | []=>match zTD (yC f) o.op with
    | some d=>K d (zCI f o.dst undef) Z as
    | none=>False
   | _::_=>zRI P C f Z o.op as fun v Z' as=>yJX P C ops rest as (zCI f o.dst v) Z' K
  | some false=>yJX P C ops rest as (zCI f o.dst undef) Z K
  | none=>False
def yRS (P:Program) (rv d:Value) (as:List Ans) (Z:St) (K:St->List Ans->Prop):Prop :=
 match zCB d [] with
 | some (.func g,gas)=>match P.funcs[g]? with
  | some fn=>match fn.body with
   | some (.seq (.region _ ops false) rest)=>match ops.toList with
    | o::os=>match xPH o.op && o.guard.isNone with
     | true=>match zLR P os (zCI ((Tm.args 0 gas).foldl (fun f p=>f.set p.1 p.2) (fresh (gas.length+(fn.ntmps-gas.length)))) o.dst rv) with
      | some tm=>wpE P (zW P) none rest as ⟨tm,[]⟩ Z fun e fr Z as=>match fr.marks,vC P fn fr.f Z with
       | [],some _=>match e with
        | .normal=>K Z as
        | .ret=>K Z as
        | _=>False
       | _,_=>False
      | none=>False
     | false=>False
    | []=>False
   | _=>False
  | none=>False
 | _=>False
def yRR (P:Program) (fn:Func) (d:Value) (Q:Value->St->Prop):Exit->Fr->St->List Ans->Prop:=fun e fr Z as =>
 match xTP e with
 | some rv=>match zQ RD rv with
  | true=>yRS P rv d as Z fun Z as=>yDB P fr.f Z fn.results.toList as [] fun vs=>Q (zXM vs) Z
  | false=>False
 | none=>False
def xWK (P:Program) (f:FuncId) (d:Value) (Q:Value->St->Prop):Exit->Fr->St->List Ans->Prop:=fun e fr Z as =>
 match P.funcs[f]? with
 | some fn=>yRR P fn d Q e fr Z as
 | none=>False
def xGG (P:Program) (f:FuncId) (args:List Value) (as:List Ans) (Z:St) (Q:Value->St->Prop):Prop :=
 match P.funcs[f]? with
 | some fn=>match fn.body with
  | some (.seq (.region _ ops1 d1) (.seq (.region _ ops2 false) rest)) =>
   zEL P (uJ (zW P)) ops1 d1 as ⟨(Tm.args 0 args).foldl (fun f p=>f.set p.1 p.2) (fresh (args.length+(fn.ntmps-args.length))),[]⟩ Z fun e fr Z as=>match e with
    | .normal=>yJX P (uJ (zW P)) ops2 ops2.toList as fr.f Z fun d f Z as=>wpX P rest as ⟨f,[]⟩ Z (yRR P fn d Q)
    | _=>False
  | _=>False
 | none=>False
section
variable {P:Program} {Z Z':St}
theorem xDH {rec:Rec} {ev:Operand->Value} {o:Op} {d:Value} (h:zTD ev o=some d):opA P rec ev Z o=none:=by
 unfold zTD at h;split at h
 ·rfl
 ·cases h
theorem zMV {ops:Array Oper}:∀ (rest:List Oper) (as:List Ans) (f:Tm) (Z:St) (K:Value->Tm->St->List Ans->Prop),yJX P (uJ (zW P)) ops rest as f Z K ->
  ∃ d f' Z' as',K d f' Z' as'/\∃ N0,∀ N,N0<=N->∀ ds,zHZ P (zW P N) (zES P N) ops rest ⟨f,ds⟩ Z=some (none,⟨f',d::ds⟩,Z')
 | [],as,f,Z,K,h=>h.elim
 | o::rest,as,f,Z,K,h=>by
  unfold yJX at h;split at h
  ·rename_i hg;split at h
   ·split at h
    ·rename_i d hd;refine ⟨d,_,Z,as,h,0,fun N _ ds=>?_⟩
     simp only [zHZ,hg,xDH hd,hd,xH]
    ·exact h.elim
   ·obtain ⟨v,Z1,as1,h1,N1,k1⟩:=zLI h;obtain ⟨d,f',Z',as',h2,N2,k2⟩:=zMV _ _ _ _ _ h1;refine ⟨d,f',Z',as',h2,N1+N2,fun N hN ds=>?_⟩
    obtain ⟨v₁,s₁,a₁,g1,rfl,rfl,rfl⟩:=zHK (k1 N (by omega));rw [zHZ];simp only [hg,g1,xH];exact k2 N (by omega) ds
  ·rename_i hg;obtain ⟨d,f',Z',as',h2,N2,k2⟩:=zMV _ _ _ _ _ h;exact ⟨d,f',Z',as',h2,N2,fun N hN ds=>by simp only [zHZ,hg,xH];exact k2 N hN ds⟩
  ·exact h.elim
theorem yJY {rv d:Value} {as:List Ans} {K:St->List Ans->Prop} (h:yRS P rv d as Z K):∃ g gas Z' as',zCB d []=some (.func g,gas)/\K Z' as'/\∃ N0,∀ N,N0<=N->yGH P (zW P N) N rv g gas Z=some Z':=by
 unfold yRS at h;split at h;rotate_left
 ·exact h.elim
 rename_i g gas href;split at h;rotate_left
 ·exact h.elim
 rename_i fn hfn;split at h;rotate_left
 ·exact h.elim
 rename_i id ops rest hc;split at h;rotate_left
 ·exact h.elim
 rename_i o os hops;split at h;rotate_left
 ·exact h.elim
 rename_i hb;split at h;rotate_left
 ·exact h.elim
 rename_i tm hp;obtain ⟨e,fr,Z₁,as₁,⟨N0,h1⟩,h2⟩:=zCE _ _ _ _ _ h;split at h2;rotate_left
 ·exact h2.elim
 rename_i v hm hres;have key:∀ N,N0<=N->(e=.normal\/e=.ret)->yGH P (zW P N) N rv g gas Z=some Z₁:=by
  intro N hl he;unfold yGH;simp only [hfn,hc,hops,hb,cond_true,Tm.puts_eq,xH,hp,h1 N hl];rcases he with rfl | rfl <;> simp only [yXR,hm,hres,Option.map_some]
 split at h2
 ·exact ⟨g,gas,Z₁,as₁,href,h2,N0,fun N hl=>key N hl (.inl rfl)⟩
 ·exact ⟨g,gas,Z₁,as₁,href,h2,N0,fun N hl=>key N hl (.inr rfl)⟩
 ·exact h2.elim
theorem zWQ {f:FuncId} {args:List Value} {Q:Value->St->Prop} (as:List Ans) (h:Hid (xGG P f args as Z Q)) (ho:zEX f=false:=by rfl):zL P f args Z Q:=by
 have h:=hid h;unfold xGG at h;split at h;rotate_left
 ·exact h.elim
 rename_i fn hfn;split at h;rotate_left
 ·exact h.elim
 rename_i id1 ops1 d1 id2 ops2 rest hc;obtain ⟨e1,fr1,Z1,as1,h1,h2⟩:=zFO (id:=id1) (rd:=none) h;split at h2;rotate_left
 ·exact h2.elim
 obtain ⟨N1,h1⟩:=h1.x [];obtain ⟨d,f2,Z2,as2,h3,N2,h4⟩:=zMV _ _ _ _ _ h2;obtain ⟨e3,fr3,Z3,as3,h5,h6⟩:=zRH _ _ _ _ _ h3;obtain ⟨N3,h5⟩:=h5 [d];unfold yRR at h6;split at h6;rotate_left
 ·exact h6.elim
 rename_i rv hrv;split at h6;rotate_left
 ·exact h6.elim
 rename_i hrig;obtain ⟨g,gas,Z4,as4,href,h7,N4,h8⟩:=yJY h6;obtain ⟨ws,h9,h10⟩:=zFN _ _ _ _ h7;rw [List.nil_append] at h10;refine ⟨zXM ws,Z4,⟨N1+N2+N3+N4+1,fun N hN=>?_⟩,h10⟩
 obtain ⟨N,rfl⟩:∃ M,N=M+1:=⟨N-1,by omega⟩;have hcode:yS P (zW P N) (zES P N) N (.seq (.region id1 ops1 d1) (.seq (.region id2 ops2 false) rest)) ⟨(Tm.args 0 args).foldl (fun f p=>f.set p.1 p.2) (fresh (args.length+(fn.ntmps-args.length))),[]⟩ Z=some (e3,⟨fr3.f,[d]⟩,Z3):=by
  have k1:=h1 N (by omega);have k2:yS P (zW P N) (zES P N) N (.region id2 ops2 false) ⟨fr1.f,[]⟩ Z1=some (.normal,⟨f2,[d]⟩,Z2):=by
   simp only [yS,zFQ,h4 N (by omega) []];rfl
  have k3:=h5 N (by omega);rw [yS];unfold yKM;rw [k1];simp only;rw [yS];unfold yKM;rw [k2];exact k3
 have hres:vC P fn fr3.f Z4=some (zXM ws):=by
  unfold vC;rw [h9];match ws with
  | []=>rfl
  | [v]=>rfl
  | _::_::_=>rfl
 have hrecv:zPG P (zW P N) (zES P N) N f args Z=some (zXM ws,Z4):=by
  unfold zPG;simp only [hfn,hc,Tm.puts_eq,hcode,zWR,href,hrv,hrig,cond_true,h8 N (by omega),hres,zGX]
 have hF:zDT P (zW P N) N f args Z=none:=by
  unfold zDT;simp only [hfn,hc,Tm.puts_eq];cases hA:yK P (zW P N) N none (.seq (.region id1 ops1 d1) (.seq (.region id2 ops2 false) rest)) ⟨(Tm.args 0 args).foldl (fun f p=>f.set p.1 p.2) (fresh (args.length+(fn.ntmps-args.length))),[]⟩ Z with
  | none=>rfl
  | some r =>
   obtain ⟨e',fr',U⟩:=r;rcases zNX (prec:=zES P N) N [] _ _ _ _ _ _ hA with g | ⟨g,_⟩
   ·rw [g] at hcode;cases hcode
   ·rw [g] at hcode;simp at hcode
 rw [zLK ho];unfold zDS;rw [hF];simp only [hrecv]
end
end Go.Lay

namespace Go.Lay
open Go
section
variable {P:Program} {Z U:St}
theorem zAP {c:Nat} (h:yY c=true):yE c=c:=by
 have:=(xI c).1 h;unfold yE;rw [if_neg (by omega)]
theorem uZ {k:IntKind} {x d top:Nat} {i:Int} (hi:i=(x:Int)) (h:x<=top):wG (some (.int k i)) d top=some x:=by
 subst hi;have h1:leI 0 (x:Int)=true:=(vG _ _).2 (by omega);have h2:leI (x:Int) (.ofNat top)=true:=(vG _ _).2 (by show (x:Int)<=(top:Int);omega);show (bif leI 0 (x:Int) && leI (x:Int) (.ofNat top) then some (x:Int).toNat else none)=some x;rw [h1,h2];rfl
end
end Go.Lay

namespace Go.Lay
open Go
variable {α:Type} {t:TypeId} {d n:Nat} {k:IntKind} {z:Value}
section
variable {P:Program}
theorem vF {β:Type} (x:Sem α) (f:α->Sem β):yJ P (x >>= f)=(yJ P x).bind fun a=>yJ P (f a):=by
 induction x with
 | pure a=>rfl
 | program k ih=>exact ih P
 | _=>rfl
theorem yHX (a:α):yJ P (pure a:Sem α)=some a:=rfl
theorem yYE:yJ P program=some P:=rfl
theorem zWW {d:TypeDesc} (h:P.underlying t=some d):yJ P (underlying t)=some d:=by
 unfold underlying;rw [vF,yYE];simp only [Option.bind_some,h];rfl
theorem xIJ (h:P.underlying t=some (.int k)):yJ P (isAgg t)=some false:=by
 unfold isAgg;rw [vF,zWW h];rfl
theorem yYF (h:P.underlying t=some (.int k)) {cs:Array Value} {off:Nat} {v:Value} (hv:cs[off]?=some v):yJ P (part t cs off)=some v:=by
 unfold part;rw [vF,xIJ h];simp only [Option.bind_some,Bool.false_eq_true,if_false,hv];rfl
theorem yHY (h:P.underlying t=some (.int k)) (q:IntKind) (a b:Int):yJ P (Op.equalIn (d+1) t (.int q a) (.int q b))=some (a == b):=by
 unfold Op.equalIn;rw [vF,zWW h];simp only [Option.bind_some,if_true];rfl
def yZF (P:Program):Nat->List Field->Bool
 | _,[]=>true
 | i, f :: fs => (match P.underlying f.type with | some (.int _) => true | _ => false) && Nat.beq f.offset i && (f.name != "_") && yZF P (i + 1) fs
theorem xCI {f:Field} (h:(match P.underlying f.type with | some (.int _)=>true | _=>false)=true):∃ k,P.underlying f.type=some (.int k):=by
 split at h
 ·exact ⟨_,by assumption⟩
 ·cases h
theorem yEF {d:Nat} {xs ys:Array Value} {q:Nat->IntKind}:∀ (fs:List Field) (i:Nat) (as bs:List Int),yZF P i fs=true->as.length=fs.length->bs.length=fs.length->(∀ j x,as[j]?=some x->xs[i+j]?=some (.int (q (i+j)) x))->(∀ j x,bs[j]?=some x->ys[i+j]?=some (.int (q (i+j)) x)) ->
  yJ P (forIn fs ((none,()):Option Bool × Unit) fun f __s =>
   if f.name ≠ "_" then do
    let a <- part f.type xs f.offset
    let b <- part f.type ys f.offset
    let r <- Op.equalIn (d+1) f.type a b
    if (!r)=true then pure (ForInStep.done (some false,())) else pure (ForInStep.yield (none,()))
   else pure (ForInStep.yield (none,())))=some (if as=bs then (none,()) else (some false,()))
 | [],i,as,bs,_,ha,hb,_,_=>by
  have h1:as=[]:=by simpa using ha
  have h2:bs=[]:=by simpa using hb
  subst h1 h2;rfl
 | f::fs,i,[],bs,_,ha,_,_,_=>by simp at ha
 | f::fs,i,a::as,[],_,_,hb,_,_=>by simp at hb
 | f::fs,i,a::as,b::bs,h,ha,hb,hx,hy=>by
  simp only [yZF,Bool.and_eq_true] at h;obtain ⟨⟨⟨h1,h2⟩,h3⟩,h4⟩:=h;obtain ⟨ku,hu⟩:=xCI h1;have ho:=Nat.eq_of_beq_eq_true h2;have hn : f.name ≠ "_" := by simpa using h3
  have ea:xs[f.offset]?=some (.int (q i) a):=by rw [ho];simpa using hx 0 a rfl
  have eb:ys[f.offset]?=some (.int (q i) b):=by rw [ho];simpa using hy 0 b rfl
  rw [List.forIn_cons,vF];simp only [if_pos hn];rw [vF,yYF hu ea];simp only [Option.bind_some];rw [vF,yYF hu eb];simp only [Option.bind_some];rw [vF,yHY hu];simp only [Option.bind_some];by_cases e:a=b
  ·subst e;simp only [beq_self_eq_true,Bool.not_true,Bool.false_eq_true,if_false,yHX,Option.bind_some];have ih:=yEF (d:=d) (xs:=xs) (ys:=ys) fs (i+1) as bs h4 (by simpa using ha) (by simpa using hb) (fun j x hj=>by have:=hx (j+1) x (by simpa using hj);rwa [show i+(j+1)=i+1+j by omega] at this) (fun j x hj=>by have:=hy (j+1) x (by simpa using hj);rwa [show i+(j+1)=i+1+j by omega] at this);rw [ih];by_cases e2:as=bs
   ·rw [if_pos e2,if_pos (by rw [e2])]
   ·rw [if_neg e2,if_neg (by simpa using e2)]
  ·have e1:(a == b)=false:=by simpa using e
   simp only [e1,Bool.not_false,if_true,yHX,Option.bind_some];rw [if_neg (by intro k;exact e (by cases k;rfl))]
def zNN (P:Program) (t n:Nat):Bool:=match P.underlying t with
 | some (.struct fs)=>yZF P 0 fs.toList && Nat.beq fs.size n && !P.stoodInHeld t
 | _=>false
theorem yYD {t:Nat} (q:Nat->IntKind) (h:zNN P t n=true) {as bs:List Int} {xs ys:Array Value} (ha:as.length=n) (hb:bs.length=n) (hx:∀ (j:Nat) (x:Int),as[j]?=some x->xs[j]?=some (Value.int (q j) x)) (hy:∀ (j:Nat) (x:Int),bs[j]?=some x->ys[j]?=some (Value.int (q j) x)):yJ P (Op.equalIn (d+2) t (.agg xs) (.agg ys))=some (decide (as=bs)):=by
 unfold zNN at h;split at h;rotate_left
 ·cases h
 rename_i fs hu;simp only [Bool.and_eq_true,Bool.not_eq_true'] at h;obtain ⟨⟨h1,h2⟩,h3⟩:=h;have h2:=Nat.eq_of_beq_eq_true h2;have hl:fs.toList.length=n:=by simpa using h2
 have key:=yEF (d:=d) (xs:=xs) (ys:=ys) (q:=q) fs.toList 0 as bs h1 (by omega) (by omega) (fun j x hj=>by simpa using hx j x hj) (fun j x hj=>by simpa using hy j x hj);unfold Op.equalIn;rw [vF,zWW hu];simp only [Option.bind_some];rw [vF,yYE];simp only [Option.bind_some,h3,Bool.false_eq_true,if_false];rw [vF,<- Array.forIn_toList];rw [key];simp only [Option.bind_some];by_cases e:as=bs
 ·rw [if_pos e];simp [e];rfl
 ·rw [if_neg e];simp [e];rfl
theorem xII {t:Nat} (h:zNN P t n=true) {as bs:List Int} (ha:as.length=n) (hb:bs.length=n):yJ P (Op.equalIn (d+2) t (.agg ⟨as.map fun x=>.int .i64 x⟩) (.agg ⟨bs.map fun x=>.int .i64 x⟩))=some (decide (as=bs)) :=
 yYD (fun _=>.i64) h ha hb (fun j x hj=>by simp [hj]) (fun j x hj=>by simp [hj])
structure KeyT (P:Program) (kt:TypeId) {E:Type} [DecidableEq E] (enc:E->Value):Prop where
 eq:∀ a b,yJ P (Op.equal kt (enc a) (enc b))=some (decide (a=b))
 ok:∀ e a,zIX P e kt (enc a)=true
 bits:∀ a,Instr.sameBits 10000 (enc a) (enc a)=true
section
variable {E α:Type} [DecidableEq E] {Z U:St} {b kt et mt:Nat} {enc:E->Value} {vf:α->Value} {F:E->Option α}
def zKA (m:List (E × α)) (k:E):Option α:=match m with
 | []=>none
 | e::m=>if k=e.1 then some e.2 else zKA m k
def zYK (k:E):List (E × α)->Nat->Option Nat
 | [],_=>none
 | e::m,i=>if k=e.1 then some i else zYK k m (i+1)
theorem zLU (hk:KeyT P kt enc) (k:E):∀ (m:List (E × α)) (i:Nat),zBI P kt (enc k) (m.map fun e=>(enc e.1,vf e.2)) i=some (zYK k m i)
 | [],i=>rfl
 | e::m,i=>by
  simp only [List.map_cons,zBI,hk.eq,zYK];by_cases h:k=e.1
  ·simp [h]
  ·simp only [h,decide_false,if_false];exact zLU hk k m (i+1)
theorem zLV {k:E}:∀ {m:List (E × α)} {i j:Nat},zYK k m i=some j->∃ v,i<=j/\m[j-i]?=some (k,v)/\zKA m k=some v
 | [],_,_,h=>by cases h
 | e::m,i,j,h=>by
  unfold zYK at h;split at h
  ·rename_i hk;cases h
   exact ⟨e.2,Nat.le_refl _,by simp [hk],by simp [zKA,hk]⟩
  ·rename_i hk;obtain ⟨v,h1,h2,h3⟩:=zLV h;refine ⟨v,by omega, ?_,by simp [zKA,hk,h3]⟩
   rw [show j-i=(j-(i+1))+1 by omega,List.getElem?_cons_succ];exact h2
theorem zSX {k:E}:∀ {m:List (E × α)} {i:Nat},zYK k m i=none->zKA m k=none
 | [],_,_=>rfl
 | e::m,i,h=>by
  unfold zYK at h;split at h
  ·cases h
  ·rename_i hk;simp [zKA,hk,zSX h]
def zBR (P:Program) (Z:St) (b:Nat) (enc:E->Value) (vf:α->Value) (F:E->Option α):Prop:=b<Z.y/\∃ m:List (E × α),yD Z.heap b=some (.map (m.map fun e=>(enc e.1,vf e.2)))/\∀ k,F k=zKA m k
theorem zBR.le (h:zBR P Z b enc vf F) (k:Le Z U):zBR P U b enc vf F:=by
 obtain ⟨h1,m,h2,h3⟩:=h;exact ⟨Nat.lt_of_lt_of_le h1 k.y,m,by rw [k.get _ h1];exact h2,h3⟩
theorem zBR.at_ (h:zBR P Z b enc vf F) (k:yD U.heap b=yD Z.heap b) (hn:Z.y<=U.y):zBR P U b enc vf F:=by
 obtain ⟨h1,m,h2,h3⟩:=h;exact ⟨Nat.lt_of_lt_of_le h1 hn,m,by rw [k];exact h2,h3⟩
theorem zBR.new (Z:St):zBR P (Z.add (.map [])) Z.y enc vf (fun _=>none):=⟨by simp,[],by rw [St.add_get,if_pos rfl];rfl,fun _=>rfl⟩
theorem zBR.look {ok:Bool} (h:zBR P Z b enc vf F) (hk:KeyT P kt enc) (hm:zDR P mt=some (kt,et)) (hz:uQ P et=some z) (k:E) :
  xV P (evL [.map (some b),enc k]) Z (.lookup mt (.tmp 0) (.tmp 1) ok)=some (let v:=match F k with | some v=>vf v | none=>z;bif ok then .tuple ⟨[v,.bool (F k).isSome]⟩ else v):=by
 obtain ⟨h1,m,h2,h3⟩:=h;have e0:∀ l:List Value,evL l (.tmp 0)=l.getD 0 undef:=fun _=>rfl
 have e1:∀ l:List Value,evL l (.tmp 1)=l.getD 1 undef:=fun _=>rfl
 unfold xV;simp only [hm,hz,e0,e1,List.getD_cons_zero,List.getD_cons_succ,h2,hk.ok,cond_true,zLU hk];rw [h3 k];cases hi:zYK k m 0 with
 | none=>simp only [zSX hi];rfl
 | some j =>
  obtain ⟨v,_,g2,g3⟩:=zLV hi;simp only [g3];rw [Nat.sub_zero] at g2;simp [g2]
theorem zBR.look1 (h:zBR P Z b enc vf F) (hk:KeyT P kt enc) (hm:zDR P mt=some (kt,et)) (hz:uQ P et=some z) {k:E} {v:α} (hv:F k=some v) :
  xV P (evL [.map (some b),enc k]) Z (.lookup mt (.tmp 0) (.tmp 1) true)=some (.tuple ⟨[vf v,.bool true]⟩):=by rw [h.look hk hm hz k,hv];rfl
theorem zBR.look0 (h:zBR P Z b enc vf F) (hk:KeyT P kt enc) (hm:zDR P mt=some (kt,et)) (hz:uQ P et=some z) {k:E} (hv:F k=none) :
  xV P (evL [.map (some b),enc k]) Z (.lookup mt (.tmp 0) (.tmp 1) true)=some (.tuple ⟨[z,.bool false]⟩):=by rw [h.look hk hm hz k,hv];rfl
theorem yMY {m:List (E × α)} {k k':E} {x:α} (h:zKA m k=none):zKA (m++[(k,x)]) k'=if k'=k then some x else zKA m k':=by
 induction m with
 | nil=>simp [zKA]
 | cons e m ih =>
  simp only [zKA] at h;split at h
  ·cases h
  ·rename_i hk;simp only [List.cons_append,zKA,ih h];by_cases h1:k'=e.1
   ·have:¬ k'=k:=fun h2=>hk (h2 ▸ h1)
    rw [if_pos h1,if_pos h1,if_neg this]
   ·rw [if_neg h1,if_neg h1]
theorem yMX {k k':E} {x:α}:∀ {m:List (E × α)} {i j:Nat},zYK k m i=some j->zKA (m.set (j-i) (k,x)) k'=if k'=k then some x else zKA m k'
 | [],_,_,h=>by cases h
 | e::m,i,j,h=>by
  unfold zYK at h;split at h
  ·rename_i hk;cases h
   simp only [Nat.sub_self,List.set_cons_zero,zKA];by_cases h1:k'=k
   ·rw [if_pos h1,if_pos h1]
   ·rw [if_neg h1,if_neg h1,if_neg (fun h2=>h1 (h2.trans hk.symm))]
  ·rename_i hk;obtain ⟨v,h1,_,_⟩:=zLV h;rw [show j-i=(j-(i+1))+1 by omega,List.set_cons_succ];simp only [zKA];rw [yMX h];by_cases h2:k'=e.1
   ·have:¬ k'=k:=fun h3=>hk (h3 ▸ h2)
    rw [if_pos h2,if_pos h2,if_neg this]
   ·rw [if_neg h2,if_neg h2]
theorem zBR.put (h:zBR P Z b enc vf F) (hk:KeyT P kt enc) (hm:zDR P mt=some (kt,et)) (k:E) (x:α) :
  ∃ es,zN P (evL [.map (some b),enc k,vf x]) Z (.mapUpdate mt (.tmp 0) (.tmp 1) (.tmp 2))=some (undef,Z.put b (.map es))/\zBR P (Z.put b (.map es)) b enc vf (fun k'=>if k'=k then some x else F k'):=by
 obtain ⟨h1,m,h2,h3⟩:=h;have e0:∀ l:List Value,evL l (.tmp 0)=l.getD 0 undef:=fun _=>rfl
 have e1:∀ l:List Value,evL l (.tmp 1)=l.getD 1 undef:=fun _=>rfl
 have e2:∀ l:List Value,evL l (.tmp 2)=l.getD 2 undef:=fun _=>rfl
 cases hi:zYK k m 0 with
 | none =>
  refine ⟨(m++[(k,x)]).map fun e=>(enc e.1,vf e.2), ?_,by simpa using h1,m++[(k,x)],by rw [St.put_get,if_pos rfl],fun k'=>?_⟩
  ·unfold zN;simp only [hm,e0,e1,e2,List.getD_cons_zero,List.getD_cons_succ,h2,hk.ok,cond_true,zLU hk,hi,St.write_eq,List.map_append,List.map_cons,List.map_nil]
  ·show (if k'=k then some x else F k')=_;rw [yMY (zSX hi),h3 k']
 | some j =>
  obtain ⟨v,_,g2,g3⟩:=zLV hi;rw [Nat.sub_zero] at g2;refine ⟨(m.set j (k,x)).map fun e=>(enc e.1,vf e.2), ?_,by simpa using h1,m.set j (k,x),by rw [St.put_get,if_pos rfl],fun k'=>?_⟩
  ·have g2':(m.map fun e=>(enc e.1,vf e.2))[j]?=some (enc k,vf v):=by simp [g2]
   unfold zN;simp only [hm,e0,e1,e2,List.getD_cons_zero,List.getD_cons_succ,h2,hk.ok,cond_true,zLU hk,hi,g2',hk.bits,St.write_eq,List.map_set]
  ·have:=yMX (x:=x) (k':=k') hi;rw [Nat.sub_zero] at this;show (if k'=k then some x else F k')=_;rw [this,h3 k']
end
end
end Go.Lay

namespace Go.Lay
open Go
section
variable {P:Program} {S:Nat->Prop} {z z':St} {n0 len c len' c':Nat} {p p':Option Addr} {xs xs':List Value} {sf sf':List (Nat × Nat)}
end
end Go.Lay
