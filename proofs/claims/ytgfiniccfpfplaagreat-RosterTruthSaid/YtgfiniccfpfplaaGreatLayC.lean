
import Derived.ChangeArms
import Derived.ReadAgain
import Derived.ChangeBears
import Derived.Below
import Derived.Test.YtgfiniccfpfplaaGreatLayB
set_option linter.unusedVariables false
set_option linter.unusedSimpArgs false
namespace Go.Lay
open Go

def ov:List (Nat × Value)->(Nat->Value)->Nat->Value
 | [],g,i=>g i
 | (k,v)::l,g,i=>bif Nat.beq k i then v else ov l g i
def trF (g:Nat->Value):Nat->Nat->Nat->Bool->Tr Value
 | 0,_,_,_=>.leaf
 | d+1,w,a,c=>.node (some (bif c then g a else undef)) (trF g d (w*2) a false) (trF g d (w*2) (a+w) true)
def Fm (n:Nat) (g:Nat->Value):Tm:=⟨n,trF g ((way n).length+1) 1 0 true⟩
structure Alt where
 T:Type
 e:Exit
 l:T->List (Nat × Value)
 ms:T->List Nat
 Q:T->St->Prop

inductive Ans
 | g
 | b (t:Bool)
 | n (z:Int)
 | l (v:Value)
 | i
 | v (v:Value)
 | e (v:Value) (Z:St)
 | c (v:Value) (Z:St)
 | lp (e:Exit) (fr:Fr) (Z:St)
 | lf (n:Nat) (l:List (Nat × Value)) (alts:List Alt)
 | rf (n:Nat) (l:List (Nat × Value)) (alts:List (Exit × (St->Prop)))
 | fin (a:Alt) (t:a.T)
 | cut (n:Nat) (l:List (Nat × Value)) (alts:List Alt)

def St.row (Z:St) (cs:List Value) (esz:Nat):St:=Z.add (.cells cs esz [(0,cs.length)] 1 false)

def xBB (P:Program) (ev:Operand->Value) (Z:St) (o:Op):Option (Value × St) :=
 match o with
 | .alloc t=>match uX P t with
  | some z=>some (.pointer (some ⟨Z.y,0,none⟩),Z.row z.cells.toList (xWS P t z.cells.toList.length))
  | none=>none
 | .box t x=>some (.pointer (some ⟨Z.y,0,none⟩),Z.row (ev x).cells.toList (xWS P t (ev x).cells.toList.length))
 | .buildSlice t len ps =>
  match wC P t with
  | some (e,n)=>match uX P e with
   | some z =>
    bif Nat.ble (len*n) 16777216 && Nat.beq z.cells.toList.length n then
     match zNO (fun i=>some (i*n,n)) (xA z.cells.toList len) (ps.toList.map fun p=>(p.1,ev p.2)) with
     | some cs=>some (.slice (some ⟨Z.y,0,none⟩) len len,Z.row cs n)
     | none=>none
    else none
   | none=>none
  | none=>none
 | .makeMap t none=>match zDY P t with
  | some _=>some (.map (some Z.y),Z.add (.map []))
  | none=>none
 | o=>match xU P ev o with
  | some v=>some (v,Z)
  | none=>none

def evL (l:List Value):Operand->Value
 | .tmp i=>l.getD i undef
 | _=>undef
def wS (n:Nat):List Operand:=(List.range n).map .tmp
def xQL (i:Int) (len:Nat):Prop:=0<=i/\i<(len:Int)

def xYR (P:Program) (f:Tm) (Z:St) (o:Op) (v:Value):Prop :=
 match o with
 | .slice t x lo hi mx=>vS P Z t (yG f x) (lo.map (yG f)) (hi.map (yG f)) (mx.map (yG f))=some v
 | .lookup t m k ok=>xO P (evL [yG f m,yG f k]) Z (.lookup t (.tmp 0) (.tmp 1) ok)=some v
 | .index t x k=>zAI P t (yG f x) (yG f k)=some v
 | .binOp op t x y _=>vO P op t x y (yG f x) (yG f y)=some v
 | .convert s d x=>xM P (evL [yG f x]) Z (.convert s d (.tmp 0))=some v
 | .call c=>xM P (evL (c.args.toList.map (yG f))) Z (.call { c with args:=⟨wS c.args.toList.length⟩ })=some v
 | o=>xM P (yG f) Z o=some v
def xYS (P:Program) (f:Tm) (Z:St) (o:Op) (v:Value) (Z':St):Prop :=
 match o with
 | .store t a x=>zQ P (evL [yG f a,yG f x]) Z (.store t (.tmp 0) (.tmp 1))=some (v,Z')
 | .mapUpdate t m k x=>zQ P (evL [yG f m,yG f k,yG f x]) Z (.mapUpdate t (.tmp 0) (.tmp 1) (.tmp 2))=some (v,Z')
 | .insert t m k x=>zQ P (evL [yG f m,yG f k,yG f x]) Z (.insert t (.tmp 0) (.tmp 1) (.tmp 2))=some (v,Z')
 | .makeSlice t l c=>zQ P (evL [yG f l,yG f c]) Z (.makeSlice t (.tmp 0) (.tmp 1))=some (v,Z')
 | .call c=>match c.callee,c.argTypes.toList,c.args.toList.map (yG f) with
  | .builtin .append,[st,xt],[s,x]=>yF P st xt s x Z=some (v,Z')
  | _,_,_=>zQ P (yG f) Z (.call c)=some (v,Z')
 | o=>zQ P (yG f) Z o=some (v,Z')

abbrev zRY:=FnRef->List Value->St->Value->St->Prop
abbrev zRM (rec:Rec):zRY:=fun r args Z v Z'=>vZ rec r args Z=some (v,Z')
def zYG (P:Program) (C:zRY) (f:Tm) (Z:St) (o:Op):List Ans->(Value->St->List Ans->Prop)->Prop
 | .g::as,K=>match xBB P (yG f) Z o with
  | some (v,Z')=>K v Z' as
  | none=>False
 | .b t::as,K=>match xU P (yG f) o with
  | some (.bool e)=>e=t/\K (.bool t) Z as
  | _=>False
 | .n z::as,K=>match xU P (yG f) o with
  | some (.int k e)=>e=z/\K (.int k z) Z as
  | _=>False
 | .l v::as,K=>match o with
  | .load t x=>match yG f x with
   | .pointer (some a)=>zB P Z t a=some v/\K v Z as
   | _=>False
  | _=>False
 | .i::as,K=>match o with
  | .indexAddr t x k=>match yG f k,yG f x,P.underlying t with
   | .int _ i,.pointer (some a),some (.array len elem)=>match yS P elem with
    | some n=>xQL i len/\K (.pointer (some (zJ a (i.toNat*n)))) Z as
    | none=>False
   | .int _ i,.slice (some a) len _,some (.slice elem)=>match yS P elem with
    | some n=>xQL i len/\K (.pointer (some (zJ a (i.toNat*n)))) Z as
    | none=>False
   | _,_,_=>False
  | _=>False
 | .v v::as,K=>xYR P f Z o v/\K v Z as
 | .e v Z'::as,K=>xYS P f Z o v Z'/\K v Z' as
 | .c v Z'::as,K=>match o with
  | .call c=>match c.callee with
   | .value fx=>match zNJ (yG f fx) (c.args.toList.map (yG f)) with
    | some (r,args)=>match xWR P fx Z r args with
     | none=>C r args Z v Z'/\K v Z' as
     | some _=>False
    | none=>False
   | _=>False
  | _=>False
 | _,_=>False

def zFR (P:Program) (C:zRY) (ops:Array Oper):List Oper->List Ans->Tm->St->List Seen->(Tm->St->List Seen->List Ans->Prop)->Prop
 | [],as,f,Z,l,K=>K f Z l as
 | o::rest,as,f,Z,l,K =>
  match zFK ops f o with
  | some true=>zYG P C f Z o.op as fun v Z' as=>zFR P C ops rest as (zMZ f o.dst v) Z' (l++[⟨f,v,true,Z,Z'⟩]) K
  | some false=>zFR P C ops rest as (zMZ f o.dst undef) Z (l++[⟨f,undef,false,Z,Z⟩]) K
  | none=>False

def zM:Nat->Value->Bool
 | 0,_=>false
 | n+1,.agg cs=>cs.toList.all (zM n)
 | n+1,.tuple cs=>cs.toList.all (zM n)
 | n+1,.iface _ v=>zM n v
 | n+1,.func (.func _) f c=>f.toList.all (zM n) && c.toList.all (zM n)
 | _+1,.int k _=>zDP k k
 | _+1,.bool _ | _+1,.string _ | _+1,.pointer _ | _+1,.slice _ _ _ | _+1,.map _ | _+1,.nilFunc | _+1,.nilIface=>true
 | _+1,_=>false
structure Lk where
 want:Bool
 need:Bool
 low:Prop
 look:St->Prop
 before:St
 after:St
def zF (n:Nat) (vs:List Value):Prop:=vs.all (yY RD n)=true
def xVU (f:Tm):Option Operand->List Value
 | some x=>[yG f x]
 | none=>[]
def xDH (P:Program) (f:Tm) (o:Op) (v:Value) (Z:St):Prop :=
 match o with
 | .load t x=>match yG f x with
  | .pointer (some a)=>(a.block<Z.y/\zM RD v=true)/\zB P Z t a=some v
  | _=>False
 | .slice t x lo hi mx=>(zF Z.y (yG f x::(xVU f lo++(xVU f hi++xVU f mx)))/\zM RD v=true)/\vS P Z t (yG f x) (lo.map (yG f)) (hi.map (yG f)) (mx.map (yG f))=some v
 | .lookup t m k ok=>(zF Z.y [yG f m,yG f k]/\zM RD v=true)/\xO P (evL [yG f m,yG f k]) Z (.lookup t (.tmp 0) (.tmp 1) ok)=some v
 | .convert s d x=>(zF Z.y [yG f x]/\zM RD v=true)/\xM P (evL [yG f x]) Z (.convert s d (.tmp 0))=some v
 | .call c=>(zF Z.y (c.args.toList.map (yG f))/\zM RD v=true)/\c.callee=.builtin .len/\xM P (evL (c.args.toList.map (yG f))) Z (.call { c with args:=⟨wS c.args.toList.length⟩ })=some v
 | _=>False
def xBY:Value->Bool
 | .bool _ | .int .. | .string _ | .nilFunc | .nilIface=>true
 | _=>false
def xOR (f:Tm) (o:Op):List Value:=(o.operands.toList.filter fun x=>!xWI x).map (yG f)
def wAS (f:Tm) (o:Op):Bool:=(xP o || zBP o) && !(xOR f o).all xBY
def zCN (P:Program) (C:zRY) (ops:Array Oper):List Oper->List Ans->Tm->St->List Lk->(Tm->St->List Lk->List Ans->Prop)->Prop
 | [],as,f,Z,l,K=>K f Z l as
 | o::rest,as,f,Z,l,K =>
  match zFK ops f o with
  | some true=>zYG P C f Z o.op as fun v Z' as=>zCN P C ops rest as (zMZ f o.dst v) Z' (l++[⟨true,wAS f o.op,zF Z.y (xOR f o.op),xDH P f o.op v,Z,Z'⟩]) K
  | some false=>zCN P C ops rest as (zMZ f o.dst undef) Z (l++[⟨false,false,True,fun _=>True,Z,Z⟩]) K
  | none=>False
def uH (l:List Lk):List (Nat × Nat)->Prop->Prop
 | [],K=>K
 | p::ps,K=>match l[p.1]?,l[p.2]? with
  | some sj,some sk=>match sj.want with
   | true=>sj.look sk.before/\sj.look sk.after/\uH l ps K
   | false=>uH l ps K
  | _,_=>False
def zEK:List Lk->Prop->Prop
 | [],K=>K
 | s::ss,K=>match s.need with
  | true=>s.low/\zEK ss K
  | false=>zEK ss K

def zIM (P:Program) (C:zRY) (ops:Array Oper) (draw:Bool) (as:List Ans) (fr:Fr) (Z:St) (K:Exit->Fr->St->List Ans->Prop):Prop :=
 match draw with
 | false=>zFR P C ops ops.toList as fr.f Z [] fun f Z _ as=>K .normal ⟨f,fr.marks⟩ Z as
 | true=>match yLU ops (CheckFast.beforeF ops),yAH ops (CheckFast.beforeF ops),xZA ops (CheckFast.beforeF ops) with
  | true,[],false=>zFR P C ops ops.toList as fr.f Z [] fun f Z _ as=>K .normal ⟨f,fr.marks⟩ Z as
  | true,ps,_=>zCN P C ops ops.toList as fr.f Z [] fun f Z l as=>zEK l (uH l ps (K .normal ⟨f,fr.marks⟩ Z as))
  | false,_,_=>False

def wpC (P:Program) (rec:Rec) (N:Nat) (rd:Option Nat):Code->List Ans->Fr->St->(Exit->Fr->St->List Ans->Prop)->Prop
 | .skip,as,fr,Z,K=>K .normal fr Z as
 | .label _,as,fr,Z,K=>K .normal fr Z as
 | .ret,as,fr,Z,K=>K .ret fr Z as
 | .exit id,as,fr,Z,K=>K (.exit id) fr Z as
 | .seq x y,as,fr,Z,K=>wpC P rec N rd x as fr Z fun e fr Z as=>match e with
  | .normal=>wpC P rec N rd y as fr Z K
  | e=>K e fr Z as
 | .cond c x y,as,fr,Z,K=>match yG fr.f c with
  | .bool true=>wpC P rec N rd x as fr Z K
  | .bool false=>wpC P rec N rd y as fr Z K
  | _=>False
 | .block id c,as,fr,Z,K=>wpC P rec N rd c as fr Z fun e fr Z as=>match e with
  | .exit i=>match Nat.beq i id with
   | true=>K .normal fr Z as
   | false=>K (.exit i) fr Z as
  | e=>K e fr Z as
 | .scope c,as,fr,Z,K=>wpC P rec N rd c as fr Z K
 | .region _ ops d,as,fr,Z,K=>zIM P (zRM rec) ops d as fr Z K
 | .loop c,.lp e fr' Z'::as,fr,Z,K=>zDZ (yZ P rec N rd c) N fr Z=some (e,fr',Z')/\K e fr' Z' as
 | .rangeFunc g ps a bo,.lp e fr' Z'::as,fr,Z,K=>zOF rec rd g ps a bo fr Z=some (e,fr',Z')/\K e fr' Z' as
 | _,_,_,_,_=>False

section
variable {P:Program} {rec:Rec}

theorem yML {o:Op} {f:Tm} {Z:St} {r:Value × St} (h:xBB P (yG f) Z o=some r):opA P rec (yG f) Z o=some r:=by
 unfold xBB at h;split at h
 ·split at h
  ·rename_i z hz;simp [opA,zHR,zQ,hz,yP,wI] at h ⊢;exact h
  ·cases h
 ·simp [opA,zHR,zQ,yP,wI] at h ⊢;exact h
 ·split at h
  ·rename_i e n hes;split at h
   ·rename_i z hz;obtain ⟨hc,h⟩:=xX h;split at h
    ·rename_i cs hf;simp only [opA,zHR,zQ,hes,hz,hc,cond_true,hf,yP];exact h
    ·cases h
   ·cases h
  ·cases h
 ·split at h
  ·rename_i ke hmo;simp only [opA,zHR,zQ,hmo,cond_true,St.new_eq];exact h
  ·cases h
 ·rename_i hn1 hn2 hn3 hn4;split at h
  ·rename_i v hv;cases h
   unfold opA;split
   ·rename_i c;unfold zPC;split
    ·rename_i fx hc;exfalso;simp only [xU] at hv;split at hv <;> simp_all
    ·rename_i hc;exfalso;simp [xU,hc] at hv
    ·rename_i hc;exfalso;simp [xU,hc] at hv
    ·rename_i hc;rw [hv]
    ·rename_i hc;rw [hv];rfl
    ·rename_i hc;exfalso;simp [xU,hc] at hv
   ·simp [xU] at hv
   ·simp [xU] at hv
   ·simp [xU] at hv
   ·rw [hv]
   ·have:zHR o=false:=by
     cases o <;> first | rfl | (simp [xU] at hv;done) | (exfalso;rename_i hx _ _ _ _;exact hx _ rfl)
    rw [this,hv];rfl
  ·cases h
end
end Go.Lay

namespace Go.Lay
open Go
variable {o:Op} {ev:Operand->Value} {Z:St} {v:Value} {f:Tm} {as:List Ans} {n:Nat} {s:Seen}
section
variable {P:Program} {rec:Rec}

theorem uO (hv:xU P ev o=some v):opA P rec ev Z o=some (v,Z):=by
 unfold opA;split
 ·rename_i c;unfold zPC;split
  ·rename_i fx hc;exfalso;simp only [xU] at hv;split at hv <;> simp_all
  ·rename_i hc;exfalso;simp [xU,hc] at hv
  ·rename_i hc;exfalso;simp [xU,hc] at hv
  ·rename_i hc;rw [hv]
  ·rename_i hc;rw [hv];rfl
  ·rename_i hc;exfalso;simp [xU,hc] at hv
 ·simp [xU] at hv
 ·simp [xU] at hv
 ·simp [xU] at hv
 ·rw [hv]
 ·have:zHR o=false:=by
   cases o <;> first | rfl | (simp [xU] at hv;done) | (exfalso;rename_i hx _ _ _ _;exact hx _ rfl)
  rw [this,hv];rfl

theorem zBQ (hv:xU P ev o=none) (hl:xO P ev Z o=some v):opA P rec ev Z o=some (v,Z):=by
 unfold opA;split
 ·rename_i c;unfold zPC;split
  ·rename_i fx hc;exfalso;simp only [xO,hc] at hl;cases hl
  ·rename_i hc;exfalso;simp only [xO,hc] at hl;cases hl
  ·rename_i hc;exfalso;simp only [xO,hc] at hl;cases hl
  ·rename_i hc;rw [hv,hl];rfl
  ·rename_i b _ _ hb hc;exfalso;simp only [xO,hc] at hl;cases b <;> first | (simp at hl;done) | exact hb rfl
  ·rename_i hc;exfalso;simp only [xO,hc] at hl;cases hl
 ·rw [hl];rfl
 ·rw [hl];rfl
 ·rw [hl];rfl
 ·rw [hv,hl];rfl
 ·exfalso;cases o <;> first | (simp [xO] at hl;done) | (rename_i h1 h2 h3 h4 h5;first | exact h1 _ rfl | exact h2 _ _ rfl | exact h3 _ _ _ _ rfl | exact h4 _ _ _ _ _ rfl | exact h5 _ _ _ rfl)

theorem xIU {Z':St} (h:zQ P ev Z o=some (v,Z')):opA P rec ev Z o=some (v,Z'):=by
 unfold opA;split
 ·rename_i c;unfold zPC;split
  ·rename_i fx hc;simp only [zQ,hc] at h;split at h
   ·rename_i r as href;simp only [Option.map_eq_some_iff] at h;obtain ⟨v0,h1,h2⟩:=h;simp only [h1];rw [h2]
   ·cases h
  ·exact h
  ·exact h
  ·rename_i hc;exfalso;simp only [zQ,hc] at h;cases h
  ·rename_i b ha hcp _ hc;exfalso;simp only [zQ,hc] at h;cases b <;> first | (simp at h;done) | exact ha rfl | exact hcp rfl
  ·rename_i hc;exfalso;simp only [zQ,hc] at h;cases h
 ·simp [zQ] at h
 ·simp [zQ] at h
 ·simp [zQ] at h
 ·simp [zQ] at h
 ·have:zHR o=true:=by
   cases o <;> first | rfl | (simp [zQ] at h;done) | (exfalso;rename_i hx _ _ _ _;exact hx _ rfl)
  rw [this];exact h

theorem xRO (l:List Value):(wS l.length).map (evL l)=l:=by
 apply List.ext_getElem
 ·simp [wS]
 ·intro i h1 h2;simp [wS,evL,List.getD,h2]
theorem zYX {c:Call} (h:xM P (evL (c.args.toList.map ev)) Z (.call { c with args:=⟨wS c.args.toList.length⟩ })=some v):xM P ev Z (.call c)=some v:=by
 have e:(wS c.args.toList.length).map (evL (c.args.toList.map ev))=c.args.toList.map ev:=by
  have:=xRO (c.args.toList.map ev);rwa [List.length_map] at this
 simp only [xM,xU,xO,e] at h ⊢;exact h

theorem zYF {K:Value->St->List Ans->Prop} (h:zYG P (zRM rec) f Z o as K):∃ v Z' as',opA P rec (yG f) Z o=some (v,Z')/\K v Z' as':=by
 unfold zYG at h;split at h
 ·split at h
  ·rename_i v Z' ho;exact ⟨v,Z',_,yML ho,h⟩
  ·exact h.elim
 ·split at h
  ·rename_i e he;obtain ⟨rfl,h⟩:=h;exact ⟨_,_,_,uO he,h⟩
  ·exact h.elim
 ·split at h
  ·rename_i k e he;obtain ⟨rfl,h⟩:=h;exact ⟨_,_,_,uO he,h⟩
  ·exact h.elim
 ·split at h
  ·split at h
   ·rename_i a ha;exact ⟨_,_,_,zBQ rfl (by simp only [xO,ha];exact h.1),h.2⟩
   ·exact h.elim
  ·exact h.elim
 ·split at h
  ·rename_i t x k;split at h
   ·rename_i kd i a len elem hk hx hd;split at h
    ·rename_i n hn;refine ⟨_,_,_,uO (v:=.pointer (some (zJ a (i.toNat*n)))) ?_,h.2⟩
     have h1:leI 0 i=true:=(wU 0 i).2 h.1.1;have h2:ltI i (.ofNat len)=true:=(zHN i _).2 h.1.2;simp only [xU,zED,hk,hx,hd,hn,h1,h2,Bool.and_self,cond_true]
    ·exact h.elim
   ·rename_i kd i a len cp elem hk hx hd;split at h
    ·rename_i n hn;refine ⟨_,_,_,uO (v:=.pointer (some (zJ a (i.toNat*n)))) ?_,h.2⟩
     have h1:leI 0 i=true:=(wU 0 i).2 h.1.1;have h2:ltI i (.ofNat len)=true:=(zHN i _).2 h.1.2;simp only [xU,zED,hk,hx,hd,hn,h1,h2,Bool.and_self,cond_true]
    ·exact h.elim
   ·exact h.elim
  ·exact h.elim
 ·obtain ⟨hs,h⟩:=h;refine ⟨_,_,_, ?_,h⟩
  unfold xYR at hs;split at hs
  ·exact zBQ rfl hs
  ·exact zBQ rfl hs
  ·exact uO hs
  ·exact uO hs
  ·unfold xM at hs;split at hs
   ·rename_i v0 hv;cases hs;exact uO hv
   ·rename_i hv;exact zBQ hv hs
  ·have hs:=zYX hs;unfold xM at hs;split at hs
   ·rename_i v0 hv;cases hs;exact uO hv
   ·rename_i hv;exact zBQ hv hs
  ·unfold xM at hs;split at hs
   ·rename_i v0 hv;cases hs;exact uO hv
   ·rename_i hv;exact zBQ hv hs
 ·obtain ⟨he,h⟩:=h;refine ⟨_,_,_,xIU ?_,h⟩
  unfold xYS at he;split at he
  ·exact he
  ·exact he
  ·exact he
  ·exact he
  ·split at he
   ·rename_i hc ht ha;simp only [zQ,hc,ht,ha];exact he
   ·exact he
  ·exact he
 ·split at h
  ·split at h
   ·rename_i fx hc;split at h
    ·rename_i r args href;split at h
     ·rename_i hx;refine ⟨_,_,_, ?_,h.2⟩
      simp only [opA,zPC,hc,href,hx];exact h.1
     ·exact h.elim
    ·exact h.elim
   ·exact h.elim
  ·exact h.elim
 ·exact h.elim

theorem zEP {ops:Array Oper}:∀ (rest:List Oper) (as:List Ans) (f:Tm) (Z:St) (l:List Seen) (K:Tm->St->List Seen->List Ans->Prop),zFR P (zRM rec) ops rest as f Z l K ->
  ∃ l' t τ as',zAN P rec ops rest f Z=some (l',t,τ)/\K t τ (l++l') as'
 | [],as,f,Z,l,K,h=>⟨[],f,Z,as,rfl,by rw [List.append_nil];exact h⟩
 | o::rest,as,f,Z,l,K,h=>by
  unfold zFR at h;split at h
  ·rename_i hg;obtain ⟨v,Z',as',h1,h2⟩:=zYF h;obtain ⟨l',t,τ,as2,h3,h4⟩:=zEP rest _ _ _ _ _ h2;exact ⟨⟨f,v,true,Z,Z'⟩::l',t,τ,as2,by simp [zAN,hg,h1,zKP,vG,h3],by rw [List.append_assoc] at h4;exact h4⟩
  ·rename_i hg;obtain ⟨l',t,τ,as2,h3,h4⟩:=zEP rest _ _ _ _ _ h;exact ⟨⟨f,undef,false,Z,Z⟩::l',t,τ,as2,by simp [zAN,hg,vG,h3],by rw [List.append_assoc] at h4;exact h4⟩
  ·exact h.elim

theorem zDO {ops:Array Oper}:∀ (rest:List Oper) (f:Tm) (Z:St) (l:List Seen) (t:Tm) (τ:St),zAN P rec ops rest f Z=some (l,t,τ)->zNA P rec ops rest f Z=some (t,τ)
 | [],f,Z,l,t,τ,h=>by simp [zAN] at h;simp [zNA,h.2.1,h.2.2]
 | o::rest,f,Z,l,t,τ,h=>by
  unfold zAN at h;split at h
  ·rename_i hg;split at h
   ·rename_i v Z' hop;rw [zKP,vG] at h;split at h
    ·rename_i l' t' τ' hs;simp at h;obtain ⟨_,rfl,rfl⟩:=h;have:=zDO rest _ _ _ _ _ hs;simp [zNA,hg,hop,vG,this]
    ·cases h
   ·cases h
  ·rename_i hg;rw [vG] at h;split at h
   ·rename_i l' t' τ' hs;simp at h;obtain ⟨_,rfl,rfl⟩:=h;have:=zDO rest _ _ _ _ _ hs;simp [zNA,hg,vG,this]
   ·cases h
  ·cases h

theorem xLO:∀ (n:Nat) (v:Value),zM n v=true->veq n v v=true:=by
 intro n;induction n with
 | zero=>intro v h;simp [zM] at h
 | succ n ih =>
  have lists:∀ (l:List Value),l.all (zM n)=true->veq.veqs n l l=true:=by
   intro l;induction l with
   | nil=>intro _;rfl
   | cons x l ihl =>
    intro h;simp only [List.all_cons,Bool.and_eq_true] at h;simp only [veq.veqs,Bool.and_eq_true];exact ⟨ih x h.1,ihl h.2⟩
  intro v h;cases v with
  | agg cs=>simp only [zM] at h;simp only [veq];exact lists _ h
  | tuple cs=>simp only [zM] at h;simp only [veq];exact lists _ h
  | iface t x=>simp only [zM] at h;simp only [veq,Bool.and_eq_true];exact ⟨Nat.beq_refl _,ih x h⟩
  | func fn f c =>
   cases fn with
   | func g=>simp only [zM,Bool.and_eq_true] at h;simp only [veq,Bool.and_eq_true];exact ⟨⟨Nat.beq_refl _,lists _ h.1⟩,lists _ h.2⟩
   | _=>simp [zM] at h
  | bool b=>simp [veq]
  | int k n=>simp only [zM] at h;simp only [veq,yLP,Bool.and_eq_true];exact ⟨h,by simp⟩
  | string s=>simp [veq]
  | pointer a=>simp [veq]
  | slice a l c=>simp [veq]
  | map a=>simp [veq]
  | nilFunc=>rfl
  | nilIface=>rfl
  | _=>simp [zM] at h

structure LkOk (P:Program) (o:Oper) (k:Lk) (s:Seen):Prop where
 want:k.want=s.want
 before:k.before=s.before
 after:k.after=s.after
 low:(k.need=true->k.low)->(!s.want || zCM s.before.y s.f o || !(xP o.op || zBP o.op))=true
 look:s.want=true->∀ Z,k.look Z->steady P o s Z=true
inductive LkAll (P:Program):List Oper->List Lk->List Seen->Prop
 | nil:LkAll P [] [] []
 | cons {o:Oper} {k:Lk} {s:Seen} {os:List Oper} {ks:List Lk} {ss:List Seen} (h:LkOk P o k s) (t:LkAll P os ks ss):LkAll P (o::os) (k::ks) (s::ss)
theorem LkAll.get {os:List Oper} {ks:List Lk} {ss:List Seen} (h:LkAll P os ks ss):∀ (i:Nat) (k:Lk),ks[i]?=some k->∃ o s,os[i]?=some o/\ss[i]?=some s/\LkOk P o k s:=by
 induction h with
 | nil=>intro i k h;simp at h
 | cons h _ ih =>
  intro i k hk;cases i with
  | zero=>simp at hk;subst hk;exact ⟨_,_,rfl,rfl,h⟩
  | succ i=>simpa using ih i k (by simpa using hk)

theorem zEL {o:Oper} (h:zF n (o.op.operands.toList.map (yG f))):zCM n f o=true:=by
 unfold zF at h;rw [List.all_map] at h;exact h
theorem yUO {vs:List Value} (h:vs.all xBY=true):zF n vs:=by
 refine List.all_eq_true.2 (fun v hv=>?_);have:=List.all_eq_true.1 h v hv;cases v <;> first | rfl | (simp [xBY] at this;done)
theorem yCQ {o:Oper} (h:zF n (xOR f o.op)):zCM n f o=true:=by
 refine List.all_eq_true.2 (fun x hx=>?_);cases hx2:xWI x with
 | true=>cases x <;> first | (simp [xWI] at hx2;done) | rfl
 | false =>
  have:=List.all_eq_true.1 h (yG f x) (List.mem_map_of_mem (List.mem_filter.2 ⟨hx,by rw [hx2];rfl⟩));exact this
theorem zFT {o:Oper} (h1:zCM Z.y s.f o=true) (h2:zM RD s.v=true) (h3:xM P (yG s.f) Z o.op=some s.v):steady P o s Z=true:=by
 unfold steady;cases hw:s.want with
 | true=>rw [cond_true,h1,Bool.true_and,h3];exact xLO _ _ h2
 | false=>rfl
theorem yQG {o:Oper} (h:xDH P s.f o.op s.v Z):steady P o s Z=true:=by
 unfold xDH at h;split at h
 ·rename_i t x ho;split at h
  ·rename_i a ha;refine zFT ?_ h.1.2 (by rw [ho];simp only [xM,xU,xO,ha];exact h.2);refine zEL (n:=Z.y) ?_
   unfold zF;rw [ho];simp only [Op.operands,List.map_cons,List.map_nil,ha,List.all_cons,List.all_nil,Bool.and_true];exact (xY _ _).2 h.1.1
  ·exact h.elim
 ·rename_i t x lo hi mx ho;refine zFT ?_ h.1.2 (by rw [ho];exact h.2);refine zEL (n:=Z.y) ?_
  have h1:=h.1.1;unfold zF at h1 ⊢;rw [ho];cases lo <;> cases hi <;> cases mx <;> simpa [Op.operands,xVU] using h1
 ·rename_i t m k ok ho;refine zFT ?_ h.1.2 (by rw [ho];exact h.2);refine zEL (n:=Z.y) ?_
  have h1:=h.1.1;unfold zF at h1 ⊢;rw [ho];simpa [Op.operands] using h1
 ·rename_i t m k ho;refine zFT ?_ h.1.2 (by rw [ho];exact h.2);refine zEL (n:=Z.y) ?_
  have h1:=h.1.1;unfold zF at h1 ⊢;rw [ho];simpa [Op.operands] using h1
 ·rename_i c ho;refine zFT ?_ h.1.2 (by rw [ho];exact zYX h.2.2);refine zEL (n:=Z.y) ?_
  have h1:=h.1.1;unfold zF at h1 ⊢;rw [ho];simpa [Op.operands,Call.operands,h.2.1] using h1
 ·exact h.elim

theorem zGX {ops:Array Oper}:∀ (rest:List Oper) (as:List Ans) (f:Tm) (Z:St) (l:List Lk) (K:Tm->St->List Lk->List Ans->Prop),zCN P (zRM rec) ops rest as f Z l K ->
  ∃ l' t τ as' lk,zAN P rec ops rest f Z=some (l',t,τ)/\LkAll P rest lk l'/\K t τ (l++lk) as'
 | [],as,f,Z,l,K,h=>⟨[],f,Z,as,[],rfl,.nil,by rw [List.append_nil];exact h⟩
 | o::rest,as,f,Z,l,K,h=>by
  unfold zCN at h;split at h
  ·rename_i hg;obtain ⟨v,Z',as',h1,h2⟩:=zYF h;obtain ⟨l',t,τ,as2,lk,h3,h4,h5⟩:=zGX rest _ _ _ _ _ h2;refine ⟨⟨f,v,true,Z,Z'⟩::l',t,τ,as2,⟨true,wAS f o.op,zF Z.y (xOR f o.op),xDH P f o.op v,Z,Z'⟩::lk,by simp [zAN,hg,h1,zKP,vG,h3],.cons ⟨rfl,rfl,rfl,fun hl=>?_,fun _ Z₁ hl=>yQG (s:=⟨f,v,true,Z,Z'⟩) hl⟩ h4,by rw [List.append_assoc] at h5;exact h5⟩
   simp only at hl;cases ha:xP o.op || zBP o.op with
   | false=>simp
   | true =>
    have hb:zCM Z.y f o=true:=by
     cases ht:(xOR f o.op).all xBY with
     | true=>exact yCQ (yUO ht)
     | false=>exact yCQ (hl (by unfold wAS;rw [ha,ht];rfl))
    simp only [hb];simp
  ·rename_i hg;obtain ⟨l',t,τ,as2,lk,h3,h4,h5⟩:=zGX rest _ _ _ _ _ h;exact ⟨⟨f,undef,false,Z,Z⟩::l',t,τ,as2,⟨false,false,True,fun _=>True,Z,Z⟩::lk,by simp [zAN,hg,vG,h3],.cons ⟨rfl,rfl,rfl,fun _=>rfl,fun h=>by cases h⟩ h4,by rw [List.append_assoc] at h5;exact h5⟩
  ·exact h.elim

theorem zIE:∀ {os:List Oper} {ks:List Lk} {ss:List Seen} {K:Prop},LkAll P os ks ss->zEK ks K->zGR os ss=true/\K
 | [],_,_,_,.nil,hb=>⟨rfl,hb⟩
 | _::_,k::_,_::_,K,.cons h t,hb=>by
  simp only [zEK] at hb;simp only [zGR,Bool.and_eq_true];cases hn:k.need with
  | true =>
   rw [hn] at hb;obtain ⟨h1,h2⟩:=zIE t hb.2;exact ⟨⟨h.low (fun _=>hb.1),h1⟩,h2⟩
  | false =>
   rw [hn] at hb;obtain ⟨h1,h2⟩:=zIE t hb;exact ⟨⟨h.low (fun e=>by rw [hn] at e;cases e),h1⟩,h2⟩
theorem zDN {ops:Array Oper} {ks:List Lk} {l:List Seen} {K:Prop} (h:LkAll P ops.toList ks l):∀ (ps:List (Nat × Nat)),uH ks ps K->ps.all (yKU P ops l)=true/\K
 | [],hk=>⟨rfl,hk⟩
 | p::ps,hs=>by
  simp only [uH] at hs;rw [List.all_cons,Bool.and_eq_true];unfold yKU;split at hs
  ·rename_i sj sk e1 e2;obtain ⟨oj,s1,a1,a2,a3⟩:=h.get _ _ e1;obtain ⟨_,s2,_,b2,b3⟩:=h.get _ _ e2;have a1:ops[p.1]?=some oj:=by simpa using a1
   rw [a1,a2,b2];simp only;cases hw:s1.want with
   | true =>
    rw [a3.want,hw] at hs;simp only at hs;rw [b3.before,b3.after] at hs;obtain ⟨g1,g2⟩:=zDN h ps hs.2.2;rw [a3.look hw _ hs.1,a3.look hw _ hs.2.1];exact ⟨⟨rfl,g1⟩,g2⟩
   | false =>
    rw [a3.want,hw] at hs;obtain ⟨g1,g2⟩:=zDN h ps hs;exact ⟨⟨by simp [steady,hw],g1⟩,g2⟩
  ·exact hs.elim

theorem yUF (N:Nat) (rd:Option Nat) {id:Nat} {ops:Array Oper} {draw:Bool} {as:List Ans} {fr:Fr} {Z:St} {K:Exit->Fr->St->List Ans->Prop} (h:zIM P (zRM rec) ops draw as fr Z K) :
  ∃ e fr' Z' as',yZ P rec N rd (.region id ops draw) fr Z=some (e,fr',Z')/\K e fr' Z' as':=by
 cases draw with
 | false =>
  simp only [zIM] at h;obtain ⟨l',t,τ,as',h1,h2⟩:=zEP _ _ _ _ _ _ h;exact ⟨.normal,⟨t,fr.marks⟩,τ,as',by simp only [yZ,zLW,zDO _ _ _ _ _ _ h1],h2⟩
 | true =>
  simp only [zIM] at h;split at h
  ·rename_i h0 hp hf;obtain ⟨l',t,τ,as',h1,h2⟩:=zEP _ _ _ _ _ _ h;refine ⟨.normal,⟨t,fr.marks⟩,τ,as', ?_,h2⟩
   simp only [yZ,zLW,yBT,h0,hp,hf,cond_true,zDO _ _ _ _ _ _ h1]
  ·rename_i ps _ h0 hno;obtain ⟨l',t,τ,as',lk,h1,hlk,h2⟩:=zGX _ _ _ _ _ _ h;rw [List.nil_append] at h2;obtain ⟨h3,h2⟩:=zIE hlk h2;obtain ⟨h4,h2⟩:=zDN hlk _ h2;refine ⟨.normal,⟨t,fr.marks⟩,τ,as', ?_,h2⟩
   have hd:yBT P rec ops fr.f Z=some (t,τ):=by
    unfold yBT;rw [h0,cond_true];split
    ·exact zDO _ _ _ _ _ _ h1
    ·rw [h1];simp only;rw [h3,h4];rfl
   simp only [yZ,zLW,hd]
  ·exact h.elim
def zPN:List Nat->St->(St->Prop)->Prop
 | [],Z,K=>K Z
 | d::ds,Z,K=>yJ Z.heap d=some .defd/\zPN ds (Z.shut d) K
def yND (P:Program) (f:Tm) (Z:St):List ResultVar->List Ans->List Value->(List Value->Prop)->Prop
 | [],_,vs,K=>K vs
 | .tmp t::rs,as,vs,K=>yND P f Z rs as (vs++[f.nth t]) K
 | .cell a t::rs,as,vs,K=>match as,f.nth a with
  | .l v::as,.pointer (some a)=>zB P Z t a=some v/\yND P f Z rs as (vs++[v]) K
  | _,_=>False
def xOU:List Value->Value
 | [v]=>v
 | vs=>.tuple ⟨vs⟩
def zIY (P:Program) (fn:Func) (fr:Fr) (Z:St) (as:List Ans) (K:Value->St->Prop):Prop :=
 zPN fr.marks Z fun Z=>yND P fr.f Z fn.results.toList as [] fun vs=>K (xOU vs) Z
def wEE (P:Program) (n:Nat) (f:FuncId) (args:List Value) (as:List Ans) (Z:St) (K:Value->St->Prop):Prop :=
 match P.funcs[f]? with
 | some fn=>match fn.body with
  | some c=>wpC P (zV P n) n none c as ⟨(Tm.args 0 args).foldl (fun f p=>f.set p.1 p.2) (fresh (args.length+(fn.ntmps-args.length))),[]⟩ Z fun e fr Z as=>match e with
   | .normal=>zIY P fn fr Z as K
   | .ret=>zIY P fn fr Z as K
   | _=>False
  | none=>False
 | none=>False

theorem zNC:∀ (ms:List Nat) (Z:St) (K:St->Prop),zPN ms Z K->∃ Z',zBV ms Z=some Z'/\K Z'
 | [],Z,K,h=>⟨Z,rfl,h⟩
 | d::ds,Z,K,h=>by
  obtain ⟨Z',h1,h2⟩:=zNC ds _ K h.2;exact ⟨Z',by simp only [zBV,h.1,St.drop_eq,h1],h2⟩
theorem zIV {f:Tm} {Z:St}:∀ (rs:List ResultVar) (as:List Ans) (vs:List Value) (K:List Value->Prop),yND P f Z rs as vs K->∃ ws,uP P f Z rs=some ws/\K (vs++ws)
 | [],as,vs,K,h=>⟨[],rfl,by rw [List.append_nil];exact h⟩
 | .tmp t::rs,as,vs,K,h=>by
  obtain ⟨ws,h1,h2⟩:=zIV rs as _ K h;exact ⟨f.nth t::ws,by simp only [uP,zPX,h1],by rw [List.append_assoc] at h2;exact h2⟩
 | .cell a t::rs,as,vs,K,h=>by
  unfold yND at h;split at h
  ·rename_i v as' a0 ha;obtain ⟨ws,h1,h2⟩:=zIV rs _ _ K h.2;exact ⟨v::ws,by simp only [uP,zPX,ha,h.1,h1],by rw [List.append_assoc] at h2;exact h2⟩
  ·exact h.elim
theorem yJJ {fn:Func} {fr:Fr} {K:Value->St->Prop} (h:zIY P fn fr Z as K):∃ v Z',zWA P fn fr Z=some (v,Z')/\K v Z':=by
 obtain ⟨Z',h1,h2⟩:=zNC _ _ _ h;obtain ⟨ws,h3,h4⟩:=zIV _ _ _ _ h2;rw [List.nil_append] at h4;refine ⟨xOU ws,Z', ?_,h4⟩
 have:zFV P fn fr.f Z'=some (xOU ws):=by
  unfold zFV;rw [h3];match ws with
  | []=>rfl
  | [v]=>rfl
  | _::_::_=>rfl
 simp only [zWA,h1,this,zKP]
end
end Go.Lay

namespace Go.Lay
open Go
variable {n b k:Nat} {s:Option Nat}

theorem wDV (a b:Int):(leI a b=true/\a<=b)\/(leI a b=false/\b<a):=by
 by_cases h:a<=b
 ·exact .inl ⟨(wU a b).2 h,h⟩
 ·exact .inr ⟨by rw [yLB];simp;omega,by omega⟩
theorem wDU (a b:Int):(ltI a b=true/\a<b)\/(ltI a b=false/\b<=a):=by
 by_cases h:a<b
 ·exact .inl ⟨(zHN a b).2 h,h⟩
 ·exact .inr ⟨by rw [yKZ];simp;omega,by omega⟩
theorem xDY (a b:Int):eqI a b=true↔a=b:=by rw [yLP];simp
theorem zYE {n:Int} (h1:-9223372036854775808<=n) (h2:n<=9223372036854775807):zAK .i64 n=n:=by
 have e1:(2:Int) ^ 64=18446744073709551616:=by decide
 have e2:(2:Int) ^ (64-1)=9223372036854775808:=by decide
 rw [vW];simp only [IntKind.wrap,IntKind.bits,IntKind.signed,e1,e2,Bool.true_and,decide_eq_true_eq];split <;> omega

structure Row (Z:St) (a:Addr) (cs:List Value):Prop where
 rd:yU Z a cs.length=some cs
 lt:a.block<Z.y
structure Le (Z Z':St):Prop where
 y:Z.y<=Z'.y
 get:∀ b,b<Z.y->yJ Z'.heap b=yJ Z.heap b
def St.re (Z:St):St:=⟨Z.heap,Z.y,Z.y⟩

section
variable {P:Program} {Z Z':St} {a:Addr} {cs:List Value}
theorem Le.refl (Z:St):Le Z Z:=⟨Nat.le_refl _,fun _ _=>rfl⟩
theorem Le.trans {Z₁ Z₂ Z₃:St} (h:Le Z₁ Z₂) (k:Le Z₂ Z₃):Le Z₁ Z₃:=⟨Nat.le_trans h.y k.y,fun b hb=>(k.get b (Nat.lt_of_lt_of_le hb h.y)).trans (h.get b hb)⟩
theorem Le.add (Z:St) (y:Blk):Le Z (Z.add y):=⟨by simp,fun b hb=>by rw [St.add_get,if_neg (Nat.ne_of_lt hb)]⟩
theorem Le.row (Z:St) (cs:List Value) (n:Nat):Le Z (Z.row cs n):=Le.add _ _
theorem yVO (h:Le Z Z') (hb:a.block<Z.y) (n:Nat):yU Z' a n=yU Z a n:=by
 unfold yU;rw [h.get _ hb]
theorem Row.le (h:Row Z a cs) (l:Le Z Z'):Row Z' a cs:=⟨by rw [yVO l h.lt];exact h.rd,Nat.lt_of_lt_of_le h.lt l.y⟩
theorem Row.row (h:Row Z a cs) {ds:List Value} {n:Nat}:Row (Z.row ds n) a cs:=h.le (Le.row _ _ _)
theorem Row.re (h:Row Z a cs):Row Z.re a cs:=⟨h.rd,h.lt⟩
theorem Le.re' (h:Le Z Z'):Le Z Z'.re:=⟨h.y,h.get⟩
theorem xH (Z:St) (cs:List Value) (n:Nat):Row (Z.row cs n) ⟨Z.y,0,none⟩ cs:=by
 refine ⟨?_,by simp [St.row]⟩
 have h1:yJ (Z.row cs n).heap Z.y=some (.cells cs n [(0,cs.length)] 1 false):=by
  show yJ (Z.add _).heap Z.y=_;rw [St.add_get,if_pos rfl]
 have h2:Nat.ble (0+cs.length) cs.length=true:=(zX _ _).2 (by omega);have h3:Nat.beq 0 0=true:=rfl;unfold yU;simp only [h1,yB,Option.getD_none,wX,h3,cond_true,h2,List.drop_zero,List.take_length]
theorem Row.part (h:Row Z a cs) {k m:Nat} (hk:k+m<=cs.length):Row Z (zJ a k) ((cs.drop k).take m):=by
 have hl:((cs.drop k).take m).length=m:=by simp;omega
 refine ⟨?_,h.lt⟩
 have hr:=h.rd;rw [hl];unfold yU at hr;split at hr
 ·rename_i bc esz log nx ro hb;split at hr
  ·rename_i e he;obtain ⟨hle,hr⟩:=xX hr;have hle:=(zX _ _).1 hle;have key:yU Z (zJ a k) m=bif Nat.ble (a.off+k+m) e then some ((bc.drop (a.off+k)).take m) else none:=by
    unfold yU;rw [show yJ Z.heap (zJ a k).block=some (.cells bc esz log nx ro) from hb];show (match wX log (yB a) with | some e=>bif Nat.ble (a.off+k+m) e then some ((bc.drop (a.off+k)).take m) else none | none=>none)=_;rw [he]
   rw [key,(zX (a.off+k+m) e).2 (by omega),cond_true];have hr2:(bc.drop a.off).take cs.length=cs:=by simpa using hr
   congr 1;rw [show (cs.drop k).take m=((((bc.drop a.off).take cs.length)).drop k).take m from by rw [hr2]];rw [List.drop_take,List.drop_drop,List.take_take];congr 1;omega
  ·cases hr
 ·cases hr
theorem Row.load1 (h:Row Z a cs) {t:TypeId} (ht:wE P t=some false) {k:Nat} {v:Value} (hv:cs[k]?=some v):zB P Z t (zJ a k)=some v:=by
 have hk:k<cs.length:=(List.getElem?_eq_some_iff.1 hv).1;have hp:=(h.part (k:=k) (m:=1) (by omega)).rd;have e:(cs.drop k).take 1=[v]:=by
  rw [List.drop_eq_getElem_cons hk];have:=(List.getElem?_eq_some_iff.1 hv).2;simp [this]
 rw [e] at hp;unfold zB;simp only [ht];have hp:yU Z (zJ a k) 1=some [v]:=hp;rw [hp]
theorem Row.loadN (h:Row Z a cs) {t:TypeId} {n:Nat} (ht:wE P t=some true) (hs:yS P t=some n) {k:Nat} {ds:List Value} (hd:(cs.drop k).take n=ds) (hl:ds.length=n) (hk:k+n<=cs.length):zB P Z t (zJ a k)=some (.agg ⟨ds⟩):=by
 have hp:=(h.part (k:=k) (m:=n) hk).rd;rw [hd,hl] at hp;unfold zB;simp only [ht,hs,hp,Option.map_some]
theorem Row.ld (h:Row Z ⟨b,0,s⟩ cs) {t:TypeId} (ht:wE P t=some false) {v:Value} (hv:cs[k]?=some v):zB P Z t ⟨b,k,s⟩=some v:=by
 have:=h.load1 (P:=P) ht hv;simpa [zJ] using this
theorem Row.ldN (h:Row Z ⟨b,0,s⟩ cs) {t:TypeId} (ht:wE P t=some true) (hs:yS P t=some n) {ds:List Value} (hd:(cs.drop k).take n=ds) (hl:ds.length=n) (hk:k+n<=cs.length):zB P Z t ⟨b,k,s⟩=some (.agg ⟨ds⟩):=by
 have:=h.loadN (P:=P) ht hs hd hl hk;simpa [zJ] using this

structure Own (Z:St) (b:Nat) (cs:List Value) (n:Nat):Prop where
 get:yJ Z.heap b=some (.cells cs n [(0,cs.length)] 1 false)
 lt:b<Z.y
def St.own (Z:St) (b:Nat) (cs:List Value) (n:Nat):St:=Z.put b (.cells cs n [(0,cs.length)] 1 false)
theorem zC (Z:St) (cs:List Value) (n:Nat):Own (Z.row cs n) Z.y cs n:=⟨by
 show yJ (Z.add _).heap Z.y=_
 rw [St.add_get,if_pos rfl],by simp [St.row]⟩
theorem Own.le (h:Own Z b cs n) (l:Le Z Z'):Own Z' b cs n:=⟨by rw [l.get _ h.lt];exact h.get,Nat.lt_of_lt_of_le h.lt l.y⟩
theorem Own.row {b n:Nat} (h:Own Z b cs n) {ds:List Value} {m:Nat}:Own (Z.row ds m) b cs n:=h.le (Le.row _ _ _)
theorem Own.add {b n:Nat} (h:Own Z b cs n) {y:Blk}:Own (Z.add y) b cs n:=h.le (Le.add _ _)
theorem Own.re {b n:Nat} (h:Own Z b cs n):Own Z.re b cs n:=⟨h.get,h.lt⟩
theorem Own.own {b n c m:Nat} (h:Own Z b cs n) {ds:List Value} (hne:b≠c):Own (Z.own c ds m) b cs n:=⟨by
 show yJ (Z.put _ _).heap b=_
 rw [St.put_get,if_neg hne];exact h.get,h.lt⟩
theorem Own.put {b n:Nat} (h:Own Z b cs n) {ds:List Value}:Own (Z.own b ds n) b ds n:=⟨by
 show yJ (Z.put _ _).heap b=_
 rw [St.put_get,if_pos rfl],h.lt⟩
theorem Own.rw (h:Own Z b cs n):Row Z ⟨b,0,none⟩ cs:=by
 refine ⟨?_,h.lt⟩
 have h2:Nat.ble (0+cs.length) cs.length=true:=(zX _ _).2 (by omega);have h3:Nat.beq 0 0=true:=rfl;unfold yU;simp only [h.get,yB,Option.getD_none,wX,h3,cond_true,h2,List.drop_zero,List.take_length]
theorem Row.own {b n:Nat} (h:Row Z a cs) {ds:List Value} (hne:a.block≠b):Row (Z.own b ds n) a cs:=⟨by
 have hr:=h.rd
 unfold yU at hr ⊢
 rw [show yJ (Z.own b ds n).heap a.block=yJ Z.heap a.block from by
  show yJ (Z.put _ _).heap a.block=_;rw [St.put_get,if_neg hne]]
 exact hr,h.lt⟩
theorem Own.store {b n k:Nat} (h:Own Z b cs n) {t:TypeId} {v:Value} {vs ds:List Value} (hv:v.cells.toList=vs) (hs:yS P t=some vs.length) (hc:vs.all cellB=true) (hk:k+vs.length<=cs.length) (hd:cs.take k++(vs++cs.drop (k+vs.length))=ds) :
  zQ P (evL [.pointer (some ⟨b,k,none⟩),v]) Z (.store t (.tmp 0) (.tmp 1))=some (undef,Z.own b ds n):=by
 have h1:Nat.beq v.cells.toList.length vs.length=true:=by rw [hv];exact Nat.beq_refl _
 have h2:(Nat.beq 0 0 && Nat.ble (k+vs.length) cs.length && !false && vs.all cellB)=true:=by
  rw [(zX _ _).2 hk,hc];rfl
 have hl:ds.length=cs.length:=by rw [<- hd];simp;omega
 have hw:wK Z ⟨b,k,none⟩ vs=some (Z.own b ds n):=by
  unfold wK;simp only [h.get,yB,Option.getD_none,h2,cond_true,zCS,St.write_eq,hd];unfold St.own;rw [hl]
 have:zCP P Z t ⟨b,k,none⟩ v=some (Z.own b ds n):=by
  unfold zCP;rw [hv] at h1 ⊢;simp only [hs,h1,cond_true,hw]
 show (zCP P Z t ⟨b,k,none⟩ v).map _=_;rw [this];rfl
@[simp] theorem St.own_next (Z:St) (b:Nat) (cs:List Value) (n:Nat):(Z.own b cs n).y=Z.y:=rfl
@[simp] theorem St.own_low (Z:St) (b:Nat) (cs:List Value) (n:Nat):(Z.own b cs n).low=min Z.low b:=rfl
@[simp] theorem St.row_next (Z:St) (cs:List Value) (n:Nat):(Z.row cs n).y=Z.y+1:=rfl
@[simp] theorem St.row_low (Z:St) (cs:List Value) (n:Nat):(Z.row cs n).low=Z.low:=rfl

def SlP (Z:St) (n:Nat) (p:Option Addr) (len:Nat) (l:List Value):Prop :=
 l.length=len*n/\match p with
  | none=>len=0
  | some a=>Row Z a l
theorem SlP.le {n len:Nat} {p:Option Addr} {l:List Value} (h:SlP Z n p len l) (k:Le Z Z'):SlP Z' n p len l:=by
 refine ⟨h.1, ?_⟩
 cases p with
 | none=>exact h.2
 | some a=>exact Row.le h.2 k
theorem SlP.row {n len:Nat} {p:Option Addr} {l:List Value} (h:SlP Z n p len l) {ds:List Value} {m:Nat}:SlP (Z.row ds m) n p len l:=h.le (Le.row _ _ _)
theorem SlP.re {n len:Nat} {p:Option Addr} {l:List Value} (h:SlP Z n p len l):SlP Z.re n p len l:=h.le (Le.re' (Le.refl _))
theorem SlP.own {n len:Nat} {p:Option Addr} {l:List Value} (h:SlP Z n p len l) {b m:Nat} {ds:List Value} (hb:Z.y<=b\/∀ a,p=Option.some a->a.block≠b):SlP (Z.own b ds m) n p len l:=by
 refine ⟨h.1, ?_⟩
 cases p with
 | none=>exact h.2
 | some a =>
  have hr:Row Z a l:=h.2;exact hr.own (by rcases hb with hb | hb;exact (have:=hr.lt;by omega);exact hb a rfl)
theorem SlP.some {n len:Nat} {p:Option Addr} {l:List Value} (h:SlP Z n p len l) (hl:0<len):∃ a,p=.some a/\Row Z a l:=by
 cases p with
 | none=>have:=h.2;omega
 | some a=>exact ⟨a,rfl,h.2⟩
theorem Row.sl {len:Nat} (h:Row Z a cs) (hl:cs.length=len*n):SlP Z n (.some a) len cs:=⟨hl,h⟩
theorem SlP.nil (Z:St) (n:Nat):SlP Z n none 0 []:=⟨by simp,rfl⟩

def wBV (P:Program) (f:FuncId) (args:List Value) (Z:St) (v:Value) (Z':St):Prop:=∃ N0,∀ N,N0<=N->zV P N (.func f) args Z=some (v,Z')
def zD (P:Program) (f:FuncId) (args:List Value) (Z:St) (v:Value) (Z':St):Prop:=∃ N0,∀ N,N0<=N->vZ (zV P N) (.func f) args Z=some (v,Z')
end
end Go.Lay

namespace Go.Lay
open Go
variable {st xt n t i:Nat} {v:Value} {vs:List Value}

def Code.part:List Nat->Code->Code
 | 0::p,.seq a _=>Code.part p a
 | 1::p,.seq _ b=>Code.part p b
 | 0::p,.cond _ a _=>Code.part p a
 | 1::p,.cond _ _ b=>Code.part p b
 | 0::p,.block _ c=>Code.part p c
 | 0::p,.scope c=>Code.part p c
 | 0::p,.loop c=>Code.part p c
 | 0::p,.rangeFunc _ _ a _=>Code.part p a
 | 1::p,.rangeFunc _ _ _ b=>Code.part p b
 | _,c=>c
def zS (P:Program) (f:FuncId):Code:=match P.funcs[f]? with | some fn=>(match fn.body with | some c=>c | none=>.skip) | none=>.skip

def xZG (P:Program) (rd:Option Nat) (c:Code) (fr:Fr) (Z:St) (e:Exit) (fr':Fr) (Z':St):Prop :=
 ∃ N0,∀ N,N0<=N->yZ P (zV P N) N rd c fr Z=some (e,fr',Z')
def yTN (P:Program) (rd:Option Nat) (c:Code) (fr:Fr) (Z:St) (e:Exit) (fr':Fr) (Z':St):Prop :=
 ∃ N0,∀ N m,N0<=N->N0<=m->zDZ (yZ P (zV P N) N rd c) m fr Z=some (e,fr',Z')
section
variable {P:Program} {rd:Option Nat} {c:Code} {fr fr' fr₁:Fr} {Z Z' Z₁:St} {e:Exit}
theorem yTN.step (h:xZG P rd c fr Z .normal fr₁ Z₁) (k:yTN P rd c fr₁ Z₁ e fr' Z'):yTN P rd c fr Z e fr' Z':=by
 obtain ⟨N1,h1⟩:=h;obtain ⟨N2,h2⟩:=k;refine ⟨N1+N2+1,fun N m hN hm=>?_⟩
 obtain ⟨m,rfl⟩:∃ m',m=m'+1:=⟨m-1,by omega⟩;simp only [zDZ,h1 N (by omega)];exact h2 N m (by omega) (by omega)
theorem yTN.exit (h:xZG P rd c fr Z e fr' Z') (he:e≠.normal):yTN P rd c fr Z e fr' Z':=by
 obtain ⟨N1,h1⟩:=h;refine ⟨N1+1,fun N m hN hm=>?_⟩
 obtain ⟨m,rfl⟩:∃ m',m=m'+1:=⟨m-1,by omega⟩;simp only [zDZ,h1 N (by omega)];split
 ·rename_i heq;cases heq;exact absurd rfl he
 ·rfl
end

structure Keep (n0:Nat) (Z Z':St):Prop where
 y:Z.y<=Z'.y
 get:∀ b,b<n0->yJ Z'.heap b=yJ Z.heap b
 low:min Z.low n0<=Z'.low
section
variable {P:Program} {Z Z':St} {a:Addr} {cs:List Value} {n0:Nat}
theorem Keep.trans {Z₁ Z₂ Z₃:St} (h:Keep n0 Z₁ Z₂) (k:Keep n0 Z₂ Z₃):Keep n0 Z₁ Z₃:=⟨Nat.le_trans h.y k.y,fun b hb=>(k.get b hb).trans (h.get b hb),by have:=h.low;have:=k.low;omega⟩
theorem Keep.add (hn:n0<=Z.y) (y:Blk):Keep n0 Z (Z.add y):=⟨by simp,fun b hb=>by rw [St.add_get,if_neg (by omega)],by simp;omega⟩
theorem Keep.put {b:Nat} (hb:n0<=b) (y:Blk):Keep n0 Z (Z.put b y):=⟨by simp,fun c hc=>by rw [St.put_get,if_neg (by omega)],by simp;omega⟩
theorem Row.keep (h:Row Z a cs) (k:Keep n0 Z Z') (hb:a.block<n0):Row Z' a cs:=⟨by
 have:=h.rd
 unfold yU at this ⊢
 rw [k.get _ hb];exact this,Nat.lt_of_lt_of_le h.lt k.y⟩
theorem SlP.keep {n len:Nat} {p:Option Addr} {l:List Value} (h:SlP Z n p len l) (k:Keep Z.y Z Z'):SlP Z' n p len l:=by
 refine ⟨h.1, ?_⟩
 cases p with
 | none=>exact h.2
 | some a =>
  have hr:Row Z a l:=h.2;exact hr.keep k hr.lt

inductive App (Z:St) (n0 n:Nat):Value->Nat->List Value->Prop
 | nil:App Z n0 n (.slice none 0 0) 0 []
 | more {b s nx len:Nat} {cs:List Value} {sp:Option Nat} {log:List (Nat × Nat)} (h:yJ Z.heap b=some (.cells cs n ((s,cs.length)::log) nx false)) (hs:sp.getD 0=s) (hb:n0<=b) (hlt:b<Z.y) (hl:cs.length=len*n) (hp:0<len) (hsn:s<nx) :
   App Z n0 n (.slice (some ⟨b,0,sp⟩) len (len+uB)) len cs

def xPW:TypeDesc->Bool
 | .int _=>true
 | _=>false
structure AppT (P:Program) (st xt e n:Nat):Prop where
 el:wC P st=some (e,n)
 src:∃ xd,P.underlying xt=some xd/\xPW xd=false
 info:∃ ei z,P.info? e=some ei/\ei.zero=some z/\ei.bytes<=4096/\zW RD z=true/\Nat.beq z.cells.toList.length n=true
 le:n<=4096
 pos:0<n
def xZD (P:Program) (st xt e n:Nat):Bool :=
 (match wC P st with | some (e',n')=>Nat.beq e e' && Nat.beq n n' | none=>false) &&
 (match P.underlying xt with | some xd=>!xPW xd | none=>false) &&
 (match P.info? e with | some ei=>(match ei.zero with | some z=>Nat.ble ei.bytes 4096 && zW RD z && Nat.beq z.cells.toList.length n | none=>false) | none=>false) &&
 Nat.ble n 4096 && Nat.blt 0 n
theorem zMV {P:Program} {e:Nat} (h:xZD P st xt e n=true):AppT P st xt e n:=by
 unfold xZD at h;simp only [Bool.and_eq_true] at h;obtain ⟨⟨⟨⟨h1,h2⟩,h3⟩,h4⟩,h5⟩:=h;refine ⟨?_, ?_, ?_,(zX _ _).1 h4,(zX _ _).1 h5⟩
 ·split at h1
  ·rename_i e' n' he;simp only [Bool.and_eq_true] at h1;rw [he,Nat.eq_of_beq_eq_true h1.1,Nat.eq_of_beq_eq_true h1.2]
  ·cases h1
 ·split at h2
  ·rename_i xd hx;exact ⟨xd,hx,by simpa using h2⟩
  ·cases h2
 ·split at h3
  ·rename_i ei hi;split at h3
   ·rename_i z hz;simp only [Bool.and_eq_true] at h3;exact ⟨ei,z,hi,hz,(zX _ _).1 h3.1.1,h3.1.2,h3.2⟩
   ·cases h3
  ·cases h3

theorem zAS (x:Nat):yO (x+uB)=x:=by unfold yO;rw [if_pos (by omega)];omega
theorem zFN (x:Nat):yV (x+uB)=false:=by rw [Bool.eq_false_iff];intro e;have:=(xC _).1 e;omega
theorem vX:0<uB:=by unfold uB;decide

theorem xBC {e m k len:Nat} {a2:Addr} {xs:List Value} (T:AppT P st xt e n) (hA:App Z n0 n v len cs) (hr:Row Z a2 xs) (hm:xs.length=m*n) (hp:0<m) (hroom:len+m<=1073741824) (hc:xs.all cellB=true) (hn0:n0<=Z.y) :
  ∃ v' Z',yF P st xt v (.slice (some a2) m k) Z=some (v',Z')/\App Z' n0 n v' (len+m) (cs++xs)/\Keep n0 Z Z':=by
 obtain ⟨xd,hxd,hxi⟩:=T.src;obtain ⟨ei,z,hei,hz,hby,hrz,hzl⟩:=T.info;have hrd:=hr.rd;rw [hm] at hrd;have hsrc:zAJ Z n z xd (.slice (some a2) m k)=some (m,xs):=by
  unfold zAJ;cases xd with
  | int _=>cases hxi
  | _=>simp only [vI,hrd,Option.map_some]
 have hcond:(zAO (len+m) n ei.bytes && xs.all cellB && Nat.beq xs.length (m*n) && zW RD z && Nat.beq z.cells.toList.length n)=true:=by
  unfold zAO;rw [(zX _ _).2 hroom,(zX _ _).2 T.le,(zX _ _).2 hby,hc,hm,Nat.beq_refl,hrz,hzl];rfl
 have hble:∀ x:Nat,Nat.ble (x+m) x=false:=fun x=>by rw [Bool.eq_false_iff];intro e;have:=(zX _ _).1 e;omega
 cases hA with
 | nil =>
  refine ⟨.slice (some ⟨Z.y,0,none⟩) (0+m) (0+m+uB),Z.add (.cells xs n [(0,xs.length)] 1 false), ?_, ?_,Keep.add hn0 _⟩
  ·have hc0:yO 0=0:=by unfold yO;have:=vX;rw [if_neg (by omega)]
   have hc1:yV 0=true:=(xC 0).2 vX;unfold yF;simp only [T.el,hxd,hei,hz,hsrc,hcond,cond_true,vH,hc0,hble,cond_false,hc1,Nat.beq_refl,yP]
  ·have e1:0+m=m:=Nat.zero_add m;rw [e1,List.nil_append];exact .more (b:=Z.y) (s:=0) (nx:=1) (log:=[]) (by rw [St.add_get,if_pos rfl]) rfl hn0 (by simp) hm hp (by omega)
 | @more b s nx _ _ sp log h hs hb hlt hl hpp hsn =>
  have hex:wX ((s,cs.length)::log) (yB ⟨b,0,sp⟩)=some cs.length:=by
   have:Nat.beq s (yB ⟨b,0,sp⟩)=true:=by unfold yB;simp only [hs];exact Nat.beq_refl _
   simp only [wX,this,cond_true]
  have hlf:wN ((s,cs.length)::log) (yB ⟨b,0,sp⟩)=(s,cs.length)::log:=by
   have:Nat.beq s (yB ⟨b,0,sp⟩)=true:=by unfold yB;simp only [hs];exact Nat.beq_refl _
   simp only [wN,this,cond_true]
  have hg:(Nat.beq len len && Nat.beq (0+len*n) cs.length && Nat.beq n n && !false && Nat.blt 0 n)=true:=by
   rw [Nat.beq_refl,Nat.zero_add,hl,Nat.beq_refl,Nat.beq_refl,(xY 0 n).2 T.pos];rfl
  refine ⟨.slice (some ⟨b,0,some nx⟩) (len+m) (len+m+uB),Z.put b (.cells (cs.take cs.length++xs) n ((nx,cs.length+m*n)::(s,cs.length)::log) (nx+1) false), ?_, ?_,Keep.put hb _⟩
  ·unfold yF;simp only [T.el,hxd,hei,hz,hsrc,hcond,cond_true,vH,zAS,hble,cond_false,zFN,zIH,h,hex,hg,zCS,wI,St.write_eq,hlf]
  ·refine .more (b:=b) (s:=nx) (nx:=nx+1) (log:=(s,cs.length)::log) ?_ rfl hb hlt ?_ (by omega) (by omega)
   ·rw [St.put_get,if_pos rfl,List.take_length];simp [hm]
   ·simp [hl,hm,Nat.add_mul]
theorem App.sl {len:Nat} (h:App Z n0 n v len cs):∃ p cap,v=.slice p len cap/\SlP Z n p len cs:=by
 cases h with
 | nil=>exact ⟨none,0,rfl,SlP.nil _ _⟩
 | @more b s nx _ _ sp log h hs hb hlt hl hp hsn =>
  refine ⟨_,_,rfl,hl, ?_,hlt⟩
  have hex:wX ((s,cs.length)::log) (yB ⟨b,0,sp⟩)=some cs.length:=by
   have:Nat.beq s (yB ⟨b,0,sp⟩)=true:=by unfold yB;simp only [hs];exact Nat.beq_refl _
   simp only [wX,this,cond_true]
  have h2:Nat.ble (0+cs.length) cs.length=true:=(zX _ _).2 (by omega);unfold yU;simp only [h,hex,h2,cond_true,List.drop_zero,List.take_length]
theorem App.keep {len:Nat} (h:App Z n0 n v len cs) (hk:Le Z Z'):App Z' n0 n v len cs:=by
 cases h with
 | nil=>exact .nil
 | more h hs hb hlt hl hp hsn=>exact .more (by rw [hk.get _ hlt];exact h) hs hb (Nat.lt_of_lt_of_le hlt hk.y) hl hp hsn
def wD (vs:List Value):List Value:=vs.flatMap fun v=>v.cells.toList
def zFL (P:Program) (t:TypeId) (n:Nat) (v:Value):Prop :=
 (wE P t=some false/\n=1/\v.cells.toList=[v])\/(wE P t=some true/\yS P t=some n/\∃ cs:List Value,v=.agg ⟨cs⟩/\cs.length=n)
theorem zFL.len (h:zFL P t n v):v.cells.toList.length=n:=by
 rcases h with ⟨_,h1,h2⟩ | ⟨_,_,ds,rfl,h⟩
 ·rw [h2,h1];rfl
 ·exact h
theorem yBQ {t n:Nat}:∀ {vs:List Value} {i:Nat} {v:Value},(∀ v∈vs,zFL P t n v)->vs[i]?=some v->((wD vs).drop (i*n)).take n=v.cells.toList/\i*n+n<=(wD vs).length
 | [],i,v,_,h=>by simp at h
 | x::vs,0,v,hv,h=>by
  simp at h;subst h;have h1:=(hv x (by simp)).len;unfold wD;rw [List.flatMap_cons,Nat.zero_mul,List.drop_zero,Nat.zero_add,List.length_append];exact ⟨by rw [<- h1,List.take_left'  rfl],by omega⟩
 | x::vs,i+1,v,hv,h=>by
  have h1:=(hv x (by simp)).len;have ih:=yBQ (vs:=vs) (i:=i) (v:=v) (fun x hx=>hv x (by simp [hx])) (by simpa using h);unfold wD at ih ⊢;rw [List.flatMap_cons,Nat.add_mul,Nat.one_mul,List.length_append];refine ⟨?_,by omega⟩
  rw [show i*n+n=x.cells.toList.length+i*n by omega,List.drop_append];simp only [Nat.add_sub_cancel_left];rw [List.drop_of_length_le (by omega),List.nil_append];exact ih.1
theorem Row.el (h:Row Z a (wD vs)) (he:∀ v∈vs,zFL P t n v) (hv:vs[i]?=some v):zB P Z t (zJ a (i*n))=some v:=by
 obtain ⟨h1,h2⟩:=yBQ he hv;rcases he v (List.mem_of_getElem? hv) with ⟨g1,g2,g3⟩ | ⟨g1,g2,ds,rfl,g3⟩
 ·subst g2;refine h.load1 g1 ?_
  rw [g3] at h1;have:=congrArg (fun l=>l[0]?) h1;simp only [List.getElem?_cons_zero] at this;rw [List.getElem?_take_of_lt (by omega),List.getElem?_drop] at this;simpa using this
 ·exact h.loadN g1 g2 h1 g3 h2
def SlV (P:Program) (Z:St) (t n:Nat) (p:Option Addr) (len:Nat) (vs:List Value):Prop:=SlP Z n p len (wD vs)/\vs.length=len/\∀ v∈vs,zFL P t n v
theorem SlV.le {t n len:Nat} {p:Option Addr} {vs:List Value} (h:SlV P Z t n p len vs) (k:Le Z Z'):SlV P Z' t n p len vs:=⟨h.1.le k,h.2⟩
theorem SlV.row {t n len:Nat} {p:Option Addr} {vs:List Value} (h:SlV P Z t n p len vs) {ds:List Value} {m:Nat}:SlV P (Z.row ds m) t n p len vs:=⟨h.1.row,h.2⟩
theorem SlV.re {t n len:Nat} {p:Option Addr} {vs:List Value} (h:SlV P Z t n p len vs):SlV P Z.re t n p len vs:=⟨h.1.re,h.2⟩
theorem SlV.keep {t n len:Nat} {p:Option Addr} {vs:List Value} (h:SlV P Z t n p len vs) (k:Keep Z.y Z Z'):SlV P Z' t n p len vs:=⟨h.1.keep k,h.2⟩
theorem SlV.own {t n len:Nat} {p:Option Addr} {vs:List Value} (h:SlV P Z t n p len vs) {b m:Nat} {ds:List Value} (hb:Z.y<=b\/∀ a,p=Option.some a->a.block≠b):SlV P (Z.own b ds m) t n p len vs:=⟨h.1.own hb,h.2⟩
theorem SlV.some {t n len i:Nat} {p:Option Addr} {vs:List Value} (h:SlV P Z t n p len vs) (hi:i<len):∃ a,p=.some a/\Row Z a (wD vs):=h.1.some (by omega)
theorem SlV.at {len:Nat} {p:Option Addr} {a:Addr} (h:SlV P Z t n p len vs) (hp:p=Option.some a) (hv:vs[i]?=Option.some v):zB P Z t (zJ a (Int.toNat (i:Int)*n))=Option.some v:=by
 subst hp;have hr:Row Z a (wD vs):=h.1.2;rw [Int.toNat_natCast];exact hr.el h.2.2 hv
theorem vY (h:wE P t=some false) (k:IntKind) (n:Int):zFL P t 1 (.int k n):=.inl ⟨h,rfl,rfl⟩

end
end Go.Lay

namespace Go.Lay
open Go

def zJG (U:Inj) (b c o z:Nat):Inj:={ U with loc:=fun b' s=>if b'=b/\s=0 then some ⟨c,0,o,z⟩ else U.loc b' s }
structure Ro (U:Inj) (w:World):Prop where
 own:∀ c,U.own c=none
 csz:∀ (c:Nat) arr el fr,w.heap[c]?=some (.cells arr el fr)->U.csz c=arr.size
def yOD (w:World):Inj:={ loc:=fun _ _=>none,own:=fun _=>none,csz:=fun c=>match w.heap[c]? with | some (.cells arr _ _)=>arr.size | _=>0 }
theorem xML (w:World):Rep (yOD w) xPA w/\Ro (yOD w) w :=
 ⟨⟨fun b y h=>by simp [xPA,yJ,Tr.getP_leaf] at h,fun _ _ _ h=>by simp [yOD] at h,fun _ _ h=>by simp [yOD] at h,fun _ _ _=>rfl⟩,⟨fun _=>rfl,fun c arr el fr h=>by simp [yOD,h]⟩⟩

section
variable {P:Program} {w:World} {U:Inj} {Z Z':St}

theorem yFG (hr:Rep U Z w) (c o z:Nat):Sub U (zJG U Z.y c o z):=by
 refine ⟨fun b s L h=>?_,fun _ _ _ _=>rfl⟩
 simp only [zJG];rw [if_neg];exact h;rintro ⟨rfl,rfl⟩;rw [hr.fresh _ _ (Nat.le_refl _)] at h;cases h

theorem wBT (hr:Rep U Z w) (ho:Ro U w) {c o:Nat} {arr:Array Value} {el:TypeId} {fr:Nat × Nat} (hc:w.heap[c]?=some (.cells arr el fr)) {rs:List Value} (z:Nat) (hl:o+rs.length<=arr.size)
  (hv:∀ (j:Nat) v,rs[j]?=some v->∃ v',arr[o+j]?=some v'/\VR U v v') :
  Rep (zJG U Z.y c o z) (Z.add (.cells rs z [(0,rs.length)] 1 true)) w/\Ro (zJG U Z.y c o z) w:=by
 have hs:=yFG hr c o z;have hcw:c<w.heap.size:=by
  have:=(Array.getElem?_eq_some_iff.1 hc).1;exact this
 refine ⟨⟨fun b y hb=>?_,fun b s L h=>?_,fun c' b h=>?_,fun b s h=>?_⟩,⟨ho.own,ho.csz⟩⟩
 ·rw [St.add_get] at hb;by_cases hbn:b=Z.y
  ·rw [if_pos hbn] at hb;cases hb;subst hbn;refine ⟨by simp,.cells (fun s e hm=>?_) (by simp) (fun s₁ e₁ s₂ e₂ L₁ L₂ h₁ h₂ l₁ l₂ _=>?_) (fun s hs'=>?_)⟩
   ·simp at hm;obtain ⟨rfl,rfl⟩:=hm;refine ⟨by omega,Nat.le_refl _,⟨c,0,o,z⟩,by simp [zJG],⟨arr,el,fr,hc,(ho.csz _ _ _ _ hc).symm,by simp,by simpa using hl,fun j _ h2=>?_⟩,rfl,Nat.zero_le _,by simpa [zJG] using ho.own c⟩
    obtain ⟨v',g1,g2⟩:=hv j rs[j] (by simp [h2]);exact ⟨rs[j],v',by simp [h2],by simpa using g1,g2.sub hs⟩
   ·simp at h₁ h₂;obtain ⟨rfl,_⟩:=h₁;obtain ⟨rfl,_⟩:=h₂;rw [l₁] at l₂;cases l₂;rfl
   ·simp only [zJG];rw [if_neg (by omega)];exact hr.fresh _ _ (Nat.le_refl _)
  ·rw [if_neg hbn] at hb;have h:=hr.blk b y hb;refine ⟨by simp;omega,h.2.keepS hs (fun s L _=>rfl) (fun _ _ _ _=>rfl) (fun cs esz log next ro hyy s hs'=>?_)⟩
   have:=h.2;subst hyy;cases this with
   | cells _ _ _ fresh =>
    simp only [zJG];rw [if_neg (fun e=>hbn e.1)];exact fresh s hs'
 ·simp only [zJG] at h;split at h
  ·cases h;exact hcw
  ·exact hr.lt _ _ _ h
 ·have:U.own c'=some b:=h;rw [ho.own c'] at this;cases this
 ·simp only [zJG];simp at h;rw [if_neg (by omega)];exact hr.fresh _ _ (by omega)

def zTQ (P:Program):List Field->Nat->Nat->Bool
 | [],o,tot=>Nat.beq o tot
 | f::fs,o,tot=>Nat.beq f.offset o && zTQ P fs (o+P.cellsOf f.type) tot
def zHI (P:Program):Nat->TypeId->Bool
 | 0,_=>false
 | n+1,t=>match P.underlying t with
  | some .bool=>true
  | some (.int _)=>true
  | some .string=>true
  | some (.slice e)=>Nat.blt 0 (P.cellsOf e) && zHI P n e
  | some (.struct fs)=>zTQ P fs.toList 0 (P.cellsOf t) && fs.toList.all fun f=>zHI P n f.type
  | _=>false
def WT (P:Program) (Z:St):Nat->TypeId->List Value->Prop
 | 0,_,_=>False
 | n+1,t,cs=>match P.underlying t with
  | some .bool=>∃ b,cs=[.bool b]
  | some (.int k)=>∃ i,cs=[.int k i]/\k.min<=i/\i<=k.max
  | some .string=>∃ s:ByteArray,cs=[.string s]/\s.size<=maxLen
  | some (.slice e)=>cs=[.slice none 0 0]\/∃ b len cap rs,cs=[.slice (some ⟨b,0,none⟩) len cap]/\len<=maxLen/\(len<=yO cap/\yV cap=true)/\rs.length=len*P.cellsOf e /\
    yJ Z.heap b=some (.cells rs (P.cellsOf e) [(0,rs.length)] 1 true)/\b<Z.y/\∀ i,i<len->WT P Z n e ((rs.drop (i*P.cellsOf e)).take (P.cellsOf e))
  | some (.struct fs)=>cs.length=P.cellsOf t/\∀ f∈fs.toList,f.offset+P.cellsOf f.type<=cs.length/\WT P Z n f.type ((cs.drop f.offset).take (P.cellsOf f.type))
  | _=>False

theorem WT.le:∀ {n:Nat} {t:TypeId} {cs:List Value},WT P Z n t cs->Le Z Z'->WT P Z' n t cs:=by
 intro n;induction n with
 | zero=>intro t cs h;exact h.elim
 | succ n ih =>
  intro t cs h k;unfold WT at h ⊢;split at h <;> rename_i hu
  ·exact h
  ·exact h
  ·exact h
  ·rcases h with h | ⟨b,len,cap,rs,h1,h2,h3,h4,h5,h6,h7⟩
   ·exact .inl h
   ·exact .inr ⟨b,len,cap,rs,h1,h2,h3,h4,by rw [k.get _ h6];exact h5,Nat.lt_of_lt_of_le h6 k.y,fun i hi=>ih (h7 i hi) k⟩
  ·exact ⟨h.1,fun f hf=>⟨(h.2 f hf).1,ih (h.2 f hf).2 k⟩⟩
  ·exact h.elim

theorem ySK {a:Addr} {arr:Array Value} {el:TypeId} {fr:Nat × Nat} (hc:w.heap[a.block]?=some (.cells arr el fr)) (hs:a.spot=none) (m i:Nat):w.cell? ((a.add m).add i)=arr[a.off+m+i]?:=by
 have key:∀ (x:Addr) (j:Nat),x.spot=none->(x.add j).block=x.block/\(x.add j).off=x.off+j/\(x.add j).spot=none:=by
  intro x j hx;unfold Addr.add;split
  ·rename_i e;subst e;exact ⟨rfl,rfl,hx⟩
  ·exact ⟨rfl,rfl,rfl⟩
 obtain ⟨k1,k2,k3⟩:=key a m hs;obtain ⟨k4,k5,k6⟩:=key (a.add m) i k3;simp only [World.cell?,k4,k1,hc,k6,k5,k2,Option.isSome_none];rfl

variable {H:Type} {enc:TypeId × Value->H} {held:Bool}

def zPI (w:World) (cs':List Value):Prop:=∀ A len cap,Value.slice (some A) len cap∈cs'->∃ (c:Nat) (arr:Array Value) (el:TypeId) (fr:Nat × Nat),w.heap[c]?=some (.cells arr el fr)
def yJB (P:Program) (w:World) (U:Inj) (Z:St) (cs':List Value) (Q:St->List Value->Prop):Prop :=
 ∃ U' Z' cs,Rep U' Z' w/\Ro U' w/\Sub U U'/\Le Z Z'/\VRs U' cs cs'/\Q Z' cs

theorem yIL:∀ {fs:List Field} {o tot:Nat},zTQ P fs o tot=true->o<=tot
 | [],o,tot,h=>by have:=Nat.eq_of_beq_eq_true h;omega
 | f::fs,o,tot,h=>by
  simp only [zTQ,Bool.and_eq_true] at h;have:=yIL h.2;omega

theorem yPX {n fuel:Nat}
  (ih:∀ t,zHI P n t=true->∀ fuel cs' x U Z,DataW.trod enc P w 0 (fun _=>true) held fuel t cs'=some x->Rep U Z w->Ro U w->zPI w cs'->yJB P w U Z cs' fun Z' cs=>WT P Z' n t cs) {cs':List Value} (hrow:zPI w cs') :
  ∀ (fs:List Field) (o:Nat) (U:Inj) (Z:St),zTQ P fs o cs'.length=true->(∀ f∈fs,zHI P n f.type=true)->(∀ f∈fs,∃ x,DataW.trod enc P w 0 (fun _=>true) held fuel f.type ((cs'.drop f.offset).take (P.cellsOf f.type))=some x) ->
   Rep U Z w->Ro U w->yJB P w U Z (cs'.drop o) fun Z' cs=>∀ f∈fs,o<=f.offset/\f.offset+P.cellsOf f.type<=cs'.length/\WT P Z' n f.type ((cs.drop (f.offset-o)).take (P.cellsOf f.type)):=by
 intro fs;induction fs with
 | nil =>
  intro o U Z hc _ _ hr ho;have:=Nat.eq_of_beq_eq_true hc;refine ⟨U,Z,[],hr,ho,Sub.refl _,Le.refl _, ?_,fun f hf=>by cases hf⟩
  rw [List.drop_of_length_le (by omega)];exact .nil
 | cons f fs ihf =>
  intro o U Z hc hp ht hr ho;simp only [zTQ,Bool.and_eq_true] at hc;have hoff:=Nat.eq_of_beq_eq_true hc.1;have hle:=yIL hc.2;obtain ⟨x,hx⟩:=ht f (by simp);obtain ⟨U₁,Z₁,c1,r1,o1,s1,l1,v1,w1⟩:=ih f.type (hp f (by simp)) _ _ _ U Z hx hr ho (fun A len cap hm=>hrow A len cap (List.mem_of_mem_drop (List.mem_of_mem_take hm)));obtain ⟨U₂,Z₂,c2,r2,o2,s2,l2,v2,w2⟩:=ihf (o+P.cellsOf f.type) U₁ Z₁ hc.2 (fun g hg=>hp g (by simp [hg])) (fun g hg=>ht g (by simp [hg])) r1 o1;have hlen:c1.length=P.cellsOf f.type:=by rw [v1.length];simp;omega
  refine ⟨U₂,Z₂,c1++c2,r2,o2,s1.trans s2,l1.trans l2, ?_,fun g hg=>?_⟩
  ·have e:cs'.drop o=(cs'.drop f.offset).take (P.cellsOf f.type)++cs'.drop (o+P.cellsOf f.type):=by
    rw [hoff,<- List.drop_drop,List.take_append_drop]
   rw [e];exact VRs.append (v1.sub s2) v2
  ·rcases List.mem_cons.1 hg with rfl | hg
   ·refine ⟨by omega,by omega, ?_⟩
    rw [hoff,Nat.sub_self,List.drop_zero,<- hlen,List.take_left']
    ·exact w1.le l2
    ·rfl
   ·obtain ⟨g1,g2,g3⟩:=w2 g hg;refine ⟨by omega,g2, ?_⟩
    have e:(c1++c2).drop (g.offset-o)=c2.drop (g.offset-(o+P.cellsOf f.type)):=by
     rw [List.drop_append,List.drop_of_length_le (by omega),List.nil_append];congr 1;omega
    rw [e];exact g3

theorem yAJ {n fuel:Nat} {e:TypeId} {a:Addr} {arr:Array Value} {el:TypeId} {fr:Nat × Nat} (hc:w.heap[a.block]?=some (.cells arr el fr)) (hs:a.spot=none)
  (ih:∀ fuel cs' x U Z,DataW.trod enc P w 0 (fun _=>true) held fuel e cs'=some x->Rep U Z w->Ro U w->zPI w cs'->yJB P w U Z cs' fun Z' cs=>WT P Z' n e cs) (hr:Rep U Z w) (ho:Ro U w) :
  ∀ (k:Nat),(∀ i,i<k->∃ x,(w.cells? 0 (a.add (i*P.cellsOf e)) (P.cellsOf e)).bind (DataW.trod enc P w 0 (fun _=>true) held fuel e)=some x) ->
   ∃ (U':Inj) (Z':St) (rs:List Value),Rep U' Z' w/\Ro U' w/\Sub U U'/\Le Z Z'/\rs.length=k*P.cellsOf e/\(∀ i,i<k->WT P Z' n e ((rs.drop (i*P.cellsOf e)).take (P.cellsOf e))) /\
    ∀ (j:Nat) v,rs[j]?=some v->∃ v',arr[a.off+j]?=some v'/\VR U' v v'
 | 0,_=>⟨U,Z,[],hr,ho,Sub.refl _,Le.refl _,by simp,fun i hi=>by omega,fun j v h=>by simp at h⟩
 | k+1,ht=>by
  obtain ⟨U₁,Z₁,rs,r1,o1,s1,l1,n1,w1,v1⟩:=yAJ hc hs ih hr ho k (fun i hi=>ht i (by omega));obtain ⟨x,hx⟩:=ht k (by omega);simp only [Option.bind_eq_some_iff] at hx;obtain ⟨chunk,hch,hx⟩:=hx;obtain ⟨_,hlen,hcells⟩:=World.cells?_some hch;obtain ⟨U₂,Z₂,c,r2,o2,s2,l2,v2,w2⟩:=ih _ _ _ U₁ Z₁ hx r1 o1 (fun _ _ _ _=>⟨_,_,_,_,hc⟩);have hcl:c.length=P.cellsOf e:=by rw [v2.length];exact hlen
  refine ⟨U₂,Z₂,rs++c,r2,o2,s1.trans s2,l1.trans l2,by rw [List.length_append,n1,hcl,Nat.add_mul];omega,fun i hi=>?_,fun j v hj=>?_⟩
  ·by_cases hik:i<k
   ·have h1:i*P.cellsOf e+P.cellsOf e<=rs.length:=by
     rw [n1,show i*P.cellsOf e+P.cellsOf e=(i+1)*P.cellsOf e by rw [Nat.add_mul,Nat.one_mul]];exact Nat.mul_le_mul_right _ hik
    have e1:((rs++c).drop (i*P.cellsOf e)).take (P.cellsOf e)=(rs.drop (i*P.cellsOf e)).take (P.cellsOf e):=by
     rw [List.drop_append_of_le_length (by omega),List.take_append_of_le_length (by simp;omega)]
    rw [e1];exact (w1 i hik).le l2
   ·have:i=k:=by omega
    subst this;rw [<- n1,List.drop_left' rfl,List.take_of_length_le (by omega)];exact w2
  ·by_cases hjr:j<rs.length
   ·rw [List.getElem?_append_left hjr] at hj;obtain ⟨v',g1,g2⟩:=v1 j v hj;exact ⟨v',g1,g2.sub s2⟩
   ·rw [List.getElem?_append_right (by omega)] at hj;obtain ⟨v',g1,g2⟩:=v2.get_some hj;have hjc:j-rs.length<P.cellsOf e:=by rw [<- hcl];exact (List.getElem?_eq_some_iff.1 hj).1
    refine ⟨v', ?_,g2⟩
    have:=hcells (j-rs.length) hjc;rw [ySK hc hs,g1] at this;rw [<- this,<- n1];congr 1;omega

theorem yXZ:∀ (n:Nat) (t:TypeId),zHI P n t=true->∀ (fuel:Nat) (cs':List Value) (x:DataW H × List MemPlace) (U:Inj) (Z:St),DataW.trod enc P w 0 (fun _=>true) held fuel t cs'=some x->Rep U Z w->Ro U w->zPI w cs' ->
  yJB P w U Z cs' fun Z' cs=>WT P Z' n t cs:=by
 intro n;induction n with
 | zero=>intro t h;simp [zHI] at h
 | succ n ih =>
  intro t hp fuel cs' x U Z h hr ho hrow;have one:∀ (v:Value),zW RD v=true->cs'=[v]->WT P Z (n+1) t [v]->yJB P w U Z cs' fun Z' cs=>WT P Z' (n+1) t cs :=
   fun v hv e hw=>⟨U,Z,[v],hr,ho,Sub.refl _,Le.refl _,by rw [e];exact .cons (.refl_rigid _ hv) .nil,hw⟩
  unfold zHI at hp;split at hp <;> rename_i hu
  ·obtain ⟨b,e,_⟩:=DataW.trod_bool hu h;exact one _ rfl e (by unfold WT;rw [hu];exact ⟨b,rfl⟩)
  ·obtain ⟨i,e,_,hw⟩:=DataW.trod_int hu h;exact one _ rfl e (by unfold WT;rw [hu];exact ⟨i,rfl,by simpa [Lit.wf] using hw⟩)
  ·obtain ⟨s,e,_,hw⟩:=DataW.trod_string hu h;exact one _ rfl e (by unfold WT;rw [hu];exact ⟨s,rfl,hw⟩)
  ·rename_i e;simp only [Bool.and_eq_true] at hp;have hpos:0<P.cellsOf e:=(xY _ _).1 hp.1;rcases DataW.trod_slice hu h with ⟨hcs,_⟩ | ⟨a,len,cap,elems,rest,m,rfl,hcs,_,_,hle,hmax,hel,hget,hrest,_⟩
   ·exact one _ rfl hcs (by unfold WT;rw [hu];exact .inl rfl)
   ·have hx:yV cap=true:=(xC cap).2 (by unfold uB;unfold maxLen at hmax;omega);obtain ⟨capA,hcapR,hcl,hc0⟩:∃ capA,zKX capA cap/\(len<=yO capA/\yV capA=true)/\(cap=0->capA=0) :=
     ⟨cap,by unfold zKX;rw [if_pos hx],⟨by have:=(xC cap).1 hx;unfold yO;rw [if_neg (by omega)];exact hle,hx⟩,fun e=>e⟩
    have fin:∀ {U₁:Inj} {Z₁:St} {rs:List Value} {c o:Nat} {arr:Array Value} {el:TypeId} {fr:Nat × Nat},Rep U₁ Z₁ w->Ro U₁ w->Sub U U₁->Le Z Z₁->w.heap[c]?=some (.cells arr el fr)->rs.length=len*P.cellsOf e ->
      (∀ i,i<len->WT P Z₁ n e ((rs.drop (i*P.cellsOf e)).take (P.cellsOf e)))->(∀ (j:Nat) v,rs[j]?=some v->∃ v',arr[o+j]?=some v'/\VR U₁ v v')->o+cap*P.cellsOf e<=arr.size ->
      (a=⟨c,o,none⟩\/(len=0/\capA=0/\cap=0))->yJB P w U Z cs' fun Z' cs=>WT P Z' (n+1) t cs:=by
     intro U₁ Z₁ rs c o arr el fr hr1 ho1 hs1 hl1 hc hlen hw hv hsz hA
     have hlo:len*P.cellsOf e<=cap*P.cellsOf e:=Nat.mul_le_mul_right _ hle
     obtain ⟨g1,g2⟩:=wBT hr1 ho1 hc (P.cellsOf e) (by omega) hv
     have hsub:=yFG hr1 c o (P.cellsOf e)
     refine ⟨_,_,[.slice (some ⟨Z₁.y,0,none⟩) len capA],g1,g2,hs1.trans hsub,hl1.trans (Le.add _ _), ?_, ?_⟩
     ·rw [hcs];refine .cons (.slice (L:=⟨c,0,o,P.cellsOf e⟩) (by simp [zJG,yB]) (Nat.zero_le _) ?_ hcapR ?_) .nil
      ·rcases hA with rfl | hA
       ·exact .inl (by simp [Loc.at])
       ·exact .inr ⟨hA.1,by rw [hA.2.1];unfold yO;split <;> omega,hA.2.2⟩
      ·show o+(0-0)+cap*P.cellsOf e<=U₁.csz c;rw [ho1.csz _ _ _ _ hc];omega
     ·unfold WT;rw [hu];refine .inr ⟨Z₁.y,len,capA,rs,rfl,by omega,hcl,hlen,by rw [St.add_get,if_pos rfl],by simp,fun i hi=>(hw i hi).le (Le.add _ _)⟩
    by_cases hcap:cap=0
    ·subst hcap;have hl0:len=0:=by omega
     have hca:capA=0:=hc0 rfl;obtain ⟨c,arr,el,fr,hc⟩:=hrow a len 0 (by rw [hcs];simp);exact fin (rs:=[]) (o:=0) hr ho (Sub.refl _) (Le.refl _) hc (by rw [hl0];simp) (fun i hi=>by omega) (fun j v hj=>by simp at hj) (by omega) (.inr ⟨hl0,hca,rfl⟩)
    ·have hall:∀ i,i<cap->∃ x,(w.cells? 0 (a.add (i*P.cellsOf e)) (P.cellsOf e)).bind (DataW.trod enc P w 0 (fun _=>true) held m e)=some x:=by
      intro i hi;by_cases hil:i<len
      ·exact ⟨elems[i]'(by omega),by rw [hget i hil];simp⟩
      ·obtain ⟨r1,r2⟩:=hrest rfl;have:=r2 (i-len) (by omega);rw [show len+(i-len)=i by omega] at this;exact ⟨rest[i-len]'(by omega),by rw [this];simp⟩
     obtain ⟨x0,hx0⟩:=hall 0 (by omega);simp only [Option.bind_eq_some_iff] at hx0;obtain ⟨ch0,hc0,_⟩:=hx0;obtain ⟨_,hl0,hcell0⟩:=World.cells?_some hc0;have h00:=hcell0 0 hpos;have ha0:(a.add (0*P.cellsOf e)).add 0=a:=by simp [Addr.add]
     rw [ha0] at h00;have hsome:∃ v,w.cell? a=some v:=⟨ch0[0]'(by omega),by rw [h00];simp⟩;obtain ⟨v0,hv0⟩:=hsome;obtain ⟨arr,el,fr,hc,hsp⟩:∃ arr el fr,w.heap[a.block]?=some (.cells arr el fr)/\a.spot=none:=by
      unfold World.cell? at hv0;split at hv0
      ·rename_i arr el fr hc;refine ⟨arr,el,fr,hc, ?_⟩
       cases hs:a.spot with
       | none=>rfl
       | some s=>rw [hs] at hv0;simp at hv0
      ·cases hv0
     obtain ⟨U₁,Z₁,rs,r1,o1,s1,l1,n1,w1,v1⟩:=yAJ hc hsp (fun fuel cs' x U Z=>ih e hp.2 fuel cs' x U Z) hr ho len (fun i hi=>hall i (by omega));refine fin r1 o1 s1 l1 hc n1 w1 v1 ?_ (.inl ?_)
     ·obtain ⟨x1,hx1⟩:=hall (cap-1) (by omega);simp only [Option.bind_eq_some_iff] at hx1;obtain ⟨ch1,hc1,_⟩:=hx1;obtain ⟨_,hl1,hcell1⟩:=World.cells?_some hc1;have h1:=hcell1 (P.cellsOf e-1) (by omega);rw [ySK hc hsp] at h1;have hb:a.off+(cap-1)*P.cellsOf e+(P.cellsOf e-1)<arr.size:=by
       rcases Nat.lt_or_ge (a.off+(cap-1)*P.cellsOf e+(P.cellsOf e-1)) arr.size with hlt | hge
       ·exact hlt
       ·rw [Array.getElem?_eq_none hge] at h1;have:ch1[P.cellsOf e-1]?=some (ch1[P.cellsOf e-1]'(by omega)):=by simp
        rw [this] at h1;cases h1
      have e1:(cap-1)*P.cellsOf e+P.cellsOf e=cap*P.cellsOf e:=by
       rw [show cap*P.cellsOf e=(cap-1+1)*P.cellsOf e by rw [Nat.sub_add_cancel (by omega)],Nat.add_mul,Nat.one_mul]
      omega
     ·cases a with | mk b o s=>simp at hsp;subst hsp;rfl
  ·rename_i fs;simp only [Bool.and_eq_true] at hp;obtain ⟨xs,m,rfl,_,hl,hxl,hget⟩:=DataW.trod_struct hu h;obtain ⟨U₁,Z₁,c,r1,o1,s1,l1,v1,w1⟩:=yPX (fuel:=m) ih hrow fs.toList 0 U Z (by rw [hl];exact hp.1) (fun f hf=>List.all_eq_true.1 hp.2 f hf) (fun f hf=>by
    obtain ⟨i,hi⟩:=List.getElem?_of_mem hf;have hi2:fs[i]?=some f:=by simpa using hi
    have hlt:i<xs.length:=by rw [hxl];exact (Array.getElem?_eq_some_iff.1 hi2).1
    exact ⟨xs[i],by rw [hget i f hi2];simp [hlt]⟩) hr ho
   refine ⟨U₁,Z₁,c,r1,o1,s1,l1,by simpa using v1, ?_⟩
   unfold WT;rw [hu];have hcl:c.length=cs'.length:=by have:=v1.length;simpa using this
   refine ⟨by rw [hcl,hl],fun f hf=>?_⟩
   obtain ⟨_,g2,g3⟩:=w1 f hf;exact ⟨by omega,by simpa using g3⟩
  ·cases hp
end
end Go.Lay

namespace Go.Lay
open Go
variable {a b:Int} {v:Value} {n l t len n0:Nat} {p:Option Addr} {vs cs args:List Value} {f:FuncId}

def zBG (P:Program) (R:Nat->Rec) (rd:Option Nat) (c:Code) (fr:Fr) (Z:St) (e:Exit) (fr':Fr) (Z':St):Prop:=∃ N0,∀ N,N0<=N->yZ P (R N) N rd c fr Z=some (e,fr',Z')
def zWO (P:Program) (R:Nat->Rec) (rd:Option Nat) (c:Code) (fr:Fr) (Z:St) (e:Exit) (fr':Fr) (Z':St):Prop :=
 ∃ N0,∀ N m,N0<=N->N0<=m->zDZ (yZ P (R N) N rd c) m fr Z=some (e,fr',Z')
section
variable {P:Program} {R:Nat->Rec} {rd:Option Nat} {c:Code} {fr fr' fr₁:Fr} {Z Z' Z₁:St} {e:Exit}
theorem zWO.step (h:zBG P R rd c fr Z .normal fr₁ Z₁) (k:zWO P R rd c fr₁ Z₁ e fr' Z'):zWO P R rd c fr Z e fr' Z':=by
 obtain ⟨N1,h1⟩:=h;obtain ⟨N2,h2⟩:=k;refine ⟨N1+N2+1,fun N m hN hm=>?_⟩
 obtain ⟨m,rfl⟩:∃ m',m=m'+1:=⟨m-1,by omega⟩;simp only [zDZ,h1 N (by omega)];exact h2 N m (by omega) (by omega)
theorem zWO.exit (h:zBG P R rd c fr Z e fr' Z') (he:e≠.normal):zWO P R rd c fr Z e fr' Z':=by
 obtain ⟨N1,h1⟩:=h;refine ⟨N1+1,fun N m hN hm=>?_⟩
 obtain ⟨m,rfl⟩:∃ m',m=m'+1:=⟨m-1,by omega⟩;simp only [zDZ,h1 N (by omega)];split
 ·rename_i heq;cases heq;exact absurd rfl he
 ·rfl
end

section
variable {P:Program} {Z Z':St}
theorem Own.ld {b n k:Nat} {cs:List Value} {s:Option Nat} (h:Own Z b cs n) (hs:s=none) {t:TypeId} (ht:wE P t=some false) {v:Value} (hv:cs[k]?=some v):zB P Z t ⟨b,k,s⟩=some v:=by subst hs;exact h.rw.ld ht hv
theorem Own.ldN {b n k m:Nat} {cs ds:List Value} (h:Own Z b cs n) {t:TypeId} (ht:wE P t=some true) (hs:yS P t=some m) (hd:(cs.drop k).take m=ds) (hl:ds.length=m) (hk:k+m<=cs.length):zB P Z t ⟨b,k,none⟩=some (.agg ⟨ds⟩) :=
 h.rw.ldN ht hs hd hl hk

theorem Row.ld1 {a:Addr} (h:Row Z a [v]) {t:TypeId} (ht:wE P t=some false):zB P Z t a=some v:=by
 have:=h.load1 (P:=P) ht (k:=0) (v:=v) rfl;simpa [zJ] using this
theorem yM (h:zW RD v=true):yY RD n v=true:=by
 have key:∀ (d:Nat) (v:Value),zW d v=true->yY d n v=true:=by
  intro d;induction d with
  | zero=>intro v h;simp [zW] at h
  | succ d ih =>
   intro v h;have lists:∀ (l:List Value),l.all (zW d)=true->l.all (yY d n)=true:=fun l hl=>List.all_eq_true.2 (fun x hx=>ih x (List.all_eq_true.1 hl x hx))
   cases v with
   | agg cs=>simp only [zW] at h;simp only [yY];exact lists _ h
   | tuple cs=>simp only [zW] at h;simp only [yY];exact lists _ h
   | iface t x=>simp only [zW] at h;simp only [yY];exact ih x h
   | pointer a=>cases a with | none=>rfl | some _=>simp [zW,uL] at h
   | slice a l c=>cases a with | none=>rfl | some _=>simp [zW,uL] at h
   | map a=>cases a with | none=>rfl | some _=>simp [zW,uL] at h
   | func fn f c =>
    cases fn with
    | func g=>simp only [zW,Bool.and_eq_true] at h;simp only [yY,Bool.and_eq_true];exact ⟨⟨trivial,lists _ h.1⟩,lists _ h.2⟩
    | _=>simp [zW,uL] at h
   | _=>rfl
 exact key RD v h
theorem zP {a:Addr} (h:a.block<n):yY RD n (.pointer (some a))=true:=(xY _ _).2 h
theorem zPE {c:Nat} {a:Addr} (h:a.block<n):yY RD n (.slice (some a) l c)=true:=(xY _ _).2 h
theorem yK {c:Nat} (h:∀ a,p=some a->a.block<n):yY RD n (.slice p l c)=true:=by
 cases p with
 | none=>rfl
 | some a=>exact zPE (h a rfl)
theorem zI:zF n []:=rfl
theorem zE (h:yY RD n v=true) (t:zF n vs):zF n (v::vs):=by
 unfold zF at t ⊢;rw [List.all_cons,h,t];rfl
theorem Le.own {b n:Nat} {ds:List Value} (h:Le Z Z') (hb:Z.y<=b):Le Z (Z'.own b ds n):=⟨h.y,fun c hc=>by
 show yJ (Z'.put _ _).heap c=_;rw [St.put_get,if_neg (by omega)];exact h.get c hc⟩
theorem zCG (h:SlV P Z t n none len vs):SlV P Z' t n none len vs:=⟨⟨h.1.1,h.1.2⟩,h.2⟩
theorem yW (h:SlV P Z t n p len vs):∀ a,p=some a->a.block<Z.y:=by
 intro a e;subst e;exact (show Row Z a (wD vs) from h.1.2).lt
theorem zEU (xs ys:List Value):wD (xs++ys)=wD xs++wD ys:=by simp [wD]
theorem zAQ (xs:List Int) (k:IntKind):wD (xs.map fun x=>.int k x)=xs.map fun x=>.int k x:=by
 induction xs with
 | nil=>rfl
 | cons x xs ih =>
  rw [List.map_cons,show (Value.int k x::xs.map fun x=>Value.int k x)=[Value.int k x]++xs.map fun x=>Value.int k x from rfl,zEU,ih];rfl
theorem App.ge {c:Nat} (h:App Z n0 n (.slice p len c) len cs):∀ a,p=some a->n0<=a.block:=by
 intro a e;subst e;cases h with
 | more h hs hb hlt hl hp hsn=>exact hb
theorem xSQ {st xt e m k:Nat} {a2:Addr} {c:Nat} {xs:List Value} (T:AppT P st xt e n) (hA:App Z n0 n (.slice p len c) len cs) (hr:Row Z a2 xs) (hm:xs.length=m*n) (hp:0<m) (hroom:len+m<=1073741824)
  (hc:xs.all cellB=true) (hn0:n0<=Z.y):∃ p' c' Z',yF P st xt (.slice p len c) (.slice (some a2) m k) Z=some (.slice p' (len+m) c',Z')/\App Z' n0 n (.slice p' (len+m) c') (len+m) (cs++xs)/\Keep n0 Z Z':=by
 obtain ⟨v',Z',h1,h2,h3⟩:=xBC (k:=k) T hA hr hm hp hroom hc hn0;obtain ⟨p',c',rfl,_⟩:=h2.sl;exact ⟨p',c',Z',h1,h2,h3⟩
theorem App.slv {c:Nat} (h:App Z n0 n (.slice p len c) len (wD vs)) (hl:vs.length=len) (he:∀ v∈vs,zFL P t n v):SlV P Z t n p len vs:=by
 obtain ⟨p',c',e,hs⟩:=h.sl;cases e
 exact ⟨hs,hl,he⟩
theorem App.lt {c:Nat} (h:App Z n0 n (.slice p len c) len cs):∀ a,p=some a->a.block<Z.y:=by
 intro a e;subst e;cases h with
 | more h hs hb hlt hl hp hsn=>exact hlt
theorem zSI (h:wBV P f args Z.re v Z') (hl:Z.y<=Z'.low) (hv:zW RD v=true):zD P f args Z v Z:=by
 obtain ⟨N0,hN⟩:=h;refine ⟨N0,fun N hNN=>?_⟩
 have h1:=hN N hNN;unfold vZ;rw [show (⟨Z.heap,Z.y,Z.y⟩:St)=Z.re from rfl,h1];show uA Z v Z'=_;unfold uA;rw [(zX _ _).2 hl,hv];rfl
structure New (Z Z':St):Prop where
 le:Le Z Z'
 low:∀ m,m<=Z.low->m<=Z.y->m<=Z'.low
theorem New.refl (Z:St):New Z Z:=⟨Le.refl _,fun _ h _=>h⟩
theorem New.trans {Z₁ Z₂ Z₃:St} (h:New Z₁ Z₂) (k:New Z₂ Z₃):New Z₁ Z₃:=⟨h.le.trans k.le,fun m h1 h2=>k.low m (h.low m h1 h2) (Nat.le_trans h2 h.le.y)⟩
theorem New.row (Z:St) (cs:List Value) (n:Nat):New Z (Z.row cs n):=⟨Le.row _ _ _,fun _ h _=>h⟩
theorem New.add (Z:St) (y:Blk):New Z (Z.add y):=⟨Le.add _ _,fun _ h _=>h⟩
theorem wCK {Q:Value->St->Prop} (h:wBV P f args Z.re v Z') (hn:New Z.re Z') (hq:Q v Z') (hQ:∀ s s',Q v s->Le s s'->Q v s') (hr:zW RD v=true->Q v Z) :
  ∃ v Z'',zD P f args Z v Z''/\New Z Z''/\Q v Z'':=by
 obtain ⟨N0,hN⟩:=h;have h2:Z.y<=Z'.low:=hn.low _ (Nat.le_refl _) (Nat.le_refl _);have h3:Z.y<=Z'.y:=hn.le.y;cases hrv:zW RD v with
 | true =>
  refine ⟨v,Z,⟨N0,fun N hNN=>?_⟩,New.refl _,hr hrv⟩
  have h1:=hN N hNN;unfold vZ;rw [show (⟨Z.heap,Z.y,Z.y⟩:St)=Z.re from rfl,h1];show uA Z v Z'=_;unfold uA;rw [(zX _ _).2 h2,hrv];rfl
 | false =>
  refine ⟨v,⟨Z'.heap,Z'.y,min Z.low Z'.low⟩,⟨N0,fun N hNN=>?_⟩,⟨⟨h3,fun b hb=>hn.le.get b hb⟩,fun m h4 h5=>?_⟩,hQ _ _ hq ⟨Nat.le_refl _,fun _ _=>rfl⟩⟩
  ·have h1:=hN N hNN;unfold vZ;rw [show (⟨Z.heap,Z.y,Z.y⟩:St)=Z.re from rfl,h1];show uA Z v Z'=_;unfold uA;rw [hrv,Bool.and_false,cond_false,(zX _ _).2 h3,cond_true,wI,zAB]
  ·show m<=min Z.low Z'.low;omega
theorem yE (h:a<=b):leI a b=true:=(wU a b).2 h
theorem yH (h:¬ a<=b):leI a b=false:=by rw [yLB];simp;omega
theorem zR (h:a<b):ltI a b=true:=(zHN a b).2 h
theorem zT (h:¬ a<b):ltI a b=false:=by rw [yKZ];simp;omega
theorem xK (h:a=b):eqI a b=true:=(xDY a b).2 h
theorem xI (h:¬ a=b):eqI a b=false:=by rw [Bool.eq_false_iff];exact fun e=>h ((xDY a b).1 e)
theorem zCC (h:¬ a=b):(!eqI a b)=true:=by rw [xI h];rfl
theorem xR (h:a=b):(!eqI a b)=false:=by rw [xK h];rfl
end
end Go.Lay

namespace Go.Lay
open Go
variable {aw:FuncId} {t:TypeId} {v:Value}
section
variable {P:Program} {rec:Rec} {U:Inj} {Z Z':St} {w:World}

def xNQ (aw:FuncId) (rec:Rec):Rec:=fun r args Z=>match r with
 | .func f=>match args with
  | []=>bif Nat.beq f aw then some (.bool true,Z) else rec (.func f) [] Z
  | a::l=>rec (.func f) (a::l) Z
 | .yield l=>rec (.yield l) args Z
def zMX (P:Program) (aw:FuncId) (N:Nat):Rec:=xNQ aw (zV P N)
structure ShutF (P:Program) (aw:FuncId):Prop where
 ok : ∀ (U : Inj) (Z : St) (w : World), Rep U Z w → (∃ fn, P.funcs[aw]? = some fn ∧ fn.body.isSome = true ∧ fn.name ≠ "runtime.NumGoroutine") ∧ ∀ n, CallsIn (Fw none) n P aw ⟨[]⟩ w (zLL U Z w (.bool true) Z)
theorem yPC (h:RecSound P rec) (hc:ShutF P aw):RecSound P (xNQ aw rec):=by
 refine ⟨fun f args Z v Z' hr U w args' hrep ha=>?_,fun l args Z v Z' hr=>h.yield l args Z v Z' hr⟩
 cases args with
 | cons a l=>exact h.func f (a::l) Z v Z' hr U w args' hrep ha
 | nil =>
  have hr:(bif Nat.beq f aw then some (.bool true,Z) else rec (.func f) [] Z)=some (v,Z'):=hr;rcases zBX hr with ⟨hf,hr⟩ | ⟨_,hr⟩
  ·have hf:=Nat.eq_of_beq_eq_true hf;simp at hr;obtain ⟨rfl,rfl⟩:=hr;subst hf;cases ha
   exact hc.ok U Z w hrep
  ·exact h.func f [] Z v Z' hr U w args' hrep ha
theorem yUP (hP:ProgOk P) {aw:FuncId} (hc:ShutF P aw) (N:Nat):RecSound P (zMX P aw N):=yPC (zHC hP N) hc
theorem xJK (hP:ProgOk P) {l:List Ent} (hl:zLK P l) {N:Nat} {f:FuncId} (h:okB (zIQ P (yQF l (zV P N)) N f [] xPA)=true):ShutF P f:=by
 refine ⟨fun U Z w hr=>?_⟩
 obtain ⟨Z',hb⟩:=xOY h;obtain ⟨h1,h2⟩:=zEX hP (zOO hP hl N) hb (xZV w) .nil;refine ⟨h1,fun n=>CallsIn.mono (h2 n) (fun e w' hR=>?_)⟩
 cases e with
 | returned v' =>
  obtain ⟨U',hv,hg⟩:=hR;have hs:∀ c,c<w.heap.size->w'.heap[c]?=w.heap[c]?:=fun c hc=>hg.pres.same c hc (fun b hb=>by simp [xDD] at hb)
  have hv:=hv.bool_inv;subst hv;exact ⟨U,.bool true,Ext.refl _ _ _,hr.grown hg.pres.size hs,⟨hg.pres.size,fun c hc _=>hs c hc,hg.pres.tape,hg.pres.os,hg.pres.output,hg.pres.fr⟩,Nat.le_refl _,Nat.le_refl _⟩
 | panicked _=>exact hR.elim
 | outgrown=>exact hR.elim
theorem xEV {N:Nat}:vZ (zMX P aw N) (.func aw) [] Z=some (.bool true,Z):=by
 unfold vZ;have e:zMX P aw N (.func aw) [] ⟨Z.heap,Z.y,Z.y⟩=some (.bool true,⟨Z.heap,Z.y,Z.y⟩):=by
  show (bif Nat.beq aw aw then _ else _)=_;rw [Nat.beq_refl];rfl
 rw [e];show uA Z _ _=_;unfold uA;rw [(zX _ _).2 (Nat.le_refl _)];rfl

variable {H:Type} {enc:TypeId × Value->H} {held:Bool}
def WTs (P:Program) (Z:St) (n:Nat):List TypeId->List Value->Prop
 | [],[]=>True
 | t::ts,v::vs=>WT P Z n t v.cells.toList/\WTs P Z n ts vs
 | _,_=>False
theorem yXY {n:Nat} {d:DataW H} {ps:List MemPlace} (hp:zHI P n t=true) (h:DataW.Trod enc P w 0 (fun _=>true) held t v d ps) (hr:Rep U Z w) (ho:Ro U w) (hrow:zPI w v.cells.toList) :
  ∃ U' Z' av,Rep U' Z' w/\Ro U' w/\Sub U U'/\Le Z Z'/\VR U' av v/\WT P Z' n t av.cells.toList:=by
 obtain ⟨fuel,h⟩:=h;obtain ⟨U',Z',cs,r1,o1,s1,l1,v1,w1⟩:=yXZ n t hp fuel _ _ U Z h hr ho hrow;have one:(∀ c,v≠.agg c)->v.cells.toList=[v]->∃ U' Z' av,Rep U' Z' w/\Ro U' w/\Sub U U'/\Le Z Z'/\VR U' av v/\WT P Z' n t av.cells.toList:=by
  intro hna e;rw [e] at v1;cases v1 with
  | cons hx hn =>
   cases hn
   rename_i x;refine ⟨U',Z',x,r1,o1,s1,l1,hx, ?_⟩
   have hc:=hx.cells;rw [e] at hc;have:x.cells.toList=[x]:=by
    cases x with
    | agg cs =>
     exfalso;cases hx with
     | atom hat=>exact absurd hat (by simp [uL])
     | agg _ _=>exact hna _ rfl
    | _=>rfl
   rw [this];exact w1
 cases v with
 | agg c =>
  refine ⟨U',Z',.agg ⟨cs⟩,r1,o1,s1,l1, ?_,w1⟩
  cases c with | mk l=>exact VR.agg' v1
 | _=>exact one (by simp) rfl
theorem yPY {n:Nat}:∀ {ts:List TypeId} {vs:List Value} {ds:List (DataW H)} {ps:List MemPlace} {U:Inj} {Z:St},DataW.TrodAll enc P w 0 (fun _=>true) held ts vs ds ps->(∀ t∈ts,zHI P n t=true)->Rep U Z w->Ro U w->(∀ v∈vs,zPI w v.cells.toList) ->
  ∃ U' Z' avs,Rep U' Z' w/\Ro U' w/\Le Z Z'/\Sub U U'/\VRs U' avs vs/\WTs P Z' n ts avs
 | [],[],[],ps,U,Z,h,_,hr,ho,_=>⟨U,Z,[],hr,ho,Le.refl _,Sub.refl _,.nil,trivial⟩
 | t::ts,v::vs,d::ds,ps,U,Z,h,hp,hr,ho,hrow=>by
  obtain ⟨p,q,h1,h2,_⟩:=h;obtain ⟨U1,Z1,av,r1,o1,s1,l1,v1,w1⟩:=yXY (hp t (by simp)) h1 hr ho (hrow v (by simp));obtain ⟨U2,Z2,avs,r2,o2,l2,s2,v2,w2⟩:=yPY h2 (fun t ht=>hp t (by simp [ht])) r1 o1 (fun v hv=>hrow v (by simp [hv]));exact ⟨U2,Z2,av::avs,r2,o2,l1.trans l2,s1.trans s2,.cons (v1.sub s2) v2,w1.le l2,w2⟩
 | [],_::_,_,_,_,_,h,_,_,_,_=>h.elim
 | _::_,[],_,_,_,_,h,_,_,_,_=>h.elim
 | [],[],_::_,_,_,_,h,_,_,_,_=>h.elim
 | _::_,_::_,[],_,_,_,h,_,_,_,_=>h.elim

theorem zMM (h:Value.okWide P w .any 0 t v):zPI w v.cells.toList:=by
  have cell:∀ {u:TypeId} {A:Addr} {len cap:Nat},Cell.okWide P w .any 0 u (.slice (some A) len cap)->∃ (c:Nat) (arr:Array Value) (el:TypeId) (fr:Nat × Nat),w.heap[c]?=some (.cells arr el fr):=by
    intro u A len cap hc;have hok:Cell.ok P w .any 0 u (.slice (some A) len cap):=by
      unfold Cell.okWide at hc;split at hc <;> first | exact hc | (rename_i heq;cases heq)
    unfold Cell.ok at hok;split at hok <;> first | (rename_i heq;cases heq;done) | skip
    all_goals first
      | (rename_i heq;cases heq;obtain ⟨_,_,_,_,row,cells,hs,_⟩:=hok
         unfold World.shape? at hs
         split at hs
         · rename_i c elem hh;exact ⟨_,_,_,_,hh⟩
         · cases hs)
      | exact hok.elim
      | skip
  intro A len cap hm;unfold Value.okWide at h;split at h
  · obtain ⟨cs,rfl,_,ts,_,_,hc⟩:=h;obtain ⟨i,hi⟩:=List.getElem?_of_mem hm;obtain ⟨u,_,hu⟩:=hc i _ (by simpa [Value.cells] using hi);exact cell hu
  · obtain ⟨cs,rfl,_,ts,_,_,hc⟩:=h;obtain ⟨i,hi⟩:=List.getElem?_of_mem hm;obtain ⟨u,_,hu⟩:=hc i _ (by simpa [Value.cells] using hi);exact cell hu
  · cases v with
    | slice a l c =>
      simp [Value.cells] at hm;obtain ⟨rfl,rfl,rfl⟩:=hm;exact cell h
    | agg cs =>
      exfalso;unfold Cell.okWide at h;split at h <;> first | (rename_i heq;cases heq;done) | skip
      unfold Cell.ok at h;split at h <;> first | (rename_i heq;cases heq;done) | exact h.elim | skip
    | _=>simp [Value.cells] at hm
end
end Go.Lay

namespace Go.Lay
open Go Go.RowKit
variable {W W':World}
theorem zNN (h:Grown W W') {b:Nat} (hb:b<W.heap.size):W'.heap[b]?=W.heap[b]?:=by
 have:=h.1.2.2 b hb;split at this
 ·rename_i c t fr c' t' fr' h1 h2;obtain ⟨rfl,rfl,hs,hj⟩:=this;rw [h1,h2];have:c'=c:=Array.ext_getElem? (fun j=>hj j (fun f=>f));rw [this]
 ·rename_i h1 h2;rcases this with f | ⟨rfl,rfl⟩
  ·exact f.elim
  ·rw [h1,h2]
 ·exact this
theorem yDX (h:Grown W W') {p:MemPlace} (hp:p.block<W.heap.size):W.sameAt W' p:=by
 cases p with
 | cell b o=>exact World.cell?_of_block (w:=W) (zNN h hp)
 | map b=>exact zNN h hp
section
variable {H:Type} {enc:TypeId × Value->H} {P:Program} {w w':World} {b:Nat} {sp:Nat->Bool} {held:Bool}
theorem zNE:∀ {ts:List TypeId} {vs:List Value} {ds:List (DataW H)} {ps:List MemPlace},DataW.TrodAll enc P w b sp held ts vs ds ps->(∀ p∈ps,w.sameAt w' p)->DataW.TrodAll enc P w' b sp held ts vs ds ps
 | [],[],[],_,h,_=>h
 | _::_,_::_,_::_,_,⟨p,q,⟨n,h1⟩,h2,e⟩,hs=>⟨p,q,⟨n,DataW.trod_carry _ _ _ _ h1 (fun x hx=>hs x (by rw [e];exact List.mem_append_left _ hx))⟩,zNE h2 (fun x hx=>hs x (by rw [e];exact List.mem_append_right _ hx)),e⟩
theorem xKC (K:Kids P (· < P.types.size)) (hz:∀ (t:Nat) (e:TypeId),t<P.types.size->P.underlying t=some (.slice e)->0<P.cellsOf e) {ts:List TypeId} {vs:List Value} {ds:List (DataW H)} {ps:List MemPlace}
  (hT:∀ t∈ts,t<P.types.size) (h:DataW.TrodAll enc P w 0 (fun _=>true) true ts vs ds ps) (hg:Grown w w') (hlt:∀ p∈ps,p.block<w.heap.size) (hs:∀ p∈ps,sp p.block=true):DataW.TrodAll enc P w' 0 sp true ts vs ds ps :=
 zNE (DataW.TrodAll.respare K hz hT h hs) (fun p hp=>yDX hg (hlt p hp))
end
end Go.Lay

namespace Go.Lay
open Go
section
variable {P:Program} {R:Nat->Rec} {rd:Option Nat} {c:Code} {fr fr':Fr} {Z Z':St} {e:Exit} {aw:FuncId}
def xBS (P:Program) (l:Nat) (args:List Value) (Z:St) (v:Value) (Z':St):Prop:=∃ N0,∀ N,N0<=N->vZ (zV P N) (.yield l) args Z=some (v,Z')
end
end Go.Lay

namespace Go.Lay
open Go
section
variable {P:Program} {Z Z':St} {cs:List Value}
end
end Go.Lay

namespace Go.Lay
open Go
variable {len:Nat} {p:Option Addr}
structure Only (S:Nat->Prop) (Z Z':St):Prop where
 y:Z.y<=Z'.y
 get:∀ b,b<Z.y->¬ S b->yJ Z'.heap b=yJ Z.heap b
 low:∀ m,m<=Z.low->m<=Z.y->(∀ b,b<Z.y->S b->m<=b)->m<=Z'.low
section
variable {P:Program} {S T:Nat->Prop} {Z Z' Z₁ Z₂ Z₃:St} {cs:List Value} {n b:Nat}
theorem Only.refl (S:Nat->Prop) (Z:St):Only S Z Z:=⟨Nat.le_refl _,fun _ _ _=>rfl,fun _ h _ _=>h⟩
theorem Only.trans (h:Only S Z₁ Z₂) (k:Only T Z₂ Z₃) (hT:∀ b,b<Z₁.y->T b->S b) (hT2:∀ m,m<=Z₁.y->(∀ b,b<Z₁.y->S b->m<=b)->∀ b,b<Z₂.y->T b->m<=b:=by intro m h1 h2 b h3 h4;(first | exact h4.elim | omega)):Only S Z₁ Z₃ :=
 ⟨Nat.le_trans h.y k.y,fun b hb hs=>(k.get b (Nat.lt_of_lt_of_le hb h.y) (fun ht=>hs (hT b hb ht))).trans (h.get b hb hs),fun m h1 h2 h3=>k.low m (h.low m h1 h2 h3) (Nat.le_trans h2 h.y) (hT2 m h2 h3)⟩
theorem Only.trans' (h:Only S Z₁ Z₂) (k:Only T Z₂ Z₃) (hT:∀ b,b<Z₂.y->T b->S b\/Z₁.y<=b):Only S Z₁ Z₃ :=
 ⟨Nat.le_trans h.y k.y,fun b hb hs=>(k.get b (Nat.lt_of_lt_of_le hb h.y) (fun ht=>(hT b (Nat.lt_of_lt_of_le hb h.y) ht).elim hs (fun h=>by omega))).trans (h.get b hb hs),fun m h1 h2 h3=>k.low m (h.low m h1 h2 h3) (Nat.le_trans h2 h.y) (fun b hb ht=>by
  rcases hT b hb ht with h4 | h4
  ·by_cases hb':b<Z₁.y
   ·exact h3 b hb' h4
   ·omega
  ·omega)⟩
theorem Only.mono (h:Only S Z Z') (hT:∀ b,b<Z.y->S b->T b):Only T Z Z':=⟨h.y,fun b hb hs=>h.get b hb (fun k=>hs (hT b hb k)),fun m h1 h2 h3=>h.low m h1 h2 (fun b hb k=>h3 b hb (hT b hb k))⟩
theorem New.only (h:New Z Z'):Only S Z Z':=⟨h.le.y,fun b hb _=>h.le.get b hb,fun m h1 h2 _=>h.low m h1 h2⟩
theorem Only.add (Z:St) (y:Blk):Only S Z (Z.add y):=(New.add Z y).only
theorem Only.row (Z:St) (cs:List Value) (n:Nat):Only S Z (Z.row cs n):=(New.row Z cs n).only
theorem Only.put {y:Blk} (hs:Z.y<=b\/S b):Only S Z (Z.put b y):=⟨Nat.le_refl _,fun c hc hs'=>by rw [St.put_get,if_neg (by rintro rfl;rcases hs with h | h;omega;exact hs' h)],fun m h1 h2 h3=>by
 simp only [St.put_low];rcases hs with h | h
 ·omega
 ·by_cases hb:b<Z.y
  ·have:=h3 b hb h;omega
  ·omega⟩
theorem Only.own (hs:Z.y<=b\/S b):Only S Z (Z.own b cs n):=Only.put hs
theorem Only.re (Z:St):Only S Z Z.re:=⟨Nat.le_refl _,fun _ _ _=>rfl,fun _ _ h _=>h⟩
theorem Only.own' (h:Only S Z Z') (k:Own Z b cs n) (hs:¬ S b):Own Z' b cs n:=⟨by rw [h.get b k.lt hs];exact k.get,Nat.lt_of_lt_of_le k.lt h.y⟩
theorem Only.rw' {a:Addr} (h:Only S Z Z') (k:Row Z a cs) (hs:¬ S a.block):Row Z' a cs:=⟨by
 have:=k.rd
 unfold yU at this ⊢
 rw [h.get _ k.lt hs];exact this,Nat.lt_of_lt_of_le k.lt h.y⟩
theorem Only.slp' (h:Only S Z Z') (k:SlP Z n p len cs) (hs:∀ a,p=some a->¬ S a.block):SlP Z' n p len cs:=by
 refine ⟨k.1, ?_⟩
 cases p with
 | none=>exact k.2
 | some a=>exact h.rw' (show Row Z a cs from k.2) (hs a rfl)
theorem Only.slv' {t:Nat} {vs:List Value} (h:Only S Z Z') (k:SlV P Z t n p len vs) (hs:∀ a,p=some a->¬ S a.block):SlV P Z' t n p len vs:=⟨h.slp' k.1 hs,k.2⟩
theorem Only.app' {n0:Nat} {v:Value} (h:Only S Z Z') (k:App Z n0 n v len cs) (hs:∀ a l c,v=.slice (some a) l c->¬ S a.block):App Z' n0 n v len cs:=by
 cases k with
 | nil=>exact .nil
 | more g1 g2 g3 g4 g5 g6 g7=>exact .more (by rw [h.get _ g4 (hs _ _ _ rfl)];exact g1) g2 g3 (Nat.lt_of_lt_of_le g4 h.y) g5 g6 g7
theorem Own.low {m:Nat} (h:Own Z b cs n):Own ⟨Z.heap,Z.y,m⟩ b cs n:=⟨h.get,h.lt⟩
def wBW (P:Program) (R:Nat->Rec) (g:Operand) (ps:Array Tmp) (as bo:Code) (fr:Fr) (Z:St) (e:Exit) (fr':Fr) (Z':St):Prop:=∃ N0,∀ N,N0<=N->zOF (R N) none g ps as bo fr Z=some (e,fr',Z')
def xEO (ms:List Nat) (Z Z':St):Prop:=zPN ms Z fun s=>s=Z'
theorem zNX:∀ {ms:List Nat} {Z:St} {K:St->Prop},xEO ms Z Z'->K Z'->zPN ms Z K
 | [],_,_,h,k=>by cases h;exact k
 | _::_,_,_,h,k=>⟨h.1,zNX h.2 k⟩
theorem zPU:∀ {ms:List Nat} {Z:St},(∀ d∈ms,yJ Z.heap d=some .defd)->ms.Nodup->∃ Z',xEO ms Z Z'/\Z'.y=Z.y/\(∀ b,b ∉ ms->yJ Z'.heap b=yJ Z.heap b)/\∀ m,m<=Z.low->(∀ d∈ms,m<=d)->m<=Z'.low
 | [],Z,_,_=>⟨Z,rfl,rfl,fun _ _=>rfl,fun _ h _=>h⟩
 | d::ms,Z,h,hn=>by
  have hn:=List.nodup_cons.1 hn;obtain ⟨Z',h1,h2,h3,h4⟩:=zPU (ms:=ms) (Z:=Z.shut d) (fun c hc=>by
   rw [St.shut_get,if_neg (by rintro rfl;exact hn.1 hc)];exact h c (by simp [hc])) hn.2
  refine ⟨Z',⟨h d (by simp),h1⟩,h2,fun b hb=>?_,fun m hm hd=>h4 m ?_ (fun c hc=>hd c (by simp [hc]))⟩
  ·simp at hb;rw [h3 b hb.2,St.shut_get,if_neg hb.1]
  ·have:=hd d (by simp);simp;omega
end
end Go.Lay

namespace Go.Lay
open Go
variable {n b i:Nat} {t:TypeId} {v:Value}
section
variable {P:Program} {Z Z':St} {cs:List Value}
def AtP (p:Option Addr) (b:Nat):Prop:=∃ a,p=some a/\a.block=b
theorem AtP.none {b:Nat}:¬ AtP none b:=by rintro ⟨a,h,_⟩;cases h
theorem yIR {st xt e m k len n0:Nat} {a2:Addr} {p:Option Addr} {c:Nat} {xs:List Value} (T:AppT P st xt e n) (hA:App Z n0 n (.slice p len c) len cs) (hr:Row Z a2 xs) (hm:xs.length=m*n) (hp:0<m) (hroom:len+m<=1073741824)
  (hc:xs.all cellB=true) (hn0:n0<=Z.y):∃ p' c' Z',yF P st xt (.slice p len c) (.slice (some a2) m k) Z=some (.slice p' (len+m) c',Z')/\App Z' n0 n (.slice p' (len+m) c') (len+m) (cs++xs)/\Only (AtP p) Z Z'/\(∀ b,AtP p' b->AtP p b\/Z.y<=b):=by
 obtain ⟨p',c',Z',h1,h2,h3⟩:=xSQ (k:=k) T hA hr hm hp hroom hc hn0;refine ⟨p',c',Z',h1,h2, ?_⟩
 obtain ⟨xd,hxd,hxi⟩:=T.src;obtain ⟨ei,z,hei,hz,hby,hrz,hzl⟩:=T.info;have hrd:=hr.rd;rw [hm] at hrd;have hsrc:zAJ Z n z xd (.slice (some a2) m k)=some (m,xs):=by
  unfold zAJ;cases xd with
  | int _=>cases hxi
  | _=>simp only [vI,hrd,Option.map_some]
 have hcond:(zAO (len+m) n ei.bytes && xs.all cellB && Nat.beq xs.length (m*n) && zW RD z && Nat.beq z.cells.toList.length n)=true:=by
  unfold zAO;rw [(zX _ _).2 hroom,(zX _ _).2 T.le,(zX _ _).2 hby,hc,hm,Nat.beq_refl,hrz,hzl];rfl
 have hble:∀ x:Nat,Nat.ble (x+m) x=false:=fun x=>by rw [Bool.eq_false_iff];intro e;have:=(zX _ _).1 e;omega
 cases hA with
 | nil =>
  have hc0:yO 0=0:=by unfold yO;have:=vX;rw [if_neg (by omega)]
  have hc1:yV 0=true:=(xC 0).2 vX;unfold yF at h1;simp only [T.el,hxd,hei,hz,hsrc,hcond,cond_true,vH,hc0,hble,cond_false,hc1,Nat.beq_refl,yP,Option.some.injEq,Prod.mk.injEq,Value.slice.injEq] at h1;obtain ⟨⟨rfl,_,_⟩,rfl⟩:=h1;exact ⟨Only.add _ _,fun b' hb=>.inr (by obtain ⟨a,e,rfl⟩:=hb;cases e;exact Nat.le_refl _)⟩
 | @more b' s nx _ _ sp log h hs hb hlt hl hpp hsn =>
  have hex:wX ((s,cs.length)::log) (yB ⟨b',0,sp⟩)=some cs.length:=by
   have:Nat.beq s (yB ⟨b',0,sp⟩)=true:=by unfold yB;simp only [hs];exact Nat.beq_refl _
   simp only [wX,this,cond_true]
  have hlf:wN ((s,cs.length)::log) (yB ⟨b',0,sp⟩)=(s,cs.length)::log:=by
   have:Nat.beq s (yB ⟨b',0,sp⟩)=true:=by unfold yB;simp only [hs];exact Nat.beq_refl _
   simp only [wN,this,cond_true]
  have hg:(Nat.beq len len && Nat.beq (0+len*n) cs.length && Nat.beq n n && !false && Nat.blt 0 n)=true:=by
   rw [Nat.beq_refl,Nat.zero_add,hl,Nat.beq_refl,Nat.beq_refl,(xY 0 n).2 T.pos];rfl
  unfold yF at h1;simp only [T.el,hxd,hei,hz,hsrc,hcond,cond_true,vH,zAS,hble,cond_false,zFN,zIH,h,hex,hg,zCS,wI,St.write_eq,hlf,Option.some.injEq,Prod.mk.injEq,Value.slice.injEq] at h1;obtain ⟨⟨rfl,_,_⟩,rfl⟩:=h1;exact ⟨Only.put (.inr ⟨_,rfl,rfl⟩),fun b'' hb=>.inl (by obtain ⟨a,e,rfl⟩:=hb;cases e;exact ⟨_,rfl,rfl⟩)⟩
theorem Own.ldI (h:Own Z b cs n) (ht:wE P t=some false) (hi:cs[i]?=some v):zB P Z t (zJ ⟨b,0,none⟩ (Int.toNat (i:Int)*1))=some v:=by
 rw [Int.toNat_natCast,Nat.mul_one];have:=h.rw.load1 (P:=P) ht (k:=i) hi;exact this
theorem Own.stI (h:Own Z b cs n) (hv:v.cells.toList=[v]) (hs:yS P t=some 1) (hc:cellB v=true) (hi:i<cs.length) :
  zQ P (evL [.pointer (some (zJ ⟨b,0,none⟩ (Int.toNat (i:Int)*1))),v]) Z (.store t (.tmp 0) (.tmp 1))=some (undef,Z.own b (cs.set i v) n):=by
 have e:zJ ⟨b,0,none⟩ (Int.toNat (i:Int)*1)=⟨b,i,none⟩:=by rw [Int.toNat_natCast,Nat.mul_one];simp [zJ]
 rw [e];refine h.store (k:=i) hv hs (by simp [hc]) (by simp;omega) ?_
 rw [List.set_eq_take_append_cons_drop,if_pos hi];rfl
end
end Go.Lay

namespace Go.Lay
open Go
variable {n:Nat} {f:Tm} {l:List (Nat × Value)} {Z Z1:St} {o:Op} {as:List Ans} {K:Value->St->List Ans->Prop} {fr fr1:Fr} {x y c:Code} {e:Exit}
def yLH:Value->Bool
 | .tuple ⟨[]⟩=>true
 | _=>false
theorem yYM {v:Value} (h:yLH v=true):v=undef:=by
 unfold yLH at h;split at h
 ·rfl
 ·cases h
def shp:Nat->Bool->Tr Value->Bool
 | 0,_,.leaf=>true
 | d+1,c,.node (some v) l r=>(c || yLH v) && (shp d false l && shp d true r)
 | _,_,_=>false
def zDM:List Bool->Nat
 | []=>0
 | b::p=>(bif b then 1 else 0)+2*zDM p
def xSC:Bool->List Bool->Prop
 | c,[]=>c=true
 | _,b::p=>xSC b p
theorem yVA {g:Nat->Value}:∀ (d:Nat) (c:Bool) (t:Tr Value) (w a:Nat),shp d c t=true->(∀ p v,xSC c p->Tr.getP p t=some v->g (a+w*zDM p)=v)->t=trF g d w a c
 | 0,c,.leaf,w,a,_,_=>rfl
 | 0,c,.node _ _ _,w,a,h,_=>by simp [shp] at h
 | d+1,c,.leaf,w,a,h,_=>by simp [shp] at h
 | d+1,c,.node none l r,w,a,h,_=>by simp [shp] at h
 | d+1,c,.node (some v) l r,w,a,h,hg=>by
  simp only [shp,Bool.and_eq_true] at h;obtain ⟨h1,h2,h3⟩:=h;have e1:v=bif c then g a else undef:=by
   cases c with
   | true =>
    have:=hg [] v rfl rfl;simp [zDM] at this;simp [this]
   | false=>simpa using yYM (by simpa using h1)
  have e2:=yVA d false l (w*2) a h2 (fun p x hp hx=>by
   have:=hg (false::p) x (by cases p <;> exact hp) hx;simp [zDM] at this;rw [<- this];congr 1;rw [Nat.mul_assoc])
  have e3:=yVA d true r (w*2) (a+w) h3 (fun p x hp hx=>by
   have:=hg (true::p) x (by cases p <;> exact hp) hx;simp only [zDM,cond_true] at this;rw [<- this];congr 1;rw [Nat.mul_add,Nat.mul_one,Nat.mul_assoc,Nat.add_assoc])
  rw [e2,e3,e1];rfl
theorem ySQ:∀ (p:List Bool),xSC true p->∀ f,zDM p<=f->bits f (zDM p)=p
 | [],_,f,_=>by
  cases f with
  | zero=>rfl
  | succ f=>simp [bits,zDM]
 | b::p,hp,f,hf=>by
  have hp:xSC b p:=hp;have hpos:0<(bif b then 1 else 0)+2*zDM p:=by
   cases p with
   | nil =>
    have:b=true:=hp;subst this;simp [zDM]
   | cons b2 q =>
    have key:∀ (q:List Bool) (b:Bool),xSC b q->b=true\/0<zDM q:=by
     intro q;induction q with
     | nil=>intro b h;exact .inl h
     | cons c q ih =>
      intro b h;rcases ih c h with h1 | h1
      ·right;simp [zDM,h1];omega
      ·right;simp only [zDM];omega
    rcases key q b2 hp with h1 | h1
    ·simp [zDM,h1];omega
    ·simp only [zDM];omega
  simp only [zDM] at hf ⊢;match f with
  | 0=>omega
  | f+1 =>
   have ih:bits f (zDM p)=p:=by
    cases p with
    | nil=>cases f <;> simp [bits,zDM]
    | cons b2 q=>exact ySQ (b2::q) hp f (by cases b <;> simp at hf <;> omega)
   have hb:Nat.beq ((bif b then 1 else 0)+2*zDM p) 0=false:=by
    rw [Bool.eq_false_iff];intro e;have:=Nat.eq_of_beq_eq_true e;omega
   have h2:((bif b then 1 else 0)+2*zDM p) / 2=zDM p:=by cases b <;> simp <;> omega
   have h3:Nat.beq (((bif b then 1 else 0)+2*zDM p) % 2) 1=b:=by
    cases b
    ·rw [Bool.eq_false_iff];intro e;have:=Nat.eq_of_beq_eq_true e;simp at this
    ·have:((bif true then 1 else 0)+2*zDM p) % 2=1:=by simp
     rw [this];rfl
   simp only [bits,hb,cond_false,h3,h2,ih]
def yLM (n:Nat) (f:Tm):Bool:=Nat.beq f.n n && shp ((way n).length+1) true f.t
def AG (f:Tm):List (Nat × Value)->Prop
 | []=>True
 | (i,v)::l=>f.nth i=v/\AG f l
def ARf:List (Nat × Value)->Prop
 | []=>True
 | (_,v)::l=>v=v/\ARf l
theorem arf:∀ l:List (Nat × Value),ARf l
 | []=>trivial
 | (_,_)::l=>⟨rfl,arf l⟩
theorem xYV {f:Tm}:∀ {l:List (Nat × Value)},AG f l->ov l f.nth=f.nth
 | [],_=>rfl
 | (i,v)::l,h=>by
  have ih:=xYV h.2;funext j;unfold ov;cases hb:Nat.beq i j with
  | false=>rw [cond_false,ih]
  | true=>rw [cond_true,<- Nat.eq_of_beq_eq_true hb,h.1]
theorem yRJ (h:yLM n f=true) (hl:AG f l):f=Fm n (ov l f.nth):=by
 unfold yLM at h;simp only [Bool.and_eq_true] at h;obtain ⟨h1,h2⟩:=h;have h1:=Nat.eq_of_beq_eq_true h1;subst h1;rw [xYV hl];have:=yVA (g:=f.nth) ((way f.n).length+1) true f.t 1 0 h2 (fun p v hp hv=>by
  rw [Nat.zero_add,Nat.one_mul];unfold Tm.nth way;rw [ySQ p hp _ (Nat.le_refl _),hv])
 cases f with
 | mk n t=>unfold Fm;exact congrArg (Tm.mk n) this

def zIL (R:Nat->Rec):zRY:=fun r args Z v Z'=>∃ N0,∀ N,N0<=N->vZ (R N) r args Z=some (v,Z')
def yTM (n:Nat):List Alt->Exit->Fr->St->Prop
 | [],_,_,_=>False
 | a::as,e,fr,Z=>(e=a.e/\∃ t g,fr=⟨Fm n (ov (a.l t) g),a.ms t⟩/\a.Q t Z)\/yTM n as e fr Z
def yTL:List (Exit × (St->Prop))->Exit->St->Prop
 | [],_,_=>False
 | a::as,e,Z=>(e=a.1/\a.2 Z)\/yTL as e Z
def yJD (n:Nat):List Alt->(Exit->Fr->St->Prop)->Prop
 | [],_=>True
 | a::as,K=>(∀ (t:a.T) (g:Nat->Value) (Z:St),a.Q t Z->K a.e ⟨Fm n (ov (a.l t) g),a.ms t⟩ Z)/\yJD n as K
def xBR (n:Nat) (l:List (Nat × Value)) (ms:List Nat):List (Exit × (St->Prop))->(Exit->Fr->St->Prop)->Prop
 | [],_=>True
 | a::as,K=>(∀ (g:Nat->Value) (Z:St),a.2 Z->K a.1 ⟨Fm n (ov l g),ms⟩ Z)/\xBR n l ms as K
theorem zTP {n:Nat} {K:Exit->Fr->St->Prop} {e:Exit} {fr:Fr} {Z:St}:∀ {l:List Alt},yJD n l K->yTM n l e fr Z->K e fr Z
 | [],_,h=>h.elim
 | a::as,hc,h=>by
  rcases h with ⟨rfl,t,g,rfl,hq⟩ | h
  ·exact hc.1 t g Z hq
  ·exact zTP hc.2 h
theorem yBX {n:Nat} {l0:List (Nat × Value)} {ms:List Nat} {K:Exit->Fr->St->Prop} {e:Exit} {g:Nat->Value} {Z:St}:∀ {l:List (Exit × (St->Prop))},xBR n l0 ms l K->yTL l e Z->K e ⟨Fm n (ov l0 g),ms⟩ Z
 | [],_,h=>h.elim
 | a::as,hc,h=>by
  rcases h with ⟨rfl,hq⟩ | h
  ·exact hc.1 g Z hq
  ·exact yBX hc.2 h
section
variable (P:Program) (R:Nat->Rec)
def yL (rd:Option Nat) (c:Code) (n:Nat) (l:List (Nat × Value)) (ms:List Nat) (alts:List Alt) (Z:St):Prop :=
 ∀ g:Nat->Value,∃ e fr' Z',zBG P R rd c ⟨Fm n (ov l g),ms⟩ Z e fr' Z'/\yTM n alts e fr' Z'
def yQ (rd:Option Nat) (c:Code) (n:Nat) (l:List (Nat × Value)) (ms:List Nat) (alts:List Alt) (Z:St):Prop :=
 ∀ g:Nat->Value,∃ e fr' Z',zWO P R rd c ⟨Fm n (ov l g),ms⟩ Z e fr' Z'/\yTM n alts e fr' Z'
def zUH (gx:Operand) (ps:Array Tmp) (a b:Code) (n:Nat) (l:List (Nat × Value)) (alts:List (Exit × (St->Prop))) (Z:St):Prop :=
 ∀ (g:Nat->Value) (ms:List Nat),∃ e Z',wBW P R gx ps a b ⟨Fm n (ov l g),ms⟩ Z e ⟨Fm n (ov l g),Z.y::ms⟩ Z'/\yTL alts e Z'
def wpE (rd:Option Nat):Code->List Ans->Fr->St->(Exit->Fr->St->List Ans->Prop)->Prop
 | .skip,as,fr,Z,K=>K .normal fr Z as
 | .label _,as,fr,Z,K=>K .normal fr Z as
 | .ret,as,fr,Z,K=>K .ret fr Z as
 | .exit id,as,fr,Z,K=>K (.exit id) fr Z as
 | .seq x y,as,fr,Z,K=>wpE rd x as fr Z fun e fr Z as=>match e with
  | .normal=>wpE rd y as fr Z K
  | e=>K e fr Z as
 | .cond c x y,as,fr,Z,K=>match as with
  | .cut n l alts::_=>(yLM n fr.f=true/\AG fr.f l/\yL P R rd (.cond c x y) n l fr.marks alts Z)/\yJD n alts fun e fr Z=>∃ as,K e fr Z as
  | as=>match yG fr.f c with
   | .bool true=>wpE rd x as fr Z K
   | .bool false=>wpE rd y as fr Z K
   | _=>False
 | .block id c,as,fr,Z,K=>match as with
  | .cut n l alts::_=>(yLM n fr.f=true/\AG fr.f l/\yL P R rd (.block id c) n l fr.marks alts Z)/\yJD n alts fun e fr Z=>∃ as,K e fr Z as
  | as=>wpE rd c as fr Z fun e fr Z as=>match e with
   | .exit i=>match Nat.beq i id with
    | true=>K .normal fr Z as
    | false=>K (.exit i) fr Z as
   | e=>K e fr Z as
 | .scope c,as,fr,Z,K=>wpE rd c as fr Z K
 | .region _ ops d,as,fr,Z,K=>zIM P (zIL R) ops d as fr Z K
 | .loop c,as,fr,Z,K=>match as with
  | .lf n l alts::_=>(yLM n fr.f=true/\AG fr.f l/\yQ P R rd c n l fr.marks alts Z)/\yJD n alts fun e fr Z=>∃ as,K e fr Z as
  | _=>False
 | .rangeFunc g ps a b,as,fr,Z,K=>match as,rd with
  | .rf n l alts::_,none=>(yLM n fr.f=true/\AG fr.f l/\zUH P R g ps a b n l alts Z)/\xBR n l (Z.y::fr.marks) alts fun e fr Z=>∃ as,K e fr Z as
  | _,_=>False
 | .goto _,_,_,_,_=>False
 | .refuse _,_,_,_,_=>False
end
section
variable {P:Program} {R:Nat->Rec} {rd:Option Nat}
theorem zLS {C:zRY} {K':Value->St->List Ans->Prop} (h:zYG P C f Z o as K) (hk:∀ v s a,K v s a->K' v s a):zYG P C f Z o as K':=by
 unfold zYG at h ⊢;repeat' split at h
 all_goals first
  | exact h.elim
  | (simp only [*];exact ⟨h.1,hk _ _ _ h.2⟩)
  | (simp only [*];exact hk _ _ _ h)
  | exact ⟨h.1,hk _ _ _ h.2⟩
  | exact hk _ _ _ h
abbrev At3 (v:Value) (Z':St) (as':List Ans):Value->St->List Ans->Prop:=fun v2 s2 a2=>v2=v/\s2=Z'/\a2=as'
theorem yEX (h:zYG P (zIL R) f Z o as K):∃ v Z' as',K v Z' as'/\∃ N0,∀ N,N0<=N->zYG P (zRM (R N)) f Z o as (At3 v Z' as'):=by
 unfold zYG at h;unfold zYG;repeat' split at h
 all_goals first
  | exact h.elim
  | (obtain ⟨⟨N0,hN⟩,hk⟩:=h;exact ⟨_,_,_,hk,N0,fun N hl=>⟨hN N hl,rfl,rfl,rfl⟩⟩)
  | exact ⟨_,_,_,h,0,fun N _=>⟨rfl,rfl,rfl⟩⟩
  | exact ⟨_,_,_,h.2,0,fun N _=>by simp only [*];exact ⟨h.1,rfl,rfl,rfl⟩⟩
  | exact ⟨_,_,_,h,0,fun N _=>by simp only [*];exact ⟨rfl,rfl,rfl⟩⟩
  | exact ⟨_,_,_,h.2,0,fun N _=>⟨h.1,rfl,rfl,rfl⟩⟩
theorem zGW {ops:Array Oper}:∀ (rest:List Oper) (as:List Ans) (f:Tm) (Z:St) (l:List Seen) (K:Tm->St->List Seen->List Ans->Prop),zFR P (zIL R) ops rest as f Z l K ->
  ∃ f' Z' l' as',K f' Z' l' as'/\∃ N0,∀ N,N0<=N->zFR P (zRM (R N)) ops rest as f Z l fun f2 s2 l2 a2=>f2=f'/\s2=Z'/\l2=l'/\a2=as'
 | [],as,f,Z,l,K,h=>⟨f,Z,l,as,h,0,fun _ _=>⟨rfl,rfl,rfl,rfl⟩⟩
 | o::rest,as,f,Z,l,K,h=>by
  unfold zFR at h;unfold zFR;split at h
  ·rename_i hg;obtain ⟨v,Z1,as1,h1,N1,k1⟩:=yEX h;obtain ⟨f',Z',l',as',h2,N2,k2⟩:=zGW rest _ _ _ _ _ h1;refine ⟨f',Z',l',as',h2,N1+N2,fun N hN=>?_⟩
   try simp only [hg]
   refine zLS (k1 N (by omega)) ?_
   rintro _ _ _ ⟨rfl,rfl,rfl⟩;exact k2 N (by omega)
  ·rename_i hg;obtain ⟨f',Z',l',as',h2,N2,k2⟩:=zGW rest _ _ _ _ _ h;exact ⟨f',Z',l',as',h2,N2,fun N hN=>by (try simp only [hg]);exact k2 N hN⟩
  ·exact h.elim
theorem zIX {ops:Array Oper}:∀ (rest:List Oper) (as:List Ans) (f:Tm) (Z:St) (l:List Lk) (K:Tm->St->List Lk->List Ans->Prop),zCN P (zIL R) ops rest as f Z l K ->
  ∃ f' Z' l' as',K f' Z' l' as'/\∃ N0,∀ N,N0<=N->zCN P (zRM (R N)) ops rest as f Z l fun f2 s2 l2 a2=>f2=f'/\s2=Z'/\l2=l'/\a2=as'
 | [],as,f,Z,l,K,h=>⟨f,Z,l,as,h,0,fun _ _=>⟨rfl,rfl,rfl,rfl⟩⟩
 | o::rest,as,f,Z,l,K,h=>by
  unfold zCN at h;unfold zCN;split at h
  ·rename_i hg;obtain ⟨v,Z1,as1,h1,N1,k1⟩:=yEX h;obtain ⟨f',Z',l',as',h2,N2,k2⟩:=zIX rest _ _ _ _ _ h1;refine ⟨f',Z',l',as',h2,N1+N2,fun N hN=>?_⟩
   try simp only [hg]
   refine zLS (k1 N (by omega)) ?_
   rintro _ _ _ ⟨rfl,rfl,rfl⟩;exact k2 N (by omega)
  ·rename_i hg;obtain ⟨f',Z',l',as',h2,N2,k2⟩:=zIX rest _ _ _ _ _ h;exact ⟨f',Z',l',as',h2,N2,fun N hN=>by (try simp only [hg]);exact k2 N hN⟩
  ·exact h.elim
theorem zGV {C:zRY} {ops:Array Oper}:∀ (rest:List Oper) (as:List Ans) (f:Tm) (Z:St) (l:List Seen) {K K':Tm->St->List Seen->List Ans->Prop},zFR P C ops rest as f Z l K->(∀ f s l a,K f s l a->K' f s l a)->zFR P C ops rest as f Z l K'
 | [],as,f,Z,l,K,K',h,hk=>hk _ _ _ _ h
 | o::rest,as,f,Z,l,K,K',h,hk=>by
  unfold zFR at h ⊢;split at h
  ·rename_i hg;try simp only [hg]
   exact zLS h fun v s a hh=>zGV rest _ _ _ _ hh hk
  ·rename_i hg;try simp only [hg]
   exact zGV rest _ _ _ _ h hk
  ·exact h.elim
theorem zIW {C:zRY} {ops:Array Oper}:∀ (rest:List Oper) (as:List Ans) (f:Tm) (Z:St) (l:List Lk) {K K':Tm->St->List Lk->List Ans->Prop},zCN P C ops rest as f Z l K->(∀ f s l a,K f s l a->K' f s l a)->zCN P C ops rest as f Z l K'
 | [],as,f,Z,l,K,K',h,hk=>hk _ _ _ _ h
 | o::rest,as,f,Z,l,K,K',h,hk=>by
  unfold zCN at h ⊢;split at h
  ·rename_i hg;try simp only [hg]
   exact zLS h fun v s a hh=>zIW rest _ _ _ _ hh hk
  ·rename_i hg;try simp only [hg]
   exact zIW rest _ _ _ _ h hk
  ·exact h.elim
theorem zLD {K K':Prop}:∀ {l:List Lk},zEK l K->(K->K')->zEK l K'
 | [],h,hk=>hk h
 | s::ss,h,hk=>by
  unfold zEK at h ⊢;split
  ·rename_i hs;(try simp only [hs] at h);exact ⟨h.1,zLD h.2 hk⟩
  ·rename_i hs;(try simp only [hs] at h);exact zLD h hk
theorem zPD {K:Prop}:∀ {l:List Lk},zEK l K->K
 | [],h=>h
 | s::ss,h=>by
  unfold zEK at h;split at h
  ·exact zPD h.2
  ·exact zPD h
theorem zFC {K K':Prop} {l:List Lk}:∀ {ps:List (Nat × Nat)},uH l ps K->(K->K')->uH l ps K'
 | [],h,hk=>hk h
 | p::ps,h,hk=>by
  unfold uH at h ⊢;split at h
  ·rename_i sj sk h1 h2;try simp only [h1,h2]
   split at h
   ·rename_i hw;exact ⟨h.1,h.2.1,zFC h.2.2 hk⟩
   ·rename_i hw;exact zFC h hk
  ·exact h.elim
theorem zHB {K:Prop} {l:List Lk}:∀ {ps:List (Nat × Nat)},uH l ps K->K
 | [],h=>h
 | p::ps,h=>by
  unfold uH at h;split at h
  ·split at h
   ·exact zHB h.2.2
   ·exact zHB h
  ·exact h.elim
theorem yNE {id:Nat} {ops:Array Oper} {d:Bool} {K:Exit->Fr->St->List Ans->Prop} (h:zIM P (zIL R) ops d as fr Z K) :
  ∃ e fr' Z' as',zBG P R rd (.region id ops d) fr Z e fr' Z'/\K e fr' Z' as':=by
 have fin:∀ (f':Tm) (Z':St) (as':List Ans),K .normal ⟨f',fr.marks⟩ Z' as'->(∃ N0,∀ N,N0<=N->zIM P (zRM (R N)) ops d as fr Z fun e f2 s2 a2=>e=.normal/\f2=⟨f',fr.marks⟩/\s2=Z')->∃ e fr' Z' as',zBG P R rd (.region id ops d) fr Z e fr' Z'/\K e fr' Z' as':=by
  rintro f' Z' as' hk ⟨N0,hN⟩;refine ⟨.normal,⟨f',fr.marks⟩,Z',as',⟨N0,fun N hl=>?_⟩,hk⟩
  obtain ⟨e₂,f₂,s₂,_,h1,rfl,rfl,rfl⟩:=yUF (id:=id) (rec:=R N) N rd (K:=fun e f2 s2 _=>e=.normal/\f2=⟨f',fr.marks⟩/\s2=Z') (hN N hl);exact h1
 cases d with
 | false =>
  simp only [zIM] at h;obtain ⟨f',Z',l',as',h1,N0,hN⟩:=zGW _ _ _ _ _ _ h;refine fin f' Z' as' h1 ⟨N0,fun N hl=>?_⟩;simp only [zIM];exact zGV _ _ _ _ _ (hN N hl) (by rintro _ _ _ _ ⟨rfl,rfl,rfl,rfl⟩;refine ⟨?_, ?_, ?_⟩ <;> first | rfl | trivial)
 | true =>
  simp only [zIM] at h;split at h
  ·rename_i h0 hp hf;obtain ⟨f',Z',l',as',h1,N0,hN⟩:=zGW _ _ _ _ _ _ h;refine fin f' Z' as' h1 ⟨N0,fun N hl=>?_⟩;unfold zIM;simp only [];rw [h0,hp,hf];exact zGV _ _ _ _ _ (hN N hl) (by rintro _ _ _ _ ⟨rfl,rfl,rfl,rfl⟩;refine ⟨?_, ?_, ?_⟩ <;> first | rfl | trivial)
  ·rename_i ps fb h0 hno;obtain ⟨f',Z',l',as',h1,N0,hN⟩:=zIX _ _ _ _ _ _ h;refine fin f' Z' as' (zHB (zPD h1)) ⟨N0,fun N hl=>?_⟩;unfold zIM;dsimp only;have key:=zIW (K':=fun f2 s2 l2 a2=>zEK l2 (uH l2 (yAH ops (CheckFast.beforeF ops)) (Exit.normal=Exit.normal/\(⟨f2,fr.marks⟩:Fr)=⟨f',fr.marks⟩/\s2=Z'))) _ _ _ _ _ (hN N hl) (by
    rintro _ _ _ _ ⟨rfl,rfl,rfl,rfl⟩;exact zLD h1 (fun x=>zFC x (fun _=>⟨rfl,rfl,rfl⟩)))
   split
   ·rename_i g0 gp gf;exact absurd gf (hno gp)
   ·exact key
   ·rename_i g0;rw [h0] at g0;cases g0
  ·exact h.elim
theorem zBG.seqN {fr2:Fr} {Z2:St} (h1:zBG P R rd x fr Z .normal fr1 Z1) (h2:zBG P R rd y fr1 Z1 e fr2 Z2):zBG P R rd (.seq x y) fr Z e fr2 Z2:=by
 obtain ⟨N1,k1⟩:=h1;obtain ⟨N2,k2⟩:=h2;refine ⟨N1+N2,fun N hN=>?_⟩
 simp only [yZ,xMG,k1 N (by omega)];exact k2 N (by omega)
theorem zBG.seqX (h1:zBG P R rd x fr Z e fr1 Z1) (he:e≠.normal):zBG P R rd (.seq x y) fr Z e fr1 Z1:=by
 obtain ⟨N1,k1⟩:=h1;refine ⟨N1,fun N hN=>?_⟩
 simp only [yZ,xMG,k1 N hN];cases e <;> first | rfl | exact absurd rfl he
theorem zBG.mapD (h1:zBG P R rd x fr Z e fr1 Z1) (h:∀ N,yZ P (R N) N rd y fr Z=yZ P (R N) N rd x fr Z):zBG P R rd y fr Z e fr1 Z1:=by
 obtain ⟨N1,k1⟩:=h1;exact ⟨N1,fun N hN=>by rw [h];exact k1 N hN⟩
theorem zWO.code {fr':Fr} {Z':St} (h:zWO P R rd c fr Z e fr' Z'):zBG P R rd (.loop c) fr Z e fr' Z':=by
 obtain ⟨N0,hN⟩:=h;exact ⟨N0,fun N hl=>by simp only [yZ];exact hN N N hl hl⟩
theorem yII {alts:List Alt} {K:Exit->Fr->St->List Ans->Prop}
  (h:(yLM n fr.f=true/\AG fr.f l/\yL P R rd c n l fr.marks alts Z)/\yJD n alts fun e fr Z=>∃ as,K e fr Z as):∃ e fr' Z' as',zBG P R rd c fr Z e fr' Z'/\K e fr' Z' as':=by
 obtain ⟨⟨h1,h2,h3⟩,h4⟩:=h;obtain ⟨e,fr',Z',h5,h6⟩:=h3 fr.f.nth;rw [<- yRJ h1 h2] at h5;obtain ⟨as,hk⟩:=zTP h4 h6;exact ⟨e,fr',Z',as,h5,hk⟩
theorem zDD:∀ (c:Code) (as:List Ans) (fr:Fr) (Z:St) (K:Exit->Fr->St->List Ans->Prop),wpE P R rd c as fr Z K ->
  ∃ e fr' Z' as',zBG P R rd c fr Z e fr' Z'/\K e fr' Z' as':=by
 intro c;induction c with
 | skip=>intro as fr Z K h;exact ⟨_,_,_,_,⟨0,fun _ _=>rfl⟩,h⟩
 | label _=>intro as fr Z K h;exact ⟨_,_,_,_,⟨0,fun _ _=>rfl⟩,h⟩
 | ret=>intro as fr Z K h;exact ⟨_,_,_,_,⟨0,fun _ _=>rfl⟩,h⟩
 | exit _=>intro as fr Z K h;exact ⟨_,_,_,_,⟨0,fun _ _=>rfl⟩,h⟩
 | goto _=>intro as fr Z K h;simp [wpE] at h
 | refuse _=>intro as fr Z K h;simp [wpE] at h
 | seq x y ihx ihy =>
  intro as fr Z K h;simp only [wpE] at h;obtain ⟨e,fr1,Z1,as1,h1,h2⟩:=ihx _ _ _ _ h;cases e with
  | normal =>
   obtain ⟨e,fr2,Z2,as2,h3,h4⟩:=ihy _ _ _ _ h2;exact ⟨e,fr2,Z2,as2,h1.seqN h3,h4⟩
  | _=>exact ⟨_,fr1,Z1,as1,h1.seqX (by simp),h2⟩
 | cond c x y ihx ihy =>
  intro as fr Z K h;unfold wpE at h;split at h
  ·exact yII h
  ·split at h
   ·rename_i hc;obtain ⟨e,fr1,Z1,as1,h1,h2⟩:=ihx _ _ _ _ h;exact ⟨e,fr1,Z1,as1,h1.mapD (fun N=>by simp only [yZ,yRT,hc]),h2⟩
   ·rename_i hc;obtain ⟨e,fr1,Z1,as1,h1,h2⟩:=ihy _ _ _ _ h;exact ⟨e,fr1,Z1,as1,h1.mapD (fun N=>by simp only [yZ,yRT,hc]),h2⟩
   ·exact h.elim
 | block id c ih =>
  intro as fr Z K h;unfold wpE at h;split at h
  ·exact yII h
  ·obtain ⟨e,fr1,Z1,as1,⟨N1,h1⟩,h2⟩:=ih _ _ _ _ h;cases e with
   | exit i =>
    simp only at h2;cases hb:Nat.beq i id with
    | true =>
     rw [hb] at h2;exact ⟨_,fr1,Z1,as1,⟨N1,fun N hN=>by simp only [yZ,zUB,h1 N hN,hb,cond_true]⟩,h2⟩
    | false =>
     rw [hb] at h2;exact ⟨_,fr1,Z1,as1,⟨N1,fun N hN=>by simp only [yZ,zUB,h1 N hN,hb,cond_false]⟩,h2⟩
   | _=>exact ⟨_,fr1,Z1,as1,⟨N1,fun N hN=>by simp only [yZ,zUB,h1 N hN]⟩,h2⟩
 | scope c ih =>
  intro as fr Z K h;simp only [wpE] at h;obtain ⟨e,fr1,Z1,as1,h1,h2⟩:=ih _ _ _ _ h;exact ⟨e,fr1,Z1,as1,h1.mapD (fun N=>by simp only [yZ]),h2⟩
 | region id ops d =>
  intro as fr Z K h;simp only [wpE] at h;exact yNE h
 | loop c _ =>
  intro as fr Z K h;unfold wpE at h;split at h;rotate_left
  ·exact h.elim
  obtain ⟨⟨h1,h2,h3⟩,h4⟩:=h;obtain ⟨e,fr',Z',h5,h6⟩:=h3 fr.f.nth;rw [<- yRJ h1 h2] at h5;obtain ⟨as,hk⟩:=zTP h4 h6;exact ⟨e,fr',Z',as,h5.code,hk⟩
 | rangeFunc g ps a b _ _ =>
  intro as fr Z K h;unfold wpE at h;split at h;rotate_left
  ·exact h.elim
  obtain ⟨⟨h1,h2,h3⟩,h4⟩:=h;obtain ⟨e,Z',⟨N0,h5⟩,h6⟩:=h3 fr.f.nth fr.marks;rw [<- yRJ h1 h2] at h5;obtain ⟨as,hk⟩:=yBX (g:=fr.f.nth) h4 h6;rw [<- yRJ h1 h2] at hk;exact ⟨e,_,Z',as,⟨N0,fun N hN=>by simp only [yZ];exact h5 N hN⟩,hk⟩
end
end Go.Lay

namespace Go.Lay
open Go
variable {a:Alt} {b:Code} {alts:List Alt} {aw f:FuncId} {v:Value} {args:List Value} {Q:Value->St->Prop}
@[simp] theorem wDM (a:Addr) (n:Nat):(zJ a n).block=a.block:=rfl
@[simp] theorem wEC (Z:St):Z.re.y=Z.y:=rfl
@[simp] theorem wED (Z:St):Z.re.low=Z.y:=rfl
theorem tt:true=true:=rfl
@[irreducible] def Hid (p:Prop):Prop:=p
theorem hid {p:Prop} (h:Hid p):p:=by unfold Hid at h;exact h
theorem kc {a b:Prop} (h:a=b) (x:b):a:=h.mpr x
def In (a:Alt):List Alt->Prop
 | []=>False
 | b::l=>a=b\/In a l
theorem in0 {l:List Alt}:In a (a::l):=.inl rfl
theorem inS {b:Alt} {l:List Alt} (h:In a l):In a (b::l):=.inr h
def zFP (n:Nat) (alts:List Alt):Exit->Fr->St->List Ans->Prop:=fun e fr Z as=>match as with
 | [.fin a t]=>(e=a.e/\yLM n fr.f=true/\AG fr.f (a.l t)/\fr.marks=a.ms t)/\(a.Q t Z/\In a alts)
 | _=>False
def FIN (alts:List Alt) (a:Alt) (t:a.T) (Z:St):Prop:=(a.e=a.e/\true=true/\ARf (a.l t)/\a.ms t=a.ms t)/\(a.Q t Z/\In a alts)
theorem fin (a:Alt) (t:a.T) {Z:St} (h:a.Q t Z) (hi:In a alts):FIN alts a t Z:=⟨⟨rfl,rfl,arf _,rfl⟩,h,hi⟩
section
variable {P:Program} {R:Nat->Rec} {rd:Option Nat} {c:Code} {n:Nat} {l:List (Nat × Value)} {ms:List Nat} {alts:List Alt} {Z Z':St}
theorem yOU {a:Alt} {t:a.T} {fr:Fr} (h1:yLM n fr.f=true) (h2:AG fr.f (a.l t)) (h3:fr.marks=a.ms t) (h4:a.Q t Z):∀ {alts:List Alt},In a alts->yTM n alts a.e fr Z
 | [],h=>h.elim
 | b::as,h=>by
  rcases h with rfl | h
  ·refine .inl ⟨rfl,t,fr.f.nth, ?_,h4⟩;rw [<- yRJ h1 h2,<- h3]
  ·exact .inr (yOU h1 h2 h3 h4 h)
theorem zCE (as:List Ans) (h:∀ g:Nat->Value,Hid (wpE P R rd c as ⟨Fm n (ov l g),ms⟩ Z (zFP n alts))):yL P R rd c n l ms alts Z:=by
 intro g;obtain ⟨e,fr',Z',as',h1,h2⟩:=zDD _ _ _ _ _ (hid (h g));refine ⟨e,fr',Z',h1, ?_⟩
 unfold zFP at h2;split at h2
 ·obtain ⟨⟨rfl,k1,k2,k3⟩,k4,k5⟩:=h2;exact yOU k1 k2 k3 k4 k5
 ·exact h2.elim
theorem xV (i:Nat):Exit.exit i≠.normal:=fun h=>by cases h
theorem uZ:Exit.ret≠.normal:=fun h=>by cases h
def zWN:List Alt->Prop
 | []=>True
 | a::l=>a.e≠.normal/\zWN l
theorem zWN.get:∀ {l:List Alt} {a:Alt},zWN l->In a l->a.e≠.normal
 | [],_,_,h=>h.elim
 | b::l,a,h,k=>by
  rcases k with rfl | k
  ·exact h.1
  ·exact h.2.get k
theorem zMF {T:Type} {lf:T->List (Nat × Value)} {mf:T->List Nat} {Inv:Nat->T->St->Prop} (hne:zWN alts)
  (hb:∀ k t Z,Inv k t Z->yL P R rd c n (lf t) (mf t) (⟨T,.normal,lf,mf,fun t' Z'=>∃ k',k' < k/\Inv k' t' Z'⟩::alts) Z):∀ k t Z,Inv k t Z->yQ P R rd c n (lf t) (mf t) alts Z:=by
 intro k;induction k using Nat.strongRecOn with
 | ind k ih =>
  intro t Z hi g;obtain ⟨e,fr',Z',h1,h2⟩:=hb k t Z hi g;rcases h2 with ⟨rfl,t',g',rfl,k',hk,hi'⟩ | h2
  ·obtain ⟨e2,fr2,Z2,h3,h4⟩:=ih k' hk t' Z' hi' g';exact ⟨e2,fr2,Z2,.step h1 h3,h4⟩
  ·have he:e≠.normal:=by
    clear h1 ih hb hi;induction alts with
    | nil=>exact h2.elim
    | cons a as ih2 =>
     rcases h2 with ⟨rfl,_⟩ | h2
     ·exact hne.1
     ·exact ih2 hne.2 h2
   exact ⟨e,fr',Z',.exit h1 he,h2⟩
def kAt (P:Program) (R:Nat->Rec) (rd:Option Nat):Code->List Nat->(Exit->Fr->St->List Ans->Prop)->Exit->Fr->St->List Ans->Prop
 | .seq x y,0::p,K=>kAt P R rd x p fun e fr Z as=>match e with
  | .normal=>wpE P R rd y as fr Z K
  | e=>K e fr Z as
 | .seq _ y,1::p,K=>kAt P R rd y p K
 | .cond _ x _,0::p,K=>kAt P R rd x p K
 | .cond _ _ y,1::p,K=>kAt P R rd y p K
 | .block id c,0::p,K=>kAt P R rd c p fun e fr Z as=>match e with
  | .exit i=>match Nat.beq i id with
   | true=>K .normal fr Z as
   | false=>K (.exit i) fr Z as
  | e=>K e fr Z as
 | .scope c,0::p,K=>kAt P R rd c p K
 | _,_,K=>K
def kFn (P:Program) (f:FuncId) (Q:Value->St->Prop):Exit->Fr->St->List Ans->Prop:=fun e fr Z as =>
 match P.funcs[f]? with
 | some fn=>match e with
  | .normal=>zIY P fn fr Z as Q
  | .ret=>zIY P fn fr Z as Q
  | _=>False
 | none=>False
theorem zD.top {a:Value} {as:List Value} (h:zD P f (a::as) Z v Z'):zIL (zMX P aw) (.func f) (a::as) Z v Z':=h
def xBU (P:Program) (R:Nat->Rec) (f:FuncId) (args:List Value) (as:List Ans) (Z:St) (K:Value->St->Prop):Prop :=
 match P.funcs[f]? with
 | some fn=>match fn.body with
  | some c=>wpE P R none c as ⟨(Tm.args 0 args).foldl (fun f p=>f.set p.1 p.2) (fresh (args.length+(fn.ntmps-args.length))),[]⟩ Z fun e fr Z as=>match e with
   | .normal=>zIY P fn fr Z as K
   | .ret=>zIY P fn fr Z as K
   | _=>False
  | none=>False
 | none=>False
theorem zUQ {as:List Ans} {K:Value->St->Prop} (h:xBU P R f args as Z K):∃ v Z',(∃ N0,∀ N,N0<=N->zIQ P (R N) N f args Z=some (v,Z'))/\K v Z':=by
 unfold xBU at h;split at h
 ·rename_i fn hfn;split at h
  ·rename_i c hc;obtain ⟨e,fr,Z₁,as',⟨N0,h1⟩,h2⟩:=zDD _ _ _ _ _ h;have fin:∀ (h2:zIY P fn fr Z₁ as' K) (he:e=.normal\/e=.ret),∃ v Z',(∃ N0,∀ N,N0<=N->zIQ P (R N) N f args Z=some (v,Z'))/\K v Z':=by
    intro h2 he;obtain ⟨v,Z',h3,h4⟩:=yJJ h2;refine ⟨v,Z',⟨N0,fun N hN=>?_⟩,h4⟩
    have key:xRS P fn (yZ P (R N) N none c ⟨(Tm.args 0 args).foldl (fun f p=>f.set p.1 p.2) (fresh (args.length+(fn.ntmps-args.length))),[]⟩ Z)=zIQ P (R N) N f args Z:=by
     simp only [zIQ,hfn,hc,Tm.puts_eq]
    rw [<- key,h1 N hN];rcases he with rfl | rfl <;> exact h3
   cases e with
   | normal=>exact fin h2 (.inl rfl)
   | ret=>exact fin h2 (.inr rfl)
   | _=>exact h2.elim
  ·exact h.elim
 ·exact h.elim
def zO (P:Program) (f:FuncId) (args:List Value) (Z:St) (Q:Value->St->Prop):Prop:=∃ v Z',wBV P f args Z v Z'/\Q v Z'
theorem xJR {N:Nat}:zV P (N+1) (.func f) args Z=zIQ P (zV P N) N f args Z:=by
 simp only [zV,zIQ];rfl
theorem zH (as:List Ans) (h:Hid (xBU P (zV P) f args as Z Q)):zO P f args Z Q:=by
 obtain ⟨v,Z',⟨N0,hN⟩,hq⟩:=zUQ (hid h);refine ⟨v,Z',⟨N0+1,fun N hN'=>?_⟩,hq⟩
 obtain ⟨N,rfl⟩:∃ M,N=M+1:=⟨N-1,by omega⟩;rw [xJR];exact hN N (by omega)
def xBL (P:Program) (aw:FuncId) (f:FuncId) (args:List Value) (Z:St) (Q:Value->St->Prop):Prop:=∃ N v Z',zIQ P (zMX P aw N) N f args Z=some (v,Z')/\Q v Z'
theorem xBZ (as:List Ans) (h:Hid (xBU P (zMX P aw) f args as Z Q)):xBL P aw f args Z Q:=by
 obtain ⟨v,Z',⟨N0,hN⟩,hq⟩:=zUQ (hid h);exact ⟨N0,v,Z',hN N0 (Nat.le_refl _),hq⟩
theorem wCD:zIL (zMX P aw) (.func aw) [] Z (.bool true) Z:=⟨0,fun N _=>xEV⟩
theorem xBL.walk {W:World} {U:Inj} (hP:ProgOk P) (hc:ShutF P aw) {f:FuncId} {avs args:List Value} (h:xBL P aw f avs Z fun v _=>v=.bool true) (hr:Rep U Z W) (ho:Ro U W) (ha:VRs U avs args) :
  Calls P f ⟨args⟩ W fun e w'=>e=.returned (.bool true)/\RowKit.Grown W w':=by
 obtain ⟨N,v,Z',hb,rfl⟩:=h;obtain ⟨_,h2⟩:=zEX hP (yUP hP hc N) hb hr ha;refine Calls.mono (callsIn_wide.1 (h2 0)) (fun e w' hR=>?_);cases e with
 | returned v' =>
  obtain ⟨U',hv,hg⟩:=hR;exact ⟨by rw [hv.bool_inv],xQV hg ho.own⟩
 | panicked _=>exact hR.elim
 | outgrown=>exact hR.elim
theorem zO.pure (h:zO P f args Z.re fun v' s=>v'=v/\Z.y<=s.low) (hv:zW RD v=true:=by rfl):zD P f args Z v Z:=by
 obtain ⟨_,Z',h1,rfl,h2⟩:=h;exact zSI h1 h2 hv
theorem zO.new (h:zO P f args Z.re fun v s=>New Z.re s/\Q v s) (hQ:∀ v s s',Q v s->Le s s'->Q v s') (hQ2:∀ v s,zW RD v=true->Q v s->Q v Z):∃ v Z',zD P f args Z v Z'/\New Z Z'/\Q v Z':=by
 obtain ⟨v,Z',h1,h2,h3⟩:=h;obtain ⟨v,Z'',k1,k2,k3⟩:=wCK (Q:=Q) h1 h2 h3 (fun s s' a b=>hQ _ s s' a b) (fun hr=>hQ2 _ _ hr h3);exact ⟨v,Z'',k1,k2,k3⟩
def wBC (tm:Tm) (ps:List Tmp) (a b:Code) (db:Nat):Exit->Blk
 | .ret=>.loop tm ps a b .done (some .ret) db
 | .exit id=>.loop tm ps a b .done (some (.exit id)) db
 | _=>.loop tm ps a b .ready none db
def yBM:Exit->Bool
 | .normal=>true
 | _=>false
def wDN (alts:List Alt) (e:Exit) (s:St):Prop:=∃ a,In a alts/\e=a.e/\∃ t,a.Q t s
def yTO (alts:List Alt):Exit->Fr->St->List Ans->Prop:=fun e _ Z as=>match as with
 | [.fin a t]=>e=a.e/\(a.Q t Z/\In a alts)
 | _=>False
def wEB (alts:List Alt) (a:Alt) (t:a.T) (Z:St):Prop:=a.e=a.e/\(a.Q t Z/\In a alts)
theorem wBB (a:Alt) (t:a.T) {Z:St} (h:a.Q t Z) (hi:In a alts):wEB alts a t Z:=⟨rfl,h,hi⟩
def KAs (P:Program) (R:Nat->Rec) (lo:Nat) (b:Code) (τ τ':St) (K:Exit->Fr->St->List Ans->Prop):Exit->Fr->St->List Ans->Prop:=fun e fr s an=>(e=.normal/\s=τ)/\wpE P R (some lo) b an fr τ' K
def zFO (P:Program) (lo:Nat) (args:List Value) (τ:St) (tm:Tm) (ps:List Tmp) (a b:Code) (db:Nat) (alts:List Alt):Prop :=
 ∃ e s,wDN alts e s/\(e=.normal\/e=.ret\/(∃ i,e=.exit i)->lo<τ.y->yJ s.heap lo=some (.loop tm ps a b .busy none db)->τ.y<=s.y->xBS P lo args τ (.bool (yBM e)) ⟨(s.put lo (wBC tm ps a b db e)).heap,s.y,min τ.low (min s.low lo)⟩)
theorem xMJ {lo db:Nat} {tm:Tm} {ps:List Tmp} {a:Code} {τ:St} (hl:yJ τ.heap lo=some (.loop tm ps a b .ready none db)) (hn:args.length=ps.length) {Z1:St} (hZ:Z1=τ.re.put lo (.loop tm ps a b .busy none db)) (as:List Ans)
  (h:Hid (wpE P (zV P) (some lo) a as ⟨(ps.zip args).foldl (fun f p=>f.set p.1 p.2) tm,[]⟩ τ.re (KAs P (zV P) lo b τ.re Z1 (yTO alts)))) :
  zFO P lo args τ tm ps a b db alts:=by
 subst hZ;obtain ⟨e1,fr1,s1,an1,⟨N1,h1⟩,⟨rfl,rfl⟩,h2⟩:=zDD _ _ _ _ _ (hid h);obtain ⟨e,fr2,s,an2,⟨N2,h3⟩,h4⟩:=zDD _ _ _ _ _ h2;unfold yTO at h4;split at h4;rotate_left
 ·exact h4.elim
 obtain ⟨rfl,h5,h6⟩:=h4;rename_i al t;refine ⟨_,s,⟨al,h6,rfl,t,h5⟩,fun he hlt hb hs=>⟨N1+N2+1,fun N hN=>?_⟩⟩
 obtain ⟨N,rfl⟩:∃ N',N=N'+1:=⟨N-1,by omega⟩;have k1:=h1 N (by omega);have k3:=h3 N (by omega);have hr:(⟨τ.heap,τ.y,τ.y⟩:St)=τ.re:=rfl;have hlr:yJ τ.re.heap lo=some (.loop tm ps a b .ready none db):=hl;unfold vZ;rw [hr];simp only [zV,hlr,hn,Nat.beq_refl,cond_true,Tm.puts_eq,k1,zLV,St.write_eq,k3];have key:∀ y:Blk,uA τ (.bool (yBM al.e)) (s.put lo y)=some (.bool (yBM al.e),⟨(s.put lo y).heap,s.y,min τ.low (min s.low lo)⟩):=by
  intro y;unfold uA;have e1:Nat.ble τ.y (s.put lo y).low=false:=by
   rw [Bool.eq_false_iff];intro e;have:=(zX _ _).1 e;simp only [St.put_low] at this;omega
  have e2:Nat.ble τ.y (s.put lo y).y=true:=(zX _ _).2 hs;simp only [e1,Bool.false_and,cond_false,e2,cond_true,wI,zAB];rfl
 rcases he with e | e | ⟨i,e⟩ <;> (rw [e] at key ⊢;simp only [zLU,zDR,hb,St.write_eq];exact key _)
def xRN:Option Code->Exit
 | some .ret=>.ret
 | some (.exit id)=>.exit id
 | _=>.normal
theorem xFS {gx:Operand} {ps:Array Tmp} {a:Code} {xs:List (Exit × (St->Prop))} {fs:List Value} (hg:∀ g,yG (Fm n (ov l g)) gx=.func (.func f) ⟨[]⟩ ⟨fs⟩)
  (h:∀ g,∃ v s st pend,zD P f (.func (.yield (Z.y+1)) ⟨[]⟩ ⟨[]⟩::fs) ((Z.add .defd).add (.loop (Fm n (ov l g)) ps.toList a b .ready none Z.y)) v s/\yJ s.heap (Z.y+1)=some (.loop (Fm n (ov l g)) ps.toList a b st pend Z.y) /\
   ((st=.ready/\pend=none)\/(st=.done/\(pend=some .ret\/∃ i,pend=some (.exit i))))/\yTL xs (xRN pend) (s.put (Z.y+1) (.loop (Fm n (ov l g)) ps.toList a b .exhausted pend Z.y))):zUH P (zV P) gx ps a b n l xs Z:=by
 intro g ms;obtain ⟨v,s,st,pend,⟨N0,hN⟩,hb,hst,hq⟩:=h g;refine ⟨xRN pend,_,⟨N0,fun N hl=>?_⟩,hq⟩
 have h1:=hN N hl;simp only [zOF,zHD,St.new_eq,hg,zNJ,List.nil_append,List.singleton_append,St.add_next];simp only [h1,zDS,hb,St.write_eq];rcases hst with ⟨rfl,rfl⟩ | ⟨rfl,rfl | ⟨i,rfl⟩⟩ <;> rfl
end
end Go.Lay

namespace Go.Lay
open Go
variable {cs vs args:List Value} {n n0 t len c b st xt s:Nat} {p:Option Addr} {f:FuncId}
section
variable {P:Program} {Z τ τ':St} {S:Nat->Prop}
theorem New.of_only (h:New Z τ) (k:Only S τ τ') (hs:∀ b,S b->Z.y<=b):New Z τ' :=
  ⟨⟨Nat.le_trans h.le.y k.y,fun b hb=>(k.get b (Nat.lt_of_lt_of_le hb h.le.y) (fun hS=>by have:=hs b hS;omega)).trans (h.le.get b hb)⟩,
   fun m h1 h2=>k.low m (h.low m h1 h2) (Nat.le_trans h2 h.le.y) (fun b _ hS=>Nat.le_trans h2 (hs b hS))⟩
theorem New.own {b n:Nat} {cs:List Value} (h:New Z τ) (hb:Z.y<=b):New Z (τ.own b cs n):=h.of_only (S:=(·=b)) (Only.own (.inr rfl)) (by rintro _ rfl;exact hb)
theorem New.row' (h:New Z τ):New Z (τ.row cs n):=h.trans (New.row _ _ _)
theorem New.nx (h:New Z τ):Z.y<=τ.y:=h.le.y
theorem New.lw (h:New Z.re τ):Z.y<=τ.low:=h.low _ (Nat.le_refl _) (Nat.le_refl _)
structure Gr (P:Program) (Z:St) (n0 t n:Nat) (p:Option Addr) (len c:Nat) (vs:List Value):Prop where
 app:App Z n0 n (.slice p len c) len (wD vs)
 len_eq:vs.length=len
 el:∀ v∈vs,zFL P t n v
theorem Gr.nil {n0 t n:Nat}:Gr P Z n0 t n none 0 0 []:=⟨App.nil,rfl,by simp⟩
theorem Gr.le (h:Gr P Z n0 t n p len c vs) (k:Le Z τ):Gr P τ n0 t n p len c vs:=⟨h.app.keep k,h.len_eq,h.el⟩
theorem Gr.only (h:Gr P Z n0 t n p len c vs) (k:Only S Z τ) (hs:∀ b,AtP p b->¬ S b):Gr P τ n0 t n p len c vs :=
 ⟨k.app' h.app (by rintro a l c ⟨⟩;exact hs _ ⟨a,rfl,rfl⟩),h.len_eq,h.el⟩
theorem Gr.slv {n0 t n len c:Nat} {p:Option Addr} {vs:List Value} (h:Gr P Z n0 t n p len c vs):SlV P Z t n p len vs:=h.app.slv h.len_eq h.el
theorem Gr.bd (h:Gr P Z n0 t n p len c vs) (hb:AtP p b):n0<=b/\b<Z.y:=by
 obtain ⟨a,e,rfl⟩:=hb;exact ⟨h.app.ge a e,h.app.lt a e⟩
theorem yRA (v:Value) {cs:List Value} (T:AppT P st xt t n) (h:Gr P Z n0 t n p len c vs) (hle:Le Z τ) (hv:zFL P t n v) (hroom:len+1<=1073741824) (hn:n0<=Z.y) (e:v.cells.toList=cs:=by rfl) (hc:cs.all cellB=true:=by first | rfl | simp) :
  ∃ p' c' τ',yF P st xt (.slice p len c) (.slice (some ⟨τ.y,0,none⟩) 1 1) (τ.row cs n)=some (.slice p' (len+1) c',τ')/\Gr P τ' n0 t n p' (len+1) c' (vs++[v])/\Only (AtP p) (τ.row cs n) τ'/\(∀ b,AtP p' b->AtP p b\/τ.y<=b):=by
 subst e;have hl:=hv.len;obtain ⟨p',c',τ',h1,h2,h3,h4⟩:=yIR (k:=1) (m:=1) T ((h.le hle).app.keep (Le.row _ _ _)) (xH τ v.cells.toList n) (by omega) (by omega) hroom hc (by have:=hle.y;simp;omega);refine ⟨p',c',τ',h1,⟨by rw [zEU];simpa [wD] using h2,by simp [h.len_eq], ?_⟩,h3,fun b hb=>?_⟩
 ·intro x hx;simp at hx;rcases hx with hx | rfl
  ·exact h.el x hx
  ·exact hv
 ·rcases h4 b hb with h5 | h5
  ·exact .inl h5
  ·right;simp at h5;omega
theorem wCQ {Z0:St} (v:Value) {cs:List Value} (T:AppT P st xt t n) (h:Gr P Z Z0.y t n p len c vs) (hN:New Z0 Z) (hle:New Z τ) (hv:zFL P t n v) (hroom:len+1<=1073741824) (e:v.cells.toList=cs:=by rfl) (hc:cs.all cellB=true:=by first | rfl | simp) :
  ∃ p' c' τ',yF P st xt (.slice p len c) (.slice (some ⟨τ.y,0,none⟩) 1 1) (τ.row cs n)=some (.slice p' (len+1) c',τ')/\Gr P τ' Z0.y t n p' (len+1) c' (vs++[v])/\New Z0 τ'/\Only (AtP p) (τ.row cs n) τ'/\(∀ b,AtP p' b->AtP p b\/τ.y<=b):=by
 obtain ⟨p',c',τ',h1,h2,h3,h4⟩:=yRA v T h hle.le hv hroom hN.nx e hc;exact ⟨p',c',τ',h1,h2,((hN.trans hle).row').of_only h3 (fun b hb=>(h.bd hb).1),h3,h4⟩
theorem zO.newSl (h:zO P f args Z.re fun v s=>New Z.re s/\∃ p c,v=.slice p len c/\SlV P s t n p len vs/\∀ b,AtP p b->Z.y<=b) :
  ∃ p c Z',zD P f args Z (.slice p len c) Z'/\New Z Z'/\SlV P Z' t n p len vs/\∀ b,AtP p b->Z.y<=b:=by
 obtain ⟨v,Z',h1,h2,p,c,rfl,h3,h4⟩:=zO.new (Q:=fun v s=>∃ p c,v=.slice p len c/\SlV P s t n p len vs/\∀ b,AtP p b->Z.y<=b) h (by
  rintro v s s' ⟨p,c,rfl,g1,g2⟩ hle;exact ⟨p,c,rfl,g1.le hle,g2⟩) (by
  rintro v s hr ⟨p,c,rfl,g1,g2⟩;cases p with
  | none=>exact ⟨none,c,rfl,zCG g1,fun b hb=>(AtP.none hb).elim⟩
  | some a=>exact Bool.noConfusion (show false=true from hr))
 exact ⟨p,c,Z',h1,h2,h3,h4⟩
def wCM (P:Program) (st e n:Nat) (z:Value):Bool :=
 (match wC P st with | some (e',n')=>Nat.beq e e' && Nat.beq n n' | none=>false) && (match P.info? e with | some ei=>Nat.ble ei.bytes 4096 | none=>false) && Nat.beq z.cells.toList.length n && Nat.ble n 4096 && Nat.blt 0 n
theorem xWD {e:Nat} {z:Value} (hb:wCM P st e n z=true) (hz:uX P e=some z) {len:Nat} (hl:len<=1073741824) :
  zQ P (evL [.int .i64 (len:Int),.int .i64 (len:Int)]) Z (.makeSlice st (.tmp 0) (.tmp 1))=some (.slice (some ⟨Z.y,0,none⟩) len len,Z.row (xA z.cells.toList len) n):=by
 unfold wCM at hb;simp only [Bool.and_eq_true] at hb;obtain ⟨⟨⟨⟨h1,h2⟩,h3⟩,h4⟩,h5⟩:=hb;split at h1;rotate_left
 ·cases h1
 rename_i e' n' he;simp only [Bool.and_eq_true] at h1;rw [<- Nat.eq_of_beq_eq_true h1.1,<- Nat.eq_of_beq_eq_true h1.2] at he;split at h2;rotate_left
 ·cases h2
 rename_i ei hi;have k1:leI 0 (len:Int)=true:=(wU _ _).2 (Int.natCast_nonneg _);have k2:leI (len:Int) (len:Int)=true:=(wU _ _).2 (Int.le_refl _);have k3:leI (len:Int) 1073741824=true:=(wU _ _).2 (by omega);have k4:zAO len n ei.bytes=true:=by unfold zAO;rw [(zX _ _).2 hl,h4,h2];rfl
 have e0:∀ l:List Value,evL l (.tmp 0)=l.getD 0 undef:=fun _=>rfl
 have e1:∀ l:List Value,evL l (.tmp 1)=l.getD 1 undef:=fun _=>rfl
 unfold zQ;simp only [he,e0,e1,List.getD_cons_zero,List.getD_cons_succ,hz,hi,k1,k2,k3,Int.toNat_natCast,k4,h3,h5,Bool.and_self,cond_true,yP];rfl
def wQ (n:Nat) (P:Nat->Int):List Value:=(List.range n).map fun s=>.int .i64 (P s)
theorem zAV {P:Nat->Int}:(wQ n P).length=n:=by simp [wQ]
theorem zYK {P:Nat->Int} (h:s<n):(wQ n P)[s]?=some (.int .i64 (P s)):=by simp [wQ,h]
theorem xLQ {P:Nat->Int} {v:Int} (h:s<n):(wQ n P).set s (.int .i64 v)=wQ n (fun s'=>if s'=s then v else P s'):=by
 apply List.ext_getElem?;intro i;rw [List.getElem?_set];by_cases e:s=i
 ·subst e;simp [wQ,h]
 ·rw [if_neg e];by_cases hi:i<n
  ·rw [zYK hi,zYK hi,if_neg (fun x=>e x.symm)]
  ·rw [List.getElem?_eq_none (by rw [zAV];omega),List.getElem?_eq_none (by rw [zAV];omega)]
theorem zDL {P Q:Nat->Int} (h:∀ s,s<n->P s=Q s):wQ n P=wQ n Q:=by
 unfold wQ;apply List.map_congr_left;intro s hs;rw [h s (by simpa using hs)]
theorem Only.lower {m:Nat} (h:Only S Z.re τ):Only S Z ⟨τ.heap,τ.y,min Z.low τ.low⟩ :=
 ⟨h.y,h.get,fun k h1 h2 h3=>by have:=h.low k h2 h2 h3;show k<=min _ _;omega⟩
theorem zO.mut {Q:Value->St->Prop} (h:zO P f args Z.re fun v s=>Only S Z.re s/\(s.low<Z.y\/zW RD v=false)/\Q v s) (hQ:∀ v s m,Q v s->Q v ⟨s.heap,s.y,m⟩):∃ v Z',zD P f args Z v Z'/\Only S Z Z'/\Q v Z':=by
 obtain ⟨v,s,⟨N0,hN⟩,h1,h2,h3⟩:=h;refine ⟨v,⟨s.heap,s.y,min Z.low s.low⟩,⟨N0,fun N hl=>?_⟩,h1.lower (m:=0),hQ _ _ _ h3⟩
 unfold vZ;rw [show (⟨Z.heap,Z.y,Z.y⟩:St)=Z.re from rfl,hN N hl];show uA Z v s=_;unfold uA;have e1:(Nat.ble Z.y s.low && zW RD v)=false:=by
  rcases h2 with h2 | h2
  ·rw [Bool.and_eq_false_iff];left;rw [Bool.eq_false_iff];intro e;have:=(zX _ _).1 e;omega
  ·rw [h2,Bool.and_false]
 have e2:Nat.ble Z.y s.y=true:=(zX _ _).2 h1.y;rw [e1,cond_false,e2,cond_true,wI,zAB]
theorem Own.at_ (h:Own Z b cs n) (k:yJ τ.heap b=yJ Z.heap b) (hn:Z.y<=τ.y):Own τ b cs n:=⟨by rw [k];exact h.get,Nat.lt_of_lt_of_le h.lt hn⟩
end
end Go.Lay

namespace Go.Lay
open Go
section
variable {P:Program} {Z τ:St}
def zUJ (Z:St) (n:Nat) (p:Option Addr) (len c:Nat):Prop :=
 (p=none/\len=0/\c=0)\/∃ b rs nx ro,p=some ⟨b,0,none⟩/\len<=c/\yV c=true/\yJ Z.heap b=some (.cells rs n [(0,rs.length)] nx ro)/\rs.length=len*n/\b<Z.y
theorem zTU {c:Nat} (h:yV c=true):yO c=c:=by
 have:=(xC c).1 h;unfold yO;rw [if_neg (by omega)]
theorem xAW {k:IntKind} {x d top:Nat} {i:Int} (hi:i=(x:Int)) (h:x<=top):vN (some (.int k i)) d top=some x:=by
 subst hi;have h1:leI 0 (x:Int)=true:=(wU _ _).2 (by omega);have h2:leI (x:Int) (.ofNat top)=true:=(wU _ _).2 (by show (x:Int)<=(top:Int);omega);show (bif leI 0 (x:Int) && leI (x:Int) (.ofNat top) then some (x:Int).toNat else none)=some x;rw [h1,h2];rfl
end
end Go.Lay

namespace Go.Lay
open Go
variable {α:Type} {t:TypeId} {d n:Nat} {k:IntKind} {z:Value}
section
variable {P:Program}
theorem yI {β:Type} (x:Sem α) (f:α->Sem β):zZ P (x >>= f)=(zZ P x).bind fun a=>zZ P (f a):=by
 induction x with
 | pure a=>rfl
 | program k ih=>exact ih P
 | _=>rfl
theorem zHH (a:α):zZ P (pure a:Sem α)=some a:=rfl
theorem zXG:zZ P program=some P:=rfl
theorem zFZ {d:TypeDesc} (h:P.underlying t=some d):zZ P (underlying t)=some d:=by
 unfold underlying;rw [yI,zXG];simp only [Option.bind_some,h];rfl
theorem xNJ (h:P.underlying t=some (.int k)):zZ P (isAgg t)=some false:=by
 unfold isAgg;rw [yI,zFZ h];rfl
theorem xCK (h:P.underlying t=some (.int k)) {cs:Array Value} {off:Nat} {v:Value} (hv:cs[off]?=some v):zZ P (part t cs off)=some v:=by
 unfold part;rw [yI,xNJ h];simp only [Option.bind_some,Bool.false_eq_true,if_false,hv];rfl
theorem uS (h:P.underlying t=some (.int k)) (q:IntKind) (a b:Int):zZ P (Op.equalIn (d+1) t (.int q a) (.int q b))=some (a == b):=by
 unfold Op.equalIn;rw [yI,zFZ h];simp only [Option.bind_some,if_true];rfl
def xDI (P:Program):Nat->List Field->Bool
 | _,[]=>true
 | i, f :: fs => (match P.underlying f.type with | some (.int _) => true | _ => false) && Nat.beq f.offset i && (f.name != "_") && xDI P (i + 1) fs
theorem xIA {f:Field} (h:(match P.underlying f.type with | some (.int _)=>true | _=>false)=true):∃ k,P.underlying f.type=some (.int k):=by
 split at h
 ·exact ⟨_,by assumption⟩
 ·cases h
theorem yFW {d:Nat} {xs ys:Array Value} {q:Nat->IntKind}:∀ (fs:List Field) (i:Nat) (as bs:List Int),xDI P i fs=true->as.length=fs.length->bs.length=fs.length->(∀ j x,as[j]?=some x->xs[i+j]?=some (.int (q (i+j)) x))->(∀ j x,bs[j]?=some x->ys[i+j]?=some (.int (q (i+j)) x)) ->
  zZ P (forIn fs ((none,()):Option Bool × Unit) fun f __s =>
   if f.name ≠ "_" then do
    let a <- part f.type xs f.offset
    let b <- part f.type ys f.offset
    let r <- Op.equalIn (d+1) f.type a b
    if (!r)=true then pure (ForInStep.done (some false,())) else pure (ForInStep.yield (none,()))
   else pure (ForInStep.yield (none,())))=some (if as=bs then (none,()) else (some false,()))
 | [],i,as,bs,_,ha,hb,_,_=>by
  have h1:as=[]:=by simpa using ha
  have h2:bs=[]:=by simpa using hb
  subst h1 h2;rfl
 | f::fs,i,[],bs,_,ha,_,_,_=>by simp at ha
 | f::fs,i,a::as,[],_,_,hb,_,_=>by simp at hb
 | f::fs,i,a::as,b::bs,h,ha,hb,hx,hy=>by
  simp only [xDI,Bool.and_eq_true] at h;obtain ⟨⟨⟨h1,h2⟩,h3⟩,h4⟩:=h;obtain ⟨ku,hu⟩:=xIA h1;have ho:=Nat.eq_of_beq_eq_true h2;have hn : f.name ≠ "_" := by simpa using h3
  have ea:xs[f.offset]?=some (.int (q i) a):=by rw [ho];simpa using hx 0 a rfl
  have eb:ys[f.offset]?=some (.int (q i) b):=by rw [ho];simpa using hy 0 b rfl
  rw [List.forIn_cons,yI];simp only [if_pos hn];rw [yI,xCK hu ea];simp only [Option.bind_some];rw [yI,xCK hu eb];simp only [Option.bind_some];rw [yI,uS hu];simp only [Option.bind_some];by_cases e:a=b
  ·subst e;simp only [beq_self_eq_true,Bool.not_true,Bool.false_eq_true,if_false,zHH,Option.bind_some];have ih:=yFW (d:=d) (xs:=xs) (ys:=ys) fs (i+1) as bs h4 (by simpa using ha) (by simpa using hb) (fun j x hj=>by have:=hx (j+1) x (by simpa using hj);rwa [show i+(j+1)=i+1+j by omega] at this) (fun j x hj=>by have:=hy (j+1) x (by simpa using hj);rwa [show i+(j+1)=i+1+j by omega] at this);rw [ih];by_cases e2:as=bs
   ·rw [if_pos e2,if_pos (by rw [e2])]
   ·rw [if_neg e2,if_neg (by simpa using e2)]
  ·have e1:(a == b)=false:=by simpa using e
   simp only [e1,Bool.not_false,if_true,zHH,Option.bind_some];rw [if_neg (by intro k;exact e (by cases k;rfl))]
def yYN (P:Program) (t n:Nat):Bool:=match P.underlying t with
 | some (.struct fs)=>xDI P 0 fs.toList && Nat.beq fs.size n && !P.stoodInHeld t
 | _=>false
theorem xVB {t:Nat} (q:Nat->IntKind) (h:yYN P t n=true) {as bs:List Int} {xs ys:Array Value} (ha:as.length=n) (hb:bs.length=n) (hx:∀ (j:Nat) (x:Int),as[j]?=some x->xs[j]?=some (Value.int (q j) x)) (hy:∀ (j:Nat) (x:Int),bs[j]?=some x->ys[j]?=some (Value.int (q j) x)):zZ P (Op.equalIn (d+2) t (.agg xs) (.agg ys))=some (decide (as=bs)):=by
 unfold yYN at h;split at h;rotate_left
 ·cases h
 rename_i fs hu;simp only [Bool.and_eq_true,Bool.not_eq_true'] at h;obtain ⟨⟨h1,h2⟩,h3⟩:=h;have h2:=Nat.eq_of_beq_eq_true h2;have hl:fs.toList.length=n:=by simpa using h2
 have key:=yFW (d:=d) (xs:=xs) (ys:=ys) (q:=q) fs.toList 0 as bs h1 (by omega) (by omega) (fun j x hj=>by simpa using hx j x hj) (fun j x hj=>by simpa using hy j x hj);unfold Op.equalIn;rw [yI,zFZ hu];simp only [Option.bind_some];rw [yI,zXG];simp only [Option.bind_some,h3,Bool.false_eq_true,if_false];rw [yI,<- Array.forIn_toList];rw [key];simp only [Option.bind_some];by_cases e:as=bs
 ·rw [if_pos e];simp [e];rfl
 ·rw [if_neg e];simp [e];rfl
theorem wAC {t:Nat} (h:yYN P t n=true) {as bs:List Int} (ha:as.length=n) (hb:bs.length=n):zZ P (Op.equalIn (d+2) t (.agg ⟨as.map fun x=>.int .i64 x⟩) (.agg ⟨bs.map fun x=>.int .i64 x⟩))=some (decide (as=bs)) :=
 xVB (fun _=>.i64) h ha hb (fun j x hj=>by simp [hj]) (fun j x hj=>by simp [hj])
structure KeyT (P:Program) (kt:TypeId) {κ:Type} [DecidableEq κ] (enc:κ->Value):Prop where
 eq:∀ a b,zZ P (Op.equal kt (enc a) (enc b))=some (decide (a=b))
 ok:∀ e a,zIP P e kt (enc a)=true
 bits:∀ a,Instr.sameBits 10000 (enc a) (enc a)=true
section
variable {κ α:Type} [DecidableEq κ] {Z τ:St} {b kt et mt:Nat} {enc:κ->Value} {vf:α->Value} {F:κ->Option α}
def zKK (m:List (κ × α)) (k:κ):Option α:=match m with
 | []=>none
 | e::m=>if k=e.1 then some e.2 else zKK m k
def yBB (k:κ):List (κ × α)->Nat->Option Nat
 | [],_=>none
 | e::m,i=>if k=e.1 then some i else yBB k m (i+1)
theorem zMH (hk:KeyT P kt enc) (k:κ):∀ (m:List (κ × α)) (i:Nat),zAH P kt (enc k) (m.map fun e=>(enc e.1,vf e.2)) i=some (yBB k m i)
 | [],i=>rfl
 | e::m,i=>by
  simp only [List.map_cons,zAH,hk.eq,yBB];by_cases h:k=e.1
  ·simp [h]
  ·simp only [h,decide_false,if_false];exact zMH hk k m (i+1)
theorem zMK {k:κ}:∀ {m:List (κ × α)} {i j:Nat},yBB k m i=some j->∃ v,i<=j/\m[j-i]?=some (k,v)/\zKK m k=some v
 | [],_,_,h=>by cases h
 | e::m,i,j,h=>by
  unfold yBB at h;split at h
  ·rename_i hk;cases h
   exact ⟨e.2,Nat.le_refl _,by simp [hk],by simp [zKK,hk]⟩
  ·rename_i hk;obtain ⟨v,h1,h2,h3⟩:=zMK h;refine ⟨v,by omega, ?_,by simp [zKK,hk,h3]⟩
   rw [show j-i=(j-(i+1))+1 by omega,List.getElem?_cons_succ];exact h2
theorem zTE {k:κ}:∀ {m:List (κ × α)} {i:Nat},yBB k m i=none->zKK m k=none
 | [],_,_=>rfl
 | e::m,i,h=>by
  unfold yBB at h;split at h
  ·cases h
  ·rename_i hk;simp [zKK,hk,zTE h]
def zGS (P:Program) (Z:St) (b:Nat) (enc:κ->Value) (vf:α->Value) (F:κ->Option α):Prop:=b<Z.y/\∃ m:List (κ × α),yJ Z.heap b=some (.map (m.map fun e=>(enc e.1,vf e.2)))/\∀ k,F k=zKK m k
theorem zGS.le (h:zGS P Z b enc vf F) (k:Le Z τ):zGS P τ b enc vf F:=by
 obtain ⟨h1,m,h2,h3⟩:=h;exact ⟨Nat.lt_of_lt_of_le h1 k.y,m,by rw [k.get _ h1];exact h2,h3⟩
theorem zGS.at_ (h:zGS P Z b enc vf F) (k:yJ τ.heap b=yJ Z.heap b) (hn:Z.y<=τ.y):zGS P τ b enc vf F:=by
 obtain ⟨h1,m,h2,h3⟩:=h;exact ⟨Nat.lt_of_lt_of_le h1 hn,m,by rw [k];exact h2,h3⟩
theorem zGS.new (Z:St):zGS P (Z.add (.map [])) Z.y enc vf (fun _=>none):=⟨by simp,[],by rw [St.add_get,if_pos rfl];rfl,fun _=>rfl⟩
theorem zGS.look {ok:Bool} (h:zGS P Z b enc vf F) (hk:KeyT P kt enc) (hm:zDY P mt=some (kt,et)) (hz:uX P et=some z) (k:κ) :
  xO P (evL [.map (some b),enc k]) Z (.lookup mt (.tmp 0) (.tmp 1) ok)=some (let v:=match F k with | some v=>vf v | none=>z;bif ok then .tuple ⟨[v,.bool (F k).isSome]⟩ else v):=by
 obtain ⟨h1,m,h2,h3⟩:=h;have e0:∀ l:List Value,evL l (.tmp 0)=l.getD 0 undef:=fun _=>rfl
 have e1:∀ l:List Value,evL l (.tmp 1)=l.getD 1 undef:=fun _=>rfl
 unfold xO;simp only [hm,hz,e0,e1,List.getD_cons_zero,List.getD_cons_succ,h2,hk.ok,cond_true,zMH hk];rw [h3 k];cases hi:yBB k m 0 with
 | none=>simp only [zTE hi];rfl
 | some j =>
  obtain ⟨v,_,g2,g3⟩:=zMK hi;simp only [g3];rw [Nat.sub_zero] at g2;simp [g2]
theorem zGS.look1 (h:zGS P Z b enc vf F) (hk:KeyT P kt enc) (hm:zDY P mt=some (kt,et)) (hz:uX P et=some z) {k:κ} {v:α} (hv:F k=some v) :
  xO P (evL [.map (some b),enc k]) Z (.lookup mt (.tmp 0) (.tmp 1) true)=some (.tuple ⟨[vf v,.bool true]⟩):=by rw [h.look hk hm hz k,hv];rfl
theorem zGS.look0 (h:zGS P Z b enc vf F) (hk:KeyT P kt enc) (hm:zDY P mt=some (kt,et)) (hz:uX P et=some z) {k:κ} (hv:F k=none) :
  xO P (evL [.map (some b),enc k]) Z (.lookup mt (.tmp 0) (.tmp 1) true)=some (.tuple ⟨[z,.bool false]⟩):=by rw [h.look hk hm hz k,hv];rfl
theorem yRH {m:List (κ × α)} {k k':κ} {x:α} (h:zKK m k=none):zKK (m++[(k,x)]) k'=if k'=k then some x else zKK m k':=by
 induction m with
 | nil=>simp [zKK]
 | cons e m ih =>
  simp only [zKK] at h;split at h
  ·cases h
  ·rename_i hk;simp only [List.cons_append,zKK,ih h];by_cases h1:k'=e.1
   ·have:¬ k'=k:=fun h2=>hk (h2 ▸ h1)
    rw [if_pos h1,if_pos h1,if_neg this]
   ·rw [if_neg h1,if_neg h1]
theorem yRG {k k':κ} {x:α}:∀ {m:List (κ × α)} {i j:Nat},yBB k m i=some j->zKK (m.set (j-i) (k,x)) k'=if k'=k then some x else zKK m k'
 | [],_,_,h=>by cases h
 | e::m,i,j,h=>by
  unfold yBB at h;split at h
  ·rename_i hk;cases h
   simp only [Nat.sub_self,List.set_cons_zero,zKK];by_cases h1:k'=k
   ·rw [if_pos h1,if_pos h1]
   ·rw [if_neg h1,if_neg h1,if_neg (fun h2=>h1 (h2.trans hk.symm))]
  ·rename_i hk;obtain ⟨v,h1,_,_⟩:=zMK h;rw [show j-i=(j-(i+1))+1 by omega,List.set_cons_succ];simp only [zKK];rw [yRG h];by_cases h2:k'=e.1
   ·have:¬ k'=k:=fun h3=>hk (h3 ▸ h2)
    rw [if_pos h2,if_pos h2,if_neg this]
   ·rw [if_neg h2,if_neg h2]
theorem zGS.put (h:zGS P Z b enc vf F) (hk:KeyT P kt enc) (hm:zDY P mt=some (kt,et)) (k:κ) (x:α) :
  ∃ es,zQ P (evL [.map (some b),enc k,vf x]) Z (.mapUpdate mt (.tmp 0) (.tmp 1) (.tmp 2))=some (undef,Z.put b (.map es))/\zGS P (Z.put b (.map es)) b enc vf (fun k'=>if k'=k then some x else F k'):=by
 obtain ⟨h1,m,h2,h3⟩:=h;have e0:∀ l:List Value,evL l (.tmp 0)=l.getD 0 undef:=fun _=>rfl
 have e1:∀ l:List Value,evL l (.tmp 1)=l.getD 1 undef:=fun _=>rfl
 have e2:∀ l:List Value,evL l (.tmp 2)=l.getD 2 undef:=fun _=>rfl
 cases hi:yBB k m 0 with
 | none =>
  refine ⟨(m++[(k,x)]).map fun e=>(enc e.1,vf e.2), ?_,by simpa using h1,m++[(k,x)],by rw [St.put_get,if_pos rfl],fun k'=>?_⟩
  ·unfold zQ;simp only [hm,e0,e1,e2,List.getD_cons_zero,List.getD_cons_succ,h2,hk.ok,cond_true,zMH hk,hi,St.write_eq,List.map_append,List.map_cons,List.map_nil]
  ·show (if k'=k then some x else F k')=_;rw [yRH (zTE hi),h3 k']
 | some j =>
  obtain ⟨v,_,g2,g3⟩:=zMK hi;rw [Nat.sub_zero] at g2;refine ⟨(m.set j (k,x)).map fun e=>(enc e.1,vf e.2), ?_,by simpa using h1,m.set j (k,x),by rw [St.put_get,if_pos rfl],fun k'=>?_⟩
  ·have g2':(m.map fun e=>(enc e.1,vf e.2))[j]?=some (enc k,vf v):=by simp [g2]
   unfold zQ;simp only [hm,e0,e1,e2,List.getD_cons_zero,List.getD_cons_succ,h2,hk.ok,cond_true,zMH hk,hi,g2',hk.bits,St.write_eq,List.map_set]
  ·have:=yRG (x:=x) (k':=k') hi;rw [Nat.sub_zero] at this;show (if k'=k then some x else F k')=_;rw [this,h3 k']
end
end
end Go.Lay

namespace Go.Lay
open Go
def Keys:List (Nat × Nat)->Nat->Prop
 | [],_=>True
 | (k,_)::l,nx=>k<nx/\Keys l k
theorem Keys.mono:∀ {l:List (Nat × Nat)} {m n:Nat},Keys l m->m<=n->Keys l n
 | [],_,_,_,_=>trivial
 | (_,_)::_,_,_,h,hm=>⟨Nat.lt_of_lt_of_le h.1 hm,h.2⟩
theorem Keys.tail:∀ {l:List (Nat × Nat)} {a:Nat × Nat} {m:Nat},Keys (a::l) m->Keys l m
 | _,(_,_),_,h=>h.2.mono (Nat.le_of_lt h.1)
theorem Keys.lt:∀ {l r:List (Nat × Nat)} {k e m:Nat},Keys (l++(k,e)::r) m->k<m
 | [],_,_,_,_,h=>h.1
 | (_,_)::l,_,_,_,_,h=>Nat.lt_trans (Keys.lt h.2) h.1
theorem Keys.drop:∀ {l r:List (Nat × Nat)} {m:Nat},Keys (l++r) m->Keys r m
 | [],_,_,h=>h
 | (_,_)::l,_,_,h=>(Keys.drop h.2).mono (Nat.le_of_lt h.1)
theorem Keys.find:∀ {l r:List (Nat × Nat)} {k e m:Nat},Keys (l++(k,e)::r) m->wX (l++(k,e)::r) k=some e/\wN (l++(k,e)::r) k=(k,e)::r
 | [],r,k,e,_,_=>by simp [wX,wN]
 | (k',e')::l,r,k,e,_,h=>by
  have h1:k<k':=Keys.lt h.2;have h2:Nat.beq k' k=false:=by rw [Bool.eq_false_iff];intro e;have:=Nat.eq_of_beq_eq_true e;omega
  obtain ⟨h3,h4⟩:=Keys.find h.2;exact ⟨by rw [List.cons_append,wX,h2,cond_false];exact h3,by rw [List.cons_append,wN,h2,cond_false];exact h4⟩
def Stk (z:St) (n0:Nat) (p:Option Addr) (len c:Nat) (xs:List Value) (sf:List (Nat × Nat)):Prop :=
 (p=none/\len=0/\c=0/\xs=[]/\sf=[])\/∃ b s bc pre r nx,p=some ⟨b,0,s⟩/\c=len+uB/\xs.length=len/\0<len/\sf=(s.getD 0,len)::r/\n0<=b/\b<z.y/\yJ z.heap b=some (.cells bc 1 (pre++sf) nx false)/\bc.take len=xs/\Keys (pre++sf) nx
def Kid (n0:Nat) (p:Option Addr) (len c:Nat) (xs:List Value) (sf:List (Nat × Nat)) (p':Option Addr) (xs':List Value) (sf':List (Nat × Nat)):Prop :=
 (p=none/\len=0/\c=0/\xs=[]/\sf=[])\/∃ b s s' e r,p=some ⟨b,0,s⟩/\p'=some ⟨b,0,s'⟩/\sf'=e::sf/\sf=(s.getD 0,len)::r/\c=len+uB/\xs.length=len/\0<len/\xs'.take len=xs/\n0<=b
section
variable {P:Program} {S:Nat->Prop} {z z':St} {n0 len c len' c':Nat} {p p':Option Addr} {xs xs':List Value} {sf sf':List (Nat × Nat)}
theorem Stk.nil:Stk z n0 none 0 0 [] []:=.inl ⟨rfl,rfl,rfl,rfl,rfl⟩
theorem Stk.leq (h:Stk z n0 p len c xs sf):xs.length=len:=by
 rcases h with ⟨_,rfl,_,rfl,_⟩ | ⟨_,_,_,_,_,_,_,_,h,_⟩
 ·rfl
 ·exact h
theorem Stk.bd (h:Stk z n0 p len c xs sf):∀ b,AtP p b->n0<=b/\b<z.y:=by
 rintro b ⟨a,rfl,rfl⟩;rcases h with ⟨h,_⟩ | ⟨b,s,bc,pre,r,nx,h1,h2,h3,h4,h5,h6,h7,_⟩
 ·cases h
 ·cases h1;exact ⟨h6,h7⟩
theorem Stk.only (h:Stk z n0 p len c xs sf) (k:Only S z z') (hs:∀ b,AtP p b->¬ S b):Stk z' n0 p len c xs sf:=by
 rcases h with h | ⟨b,s,bc,pre,r,nx,rfl,h2,h3,h4,h5,h6,h7,h8,h9⟩
 ·exact .inl h
 ·exact .inr ⟨b,s,bc,pre,r,nx,rfl,h2,h3,h4,h5,h6,Nat.lt_of_lt_of_le h7 k.y,by rw [k.get b h7 (hs b ⟨_,rfl,rfl⟩)];exact h8,h9⟩
theorem Stk.le (h:Stk z n0 p len c xs sf) (k:Le z z'):Stk z' n0 p len c xs sf:=by
 rcases h with h | ⟨b,s,bc,pre,r,nx,rfl,h2,h3,h4,h5,h6,h7,h8,h9⟩
 ·exact .inl h
 ·exact .inr ⟨b,s,bc,pre,r,nx,rfl,h2,h3,h4,h5,h6,Nat.lt_of_lt_of_le h7 k.y,by rw [k.get b h7];exact h8,h9⟩
theorem Stk.slp (h:Stk z n0 p len c xs sf):SlP z 1 p len xs:=by
 rcases h with ⟨rfl,rfl,_,rfl,_⟩ | ⟨b,s,bc,pre,r,nx,rfl,h2,h3,h4,rfl,h6,h7,h8,h9,h10⟩
 ·exact SlP.nil _ _
 ·refine ⟨by omega, ?_,h7⟩
  have hle:Nat.ble (0+len) len=true:=(zX _ _).2 (by omega);unfold yU;simp only [h8,yB,(Keys.find h10).1,hle,cond_true,List.drop_zero,h3,h9]
theorem Stk.slv {t:Nat} (h:Stk z n0 p len c xs sf) (he:∀ v∈xs,zFL P t 1 v/\v.cells.toList=[v]):SlV P z t 1 p len xs:=by
 have hf:wD xs=xs:=by
  have:∀ l:List Value,(∀ v∈l,v.cells.toList=[v])->wD l=l:=by
   intro l;induction l with
   | nil=>intro _;rfl
   | cons v l ih =>
    intro h;have h1:=h v List.mem_cons_self;have h2:=ih (fun x hx=>h x (List.mem_cons_of_mem _ hx));have:wD (v::l)=v.cells.toList++wD l:=by simp [wD]
    rw [this,h1,h2];rfl
  exact this xs (fun v hv=>(he v hv).2)
 exact ⟨by rw [hf];exact h.slp,h.leq,fun v hv=>(he v hv).1⟩
theorem Kid.pop (h:Kid n0 p len c xs sf p' xs' sf') (k:Stk z n0 p' len' c' xs' sf'):Stk z n0 p len c xs sf:=by
 rcases h with h | ⟨b,s,s',e,r,rfl,rfl,rfl,rfl,rfl,h1,h2,h3,h4⟩
 ·exact .inl h
 ·rcases k with ⟨k,_⟩ | ⟨b',s2,bc,pre,r',nx,k1,k2,k3,k4,k5,k6,k7,k8,k9,k10⟩
  ·cases k
  ·cases k1
   refine .inr ⟨b,s,bc,pre++[e],r,nx,rfl,rfl,h1,h2,rfl,h4,k7, ?_, ?_, ?_⟩
   ·rw [List.append_assoc];exact k8
   ·have hl:len<=len':=by
     have:=congrArg List.length h3;simp at this;omega
    rw [<- h3,<- k9,List.take_take,Nat.min_eq_left hl]
   ·rw [List.append_assoc];exact k10
theorem Stk.push {st xt e:Nat} {v:Value} (T:AppT P st xt e 1) (h:Stk z n0 p len c xs sf) (hc:cellB v=true) (hroom:len+1<=1073741824) (hn:n0<=z.y) :
  ∃ p' c' sf' z',yF P st xt (.slice p len c) (.slice (some ⟨z.y,0,none⟩) 1 1) (z.row [v] 1)=some (.slice p' (len+1) c',z')/\Stk z' n0 p' (len+1) c' (xs++[v]) sf'/\Kid n0 p len c xs sf p' (xs++[v]) sf'/\Only (AtP p) z z'/\z'.low<=z.low/\∀ b,AtP p' b->AtP p b\/z.y<=b:=by
 obtain ⟨xd,hxd,hxi⟩:=T.src;obtain ⟨ei,zv,hei,hz,hby,hrz,hzl⟩:=T.info;have hrow:=xH z [v] 1;have hsrc:zAJ (z.row [v] 1) 1 zv xd (.slice (some ⟨z.y,0,none⟩) 1 1)=some (1,[v]):=by
  have:vI (z.row [v] 1) 1 (.slice (some ⟨z.y,0,none⟩) 1 1)=some (1,[v]):=by
   have hrd:=hrow.rd;have hrd:yU (z.row [v] 1) ⟨z.y,0,none⟩ (1*1)=some [v]:=hrd;simp [vI,hrd]
  unfold zAJ;cases xd with
  | int _=>cases hxi
  | _=>simp only [this]
 have hcond:(zAO (len+1) 1 ei.bytes && [v].all cellB && Nat.beq [v].length (1*1) && zW RD zv && Nat.beq zv.cells.toList.length 1)=true:=by
  unfold zAO;have:Nat.beq [v].length (1*1)=true:=rfl;rw [(zX _ _).2 hroom,(zX _ _).2 T.le,(zX _ _).2 hby,this,hrz,hzl];simp [hc]
 have hc0:yO 0=0:=by unfold yO;have:=vX;rw [if_neg (by omega)]
 have hc1:yV 0=true:=(xC 0).2 vX;rcases h with ⟨rfl,rfl,rfl,rfl,rfl⟩ | ⟨b,s,bc,pre,r,nx,rfl,rfl,h3,h4,rfl,h6,h7,h8,h9,h10⟩
 ·refine ⟨some ⟨(z.row [v] 1).y,0,none⟩,0+1+uB,[(0,1)],(z.row [v] 1).add (.cells [v] 1 [(0,1)] 1 false), ?_, ?_,.inl ⟨rfl,rfl,rfl,rfl,rfl⟩, ?_,Nat.le_refl _,fun b hb=>.inr (by obtain ⟨a,e,rfl⟩:=hb;cases e;simp)⟩
  ·have hble:Nat.ble (0+1) 0=false:=rfl;unfold yF;simp only [T.el,hxd,hei,hz,hsrc,hcond,cond_true,vH,hc0,hble,cond_false,hc1,yP];rfl
  ·refine .inr ⟨(z.row [v] 1).y,none,[v],[],[],1,rfl,rfl,rfl,by omega,rfl,by simp;omega,by simp, ?_,rfl,⟨by simp,trivial⟩⟩;rw [St.add_get,if_pos rfl];rfl
  ·exact (Only.row _ _ _).trans' (Only.add _ _:Only (AtP none) _ _) (fun b _ h=>.inl h)
 ·obtain ⟨f1,f2⟩:=Keys.find h10;have hcx:yV (len+uB)=false:=by unfold yV;rw [(zX _ _).2 (by omega)];rfl
  have hcl:yO (len+uB)=len:=zAS _;have hble:Nat.ble (len+1) len=false:=by rw [Bool.eq_false_iff];intro e;have:=(zX _ _).1 e;omega
  have hgb:yJ (z.row [v] 1).heap b=some (.cells bc 1 (pre++(s.getD 0,len)::r) nx false):=by
   rw [(Le.row z [v] 1).get b h7];exact h8
  have hg:(Nat.beq len len && Nat.beq (0+len*1) len && Nat.beq 1 1 && !false && Nat.blt 0 1)=true:=by
   rw [Nat.beq_refl,show 0+len*1=len by omega,Nat.beq_refl];rfl
  have hbl:(bc.take len).length=len:=by rw [h9];exact h3
  refine ⟨some ⟨b,0,some nx⟩,len+1+uB,(nx,len+1)::(s.getD 0,len)::r,(z.row [v] 1).put b (.cells (bc.take len++[v]) 1 ((nx,len+1)::(s.getD 0,len)::r) (nx+1) false), ?_, ?_, ?_, ?_, ?_,fun b' hb=>.inl (by obtain ⟨a,e,rfl⟩:=hb;cases e;exact ⟨_,rfl,rfl⟩)⟩
  ·unfold yF;simp only [T.el,hxd,hei,hz,hsrc,hcond,cond_true,vH,hcl,hble,cond_false,hcx];unfold zIH;simp only [hgb,yB,f1,f2,hg,cond_true,zCS,wI,St.write_eq]
  ·refine .inr ⟨b,some nx,bc.take len++[v],[],(s.getD 0,len)::r,nx+1,rfl,rfl,by simp [h3],by omega,rfl,h6,by simp;omega, ?_, ?_,⟨by omega, ?_⟩⟩
   ·rw [St.put_get,if_pos rfl];rfl
   ·rw [List.take_of_length_le (by simp [hbl]),h9]
   ·have:=h10.drop;exact ⟨Keys.lt h10,this.2⟩
  ·exact .inr ⟨b,s,some nx,(nx,len+1),r,rfl,rfl,rfl,rfl,rfl,h3,h4,by rw [List.take_append_of_le_length (by omega),List.take_of_length_le (by omega)],h6⟩
  ·exact (Only.row _ _ _).trans' (Only.put (S:=AtP (some ⟨b,0,s⟩)) (.inr ⟨_,rfl,rfl⟩)) (fun b _ h=>.inl h)
  ·simp;omega
end
end Go.Lay
