
import Derived.ChangeArms
import Derived.ReadAgain
import Derived.ChangeBears
import Derived.Below
import Derived.Test.YtgfiniccfpfplaaLayB
set_option linter.unusedVariables false
set_option linter.unusedSimpArgs false
namespace Go.Lay
open Go

def ov:List (Nat × Value)→(Nat→Value)→Nat→Value
 | [],g,i=>g i
 | (k,v)::l,g,i=>bif Nat.beq k i then v else ov l g i
def trF (g:Nat→Value):Nat→Nat→Nat→Bool→Tr Value
 | 0,_,_,_=>.leaf
 | d+1,w,a,c=>.node (some (bif c then g a else undef)) (trF g d (w*2) a false) (trF g d (w*2) (a+w) true)
def Fm (n:Nat) (g:Nat→Value):Tm:=⟨n,trF g ((way n).length+1) 1 0 true⟩
structure Alt where
 T:Type
 e:Exit
 l:T→List (Nat × Value)
 ms:T→List Nat
 Q:T→St→Prop

inductive Ans
 | g
 | b (t:Bool)
 | n (z:Int)
 | l (v:Value)
 | i
 | v (v:Value)
 | e (v:Value) (σ:St)
 | c (v:Value) (σ:St)
 | lp (e:Exit) (fr:Fr) (σ:St)
 | lf (n:Nat) (l:List (Nat × Value)) (alts:List Alt)
 | rf (n:Nat) (l:List (Nat × Value)) (alts:List (Exit × (St→Prop)))
 | fin (a:Alt) (t:a.T)
 | cut (n:Nat) (l:List (Nat × Value)) (alts:List Alt)

def St.row (σ:St) (cs:List Value) (esz:Nat):St:=σ.add (.cells cs esz [(0,cs.length)] 1 false)

def yVY (P:Program) (ev:Operand→Value) (σ:St) (o:Op):Option (Value × St) :=
 match o with
 | .alloc t=>match uZ P t with
  | some z=>some (.pointer (some ⟨σ.y,0,none⟩),σ.row z.cells.toList (xRF P t z.cells.toList.length))
  | none=>none
 | .box t x=>some (.pointer (some ⟨σ.y,0,none⟩),σ.row (ev x).cells.toList (xRF P t (ev x).cells.toList.length))
 | .buildSlice t len ps =>
  match wB P t with
  | some (e,n)=>match uZ P e with
   | some z =>
    bif Nat.ble (len*n) 16777216 && Nat.beq z.cells.toList.length n then
     match zMJ (fun i=>some (i*n,n)) (yZ z.cells.toList len) (ps.toList.map fun p=>(p.1,ev p.2)) with
     | some cs=>some (.slice (some ⟨σ.y,0,none⟩) len len,σ.row cs n)
     | none=>none
    else none
   | none=>none
  | none=>none
 | .makeMap t none=>match zDR P t with
  | some _=>some (.map (some σ.y),σ.add (.map []))
  | none=>none
 | o=>match xW P ev o with
  | some v=>some (v,σ)
  | none=>none

def evL (l:List Value):Operand→Value
 | .tmp i=>l.getD i undef
 | _=>undef
def vA (n:Nat):List Operand:=(List.range n).map .tmp
def xKR (i:Int) (len:Nat):Prop:=0≤i∧i<(len:Int)

def xTG (P:Program) (f:Tm) (σ:St) (o:Op) (v:Value):Prop :=
 match o with
 | .slice t x lo hi mx=>yI P σ t (yG f x) (lo.map (yG f)) (hi.map (yG f)) (mx.map (yG f))=some v
 | .lookup t m k ok=>xO P (evL [yG f m,yG f k]) σ (.lookup t (.tmp 0) (.tmp 1) ok)=some v
 | .index t x k=>zAL P t (yG f x) (yG f k)=some v
 | .binOp op t x y _=>uH P op t x y (yG f x) (yG f y)=some v
 | .convert s d x=>xP P (evL [yG f x]) σ (.convert s d (.tmp 0))=some v
 | .call c=>xP P (evL (c.args.toList.map (yG f))) σ (.call { c with args:=⟨vA c.args.toList.length⟩ })=some v
 | o=>xP P (yG f) σ o=some v
def xTH (P:Program) (f:Tm) (σ:St) (o:Op) (v:Value) (σ':St):Prop :=
 match o with
 | .store t a x=>zQ P (evL [yG f a,yG f x]) σ (.store t (.tmp 0) (.tmp 1))=some (v,σ')
 | .mapUpdate t m k x=>zQ P (evL [yG f m,yG f k,yG f x]) σ (.mapUpdate t (.tmp 0) (.tmp 1) (.tmp 2))=some (v,σ')
 | .insert t m k x=>zQ P (evL [yG f m,yG f k,yG f x]) σ (.insert t (.tmp 0) (.tmp 1) (.tmp 2))=some (v,σ')
 | .makeSlice t l c=>zQ P (evL [yG f l,yG f c]) σ (.makeSlice t (.tmp 0) (.tmp 1))=some (v,σ')
 | .call c=>match c.callee,c.argTypes.toList,c.args.toList.map (yG f) with
  | .builtin .append,[st,xt],[s,x]=>yD P st xt s x σ=some (v,σ')
  | _,_,_=>zQ P (yG f) σ (.call c)=some (v,σ')
 | o=>zQ P (yG f) σ o=some (v,σ')

abbrev zQH:=FnRef→List Value→St→Value→St→Prop
abbrev zPX (rec:Rec):zQH:=fun r args σ v σ'=>uC rec r args σ=some (v,σ')
def zVT (P:Program) (C:zQH) (f:Tm) (σ:St) (o:Op):List Ans→(Value→St→List Ans→Prop)→Prop
 | .g::as,K=>match yVY P (yG f) σ o with
  | some (v,σ')=>K v σ' as
  | none=>False
 | .b t::as,K=>match xW P (yG f) o with
  | some (.bool e)=>e=t∧K (.bool t) σ as
  | _=>False
 | .n z::as,K=>match xW P (yG f) o with
  | some (.int k e)=>e=z∧K (.int k z) σ as
  | _=>False
 | .l v::as,K=>match o with
  | .load t x=>match yG f x with
   | .pointer (some a)=>zB P σ t a=some v∧K v σ as
   | _=>False
  | _=>False
 | .i::as,K=>match o with
  | .indexAddr t x k=>match yG f k,yG f x,P.underlying t with
   | .int _ i,.pointer (some a),some (.array len elem)=>match yT P elem with
    | some n=>xKR i len∧K (.pointer (some (zN a (i.toNat*n)))) σ as
    | none=>False
   | .int _ i,.slice (some a) len _,some (.slice elem)=>match yT P elem with
    | some n=>xKR i len∧K (.pointer (some (zN a (i.toNat*n)))) σ as
    | none=>False
   | _,_,_=>False
  | _=>False
 | .v v::as,K=>xTG P f σ o v∧K v σ as
 | .e v σ'::as,K=>xTH P f σ o v σ'∧K v σ' as
 | .c v σ'::as,K=>match o with
  | .call c=>match c.callee with
   | .value fx=>match zME (yG f fx) (c.args.toList.map (yG f)) with
    | some (r,args)=>match xRE P fx σ r args with
     | none=>C r args σ v σ'∧K v σ' as
     | some _=>False
    | none=>False
   | _=>False
  | _=>False
 | _,_=>False

def zFC (P:Program) (C:zQH) (ops:Array Oper):List Oper→List Ans→Tm→St→List Seen→(Tm→St→List Seen→List Ans→Prop)→Prop
 | [],as,f,σ,l,K=>K f σ l as
 | o::rest,as,f,σ,l,K =>
  match zEX ops f o with
  | some true=>zVT P C f σ o.op as fun v σ' as=>zFC P C ops rest as (zLU f o.dst v) σ' (l++[⟨f,v,true,σ,σ'⟩]) K
  | some false=>zFC P C ops rest as (zLU f o.dst undef) σ (l++[⟨f,undef,false,σ,σ⟩]) K
  | none=>False

def zL:Nat→Value→Bool
 | 0,_=>false
 | n+1,.agg cs=>cs.toList.all (zL n)
 | n+1,.tuple cs=>cs.toList.all (zL n)
 | n+1,.iface _ v=>zL n v
 | n+1,.func (.func _) f c=>f.toList.all (zL n) && c.toList.all (zL n)
 | _+1,.int k _=>zDN k k
 | _+1,.bool _ | _+1,.string _ | _+1,.pointer _ | _+1,.slice _ _ _ | _+1,.map _ | _+1,.nilFunc | _+1,.nilIface=>true
 | _+1,_=>false
structure Lk where
 want:Bool
 need:Bool
 low:Prop
 look:St→Prop
 before:St
 after:St
def zG (n:Nat) (vs:List Value):Prop:=vs.all (yX RD n)=true
def xQE (f:Tm):Option Operand→List Value
 | some x=>[yG f x]
 | none=>[]
def yYC (P:Program) (f:Tm) (o:Op) (v:Value) (σ:St):Prop :=
 match o with
 | .load t x=>match yG f x with
  | .pointer (some a)=>(a.block<σ.y∧zL RD v=true)∧zB P σ t a=some v
  | _=>False
 | .slice t x lo hi mx=>(zG σ.y (yG f x::(xQE f lo++(xQE f hi++xQE f mx)))∧zL RD v=true)∧yI P σ t (yG f x) (lo.map (yG f)) (hi.map (yG f)) (mx.map (yG f))=some v
 | .lookup t m k ok=>(zG σ.y [yG f m,yG f k]∧zL RD v=true)∧xO P (evL [yG f m,yG f k]) σ (.lookup t (.tmp 0) (.tmp 1) ok)=some v
 | .convert s d x=>(zG σ.y [yG f x]∧zL RD v=true)∧xP P (evL [yG f x]) σ (.convert s d (.tmp 0))=some v
 | .call c=>(zG σ.y (c.args.toList.map (yG f))∧zL RD v=true)∧c.callee=.builtin .len∧xP P (evL (c.args.toList.map (yG f))) σ (.call { c with args:=⟨vA c.args.toList.length⟩ })=some v
 | _=>False
def yWV:Value→Bool
 | .bool _ | .int .. | .string _ | .nilFunc | .nilIface=>true
 | _=>false
def xIU (f:Tm) (o:Op):List Value:=(o.operands.toList.filter fun x=>!xQT x).map (yG f)
def xVK (f:Tm) (o:Op):Bool:=(xT o || zBP o) && !(xIU f o).all yWV
def zCS (P:Program) (C:zQH) (ops:Array Oper):List Oper→List Ans→Tm→St→List Lk→(Tm→St→List Lk→List Ans→Prop)→Prop
 | [],as,f,σ,l,K=>K f σ l as
 | o::rest,as,f,σ,l,K =>
  match zEX ops f o with
  | some true=>zVT P C f σ o.op as fun v σ' as=>zCS P C ops rest as (zLU f o.dst v) σ' (l++[⟨true,xVK f o.op,zG σ.y (xIU f o.op),yYC P f o.op v,σ,σ'⟩]) K
  | some false=>zCS P C ops rest as (zLU f o.dst undef) σ (l++[⟨false,false,True,fun _=>True,σ,σ⟩]) K
  | none=>False
def uJ (l:List Lk):List (Nat × Nat)→Prop→Prop
 | [],K=>K
 | p::ps,K=>match l[p.1]?,l[p.2]? with
  | some sj,some sk=>match sj.want with
   | true=>sj.look sk.before∧sj.look sk.after∧uJ l ps K
   | false=>uJ l ps K
  | _,_=>False
def zED:List Lk→Prop→Prop
 | [],K=>K
 | s::ss,K=>match s.need with
  | true=>s.low∧zED ss K
  | false=>zED ss K

def zHS (P:Program) (C:zQH) (ops:Array Oper) (draw:Bool) (as:List Ans) (fr:Fr) (σ:St) (K:Exit→Fr→St→List Ans→Prop):Prop :=
 match draw with
 | false=>zFC P C ops ops.toList as fr.f σ [] fun f σ _ as=>K .normal ⟨f,fr.marks⟩ σ as
 | true=>match yHS ops (CheckFast.beforeF ops),zXQ ops (CheckFast.beforeF ops),xTQ ops (CheckFast.beforeF ops) with
  | true,[],false=>zFC P C ops ops.toList as fr.f σ [] fun f σ _ as=>K .normal ⟨f,fr.marks⟩ σ as
  | true,ps,_=>zCS P C ops ops.toList as fr.f σ [] fun f σ l as=>zED l (uJ l ps (K .normal ⟨f,fr.marks⟩ σ as))
  | false,_,_=>False

def wpC (P:Program) (rec:Rec) (N:Nat) (rd:Option Nat):Code→List Ans→Fr→St→(Exit→Fr→St→List Ans→Prop)→Prop
 | .skip,as,fr,σ,K=>K .normal fr σ as
 | .label _,as,fr,σ,K=>K .normal fr σ as
 | .ret,as,fr,σ,K=>K .ret fr σ as
 | .exit id,as,fr,σ,K=>K (.exit id) fr σ as
 | .seq x y,as,fr,σ,K=>wpC P rec N rd x as fr σ fun e fr σ as=>match e with
  | .normal=>wpC P rec N rd y as fr σ K
  | e=>K e fr σ as
 | .cond c x y,as,fr,σ,K=>match yG fr.f c with
  | .bool true=>wpC P rec N rd x as fr σ K
  | .bool false=>wpC P rec N rd y as fr σ K
  | _=>False
 | .block id c,as,fr,σ,K=>wpC P rec N rd c as fr σ fun e fr σ as=>match e with
  | .exit i=>match Nat.beq i id with
   | true=>K .normal fr σ as
   | false=>K (.exit i) fr σ as
  | e=>K e fr σ as
 | .scope c,as,fr,σ,K=>wpC P rec N rd c as fr σ K
 | .region _ ops d,as,fr,σ,K=>zHS P (zPX rec) ops d as fr σ K
 | .loop c,.lp e fr' σ'::as,fr,σ,K=>zDS (yY P rec N rd c) N fr σ=some (e,fr',σ')∧K e fr' σ' as
 | .rangeFunc g ps a bo,.lp e fr' σ'::as,fr,σ,K=>zNA rec rd g ps a bo fr σ=some (e,fr',σ')∧K e fr' σ' as
 | _,_,_,_,_=>False

section
variable {P:Program} {rec:Rec}

theorem yIK {o:Op} {f:Tm} {σ:St} {r:Value × St} (h:yVY P (yG f) σ o=some r):opA P rec (yG f) σ o=some r:=by
 unfold yVY at h;split at h
 ·split at h
  ·rename_i z hz;simp [opA,zHA,zQ,hz,yO,wG] at h ⊢;exact h
  ·cases h
 ·simp [opA,zHA,zQ,yO,wG] at h ⊢;exact h
 ·split at h
  ·rename_i e n hes;split at h
   ·rename_i z hz;obtain ⟨hc,h⟩:=xX h;split at h
    ·rename_i cs hf;simp only [opA,zHA,zQ,hes,hz,hc,cond_true,hf,yO];exact h
    ·cases h
   ·cases h
  ·cases h
 ·split at h
  ·rename_i ke hmo;simp only [opA,zHA,zQ,hmo,cond_true,St.new_eq];exact h
  ·cases h
 ·rename_i hn1 hn2 hn3 hn4;split at h
  ·rename_i v hv;cases h
   unfold opA;split
   ·rename_i c;unfold zNW;split
    ·rename_i fx hc;exfalso;simp only [xW] at hv;split at hv <;> simp_all
    ·rename_i hc;exfalso;simp [xW,hc] at hv
    ·rename_i hc;exfalso;simp [xW,hc] at hv
    ·rename_i hc;rw [hv]
    ·rename_i hc;rw [hv];rfl
    ·rename_i hc;exfalso;simp [xW,hc] at hv
   ·simp [xW] at hv
   ·simp [xW] at hv
   ·simp [xW] at hv
   ·rw [hv]
   ·have:zHA o=false:=by
     cases o <;> first | rfl | (simp [xW] at hv;done) | (exfalso;rename_i hx _ _ _ _;exact hx _ rfl)
    rw [this,hv];rfl
  ·cases h
end
end Go.Lay

namespace Go.Lay
open Go
section
variable {P:Program} {rec:Rec}

theorem uT {o:Op} {ev:Operand→Value} {σ:St} {v:Value} (hv:xW P ev o=some v):opA P rec ev σ o=some (v,σ):=by
 unfold opA;split
 ·rename_i c;unfold zNW;split
  ·rename_i fx hc;exfalso;simp only [xW] at hv;split at hv <;> simp_all
  ·rename_i hc;exfalso;simp [xW,hc] at hv
  ·rename_i hc;exfalso;simp [xW,hc] at hv
  ·rename_i hc;rw [hv]
  ·rename_i hc;rw [hv];rfl
  ·rename_i hc;exfalso;simp [xW,hc] at hv
 ·simp [xW] at hv
 ·simp [xW] at hv
 ·simp [xW] at hv
 ·rw [hv]
 ·have:zHA o=false:=by
   cases o <;> first | rfl | (simp [xW] at hv;done) | (exfalso;rename_i hx _ _ _ _;exact hx _ rfl)
  rw [this,hv];rfl

theorem zBQ {o:Op} {ev:Operand→Value} {σ:St} {v:Value} (hv:xW P ev o=none) (hl:xO P ev σ o=some v):opA P rec ev σ o=some (v,σ):=by
 unfold opA;split
 ·rename_i c;unfold zNW;split
  ·rename_i fx hc;exfalso;simp only [xO,hc] at hl;cases hl
  ·rename_i hc;exfalso;simp only [xO,hc] at hl;cases hl
  ·rename_i hc;exfalso;simp only [xO,hc] at hl;cases hl
  ·rename_i hc;rw [hv,hl];rfl
  ·rename_i b _ _ hb hc;exfalso;simp only [xO,hc] at hl;cases b <;> first | (simp at hl;done) | exact hb rfl
  ·rename_i hc;exfalso;simp only [xO,hc] at hl;cases hl
 ·rw [hl];rfl
 ·rw [hl];rfl
 ·rw [hl];rfl
 ·rw [hv,hl];rfl
 ·exfalso;cases o <;> first | (simp [xO] at hl;done) | (rename_i h1 h2 h3 h4 h5;first | exact h1 _ rfl | exact h2 _ _ rfl | exact h3 _ _ _ _ rfl | exact h4 _ _ _ _ _ rfl | exact h5 _ _ _ rfl)

theorem xDT {o:Op} {ev:Operand→Value} {σ σ':St} {v:Value} (h:zQ P ev σ o=some (v,σ')):opA P rec ev σ o=some (v,σ'):=by
 unfold opA;split
 ·rename_i c;unfold zNW;split
  ·rename_i fx hc;simp only [zQ,hc] at h;split at h
   ·rename_i r as href;simp only [Option.map_eq_some_iff] at h;obtain ⟨v0,h1,h2⟩:=h;simp only [h1];rw [h2]
   ·cases h
  ·exact h
  ·exact h
  ·rename_i hc;exfalso;simp only [zQ,hc] at h;cases h
  ·rename_i b ha hcp _ hc;exfalso;simp only [zQ,hc] at h;cases b <;> first | (simp at h;done) | exact ha rfl | exact hcp rfl
  ·rename_i hc;exfalso;simp only [zQ,hc] at h;cases h
 ·simp [zQ] at h
 ·simp [zQ] at h
 ·simp [zQ] at h
 ·simp [zQ] at h
 ·have:zHA o=true:=by
   cases o <;> first | rfl | (simp [zQ] at h;done) | (exfalso;rename_i hx _ _ _ _;exact hx _ rfl)
  rw [this];exact h

theorem xLT (l:List Value):(vA l.length).map (evL l)=l:=by
 apply List.ext_getElem
 ·simp [vA]
 ·intro i h1 h2;simp [vA,evL,List.getD,h2]
theorem zWK {c:Call} {ev:Operand→Value} {σ:St} {v:Value} (h:xP P (evL (c.args.toList.map ev)) σ (.call { c with args:=⟨vA c.args.toList.length⟩ })=some v):xP P ev σ (.call c)=some v:=by
 have e:(vA c.args.toList.length).map (evL (c.args.toList.map ev))=c.args.toList.map ev:=by
  have:=xLT (c.args.toList.map ev);rwa [List.length_map] at this
 simp only [xP,xW,xO,e] at h ⊢;exact h

theorem zVS {f:Tm} {σ:St} {o:Op} {as:List Ans} {K:Value→St→List Ans→Prop} (h:zVT P (zPX rec) f σ o as K):∃ v σ' as',opA P rec (yG f) σ o=some (v,σ')∧K v σ' as':=by
 unfold zVT at h;split at h
 ·split at h
  ·rename_i v σ' ho;exact ⟨v,σ',_,yIK ho,h⟩
  ·exact h.elim
 ·split at h
  ·rename_i e he;obtain ⟨rfl,h⟩:=h;exact ⟨_,_,_,uT he,h⟩
  ·exact h.elim
 ·split at h
  ·rename_i k e he;obtain ⟨rfl,h⟩:=h;exact ⟨_,_,_,uT he,h⟩
  ·exact h.elim
 ·split at h
  ·split at h
   ·rename_i a ha;exact ⟨_,_,_,zBQ rfl (by simp only [xO,ha];exact h.1),h.2⟩
   ·exact h.elim
  ·exact h.elim
 ·split at h
  ·rename_i t x k;split at h
   ·rename_i kd i a len elem hk hx hd;split at h
    ·rename_i n hn;refine ⟨_,_,_,uT (v:=.pointer (some (zN a (i.toNat*n)))) ?_,h.2⟩
     have h1:leI 0 i=true:=(wY 0 i).2 h.1.1;have h2:ltI i (.ofNat len)=true:=(zGW i _).2 h.1.2;simp only [xW,zDV,hk,hx,hd,hn,h1,h2,Bool.and_self,cond_true]
    ·exact h.elim
   ·rename_i kd i a len cp elem hk hx hd;split at h
    ·rename_i n hn;refine ⟨_,_,_,uT (v:=.pointer (some (zN a (i.toNat*n)))) ?_,h.2⟩
     have h1:leI 0 i=true:=(wY 0 i).2 h.1.1;have h2:ltI i (.ofNat len)=true:=(zGW i _).2 h.1.2;simp only [xW,zDV,hk,hx,hd,hn,h1,h2,Bool.and_self,cond_true]
    ·exact h.elim
   ·exact h.elim
  ·exact h.elim
 ·obtain ⟨hs,h⟩:=h;refine ⟨_,_,_, ?_,h⟩
  unfold xTG at hs;split at hs
  ·exact zBQ rfl hs
  ·exact zBQ rfl hs
  ·exact uT hs
  ·exact uT hs
  ·unfold xP at hs;split at hs
   ·rename_i v0 hv;cases hs;exact uT hv
   ·rename_i hv;exact zBQ hv hs
  ·have hs:=zWK hs;unfold xP at hs;split at hs
   ·rename_i v0 hv;cases hs;exact uT hv
   ·rename_i hv;exact zBQ hv hs
  ·unfold xP at hs;split at hs
   ·rename_i v0 hv;cases hs;exact uT hv
   ·rename_i hv;exact zBQ hv hs
 ·obtain ⟨he,h⟩:=h;refine ⟨_,_,_,xDT ?_,h⟩
  unfold xTH at he;split at he
  ·exact he
  ·exact he
  ·exact he
  ·exact he
  ·split at he
   ·rename_i hc ht ha;simp only [zQ,hc,ht,ha];exact he
   ·exact he
  ·exact he
 ·split at h
  ·split at h
   ·rename_i fx hc;split at h
    ·rename_i r args href;split at h
     ·rename_i hx;refine ⟨_,_,_, ?_,h.2⟩
      simp only [opA,zNW,hc,href,hx];exact h.1
     ·exact h.elim
    ·exact h.elim
   ·exact h.elim
  ·exact h.elim
 ·exact h.elim

theorem zEK {ops:Array Oper}:∀ (rest:List Oper) (as:List Ans) (f:Tm) (σ:St) (l:List Seen) (K:Tm→St→List Seen→List Ans→Prop),zFC P (zPX rec) ops rest as f σ l K →
  ∃ l' t τ as',zAP P rec ops rest f σ=some (l',t,τ)∧K t τ (l++l') as'
 | [],as,f,σ,l,K,h=>⟨[],f,σ,as,rfl,by rw [List.append_nil];exact h⟩
 | o::rest,as,f,σ,l,K,h=>by
  unfold zFC at h;split at h
  ·rename_i hg;obtain ⟨v,σ',as',h1,h2⟩:=zVS h;obtain ⟨l',t,τ,as2,h3,h4⟩:=zEK rest _ _ _ _ _ h2;exact ⟨⟨f,v,true,σ,σ'⟩::l',t,τ,as2,by simp [zAP,hg,h1,zJS,vN,h3],by rw [List.append_assoc] at h4;exact h4⟩
  ·rename_i hg;obtain ⟨l',t,τ,as2,h3,h4⟩:=zEK rest _ _ _ _ _ h;exact ⟨⟨f,undef,false,σ,σ⟩::l',t,τ,as2,by simp [zAP,hg,vN,h3],by rw [List.append_assoc] at h4;exact h4⟩
  ·exact h.elim

theorem zDM {ops:Array Oper}:∀ (rest:List Oper) (f:Tm) (σ:St) (l:List Seen) (t:Tm) (τ:St),zAP P rec ops rest f σ=some (l,t,τ)→zLV P rec ops rest f σ=some (t,τ)
 | [],f,σ,l,t,τ,h=>by simp [zAP] at h;simp [zLV,h.2.1,h.2.2]
 | o::rest,f,σ,l,t,τ,h=>by
  unfold zAP at h;split at h
  ·rename_i hg;split at h
   ·rename_i v σ' hop;rw [zJS,vN] at h;split at h
    ·rename_i l' t' τ' hs;simp at h;obtain ⟨_,rfl,rfl⟩:=h;have:=zDM rest _ _ _ _ _ hs;simp [zLV,hg,hop,vN,this]
    ·cases h
   ·cases h
  ·rename_i hg;rw [vN] at h;split at h
   ·rename_i l' t' τ' hs;simp at h;obtain ⟨_,rfl,rfl⟩:=h;have:=zDM rest _ _ _ _ _ hs;simp [zLV,hg,vN,this]
   ·cases h
  ·cases h

theorem xGA:∀ (n:Nat) (v:Value),zL n v=true→veq n v v=true:=by
 intro n;induction n with
 | zero=>intro v h;simp [zL] at h
 | succ n ih =>
  have lists:∀ (l:List Value),l.all (zL n)=true→veq.veqs n l l=true:=by
   intro l;induction l with
   | nil=>intro _;rfl
   | cons x l ihl =>
    intro h;simp only [List.all_cons,Bool.and_eq_true] at h;simp only [veq.veqs,Bool.and_eq_true];exact ⟨ih x h.1,ihl h.2⟩
  intro v h;cases v with
  | agg cs=>simp only [zL] at h;simp only [veq];exact lists _ h
  | tuple cs=>simp only [zL] at h;simp only [veq];exact lists _ h
  | iface t x=>simp only [zL] at h;simp only [veq,Bool.and_eq_true];exact ⟨Nat.beq_refl _,ih x h⟩
  | func fn f c =>
   cases fn with
   | func g=>simp only [zL,Bool.and_eq_true] at h;simp only [veq,Bool.and_eq_true];exact ⟨⟨Nat.beq_refl _,lists _ h.1⟩,lists _ h.2⟩
   | _=>simp [zL] at h
  | bool b=>simp [veq]
  | int k n=>simp only [zL] at h;simp only [veq,yHN,Bool.and_eq_true];exact ⟨h,by simp⟩
  | string s=>simp [veq]
  | pointer a=>simp [veq]
  | slice a l c=>simp [veq]
  | map a=>simp [veq]
  | nilFunc=>rfl
  | nilIface=>rfl
  | _=>simp [zL] at h

structure LkOk (P:Program) (o:Oper) (k:Lk) (s:Seen):Prop where
 want:k.want=s.want
 before:k.before=s.before
 after:k.after=s.after
 low:(k.need=true→k.low)→(!s.want || zCQ s.before.y s.f o || !(xT o.op || zBP o.op))=true
 look:s.want=true→∀ σ,k.look σ→steady P o s σ=true
inductive LkAll (P:Program):List Oper→List Lk→List Seen→Prop
 | nil:LkAll P [] [] []
 | cons {o:Oper} {k:Lk} {s:Seen} {os:List Oper} {ks:List Lk} {ss:List Seen} (h:LkOk P o k s) (t:LkAll P os ks ss):LkAll P (o::os) (k::ks) (s::ss)
theorem LkAll.get {os:List Oper} {ks:List Lk} {ss:List Seen} (h:LkAll P os ks ss):∀ (i:Nat) (k:Lk),ks[i]?=some k→∃ o s,os[i]?=some o∧ss[i]?=some s∧LkOk P o k s:=by
 induction h with
 | nil=>intro i k h;simp at h
 | cons h _ ih =>
  intro i k hk;cases i with
  | zero=>simp at hk;subst hk;exact ⟨_,_,rfl,rfl,h⟩
  | succ i=>simpa using ih i k (by simpa using hk)

theorem zEE {n:Nat} {f:Tm} {o:Oper} (h:zG n (o.op.operands.toList.map (yG f))):zCQ n f o=true:=by
 unfold zG at h;rw [List.all_map] at h;exact h
theorem yPX {n:Nat} {vs:List Value} (h:vs.all yWV=true):zG n vs:=by
 refine List.all_eq_true.2 (fun v hv=>?_);have:=List.all_eq_true.1 h v hv;cases v <;> first | rfl | (simp [yWV] at this;done)
theorem zZZ {n:Nat} {f:Tm} {o:Oper} (h:zG n (xIU f o.op)):zCQ n f o=true:=by
 refine List.all_eq_true.2 (fun x hx=>?_);cases hx2:xQT x with
 | true=>cases x <;> first | (simp [xQT] at hx2;done) | rfl
 | false =>
  have:=List.all_eq_true.1 h (yG f x) (List.mem_map_of_mem (List.mem_filter.2 ⟨hx,by rw [hx2];rfl⟩));exact this
theorem zFD {o:Oper} {s:Seen} {σ:St} (h1:zCQ σ.y s.f o=true) (h2:zL RD s.v=true) (h3:xP P (yG s.f) σ o.op=some s.v):steady P o s σ=true:=by
 unfold steady;cases hw:s.want with
 | true=>rw [cond_true,h1,Bool.true_and,h3];exact xGA _ _ h2
 | false=>rfl
theorem yMB {o:Oper} {s:Seen} {σ:St} (h:yYC P s.f o.op s.v σ):steady P o s σ=true:=by
 unfold yYC at h;split at h
 ·rename_i t x ho;split at h
  ·rename_i a ha;refine zFD ?_ h.1.2 (by rw [ho];simp only [xP,xW,xO,ha];exact h.2);refine zEE (n:=σ.y) ?_
   unfold zG;rw [ho];simp only [Op.operands,List.map_cons,List.map_nil,ha,List.all_cons,List.all_nil,Bool.and_true];exact (xY _ _).2 h.1.1
  ·exact h.elim
 ·rename_i t x lo hi mx ho;refine zFD ?_ h.1.2 (by rw [ho];exact h.2);refine zEE (n:=σ.y) ?_
  have h1:=h.1.1;unfold zG at h1 ⊢;rw [ho];cases lo <;> cases hi <;> cases mx <;> simpa [Op.operands,xQE] using h1
 ·rename_i t m k ok ho;refine zFD ?_ h.1.2 (by rw [ho];exact h.2);refine zEE (n:=σ.y) ?_
  have h1:=h.1.1;unfold zG at h1 ⊢;rw [ho];simpa [Op.operands] using h1
 ·rename_i t m k ho;refine zFD ?_ h.1.2 (by rw [ho];exact h.2);refine zEE (n:=σ.y) ?_
  have h1:=h.1.1;unfold zG at h1 ⊢;rw [ho];simpa [Op.operands] using h1
 ·rename_i c ho;refine zFD ?_ h.1.2 (by rw [ho];exact zWK h.2.2);refine zEE (n:=σ.y) ?_
  have h1:=h.1.1;unfold zG at h1 ⊢;rw [ho];simpa [Op.operands,Call.operands,h.2.1] using h1
 ·exact h.elim

theorem zGH {ops:Array Oper}:∀ (rest:List Oper) (as:List Ans) (f:Tm) (σ:St) (l:List Lk) (K:Tm→St→List Lk→List Ans→Prop),zCS P (zPX rec) ops rest as f σ l K →
  ∃ l' t τ as' lk,zAP P rec ops rest f σ=some (l',t,τ)∧LkAll P rest lk l'∧K t τ (l++lk) as'
 | [],as,f,σ,l,K,h=>⟨[],f,σ,as,[],rfl,.nil,by rw [List.append_nil];exact h⟩
 | o::rest,as,f,σ,l,K,h=>by
  unfold zCS at h;split at h
  ·rename_i hg;obtain ⟨v,σ',as',h1,h2⟩:=zVS h;obtain ⟨l',t,τ,as2,lk,h3,h4,h5⟩:=zGH rest _ _ _ _ _ h2;refine ⟨⟨f,v,true,σ,σ'⟩::l',t,τ,as2,⟨true,xVK f o.op,zG σ.y (xIU f o.op),yYC P f o.op v,σ,σ'⟩::lk,by simp [zAP,hg,h1,zJS,vN,h3],.cons ⟨rfl,rfl,rfl,fun hl=>?_,fun _ σ₁ hl=>yMB (s:=⟨f,v,true,σ,σ'⟩) hl⟩ h4,by rw [List.append_assoc] at h5;exact h5⟩
   simp only at hl;cases ha:xT o.op || zBP o.op with
   | false=>simp
   | true =>
    have hb:zCQ σ.y f o=true:=by
     cases ht:(xIU f o.op).all yWV with
     | true=>exact zZZ (yPX ht)
     | false=>exact zZZ (hl (by unfold xVK;rw [ha,ht];rfl))
    simp only [hb];simp
  ·rename_i hg;obtain ⟨l',t,τ,as2,lk,h3,h4,h5⟩:=zGH rest _ _ _ _ _ h;exact ⟨⟨f,undef,false,σ,σ⟩::l',t,τ,as2,⟨false,false,True,fun _=>True,σ,σ⟩::lk,by simp [zAP,hg,vN,h3],.cons ⟨rfl,rfl,rfl,fun _=>rfl,fun h=>by cases h⟩ h4,by rw [List.append_assoc] at h5;exact h5⟩
  ·exact h.elim

theorem zHN:∀ {os:List Oper} {ks:List Lk} {ss:List Seen} {K:Prop},LkAll P os ks ss→zED ks K→zFZ os ss=true∧K
 | [],_,_,_,.nil,hb=>⟨rfl,hb⟩
 | _::_,k::_,_::_,K,.cons h t,hb=>by
  simp only [zED] at hb;simp only [zFZ,Bool.and_eq_true];cases hn:k.need with
  | true =>
   rw [hn] at hb;obtain ⟨h1,h2⟩:=zHN t hb.2;exact ⟨⟨h.low (fun _=>hb.1),h1⟩,h2⟩
  | false =>
   rw [hn] at hb;obtain ⟨h1,h2⟩:=zHN t hb;exact ⟨⟨h.low (fun e=>by rw [hn] at e;cases e),h1⟩,h2⟩
theorem zDK {ops:Array Oper} {ks:List Lk} {l:List Seen} {K:Prop} (h:LkAll P ops.toList ks l):∀ (ps:List (Nat × Nat)),uJ ks ps K→ps.all (yGX P ops l)=true∧K
 | [],hk=>⟨rfl,hk⟩
 | p::ps,hs=>by
  simp only [uJ] at hs;rw [List.all_cons,Bool.and_eq_true];unfold yGX;split at hs
  ·rename_i sj sk e1 e2;obtain ⟨oj,s1,a1,a2,a3⟩:=h.get _ _ e1;obtain ⟨_,s2,_,b2,b3⟩:=h.get _ _ e2;have a1:ops[p.1]?=some oj:=by simpa using a1
   rw [a1,a2,b2];simp only;cases hw:s1.want with
   | true =>
    rw [a3.want,hw] at hs;simp only at hs;rw [b3.before,b3.after] at hs;obtain ⟨g1,g2⟩:=zDK h ps hs.2.2;rw [a3.look hw _ hs.1,a3.look hw _ hs.2.1];exact ⟨⟨rfl,g1⟩,g2⟩
   | false =>
    rw [a3.want,hw] at hs;obtain ⟨g1,g2⟩:=zDK h ps hs;exact ⟨⟨by simp [steady,hw],g1⟩,g2⟩
  ·exact hs.elim

theorem yPN (N:Nat) (rd:Option Nat) {id:Nat} {ops:Array Oper} {draw:Bool} {as:List Ans} {fr:Fr} {σ:St} {K:Exit→Fr→St→List Ans→Prop} (h:zHS P (zPX rec) ops draw as fr σ K) :
  ∃ e fr' σ' as',yY P rec N rd (.region id ops draw) fr σ=some (e,fr',σ')∧K e fr' σ' as':=by
 cases draw with
 | false =>
  simp only [zHS] at h;obtain ⟨l',t,τ,as',h1,h2⟩:=zEK _ _ _ _ _ _ h;exact ⟨.normal,⟨t,fr.marks⟩,τ,as',by simp only [yY,zKU,zDM _ _ _ _ _ _ h1],h2⟩
 | true =>
  simp only [zHS] at h;split at h
  ·rename_i h0 hp hf;obtain ⟨l',t,τ,as',h1,h2⟩:=zEK _ _ _ _ _ _ h;refine ⟨.normal,⟨t,fr.marks⟩,τ,as', ?_,h2⟩
   simp only [yY,zKU,zZC,h0,hp,hf,cond_true,zDM _ _ _ _ _ _ h1]
  ·rename_i ps _ h0 hno;obtain ⟨l',t,τ,as',lk,h1,hlk,h2⟩:=zGH _ _ _ _ _ _ h;rw [List.nil_append] at h2;obtain ⟨h3,h2⟩:=zHN hlk h2;obtain ⟨h4,h2⟩:=zDK hlk _ h2;refine ⟨.normal,⟨t,fr.marks⟩,τ,as', ?_,h2⟩
   have hd:zZC P rec ops fr.f σ=some (t,τ):=by
    unfold zZC;rw [h0,cond_true];split
    ·exact zDM _ _ _ _ _ _ h1
    ·rw [h1];simp only;rw [h3,h4];rfl
   simp only [yY,zKU,hd]
  ·exact h.elim
def zOC:List Nat→St→(St→Prop)→Prop
 | [],σ,K=>K σ
 | d::ds,σ,K=>yK σ.heap d=some .defd∧zOC ds (σ.shut d) K
def yJD (P:Program) (f:Tm) (σ:St):List ResultVar→List Ans→List Value→(List Value→Prop)→Prop
 | [],_,vs,K=>K vs
 | .tmp t::rs,as,vs,K=>yJD P f σ rs as (vs++[f.nth t]) K
 | .cell a t::rs,as,vs,K=>match as,f.nth a with
  | .l v::as,.pointer (some a)=>zB P σ t a=some v∧yJD P f σ rs as (vs++[v]) K
  | _,_=>False
def xIW:List Value→Value
 | [v]=>v
 | vs=>.tuple ⟨vs⟩
def zIF (P:Program) (fn:Func) (fr:Fr) (σ:St) (as:List Ans) (K:Value→St→Prop):Prop :=
 zOC fr.marks σ fun σ=>yJD P fr.f σ fn.results.toList as [] fun vs=>K (xIW vs) σ
def xYN (P:Program) (n:Nat) (f:FuncId) (args:List Value) (as:List Ans) (σ:St) (K:Value→St→Prop):Prop :=
 match P.funcs[f]? with
 | some fn=>match fn.body with
  | some c=>wpC P (zX P n) n none c as ⟨(Tm.args 0 args).foldl (fun f p=>f.set p.1 p.2) (fresh (args.length+(fn.ntmps-args.length))),[]⟩ σ fun e fr σ as=>match e with
   | .normal=>zIF P fn fr σ as K
   | .ret=>zIF P fn fr σ as K
   | _=>False
  | none=>False
 | none=>False

theorem zLX:∀ (ms:List Nat) (σ:St) (K:St→Prop),zOC ms σ K→∃ σ',zBV ms σ=some σ'∧K σ'
 | [],σ,K,h=>⟨σ,rfl,h⟩
 | d::ds,σ,K,h=>by
  obtain ⟨σ',h1,h2⟩:=zLX ds _ K h.2;exact ⟨σ',by simp only [zBV,h.1,St.drop_eq,h1],h2⟩
theorem zIC {f:Tm} {σ:St}:∀ (rs:List ResultVar) (as:List Ans) (vs:List Value) (K:List Value→Prop),yJD P f σ rs as vs K→∃ ws,uU P f σ rs=some ws∧K (vs++ws)
 | [],as,vs,K,h=>⟨[],rfl,by rw [List.append_nil];exact h⟩
 | .tmp t::rs,as,vs,K,h=>by
  obtain ⟨ws,h1,h2⟩:=zIC rs as _ K h;exact ⟨f.nth t::ws,by simp only [uU,zON,h1],by rw [List.append_assoc] at h2;exact h2⟩
 | .cell a t::rs,as,vs,K,h=>by
  unfold yJD at h;split at h
  ·rename_i v as' a0 ha;obtain ⟨ws,h1,h2⟩:=zIC rs _ _ K h.2;exact ⟨v::ws,by simp only [uU,zON,ha,h.1,h1],by rw [List.append_assoc] at h2;exact h2⟩
  ·exact h.elim
theorem yFO {fn:Func} {fr:Fr} {σ:St} {as:List Ans} {K:Value→St→Prop} (h:zIF P fn fr σ as K):∃ v σ',zTU P fn fr σ=some (v,σ')∧K v σ':=by
 obtain ⟨σ',h1,h2⟩:=zLX _ _ _ h;obtain ⟨ws,h3,h4⟩:=zIC _ _ _ _ h2;rw [List.nil_append] at h4;refine ⟨xIW ws,σ', ?_,h4⟩
 have:zFG P fn fr.f σ'=some (xIW ws):=by
  unfold zFG;rw [h3];match ws with
  | []=>rfl
  | [v]=>rfl
  | _::_::_=>rfl
 simp only [zTU,h1,this,zJS]
end
end Go.Lay

namespace Go.Lay
open Go

theorem xYD (a b:Int):(leI a b=true∧a≤b)∨(leI a b=false∧b<a):=by
 by_cases h:a≤b
 ·exact .inl ⟨(wY a b).2 h,h⟩
 ·exact .inr ⟨by rw [yHD];simp;omega,by omega⟩
theorem xYC (a b:Int):(ltI a b=true∧a<b)∨(ltI a b=false∧b≤a):=by
 by_cases h:a<b
 ·exact .inl ⟨(zGW a b).2 h,h⟩
 ·exact .inr ⟨by rw [yHB];simp;omega,by omega⟩
theorem yYW (a b:Int):eqI a b=true↔a=b:=by rw [yHN];simp
theorem zVR {n:Int} (h1:-9223372036854775808≤n) (h2:n≤9223372036854775807):zAN .i64 n=n:=by
 have e1:(2:Int) ^ 64=18446744073709551616:=by decide
 have e2:(2:Int) ^ (64-1)=9223372036854775808:=by decide
 rw [uB];simp only [IntKind.wrap,IntKind.bits,IntKind.signed,e1,e2,Bool.true_and,decide_eq_true_eq];split <;> omega

structure Row (σ:St) (a:Addr) (cs:List Value):Prop where
 rd:yS σ a cs.length=some cs
 lt:a.block<σ.y
structure Le (σ σ':St):Prop where
 y:σ.y≤σ'.y
 get:∀ b,b<σ.y→yK σ'.heap b=yK σ.heap b
def St.re (σ:St):St:=⟨σ.heap,σ.y,σ.y⟩

section
variable {P:Program} {σ σ':St} {a:Addr} {cs:List Value}
theorem Le.refl (σ:St):Le σ σ:=⟨Nat.le_refl _,fun _ _=>rfl⟩
theorem Le.trans {σ₁ σ₂ σ₃:St} (h:Le σ₁ σ₂) (k:Le σ₂ σ₃):Le σ₁ σ₃:=⟨Nat.le_trans h.y k.y,fun b hb=>(k.get b (Nat.lt_of_lt_of_le hb h.y)).trans (h.get b hb)⟩
theorem Le.add (σ:St) (y:Blk):Le σ (σ.add y):=⟨by simp,fun b hb=>by rw [St.add_get,if_neg (Nat.ne_of_lt hb)]⟩
theorem Le.row (σ:St) (cs:List Value) (n:Nat):Le σ (σ.row cs n):=Le.add _ _
theorem yQU (h:Le σ σ') (hb:a.block<σ.y) (n:Nat):yS σ' a n=yS σ a n:=by
 unfold yS;rw [h.get _ hb]
theorem Row.le (h:Row σ a cs) (l:Le σ σ'):Row σ' a cs:=⟨by rw [yQU l h.lt];exact h.rd,Nat.lt_of_lt_of_le h.lt l.y⟩
theorem Row.row (h:Row σ a cs) {ds:List Value} {n:Nat}:Row (σ.row ds n) a cs:=h.le (Le.row _ _ _)
theorem Row.re (h:Row σ a cs):Row σ.re a cs:=⟨h.rd,h.lt⟩
theorem Le.re' (h:Le σ σ'):Le σ σ'.re:=⟨h.y,h.get⟩
theorem xQ (σ:St) (cs:List Value) (n:Nat):Row (σ.row cs n) ⟨σ.y,0,none⟩ cs:=by
 refine ⟨?_,by simp [St.row]⟩
 have h1:yK (σ.row cs n).heap σ.y=some (.cells cs n [(0,cs.length)] 1 false):=by
  show yK (σ.add _).heap σ.y=_;rw [St.add_get,if_pos rfl]
 have h2:Nat.ble (0+cs.length) cs.length=true:=(zW _ _).2 (by omega);have h3:Nat.beq 0 0=true:=rfl;unfold yS;simp only [h1,yB,Option.getD_none,wM,h3,cond_true,h2,List.drop_zero,List.take_length]
theorem Row.part (h:Row σ a cs) {k m:Nat} (hk:k+m≤cs.length):Row σ (zN a k) ((cs.drop k).take m):=by
 have hl:((cs.drop k).take m).length=m:=by simp;omega
 refine ⟨?_,h.lt⟩
 have hr:=h.rd;rw [hl];unfold yS at hr;split at hr
 ·rename_i bc esz log nx ro hb;split at hr
  ·rename_i e he;obtain ⟨hle,hr⟩:=xX hr;have hle:=(zW _ _).1 hle;have key:yS σ (zN a k) m=bif Nat.ble (a.off+k+m) e then some ((bc.drop (a.off+k)).take m) else none:=by
    unfold yS;rw [show yK σ.heap (zN a k).block=some (.cells bc esz log nx ro) from hb];show (match wM log (yB a) with | some e=>bif Nat.ble (a.off+k+m) e then some ((bc.drop (a.off+k)).take m) else none | none=>none)=_;rw [he]
   rw [key,(zW (a.off+k+m) e).2 (by omega),cond_true];have hr2:(bc.drop a.off).take cs.length=cs:=by simpa using hr
   congr 1;rw [show (cs.drop k).take m=((((bc.drop a.off).take cs.length)).drop k).take m from by rw [hr2]];rw [List.drop_take,List.drop_drop,List.take_take];congr 1;omega
  ·cases hr
 ·cases hr
theorem Row.load1 (h:Row σ a cs) {t:TypeId} (ht:wN P t=some false) {k:Nat} {v:Value} (hv:cs[k]?=some v):zB P σ t (zN a k)=some v:=by
 have hk:k<cs.length:=(List.getElem?_eq_some_iff.1 hv).1;have hp:=(h.part (k:=k) (m:=1) (by omega)).rd;have e:(cs.drop k).take 1=[v]:=by
  rw [List.drop_eq_getElem_cons hk];have:=(List.getElem?_eq_some_iff.1 hv).2;simp [this]
 rw [e] at hp;unfold zB;simp only [ht];have hp:yS σ (zN a k) 1=some [v]:=hp;rw [hp]
theorem Row.loadN (h:Row σ a cs) {t:TypeId} {n:Nat} (ht:wN P t=some true) (hs:yT P t=some n) {k:Nat} {ds:List Value} (hd:(cs.drop k).take n=ds) (hl:ds.length=n) (hk:k+n≤cs.length):zB P σ t (zN a k)=some (.agg ⟨ds⟩):=by
 have hp:=(h.part (k:=k) (m:=n) hk).rd;rw [hd,hl] at hp;unfold zB;simp only [ht,hs,hp,Option.map_some]
theorem Row.ld {b k:Nat} {s:Option Nat} (h:Row σ ⟨b,0,s⟩ cs) {t:TypeId} (ht:wN P t=some false) {v:Value} (hv:cs[k]?=some v):zB P σ t ⟨b,k,s⟩=some v:=by
 have:=h.load1 (P:=P) ht hv;simpa [zN] using this
theorem Row.ldN {b k n:Nat} {s:Option Nat} (h:Row σ ⟨b,0,s⟩ cs) {t:TypeId} (ht:wN P t=some true) (hs:yT P t=some n) {ds:List Value} (hd:(cs.drop k).take n=ds) (hl:ds.length=n) (hk:k+n≤cs.length):zB P σ t ⟨b,k,s⟩=some (.agg ⟨ds⟩):=by
 have:=h.loadN (P:=P) ht hs hd hl hk;simpa [zN] using this

structure Own (σ:St) (b:Nat) (cs:List Value) (n:Nat):Prop where
 get:yK σ.heap b=some (.cells cs n [(0,cs.length)] 1 false)
 lt:b<σ.y
def St.own (σ:St) (b:Nat) (cs:List Value) (n:Nat):St:=σ.put b (.cells cs n [(0,cs.length)] 1 false)
theorem zC (σ:St) (cs:List Value) (n:Nat):Own (σ.row cs n) σ.y cs n:=⟨by
 show yK (σ.add _).heap σ.y=_
 rw [St.add_get,if_pos rfl],by simp [St.row]⟩
theorem Own.le {b n:Nat} (h:Own σ b cs n) (l:Le σ σ'):Own σ' b cs n:=⟨by rw [l.get _ h.lt];exact h.get,Nat.lt_of_lt_of_le h.lt l.y⟩
theorem Own.row {b n:Nat} (h:Own σ b cs n) {ds:List Value} {m:Nat}:Own (σ.row ds m) b cs n:=h.le (Le.row _ _ _)
theorem Own.add {b n:Nat} (h:Own σ b cs n) {y:Blk}:Own (σ.add y) b cs n:=h.le (Le.add _ _)
theorem Own.re {b n:Nat} (h:Own σ b cs n):Own σ.re b cs n:=⟨h.get,h.lt⟩
theorem Own.own {b n c m:Nat} (h:Own σ b cs n) {ds:List Value} (hne:b≠c):Own (σ.own c ds m) b cs n:=⟨by
 show yK (σ.put _ _).heap b=_
 rw [St.put_get,if_neg hne];exact h.get,h.lt⟩
theorem Own.put {b n:Nat} (h:Own σ b cs n) {ds:List Value}:Own (σ.own b ds n) b ds n:=⟨by
 show yK (σ.put _ _).heap b=_
 rw [St.put_get,if_pos rfl],h.lt⟩
theorem Own.rw {b n:Nat} (h:Own σ b cs n):Row σ ⟨b,0,none⟩ cs:=by
 refine ⟨?_,h.lt⟩
 have h2:Nat.ble (0+cs.length) cs.length=true:=(zW _ _).2 (by omega);have h3:Nat.beq 0 0=true:=rfl;unfold yS;simp only [h.get,yB,Option.getD_none,wM,h3,cond_true,h2,List.drop_zero,List.take_length]
theorem Row.own {b n:Nat} (h:Row σ a cs) {ds:List Value} (hne:a.block≠b):Row (σ.own b ds n) a cs:=⟨by
 have hr:=h.rd
 unfold yS at hr ⊢
 rw [show yK (σ.own b ds n).heap a.block=yK σ.heap a.block from by
  show yK (σ.put _ _).heap a.block=_;rw [St.put_get,if_neg hne]]
 exact hr,h.lt⟩
theorem Own.store {b n k:Nat} (h:Own σ b cs n) {t:TypeId} {v:Value} {vs ds:List Value} (hv:v.cells.toList=vs) (hs:yT P t=some vs.length) (hc:vs.all cellB=true) (hk:k+vs.length≤cs.length) (hd:cs.take k++(vs++cs.drop (k+vs.length))=ds) :
  zQ P (evL [.pointer (some ⟨b,k,none⟩),v]) σ (.store t (.tmp 0) (.tmp 1))=some (undef,σ.own b ds n):=by
 have h1:Nat.beq v.cells.toList.length vs.length=true:=by rw [hv];exact Nat.beq_refl _
 have h2:(Nat.beq 0 0 && Nat.ble (k+vs.length) cs.length && !false && vs.all cellB)=true:=by
  rw [(zW _ _).2 hk,hc];rfl
 have hl:ds.length=cs.length:=by rw [← hd];simp;omega
 have hw:vD σ ⟨b,k,none⟩ vs=some (σ.own b ds n):=by
  unfold vD;simp only [h.get,yB,Option.getD_none,h2,cond_true,zDW,St.write_eq,hd];unfold St.own;rw [hl]
 have:zGL P σ t ⟨b,k,none⟩ v=some (σ.own b ds n):=by
  unfold zGL;rw [hv] at h1 ⊢;simp only [hs,h1,cond_true,hw]
 show (zGL P σ t ⟨b,k,none⟩ v).map _=_;rw [this];rfl
@[simp] theorem St.own_next (σ:St) (b:Nat) (cs:List Value) (n:Nat):(σ.own b cs n).y=σ.y:=rfl
@[simp] theorem St.own_low (σ:St) (b:Nat) (cs:List Value) (n:Nat):(σ.own b cs n).low=min σ.low b:=rfl
@[simp] theorem St.row_next (σ:St) (cs:List Value) (n:Nat):(σ.row cs n).y=σ.y+1:=rfl
@[simp] theorem St.row_low (σ:St) (cs:List Value) (n:Nat):(σ.row cs n).low=σ.low:=rfl

def SlP (σ:St) (n:Nat) (p:Option Addr) (len:Nat) (l:List Value):Prop :=
 l.length=len*n∧match p with
  | none=>len=0
  | some a=>Row σ a l
theorem SlP.le {n len:Nat} {p:Option Addr} {l:List Value} (h:SlP σ n p len l) (k:Le σ σ'):SlP σ' n p len l:=by
 refine ⟨h.1, ?_⟩
 cases p with
 | none=>exact h.2
 | some a=>exact Row.le h.2 k
theorem SlP.row {n len:Nat} {p:Option Addr} {l:List Value} (h:SlP σ n p len l) {ds:List Value} {m:Nat}:SlP (σ.row ds m) n p len l:=h.le (Le.row _ _ _)
theorem SlP.re {n len:Nat} {p:Option Addr} {l:List Value} (h:SlP σ n p len l):SlP σ.re n p len l:=h.le (Le.re' (Le.refl _))
theorem SlP.own {n len:Nat} {p:Option Addr} {l:List Value} (h:SlP σ n p len l) {b m:Nat} {ds:List Value} (hb:σ.y≤b∨∀ a,p=Option.some a→a.block≠b):SlP (σ.own b ds m) n p len l:=by
 refine ⟨h.1, ?_⟩
 cases p with
 | none=>exact h.2
 | some a =>
  have hr:Row σ a l:=h.2;exact hr.own (by rcases hb with hb | hb;exact (have:=hr.lt;by omega);exact hb a rfl)
theorem SlP.some {n len:Nat} {p:Option Addr} {l:List Value} (h:SlP σ n p len l) (hl:0<len):∃ a,p=.some a∧Row σ a l:=by
 cases p with
 | none=>have:=h.2;omega
 | some a=>exact ⟨a,rfl,h.2⟩
theorem Row.sl {n len:Nat} (h:Row σ a cs) (hl:cs.length=len*n):SlP σ n (.some a) len cs:=⟨hl,h⟩
theorem SlP.nil (σ:St) (n:Nat):SlP σ n none 0 []:=⟨by simp,rfl⟩

def xWN (P:Program) (f:FuncId) (args:List Value) (σ:St) (v:Value) (σ':St):Prop:=∃ N0,∀ N,N0≤N→zX P N (.func f) args σ=some (v,σ')
def zD (P:Program) (f:FuncId) (args:List Value) (σ:St) (v:Value) (σ':St):Prop:=∃ N0,∀ N,N0≤N→uC (zX P N) (.func f) args σ=some (v,σ')
end
end Go.Lay

namespace Go.Lay
open Go

def Code.part:List Nat→Code→Code
 | 0::p,.seq a _=>Code.part p a
 | 1::p,.seq _ b=>Code.part p b
 | 0::p,.cond _ a _=>Code.part p a
 | 1::p,.cond _ _ b=>Code.part p b
 | 0::p,.block _ c=>Code.part p c
 | 0::p,.scope c=>Code.part p c
 | 0::p,.loop c=>Code.part p c
 | 0::p,.rangeFunc _ _ a _=>Code.part p a
 | 1::p,.rangeFunc _ _ _ b=>Code.part p b
 | _,c=>c
def zU (P:Program) (f:FuncId):Code:=match P.funcs[f]? with | some fn=>(match fn.body with | some c=>c | none=>.skip) | none=>.skip

def xTZ (P:Program) (rd:Option Nat) (c:Code) (fr:Fr) (σ:St) (e:Exit) (fr':Fr) (σ':St):Prop :=
 ∃ N0,∀ N,N0≤N→yY P (zX P N) N rd c fr σ=some (e,fr',σ')
def yOZ (P:Program) (rd:Option Nat) (c:Code) (fr:Fr) (σ:St) (e:Exit) (fr':Fr) (σ':St):Prop :=
 ∃ N0,∀ N m,N0≤N→N0≤m→zDS (yY P (zX P N) N rd c) m fr σ=some (e,fr',σ')
section
variable {P:Program} {rd:Option Nat} {c:Code} {fr fr' fr₁:Fr} {σ σ' σ₁:St} {e:Exit}
theorem yOZ.step (h:xTZ P rd c fr σ .normal fr₁ σ₁) (k:yOZ P rd c fr₁ σ₁ e fr' σ'):yOZ P rd c fr σ e fr' σ':=by
 obtain ⟨N1,h1⟩:=h;obtain ⟨N2,h2⟩:=k;refine ⟨N1+N2+1,fun N m hN hm=>?_⟩
 obtain ⟨m,rfl⟩:∃ m',m=m'+1:=⟨m-1,by omega⟩;simp only [zDS,h1 N (by omega)];exact h2 N m (by omega) (by omega)
theorem yOZ.exit (h:xTZ P rd c fr σ e fr' σ') (he:e≠.normal):yOZ P rd c fr σ e fr' σ':=by
 obtain ⟨N1,h1⟩:=h;refine ⟨N1+1,fun N m hN hm=>?_⟩
 obtain ⟨m,rfl⟩:∃ m',m=m'+1:=⟨m-1,by omega⟩;simp only [zDS,h1 N (by omega)];split
 ·rename_i heq;cases heq;exact absurd rfl he
 ·rfl
end

structure Keep (n0:Nat) (σ σ':St):Prop where
 y:σ.y≤σ'.y
 get:∀ b,b<n0→yK σ'.heap b=yK σ.heap b
 low:min σ.low n0≤σ'.low
section
variable {P:Program} {σ σ':St} {a:Addr} {cs:List Value} {n0:Nat}
theorem Keep.trans {σ₁ σ₂ σ₃:St} (h:Keep n0 σ₁ σ₂) (k:Keep n0 σ₂ σ₃):Keep n0 σ₁ σ₃:=⟨Nat.le_trans h.y k.y,fun b hb=>(k.get b hb).trans (h.get b hb),by have:=h.low;have:=k.low;omega⟩
theorem Keep.add (hn:n0≤σ.y) (y:Blk):Keep n0 σ (σ.add y):=⟨by simp,fun b hb=>by rw [St.add_get,if_neg (by omega)],by simp;omega⟩
theorem Keep.put {b:Nat} (hb:n0≤b) (y:Blk):Keep n0 σ (σ.put b y):=⟨by simp,fun c hc=>by rw [St.put_get,if_neg (by omega)],by simp;omega⟩
theorem Row.keep (h:Row σ a cs) (k:Keep n0 σ σ') (hb:a.block<n0):Row σ' a cs:=⟨by
 have:=h.rd
 unfold yS at this ⊢
 rw [k.get _ hb];exact this,Nat.lt_of_lt_of_le h.lt k.y⟩
theorem SlP.keep {n len:Nat} {p:Option Addr} {l:List Value} (h:SlP σ n p len l) (k:Keep σ.y σ σ'):SlP σ' n p len l:=by
 refine ⟨h.1, ?_⟩
 cases p with
 | none=>exact h.2
 | some a =>
  have hr:Row σ a l:=h.2;exact hr.keep k hr.lt

inductive App (σ:St) (n0 n:Nat):Value→Nat→List Value→Prop
 | nil:App σ n0 n (.slice none 0 0) 0 []
 | more {b s nx len:Nat} {cs:List Value} {sp:Option Nat} {log:List (Nat × Nat)} (h:yK σ.heap b=some (.cells cs n ((s,cs.length)::log) nx false)) (hs:sp.getD 0=s) (hb:n0≤b) (hlt:b<σ.y) (hl:cs.length=len*n) (hp:0<len) (hsn:s<nx) :
   App σ n0 n (.slice (some ⟨b,0,sp⟩) len (len+vW)) len cs

def xJX:TypeDesc→Bool
 | .int _=>true
 | _=>false
structure AppT (P:Program) (st xt e n:Nat):Prop where
 el:wB P st=some (e,n)
 src:∃ xd,P.underlying xt=some xd∧xJX xd=false
 info:∃ ei z,P.info? e=some ei∧ei.zero=some z∧ei.bytes≤4096∧zV RD z=true∧Nat.beq z.cells.toList.length n=true
 le:n≤4096
 pos:0<n
def xTT (P:Program) (st xt e n:Nat):Bool :=
 (match wB P st with | some (e',n')=>Nat.beq e e' && Nat.beq n n' | none=>false) &&
 (match P.underlying xt with | some xd=>!xJX xd | none=>false) &&
 (match P.info? e with | some ei=>(match ei.zero with | some z=>Nat.ble ei.bytes 4096 && zV RD z && Nat.beq z.cells.toList.length n | none=>false) | none=>false) &&
 Nat.ble n 4096 && Nat.blt 0 n
theorem zLR {P:Program} {st xt e n:Nat} (h:xTT P st xt e n=true):AppT P st xt e n:=by
 unfold xTT at h;simp only [Bool.and_eq_true] at h;obtain ⟨⟨⟨⟨h1,h2⟩,h3⟩,h4⟩,h5⟩:=h;refine ⟨?_, ?_, ?_,(zW _ _).1 h4,(zW _ _).1 h5⟩
 ·split at h1
  ·rename_i e' n' he;simp only [Bool.and_eq_true] at h1;rw [he,Nat.eq_of_beq_eq_true h1.1,Nat.eq_of_beq_eq_true h1.2]
  ·cases h1
 ·split at h2
  ·rename_i xd hx;exact ⟨xd,hx,by simpa using h2⟩
  ·cases h2
 ·split at h3
  ·rename_i ei hi;split at h3
   ·rename_i z hz;simp only [Bool.and_eq_true] at h3;exact ⟨ei,z,hi,hz,(zW _ _).1 h3.1.1,h3.1.2,h3.2⟩
   ·cases h3
  ·cases h3

theorem uP (x:Nat):yN (x+vW)=x:=by unfold yN;rw [if_pos (by omega)];omega
theorem zEZ (x:Nat):yU (x+vW)=false:=by rw [Bool.eq_false_iff];intro e;have:=(yQ _).1 e;omega
theorem wW:0<vW:=by unfold vW;decide

theorem yVZ {st xt e n m k len:Nat} {v:Value} {a2:Addr} {xs:List Value} (T:AppT P st xt e n) (hA:App σ n0 n v len cs) (hr:Row σ a2 xs) (hm:xs.length=m*n) (hp:0<m) (hroom:len+m≤1073741824) (hc:xs.all cellB=true) (hn0:n0≤σ.y) :
  ∃ v' σ',yD P st xt v (.slice (some a2) m k) σ=some (v',σ')∧App σ' n0 n v' (len+m) (cs++xs)∧Keep n0 σ σ':=by
 obtain ⟨xd,hxd,hxi⟩:=T.src;obtain ⟨ei,z,hei,hz,hby,hrz,hzl⟩:=T.info;have hrd:=hr.rd;rw [hm] at hrd;have hsrc:zAM σ n z xd (.slice (some a2) m k)=some (m,xs):=by
  unfold zAM;cases xd with
  | int _=>cases hxi
  | _=>simp only [vP,hrd,Option.map_some]
 have hcond:(zAQ (len+m) n ei.bytes && xs.all cellB && Nat.beq xs.length (m*n) && zV RD z && Nat.beq z.cells.toList.length n)=true:=by
  unfold zAQ;rw [(zW _ _).2 hroom,(zW _ _).2 T.le,(zW _ _).2 hby,hc,hm,Nat.beq_refl,hrz,hzl];rfl
 have hble:∀ x:Nat,Nat.ble (x+m) x=false:=fun x=>by rw [Bool.eq_false_iff];intro e;have:=(zW _ _).1 e;omega
 cases hA with
 | nil =>
  refine ⟨.slice (some ⟨σ.y,0,none⟩) (0+m) (0+m+vW),σ.add (.cells xs n [(0,xs.length)] 1 false), ?_, ?_,Keep.add hn0 _⟩
  ·have hc0:yN 0=0:=by unfold yN;have:=wW;rw [if_neg (by omega)]
   have hc1:yU 0=true:=(yQ 0).2 wW;unfold yD;simp only [T.el,hxd,hei,hz,hsrc,hcond,cond_true,vO,hc0,hble,cond_false,hc1,Nat.beq_refl,yO]
  ·have e1:0+m=m:=Nat.zero_add m;rw [e1,List.nil_append];exact .more (b:=σ.y) (s:=0) (nx:=1) (log:=[]) (by rw [St.add_get,if_pos rfl]) rfl hn0 (by simp) hm hp (by omega)
 | @more b s nx _ _ sp log h hs hb hlt hl hpp hsn =>
  have hex:wM ((s,cs.length)::log) (yB ⟨b,0,sp⟩)=some cs.length:=by
   have:Nat.beq s (yB ⟨b,0,sp⟩)=true:=by unfold yB;simp only [hs];exact Nat.beq_refl _
   simp only [wM,this,cond_true]
  have hlf:wP ((s,cs.length)::log) (yB ⟨b,0,sp⟩)=(s,cs.length)::log:=by
   have:Nat.beq s (yB ⟨b,0,sp⟩)=true:=by unfold yB;simp only [hs];exact Nat.beq_refl _
   simp only [wP,this,cond_true]
  have hg:(Nat.beq len len && Nat.beq (0+len*n) cs.length && Nat.beq n n && !false && Nat.blt 0 n)=true:=by
   rw [Nat.beq_refl,Nat.zero_add,hl,Nat.beq_refl,Nat.beq_refl,(xY 0 n).2 T.pos];rfl
  refine ⟨.slice (some ⟨b,0,some nx⟩) (len+m) (len+m+vW),σ.put b (.cells (cs.take cs.length++xs) n ((nx,cs.length+m*n)::(s,cs.length)::log) (nx+1) false), ?_, ?_,Keep.put hb _⟩
  ·unfold yD;simp only [T.el,hxd,hei,hz,hsrc,hcond,cond_true,vO,uP,hble,cond_false,zEZ,zHQ,h,hex,hg,zDW,wG,St.write_eq,hlf]
  ·refine .more (b:=b) (s:=nx) (nx:=nx+1) (log:=(s,cs.length)::log) ?_ rfl hb hlt ?_ (by omega) (by omega)
   ·rw [St.put_get,if_pos rfl,List.take_length];simp [hm]
   ·simp [hl,hm,Nat.add_mul]
theorem App.sl {v:Value} {n len:Nat} (h:App σ n0 n v len cs):∃ p cap,v=.slice p len cap∧SlP σ n p len cs:=by
 cases h with
 | nil=>exact ⟨none,0,rfl,SlP.nil _ _⟩
 | @more b s nx _ _ sp log h hs hb hlt hl hp hsn =>
  refine ⟨_,_,rfl,hl, ?_,hlt⟩
  have hex:wM ((s,cs.length)::log) (yB ⟨b,0,sp⟩)=some cs.length:=by
   have:Nat.beq s (yB ⟨b,0,sp⟩)=true:=by unfold yB;simp only [hs];exact Nat.beq_refl _
   simp only [wM,this,cond_true]
  have h2:Nat.ble (0+cs.length) cs.length=true:=(zW _ _).2 (by omega);unfold yS;simp only [h,hex,h2,cond_true,List.drop_zero,List.take_length]
theorem App.keep {v:Value} {n len:Nat} (h:App σ n0 n v len cs) (hk:Le σ σ'):App σ' n0 n v len cs:=by
 cases h with
 | nil=>exact .nil
 | more h hs hb hlt hl hp hsn=>exact .more (by rw [hk.get _ hlt];exact h) hs hb (Nat.lt_of_lt_of_le hlt hk.y) hl hp hsn
def xF (vs:List Value):List Value:=vs.flatMap fun v=>v.cells.toList
def zBT (P:Program) (t:TypeId) (n:Nat) (v:Value):Prop :=
 (wN P t=some false∧n=1∧v.cells.toList=[v])∨(wN P t=some true∧yT P t=some n∧∃ cs:List Value,v=.agg ⟨cs⟩∧cs.length=n)
theorem zBT.len {t n:Nat} {v:Value} (h:zBT P t n v):v.cells.toList.length=n:=by
 rcases h with ⟨_,h1,h2⟩ | ⟨_,_,ds,rfl,h⟩
 ·rw [h2,h1];rfl
 ·exact h
theorem zJN {t n:Nat}:∀ {vs:List Value},(∀ v∈vs,zBT P t n v)→(xF vs).length=vs.length*n
 | [],_=>by simp [xF]
 | v::vs,h=>by
  have h1:=(h v (by simp)).len;have h2:=zJN (vs:=vs) (fun x hx=>h x (by simp [hx]));unfold xF at h2 ⊢;rw [List.flatMap_cons,List.length_append,h1,h2,List.length_cons,Nat.add_mul];omega
theorem yNF {t n:Nat}:∀ {vs:List Value} {i:Nat} {v:Value},(∀ v∈vs,zBT P t n v)→vs[i]?=some v→((xF vs).drop (i*n)).take n=v.cells.toList∧i*n+n≤(xF vs).length
 | [],i,v,_,h=>by simp at h
 | x::vs,0,v,hv,h=>by
  simp at h;subst h;have h1:=(hv x (by simp)).len;unfold xF;rw [List.flatMap_cons,Nat.zero_mul,List.drop_zero,Nat.zero_add,List.length_append];exact ⟨by rw [← h1,List.take_left'  rfl],by omega⟩
 | x::vs,i+1,v,hv,h=>by
  have h1:=(hv x (by simp)).len;have ih:=yNF (vs:=vs) (i:=i) (v:=v) (fun x hx=>hv x (by simp [hx])) (by simpa using h);unfold xF at ih ⊢;rw [List.flatMap_cons,Nat.add_mul,Nat.one_mul,List.length_append];refine ⟨?_,by omega⟩
  rw [show i*n+n=x.cells.toList.length+i*n by omega,List.drop_append];simp only [Nat.add_sub_cancel_left];rw [List.drop_of_length_le (by omega),List.nil_append];exact ih.1
theorem Row.el {vs:List Value} {t n i:Nat} {v:Value} (h:Row σ a (xF vs)) (he:∀ v∈vs,zBT P t n v) (hv:vs[i]?=some v):zB P σ t (zN a (i*n))=some v:=by
 obtain ⟨h1,h2⟩:=yNF he hv;rcases he v (List.mem_of_getElem? hv) with ⟨g1,g2,g3⟩ | ⟨g1,g2,ds,rfl,g3⟩
 ·subst g2;refine h.load1 g1 ?_
  rw [g3] at h1;have:=congrArg (fun l=>l[0]?) h1;simp only [List.getElem?_cons_zero] at this;rw [List.getElem?_take_of_lt (by omega),List.getElem?_drop] at this;simpa using this
 ·exact h.loadN g1 g2 h1 g3 h2
def SlV (P:Program) (σ:St) (t n:Nat) (p:Option Addr) (len:Nat) (vs:List Value):Prop:=SlP σ n p len (xF vs)∧vs.length=len∧∀ v∈vs,zBT P t n v
theorem SlV.le {t n len:Nat} {p:Option Addr} {vs:List Value} (h:SlV P σ t n p len vs) (k:Le σ σ'):SlV P σ' t n p len vs:=⟨h.1.le k,h.2⟩
theorem SlV.row {t n len:Nat} {p:Option Addr} {vs:List Value} (h:SlV P σ t n p len vs) {ds:List Value} {m:Nat}:SlV P (σ.row ds m) t n p len vs:=⟨h.1.row,h.2⟩
theorem SlV.re {t n len:Nat} {p:Option Addr} {vs:List Value} (h:SlV P σ t n p len vs):SlV P σ.re t n p len vs:=⟨h.1.re,h.2⟩
theorem SlV.keep {t n len:Nat} {p:Option Addr} {vs:List Value} (h:SlV P σ t n p len vs) (k:Keep σ.y σ σ'):SlV P σ' t n p len vs:=⟨h.1.keep k,h.2⟩
theorem SlV.own {t n len:Nat} {p:Option Addr} {vs:List Value} (h:SlV P σ t n p len vs) {b m:Nat} {ds:List Value} (hb:σ.y≤b∨∀ a,p=Option.some a→a.block≠b):SlV P (σ.own b ds m) t n p len vs:=⟨h.1.own hb,h.2⟩
theorem SlV.some {t n len i:Nat} {p:Option Addr} {vs:List Value} (h:SlV P σ t n p len vs) (hi:i<len):∃ a,p=.some a∧Row σ a (xF vs):=h.1.some (by omega)
theorem SlV.at {t n len i:Nat} {p:Option Addr} {vs:List Value} {a:Addr} {v:Value} (h:SlV P σ t n p len vs) (hp:p=Option.some a) (hv:vs[i]?=Option.some v):zB P σ t (zN a (Int.toNat (i:Int)*n))=Option.some v:=by
 subst hp;have hr:Row σ a (xF vs):=h.1.2;rw [Int.toNat_natCast];exact hr.el h.2.2 hv
theorem uN {t:Nat} (h:wN P t=some false) (k:IntKind) (n:Int):zBT P t 1 (.int k n):=.inl ⟨h,rfl,rfl⟩

end
end Go.Lay

namespace Go.Lay
open Go

def zIN (ι:Inj) (b c o z:Nat):Inj:={ ι with loc:=fun b' s=>if b'=b∧s=0 then some ⟨c,0,o,z⟩ else ι.loc b' s }
structure Ro (ι:Inj) (w:World):Prop where
 own:∀ c,ι.own c=none
 csz:∀ (c:Nat) arr el fr,w.heap[c]?=some (.cells arr el fr)→ι.csz c=arr.size
def yKF (w:World):Inj:={ loc:=fun _ _=>none,own:=fun _=>none,csz:=fun c=>match w.heap[c]? with | some (.cells arr _ _)=>arr.size | _=>0 }
theorem xGX (w:World):Rep (yKF w) xJC w∧Ro (yKF w) w :=
 ⟨⟨fun b y h=>by simp [xJC,yK,Tr.getP_leaf] at h,fun _ _ _ h=>by simp [yKF] at h,fun _ _ h=>by simp [yKF] at h,fun _ _ _=>rfl⟩,⟨fun _=>rfl,fun c arr el fr h=>by simp [yKF,h]⟩⟩

section
variable {P:Program} {w:World} {ι:Inj} {σ σ':St}

theorem yBS (hr:Rep ι σ w) (c o z:Nat):Sub ι (zIN ι σ.y c o z):=by
 refine ⟨fun b s L h=>?_,fun _ _ _ _=>rfl⟩
 simp only [zIN];rw [if_neg];exact h;rintro ⟨rfl,rfl⟩;rw [hr.fresh _ _ (Nat.le_refl _)] at h;cases h

theorem xWL (hr:Rep ι σ w) (ho:Ro ι w) {c o:Nat} {arr:Array Value} {el:TypeId} {fr:Nat × Nat} (hc:w.heap[c]?=some (.cells arr el fr)) {rs:List Value} (z:Nat) (hl:o+rs.length≤arr.size)
  (hv:∀ (j:Nat) v,rs[j]?=some v→∃ v',arr[o+j]?=some v'∧VR ι v v') :
  Rep (zIN ι σ.y c o z) (σ.add (.cells rs z [(0,rs.length)] 1 true)) w∧Ro (zIN ι σ.y c o z) w:=by
 have hs:=yBS hr c o z;have hcw:c<w.heap.size:=by
  have:=(Array.getElem?_eq_some_iff.1 hc).1;exact this
 refine ⟨⟨fun b y hb=>?_,fun b s L h=>?_,fun c' b h=>?_,fun b s h=>?_⟩,⟨ho.own,ho.csz⟩⟩
 ·rw [St.add_get] at hb;by_cases hbn:b=σ.y
  ·rw [if_pos hbn] at hb;cases hb;subst hbn;refine ⟨by simp,.cells (fun s e hm=>?_) (by simp) (fun s₁ e₁ s₂ e₂ L₁ L₂ h₁ h₂ l₁ l₂ _=>?_) (fun s hs'=>?_)⟩
   ·simp at hm;obtain ⟨rfl,rfl⟩:=hm;refine ⟨by omega,Nat.le_refl _,⟨c,0,o,z⟩,by simp [zIN],⟨arr,el,fr,hc,(ho.csz _ _ _ _ hc).symm,by simp,by simpa using hl,fun j _ h2=>?_⟩,rfl,Nat.zero_le _,by simpa [zIN] using ho.own c⟩
    obtain ⟨v',g1,g2⟩:=hv j rs[j] (by simp [h2]);exact ⟨rs[j],v',by simp [h2],by simpa using g1,g2.sub hs⟩
   ·simp at h₁ h₂;obtain ⟨rfl,_⟩:=h₁;obtain ⟨rfl,_⟩:=h₂;rw [l₁] at l₂;cases l₂;rfl
   ·simp only [zIN];rw [if_neg (by omega)];exact hr.fresh _ _ (Nat.le_refl _)
  ·rw [if_neg hbn] at hb;have h:=hr.blk b y hb;refine ⟨by simp;omega,h.2.keepS hs (fun s L _=>rfl) (fun _ _ _ _=>rfl) (fun cs esz log next ro hyy s hs'=>?_)⟩
   have:=h.2;subst hyy;cases this with
   | cells _ _ _ fresh =>
    simp only [zIN];rw [if_neg (fun e=>hbn e.1)];exact fresh s hs'
 ·simp only [zIN] at h;split at h
  ·cases h;exact hcw
  ·exact hr.lt _ _ _ h
 ·have:ι.own c'=some b:=h;rw [ho.own c'] at this;cases this
 ·simp only [zIN];simp at h;rw [if_neg (by omega)];exact hr.fresh _ _ (by omega)

def zRV (P:Program):List Field→Nat→Nat→Bool
 | [],o,tot=>Nat.beq o tot
 | f::fs,o,tot=>Nat.beq f.offset o && zRV P fs (o+P.cellsOf f.type) tot
def zGR (P:Program):Nat→TypeId→Bool
 | 0,_=>false
 | n+1,t=>match P.underlying t with
  | some .bool=>true
  | some (.int _)=>true
  | some .string=>true
  | some (.slice e)=>Nat.blt 0 (P.cellsOf e) && zGR P n e
  | some (.struct fs)=>zRV P fs.toList 0 (P.cellsOf t) && fs.toList.all fun f=>zGR P n f.type
  | _=>false
def WT (P:Program) (σ:St):Nat→TypeId→List Value→Prop
 | 0,_,_=>False
 | n+1,t,cs=>match P.underlying t with
  | some .bool=>∃ b,cs=[.bool b]
  | some (.int k)=>∃ i,cs=[.int k i]∧k.min≤i∧i≤k.max
  | some .string=>∃ s:ByteArray,cs=[.string s]∧s.size≤maxLen
  | some (.slice e)=>cs=[.slice none 0 0]∨∃ b len cap rs,cs=[.slice (some ⟨b,0,none⟩) len cap]∧len≤maxLen∧(len≤yN cap∧yU cap=true)∧rs.length=len*P.cellsOf e ∧
    yK σ.heap b=some (.cells rs (P.cellsOf e) [(0,rs.length)] 1 true)∧b<σ.y∧∀ i,i<len→WT P σ n e ((rs.drop (i*P.cellsOf e)).take (P.cellsOf e))
  | some (.struct fs)=>cs.length=P.cellsOf t∧∀ f∈fs.toList,f.offset+P.cellsOf f.type≤cs.length∧WT P σ n f.type ((cs.drop f.offset).take (P.cellsOf f.type))
  | _=>False

theorem WT.le:∀ {n:Nat} {t:TypeId} {cs:List Value},WT P σ n t cs→Le σ σ'→WT P σ' n t cs:=by
 intro n;induction n with
 | zero=>intro t cs h;exact h.elim
 | succ n ih =>
  intro t cs h k;unfold WT at h ⊢;split at h <;> rename_i hu
  ·exact h
  ·exact h
  ·exact h
  ·rcases h with h | ⟨b,len,cap,rs,h1,h2,h3,h4,h5,h6,h7⟩
   ·exact .inl h
   ·exact .inr ⟨b,len,cap,rs,h1,h2,h3,h4,by rw [k.get _ h6];exact h5,Nat.lt_of_lt_of_le h6 k.y,fun i hi=>ih (h7 i hi) k⟩
  ·exact ⟨h.1,fun f hf=>⟨(h.2 f hf).1,ih (h.2 f hf).2 k⟩⟩
  ·exact h.elim

theorem yOG {a:Addr} {arr:Array Value} {el:TypeId} {fr:Nat × Nat} (hc:w.heap[a.block]?=some (.cells arr el fr)) (hs:a.spot=none) (m i:Nat):w.cell? ((a.add m).add i)=arr[a.off+m+i]?:=by
 have key:∀ (x:Addr) (j:Nat),x.spot=none→(x.add j).block=x.block∧(x.add j).off=x.off+j∧(x.add j).spot=none:=by
  intro x j hx;unfold Addr.add;split
  ·rename_i e;subst e;exact ⟨rfl,rfl,hx⟩
  ·exact ⟨rfl,rfl,rfl⟩
 obtain ⟨k1,k2,k3⟩:=key a m hs;obtain ⟨k4,k5,k6⟩:=key (a.add m) i k3;simp only [World.cell?,k4,k1,hc,k6,k5,k2,Option.isSome_none];rfl

variable {H:Type} {enc:TypeId × Value→H} {held:Bool}

def zNY (w:World) (cs':List Value):Prop:=∀ A len cap,Value.slice (some A) len cap∈cs'→∃ (c:Nat) (arr:Array Value) (el:TypeId) (fr:Nat × Nat),w.heap[c]?=some (.cells arr el fr)
def yFJ (P:Program) (w:World) (ι:Inj) (σ:St) (cs':List Value) (Q:St→List Value→Prop):Prop :=
 ∃ ι' σ' cs,Rep ι' σ' w∧Ro ι' w∧Sub ι ι'∧Le σ σ'∧VRs ι' cs cs'∧Q σ' cs

theorem yEU:∀ {fs:List Field} {o tot:Nat},zRV P fs o tot=true→o≤tot
 | [],o,tot,h=>by have:=Nat.eq_of_beq_eq_true h;omega
 | f::fs,o,tot,h=>by
  simp only [zRV,Bool.and_eq_true] at h;have:=yEU h.2;omega

theorem yLS {n fuel:Nat}
  (ih:∀ t,zGR P n t=true→∀ fuel cs' x ι σ,DataW.trod enc P w 0 (fun _=>true) held fuel t cs'=some x→Rep ι σ w→Ro ι w→zNY w cs'→yFJ P w ι σ cs' fun σ' cs=>WT P σ' n t cs) {cs':List Value} (hrow:zNY w cs') :
  ∀ (fs:List Field) (o:Nat) (ι:Inj) (σ:St),zRV P fs o cs'.length=true→(∀ f∈fs,zGR P n f.type=true)→(∀ f∈fs,∃ x,DataW.trod enc P w 0 (fun _=>true) held fuel f.type ((cs'.drop f.offset).take (P.cellsOf f.type))=some x) →
   Rep ι σ w→Ro ι w→yFJ P w ι σ (cs'.drop o) fun σ' cs=>∀ f∈fs,o≤f.offset∧f.offset+P.cellsOf f.type≤cs'.length∧WT P σ' n f.type ((cs.drop (f.offset-o)).take (P.cellsOf f.type)):=by
 intro fs;induction fs with
 | nil =>
  intro o ι σ hc _ _ hr ho;have:=Nat.eq_of_beq_eq_true hc;refine ⟨ι,σ,[],hr,ho,Sub.refl _,Le.refl _, ?_,fun f hf=>by cases hf⟩
  rw [List.drop_of_length_le (by omega)];exact .nil
 | cons f fs ihf =>
  intro o ι σ hc hp ht hr ho;simp only [zRV,Bool.and_eq_true] at hc;have hoff:=Nat.eq_of_beq_eq_true hc.1;have hle:=yEU hc.2;obtain ⟨x,hx⟩:=ht f (by simp);obtain ⟨ι₁,σ₁,c1,r1,o1,s1,l1,v1,w1⟩:=ih f.type (hp f (by simp)) _ _ _ ι σ hx hr ho (fun A len cap hm=>hrow A len cap (List.mem_of_mem_drop (List.mem_of_mem_take hm)));obtain ⟨ι₂,σ₂,c2,r2,o2,s2,l2,v2,w2⟩:=ihf (o+P.cellsOf f.type) ι₁ σ₁ hc.2 (fun g hg=>hp g (by simp [hg])) (fun g hg=>ht g (by simp [hg])) r1 o1;have hlen:c1.length=P.cellsOf f.type:=by rw [v1.length];simp;omega
  refine ⟨ι₂,σ₂,c1++c2,r2,o2,s1.trans s2,l1.trans l2, ?_,fun g hg=>?_⟩
  ·have e:cs'.drop o=(cs'.drop f.offset).take (P.cellsOf f.type)++cs'.drop (o+P.cellsOf f.type):=by
    rw [hoff,← List.drop_drop,List.take_append_drop]
   rw [e];exact VRs.append (v1.sub s2) v2
  ·rcases List.mem_cons.1 hg with rfl | hg
   ·refine ⟨by omega,by omega, ?_⟩
    rw [hoff,Nat.sub_self,List.drop_zero,← hlen,List.take_left']
    ·exact w1.le l2
    ·rfl
   ·obtain ⟨g1,g2,g3⟩:=w2 g hg;refine ⟨by omega,g2, ?_⟩
    have e:(c1++c2).drop (g.offset-o)=c2.drop (g.offset-(o+P.cellsOf f.type)):=by
     rw [List.drop_append,List.drop_of_length_le (by omega),List.nil_append];congr 1;omega
    rw [e];exact g3

theorem zXS {n fuel:Nat} {e:TypeId} {a:Addr} {arr:Array Value} {el:TypeId} {fr:Nat × Nat} (hc:w.heap[a.block]?=some (.cells arr el fr)) (hs:a.spot=none)
  (ih:∀ fuel cs' x ι σ,DataW.trod enc P w 0 (fun _=>true) held fuel e cs'=some x→Rep ι σ w→Ro ι w→zNY w cs'→yFJ P w ι σ cs' fun σ' cs=>WT P σ' n e cs) (hr:Rep ι σ w) (ho:Ro ι w) :
  ∀ (k:Nat),(∀ i,i<k→∃ x,(w.cells? 0 (a.add (i*P.cellsOf e)) (P.cellsOf e)).bind (DataW.trod enc P w 0 (fun _=>true) held fuel e)=some x) →
   ∃ (ι':Inj) (σ':St) (rs:List Value),Rep ι' σ' w∧Ro ι' w∧Sub ι ι'∧Le σ σ'∧rs.length=k*P.cellsOf e∧(∀ i,i<k→WT P σ' n e ((rs.drop (i*P.cellsOf e)).take (P.cellsOf e))) ∧
    ∀ (j:Nat) v,rs[j]?=some v→∃ v',arr[a.off+j]?=some v'∧VR ι' v v'
 | 0,_=>⟨ι,σ,[],hr,ho,Sub.refl _,Le.refl _,by simp,fun i hi=>by omega,fun j v h=>by simp at h⟩
 | k+1,ht=>by
  obtain ⟨ι₁,σ₁,rs,r1,o1,s1,l1,n1,w1,v1⟩:=zXS hc hs ih hr ho k (fun i hi=>ht i (by omega));obtain ⟨x,hx⟩:=ht k (by omega);simp only [Option.bind_eq_some_iff] at hx;obtain ⟨chunk,hch,hx⟩:=hx;obtain ⟨_,hlen,hcells⟩:=World.cells?_some hch;obtain ⟨ι₂,σ₂,c,r2,o2,s2,l2,v2,w2⟩:=ih _ _ _ ι₁ σ₁ hx r1 o1 (fun _ _ _ _=>⟨_,_,_,_,hc⟩);have hcl:c.length=P.cellsOf e:=by rw [v2.length];exact hlen
  refine ⟨ι₂,σ₂,rs++c,r2,o2,s1.trans s2,l1.trans l2,by rw [List.length_append,n1,hcl,Nat.add_mul];omega,fun i hi=>?_,fun j v hj=>?_⟩
  ·by_cases hik:i<k
   ·have h1:i*P.cellsOf e+P.cellsOf e≤rs.length:=by
     rw [n1,show i*P.cellsOf e+P.cellsOf e=(i+1)*P.cellsOf e by rw [Nat.add_mul,Nat.one_mul]];exact Nat.mul_le_mul_right _ hik
    have e1:((rs++c).drop (i*P.cellsOf e)).take (P.cellsOf e)=(rs.drop (i*P.cellsOf e)).take (P.cellsOf e):=by
     rw [List.drop_append_of_le_length (by omega),List.take_append_of_le_length (by simp;omega)]
    rw [e1];exact (w1 i hik).le l2
   ·have:i=k:=by omega
    subst this;rw [← n1,List.drop_left' rfl,List.take_of_length_le (by omega)];exact w2
  ·by_cases hjr:j<rs.length
   ·rw [List.getElem?_append_left hjr] at hj;obtain ⟨v',g1,g2⟩:=v1 j v hj;exact ⟨v',g1,g2.sub s2⟩
   ·rw [List.getElem?_append_right (by omega)] at hj;obtain ⟨v',g1,g2⟩:=v2.get_some hj;have hjc:j-rs.length<P.cellsOf e:=by rw [← hcl];exact (List.getElem?_eq_some_iff.1 hj).1
    refine ⟨v', ?_,g2⟩
    have:=hcells (j-rs.length) hjc;rw [yOG hc hs,g1] at this;rw [← this,← n1];congr 1;omega

theorem yTA:∀ (n:Nat) (t:TypeId),zGR P n t=true→∀ (fuel:Nat) (cs':List Value) (x:DataW H × List MemPlace) (ι:Inj) (σ:St),DataW.trod enc P w 0 (fun _=>true) held fuel t cs'=some x→Rep ι σ w→Ro ι w→zNY w cs' →
  yFJ P w ι σ cs' fun σ' cs=>WT P σ' n t cs:=by
 intro n;induction n with
 | zero=>intro t h;simp [zGR] at h
 | succ n ih =>
  intro t hp fuel cs' x ι σ h hr ho hrow;have one:∀ (v:Value),zV RD v=true→cs'=[v]→WT P σ (n+1) t [v]→yFJ P w ι σ cs' fun σ' cs=>WT P σ' (n+1) t cs :=
   fun v hv e hw=>⟨ι,σ,[v],hr,ho,Sub.refl _,Le.refl _,by rw [e];exact .cons (.refl_rigid _ hv) .nil,hw⟩
  unfold zGR at hp;split at hp <;> rename_i hu
  ·obtain ⟨b,e,_⟩:=DataW.trod_bool hu h;exact one _ rfl e (by unfold WT;rw [hu];exact ⟨b,rfl⟩)
  ·obtain ⟨i,e,_,hw⟩:=DataW.trod_int hu h;exact one _ rfl e (by unfold WT;rw [hu];exact ⟨i,rfl,by simpa [Lit.wf] using hw⟩)
  ·obtain ⟨s,e,_,hw⟩:=DataW.trod_string hu h;exact one _ rfl e (by unfold WT;rw [hu];exact ⟨s,rfl,hw⟩)
  ·rename_i e;simp only [Bool.and_eq_true] at hp;have hpos:0<P.cellsOf e:=(xY _ _).1 hp.1;rcases DataW.trod_slice hu h with ⟨hcs,_⟩ | ⟨a,len,cap,elems,rest,m,rfl,hcs,_,_,hle,hmax,hel,hget,hrest,_⟩
   ·exact one _ rfl hcs (by unfold WT;rw [hu];exact .inl rfl)
   ·have hx:yU cap=true:=(yQ cap).2 (by unfold vW;unfold maxLen at hmax;omega);obtain ⟨capA,hcapR,hcl,hc0⟩:∃ capA,zJZ capA cap∧(len≤yN capA∧yU capA=true)∧(cap=0→capA=0) :=
     ⟨cap,by unfold zJZ;rw [if_pos hx],⟨by have:=(yQ cap).1 hx;unfold yN;rw [if_neg (by omega)];exact hle,hx⟩,fun e=>e⟩
    have fin:∀ {ι₁:Inj} {σ₁:St} {rs:List Value} {c o:Nat} {arr:Array Value} {el:TypeId} {fr:Nat × Nat},Rep ι₁ σ₁ w→Ro ι₁ w→Sub ι ι₁→Le σ σ₁→w.heap[c]?=some (.cells arr el fr)→rs.length=len*P.cellsOf e →
      (∀ i,i<len→WT P σ₁ n e ((rs.drop (i*P.cellsOf e)).take (P.cellsOf e)))→(∀ (j:Nat) v,rs[j]?=some v→∃ v',arr[o+j]?=some v'∧VR ι₁ v v')→o+cap*P.cellsOf e≤arr.size →
      (a=⟨c,o,none⟩∨(len=0∧capA=0∧cap=0))→yFJ P w ι σ cs' fun σ' cs=>WT P σ' (n+1) t cs:=by
     intro ι₁ σ₁ rs c o arr el fr hr1 ho1 hs1 hl1 hc hlen hw hv hsz hA
     have hlo:len*P.cellsOf e≤cap*P.cellsOf e:=Nat.mul_le_mul_right _ hle
     obtain ⟨g1,g2⟩:=xWL hr1 ho1 hc (P.cellsOf e) (by omega) hv
     have hsub:=yBS hr1 c o (P.cellsOf e)
     refine ⟨_,_,[.slice (some ⟨σ₁.y,0,none⟩) len capA],g1,g2,hs1.trans hsub,hl1.trans (Le.add _ _), ?_, ?_⟩
     ·rw [hcs];refine .cons (.slice (L:=⟨c,0,o,P.cellsOf e⟩) (by simp [zIN,yB]) (Nat.zero_le _) ?_ hcapR ?_) .nil
      ·rcases hA with rfl | hA
       ·exact .inl (by simp [Loc.at])
       ·exact .inr ⟨hA.1,by rw [hA.2.1];unfold yN;split <;> omega,hA.2.2⟩
      ·show o+(0-0)+cap*P.cellsOf e≤ι₁.csz c;rw [ho1.csz _ _ _ _ hc];omega
     ·unfold WT;rw [hu];refine .inr ⟨σ₁.y,len,capA,rs,rfl,by omega,hcl,hlen,by rw [St.add_get,if_pos rfl],by simp,fun i hi=>(hw i hi).le (Le.add _ _)⟩
    by_cases hcap:cap=0
    ·subst hcap;have hl0:len=0:=by omega
     have hca:capA=0:=hc0 rfl;obtain ⟨c,arr,el,fr,hc⟩:=hrow a len 0 (by rw [hcs];simp);exact fin (rs:=[]) (o:=0) hr ho (Sub.refl _) (Le.refl _) hc (by rw [hl0];simp) (fun i hi=>by omega) (fun j v hj=>by simp at hj) (by omega) (.inr ⟨hl0,hca,rfl⟩)
    ·have hall:∀ i,i<cap→∃ x,(w.cells? 0 (a.add (i*P.cellsOf e)) (P.cellsOf e)).bind (DataW.trod enc P w 0 (fun _=>true) held m e)=some x:=by
      intro i hi;by_cases hil:i<len
      ·exact ⟨elems[i]'(by omega),by rw [hget i hil];simp⟩
      ·obtain ⟨r1,r2⟩:=hrest rfl;have:=r2 (i-len) (by omega);rw [show len+(i-len)=i by omega] at this;exact ⟨rest[i-len]'(by omega),by rw [this];simp⟩
     obtain ⟨x0,hx0⟩:=hall 0 (by omega);simp only [Option.bind_eq_some_iff] at hx0;obtain ⟨ch0,hc0,_⟩:=hx0;obtain ⟨_,hl0,hcell0⟩:=World.cells?_some hc0;have h00:=hcell0 0 hpos;have ha0:(a.add (0*P.cellsOf e)).add 0=a:=by simp [Addr.add]
     rw [ha0] at h00;have hsome:∃ v,w.cell? a=some v:=⟨ch0[0]'(by omega),by rw [h00];simp⟩;obtain ⟨v0,hv0⟩:=hsome;obtain ⟨arr,el,fr,hc,hsp⟩:∃ arr el fr,w.heap[a.block]?=some (.cells arr el fr)∧a.spot=none:=by
      unfold World.cell? at hv0;split at hv0
      ·rename_i arr el fr hc;refine ⟨arr,el,fr,hc, ?_⟩
       cases hs:a.spot with
       | none=>rfl
       | some s=>rw [hs] at hv0;simp at hv0
      ·cases hv0
     obtain ⟨ι₁,σ₁,rs,r1,o1,s1,l1,n1,w1,v1⟩:=zXS hc hsp (fun fuel cs' x ι σ=>ih e hp.2 fuel cs' x ι σ) hr ho len (fun i hi=>hall i (by omega));refine fin r1 o1 s1 l1 hc n1 w1 v1 ?_ (.inl ?_)
     ·obtain ⟨x1,hx1⟩:=hall (cap-1) (by omega);simp only [Option.bind_eq_some_iff] at hx1;obtain ⟨ch1,hc1,_⟩:=hx1;obtain ⟨_,hl1,hcell1⟩:=World.cells?_some hc1;have h1:=hcell1 (P.cellsOf e-1) (by omega);rw [yOG hc hsp] at h1;have hb:a.off+(cap-1)*P.cellsOf e+(P.cellsOf e-1)<arr.size:=by
       rcases Nat.lt_or_ge (a.off+(cap-1)*P.cellsOf e+(P.cellsOf e-1)) arr.size with hlt | hge
       ·exact hlt
       ·rw [Array.getElem?_eq_none hge] at h1;have:ch1[P.cellsOf e-1]?=some (ch1[P.cellsOf e-1]'(by omega)):=by simp
        rw [this] at h1;cases h1
      have e1:(cap-1)*P.cellsOf e+P.cellsOf e=cap*P.cellsOf e:=by
       rw [show cap*P.cellsOf e=(cap-1+1)*P.cellsOf e by rw [Nat.sub_add_cancel (by omega)],Nat.add_mul,Nat.one_mul]
      omega
     ·cases a with | mk b o s=>simp at hsp;subst hsp;rfl
  ·rename_i fs;simp only [Bool.and_eq_true] at hp;obtain ⟨xs,m,rfl,_,hl,hxl,hget⟩:=DataW.trod_struct hu h;obtain ⟨ι₁,σ₁,c,r1,o1,s1,l1,v1,w1⟩:=yLS (fuel:=m) ih hrow fs.toList 0 ι σ (by rw [hl];exact hp.1) (fun f hf=>List.all_eq_true.1 hp.2 f hf) (fun f hf=>by
    obtain ⟨i,hi⟩:=List.getElem?_of_mem hf;have hi2:fs[i]?=some f:=by simpa using hi
    have hlt:i<xs.length:=by rw [hxl];exact (Array.getElem?_eq_some_iff.1 hi2).1
    exact ⟨xs[i],by rw [hget i f hi2];simp [hlt]⟩) hr ho
   refine ⟨ι₁,σ₁,c,r1,o1,s1,l1,by simpa using v1, ?_⟩
   unfold WT;rw [hu];have hcl:c.length=cs'.length:=by have:=v1.length;simpa using this
   refine ⟨by rw [hcl,hl],fun f hf=>?_⟩
   obtain ⟨_,g2,g3⟩:=w1 f hf;exact ⟨by omega,by simpa using g3⟩
  ·cases hp
end
end Go.Lay

namespace Go.Lay
open Go

def zBG (P:Program) (R:Nat→Rec) (rd:Option Nat) (c:Code) (fr:Fr) (σ:St) (e:Exit) (fr':Fr) (σ':St):Prop:=∃ N0,∀ N,N0≤N→yY P (R N) N rd c fr σ=some (e,fr',σ')
def zUI (P:Program) (R:Nat→Rec) (rd:Option Nat) (c:Code) (fr:Fr) (σ:St) (e:Exit) (fr':Fr) (σ':St):Prop :=
 ∃ N0,∀ N m,N0≤N→N0≤m→zDS (yY P (R N) N rd c) m fr σ=some (e,fr',σ')
section
variable {P:Program} {R:Nat→Rec} {rd:Option Nat} {c:Code} {fr fr' fr₁:Fr} {σ σ' σ₁:St} {e:Exit}
theorem zUI.step (h:zBG P R rd c fr σ .normal fr₁ σ₁) (k:zUI P R rd c fr₁ σ₁ e fr' σ'):zUI P R rd c fr σ e fr' σ':=by
 obtain ⟨N1,h1⟩:=h;obtain ⟨N2,h2⟩:=k;refine ⟨N1+N2+1,fun N m hN hm=>?_⟩
 obtain ⟨m,rfl⟩:∃ m',m=m'+1:=⟨m-1,by omega⟩;simp only [zDS,h1 N (by omega)];exact h2 N m (by omega) (by omega)
theorem zUI.exit (h:zBG P R rd c fr σ e fr' σ') (he:e≠.normal):zUI P R rd c fr σ e fr' σ':=by
 obtain ⟨N1,h1⟩:=h;refine ⟨N1+1,fun N m hN hm=>?_⟩
 obtain ⟨m,rfl⟩:∃ m',m=m'+1:=⟨m-1,by omega⟩;simp only [zDS,h1 N (by omega)];split
 ·rename_i heq;cases heq;exact absurd rfl he
 ·rfl
end

section
variable {P:Program} {σ σ':St}
theorem Own.ld {b n k:Nat} {cs:List Value} {s:Option Nat} (h:Own σ b cs n) (hs:s=none) {t:TypeId} (ht:wN P t=some false) {v:Value} (hv:cs[k]?=some v):zB P σ t ⟨b,k,s⟩=some v:=by subst hs;exact h.rw.ld ht hv
theorem Own.ldN {b n k m:Nat} {cs ds:List Value} (h:Own σ b cs n) {t:TypeId} (ht:wN P t=some true) (hs:yT P t=some m) (hd:(cs.drop k).take m=ds) (hl:ds.length=m) (hk:k+m≤cs.length):zB P σ t ⟨b,k,none⟩=some (.agg ⟨ds⟩) :=
 h.rw.ldN ht hs hd hl hk

theorem Row.ld1 {a:Addr} {v:Value} (h:Row σ a [v]) {t:TypeId} (ht:wN P t=some false):zB P σ t a=some v:=by
 have:=h.load1 (P:=P) ht (k:=0) (v:=v) rfl;simpa [zN] using this
theorem yL {n:Nat} {v:Value} (h:zV RD v=true):yX RD n v=true:=by
 have key:∀ (d:Nat) (v:Value),zV d v=true→yX d n v=true:=by
  intro d;induction d with
  | zero=>intro v h;simp [zV] at h
  | succ d ih =>
   intro v h;have lists:∀ (l:List Value),l.all (zV d)=true→l.all (yX d n)=true:=fun l hl=>List.all_eq_true.2 (fun x hx=>ih x (List.all_eq_true.1 hl x hx))
   cases v with
   | agg cs=>simp only [zV] at h;simp only [yX];exact lists _ h
   | tuple cs=>simp only [zV] at h;simp only [yX];exact lists _ h
   | iface t x=>simp only [zV] at h;simp only [yX];exact ih x h
   | pointer a=>cases a with | none=>rfl | some _=>simp [zV,uQ] at h
   | slice a l c=>cases a with | none=>rfl | some _=>simp [zV,uQ] at h
   | map a=>cases a with | none=>rfl | some _=>simp [zV,uQ] at h
   | func fn f c =>
    cases fn with
    | func g=>simp only [zV,Bool.and_eq_true] at h;simp only [yX,Bool.and_eq_true];exact ⟨⟨trivial,lists _ h.1⟩,lists _ h.2⟩
    | _=>simp [zV,uQ] at h
   | _=>rfl
 exact key RD v h
theorem zO {n:Nat} {a:Addr} (h:a.block<n):yX RD n (.pointer (some a))=true:=(xY _ _).2 h
theorem zEF {n l c:Nat} {a:Addr} (h:a.block<n):yX RD n (.slice (some a) l c)=true:=(xY _ _).2 h
theorem yH {n l c:Nat} {p:Option Addr} (h:∀ a,p=some a→a.block<n):yX RD n (.slice p l c)=true:=by
 cases p with
 | none=>rfl
 | some a=>exact zEF (h a rfl)
theorem zH {n:Nat}:zG n []:=rfl
theorem zE {n:Nat} {v:Value} {vs:List Value} (h:yX RD n v=true) (t:zG n vs):zG n (v::vs):=by
 unfold zG at t ⊢;rw [List.all_cons,h,t];rfl
theorem Le.own {b n:Nat} {ds:List Value} (h:Le σ σ') (hb:σ.y≤b):Le σ (σ'.own b ds n):=⟨h.y,fun c hc=>by
 show yK (σ'.put _ _).heap c=_;rw [St.put_get,if_neg (by omega)];exact h.get c hc⟩
theorem zFE {t n len:Nat} {vs:List Value} (h:SlV P σ t n none len vs):SlV P σ' t n none len vs:=⟨⟨h.1.1,h.1.2⟩,h.2⟩
theorem xK {t n len:Nat} {p:Option Addr} {vs:List Value} (h:SlV P σ t n p len vs):∀ a,p=some a→a.block<σ.y:=by
 intro a e;subst e;exact (show Row σ a (xF vs) from h.1.2).lt
theorem uM (xs ys:List Value):xF (xs++ys)=xF xs++xF ys:=by simp [xF]
theorem vC (xs:List Int) (k:IntKind):xF (xs.map fun x=>.int k x)=xs.map fun x=>.int k x:=by
 induction xs with
 | nil=>rfl
 | cons x xs ih =>
  rw [List.map_cons,show (Value.int k x::xs.map fun x=>Value.int k x)=[Value.int k x]++xs.map fun x=>Value.int k x from rfl,uM,ih];rfl
theorem App.ge {n0 n len:Nat} {p:Option Addr} {c:Nat} {cs:List Value} (h:App σ n0 n (.slice p len c) len cs):∀ a,p=some a→n0≤a.block:=by
 intro a e;subst e;cases h with
 | more h hs hb hlt hl hp hsn=>exact hb
theorem xMX {st xt e n m k len n0:Nat} {a2:Addr} {p:Option Addr} {c:Nat} {cs xs:List Value} (T:AppT P st xt e n) (hA:App σ n0 n (.slice p len c) len cs) (hr:Row σ a2 xs) (hm:xs.length=m*n) (hp:0<m) (hroom:len+m≤1073741824)
  (hc:xs.all cellB=true) (hn0:n0≤σ.y):∃ p' c' σ',yD P st xt (.slice p len c) (.slice (some a2) m k) σ=some (.slice p' (len+m) c',σ')∧App σ' n0 n (.slice p' (len+m) c') (len+m) (cs++xs)∧Keep n0 σ σ':=by
 obtain ⟨v',σ',h1,h2,h3⟩:=yVZ (k:=k) T hA hr hm hp hroom hc hn0;obtain ⟨p',c',rfl,_⟩:=h2.sl;exact ⟨p',c',σ',h1,h2,h3⟩
theorem App.slv {n0 n len t:Nat} {p:Option Addr} {c:Nat} {vs:List Value} (h:App σ n0 n (.slice p len c) len (xF vs)) (hl:vs.length=len) (he:∀ v∈vs,zBT P t n v):SlV P σ t n p len vs:=by
 obtain ⟨p',c',e,hs⟩:=h.sl;cases e
 exact ⟨hs,hl,he⟩
theorem App.lt {n0 n len:Nat} {p:Option Addr} {c:Nat} {cs:List Value} (h:App σ n0 n (.slice p len c) len cs):∀ a,p=some a→a.block<σ.y:=by
 intro a e;subst e;cases h with
 | more h hs hb hlt hl hp hsn=>exact hlt
theorem zQP {f:FuncId} {args:List Value} {v:Value} (h:xWN P f args σ.re v σ') (hl:σ.y≤σ'.low) (hv:zV RD v=true):zD P f args σ v σ:=by
 obtain ⟨N0,hN⟩:=h;refine ⟨N0,fun N hNN=>?_⟩
 have h1:=hN N hNN;unfold uC;rw [show (⟨σ.heap,σ.y,σ.y⟩:St)=σ.re from rfl,h1];show uD σ v σ'=_;unfold uD;rw [(zW _ _).2 hl,hv];rfl
structure New (σ σ':St):Prop where
 le:Le σ σ'
 low:∀ m,m≤σ.low→m≤σ.y→m≤σ'.low
theorem New.refl (σ:St):New σ σ:=⟨Le.refl _,fun _ h _=>h⟩
theorem New.trans {σ₁ σ₂ σ₃:St} (h:New σ₁ σ₂) (k:New σ₂ σ₃):New σ₁ σ₃:=⟨h.le.trans k.le,fun m h1 h2=>k.low m (h.low m h1 h2) (Nat.le_trans h2 h.le.y)⟩
theorem New.row (σ:St) (cs:List Value) (n:Nat):New σ (σ.row cs n):=⟨Le.row _ _ _,fun _ h _=>h⟩
theorem New.add (σ:St) (y:Blk):New σ (σ.add y):=⟨Le.add _ _,fun _ h _=>h⟩
theorem xWY {f:FuncId} {args:List Value} {v:Value} {Q:Value→St→Prop} (h:xWN P f args σ.re v σ') (hn:New σ.re σ') (hq:Q v σ') (hQ:∀ s s',Q v s→Le s s'→Q v s') (hr:zV RD v=true→Q v σ) :
  ∃ v σ'',zD P f args σ v σ''∧New σ σ''∧Q v σ'':=by
 obtain ⟨N0,hN⟩:=h;have h2:σ.y≤σ'.low:=hn.low _ (Nat.le_refl _) (Nat.le_refl _);have h3:σ.y≤σ'.y:=hn.le.y;cases hrv:zV RD v with
 | true =>
  refine ⟨v,σ,⟨N0,fun N hNN=>?_⟩,New.refl _,hr hrv⟩
  have h1:=hN N hNN;unfold uC;rw [show (⟨σ.heap,σ.y,σ.y⟩:St)=σ.re from rfl,h1];show uD σ v σ'=_;unfold uD;rw [(zW _ _).2 h2,hrv];rfl
 | false =>
  refine ⟨v,⟨σ'.heap,σ'.y,min σ.low σ'.low⟩,⟨N0,fun N hNN=>?_⟩,⟨⟨h3,fun b hb=>hn.le.get b hb⟩,fun m h4 h5=>?_⟩,hQ _ _ hq ⟨Nat.le_refl _,fun _ _=>rfl⟩⟩
  ·have h1:=hN N hNN;unfold uC;rw [show (⟨σ.heap,σ.y,σ.y⟩:St)=σ.re from rfl,h1];show uD σ v σ'=_;unfold uD;rw [hrv,Bool.and_false,cond_false,(zW _ _).2 h3,cond_true,wG,zAD]
  ·show m≤min σ.low σ'.low;omega
theorem yE {a b:Int} (h:a≤b):leI a b=true:=(wY a b).2 h
theorem yJ {a b:Int} (h:¬ a≤b):leI a b=false:=by rw [yHD];simp;omega
theorem zR {a b:Int} (h:a<b):ltI a b=true:=(zGW a b).2 h
theorem zT {a b:Int} (h:¬ a<b):ltI a b=false:=by rw [yHB];simp;omega
theorem xH {a b:Int} (h:a=b):eqI a b=true:=(yYW a b).2 h
theorem xL {a b:Int} (h:¬ a=b):eqI a b=false:=by rw [Bool.eq_false_iff];exact fun e=>h ((yYW a b).1 e)
theorem zCF {a b:Int} (h:¬ a=b):(!eqI a b)=true:=by rw [xL h];rfl
theorem zAF {a b:Int} (h:a=b):(!eqI a b)=false:=by rw [xH h];rfl
end
end Go.Lay

namespace Go.Lay
open Go
section
variable {P:Program} {rec:Rec} {ι:Inj} {σ σ':St} {w:World}

def xHT (aw:FuncId) (rec:Rec):Rec:=fun r args σ=>match r with
 | .func f=>match args with
  | []=>bif Nat.beq f aw then some (.bool true,σ) else rec (.func f) [] σ
  | a::l=>rec (.func f) (a::l) σ
 | .yield l=>rec (.yield l) args σ
def zWA (P:Program) (aw:FuncId) (N:Nat):Rec:=xHT aw (zX P N)
structure ShutF (P:Program) (aw:FuncId):Prop where
 ok : ∀ (ι : Inj) (σ : St) (w : World), Rep ι σ w → (∃ fn, P.funcs[aw]? = some fn ∧ fn.body.isSome = true ∧ fn.name ≠ "runtime.NumGoroutine") ∧ ∀ n, CallsIn (Fw none) n P aw ⟨[]⟩ w (zKJ ι σ w (.bool true) σ)
theorem yKX {aw:FuncId} (h:RecSound P rec) (hc:ShutF P aw):RecSound P (xHT aw rec):=by
 refine ⟨fun f args σ v σ' hr ι w args' hrep ha=>?_,fun l args σ v σ' hr=>h.yield l args σ v σ' hr⟩
 cases args with
 | cons a l=>exact h.func f (a::l) σ v σ' hr ι w args' hrep ha
 | nil =>
  have hr:(bif Nat.beq f aw then some (.bool true,σ) else rec (.func f) [] σ)=some (v,σ'):=hr;rcases zBY hr with ⟨hf,hr⟩ | ⟨_,hr⟩
  ·have hf:=Nat.eq_of_beq_eq_true hf;simp at hr;obtain ⟨rfl,rfl⟩:=hr;subst hf;cases ha
   exact hc.ok ι σ w hrep
  ·exact h.func f [] σ v σ' hr ι w args' hrep ha
theorem yPY (hP:ProgOk P) {aw:FuncId} (hc:ShutF P aw) (N:Nat):RecSound P (zWA P aw N):=yKX (zGO hP N) hc
theorem xEJ (hP:ProgOk P) {l:List Ent} (hl:zKI P l) {N:Nat} {f:FuncId} (h:okB (zHY P (yMA l (zX P N)) N f [] xJC)=true):ShutF P f:=by
 refine ⟨fun ι σ w hr=>?_⟩
 obtain ⟨σ',hb⟩:=xJA h;obtain ⟨h1,h2⟩:=zEN hP (zNI hP hl N) hb (xUP w) .nil;refine ⟨h1,fun n=>CallsIn.mono (h2 n) (fun e w' hR=>?_)⟩
 cases e with
 | returned v' =>
  obtain ⟨ι',hv,hg⟩:=hR;have hs:∀ c,c<w.heap.size→w'.heap[c]?=w.heap[c]?:=fun c hc=>hg.pres.same c hc (fun b hb=>by simp [yXZ] at hb)
  have hv:=hv.bool_inv;subst hv;exact ⟨ι,.bool true,Ext.refl _ _ _,hr.grown hg.pres.size hs,⟨hg.pres.size,fun c hc _=>hs c hc,hg.pres.tape,hg.pres.os,hg.pres.output,hg.pres.fr⟩,Nat.le_refl _,Nat.le_refl _⟩
 | panicked _=>exact hR.elim
 | outgrown=>exact hR.elim
theorem yZS {aw:FuncId} {N:Nat}:uC (zWA P aw N) (.func aw) [] σ=some (.bool true,σ):=by
 unfold uC;have e:zWA P aw N (.func aw) [] ⟨σ.heap,σ.y,σ.y⟩=some (.bool true,⟨σ.heap,σ.y,σ.y⟩):=by
  show (bif Nat.beq aw aw then _ else _)=_;rw [Nat.beq_refl];rfl
 rw [e];show uD σ _ _=_;unfold uD;rw [(zW _ _).2 (Nat.le_refl _)];rfl

variable {H:Type} {enc:TypeId × Value→H} {held:Bool}
def WTs (P:Program) (σ:St) (n:Nat):List TypeId→List Value→Prop
 | [],[]=>True
 | t::ts,v::vs=>WT P σ n t v.cells.toList∧WTs P σ n ts vs
 | _,_=>False
theorem ySZ {n:Nat} {t:TypeId} {v:Value} {d:DataW H} {ps:List MemPlace} (hp:zGR P n t=true) (h:DataW.Trod enc P w 0 (fun _=>true) held t v d ps) (hr:Rep ι σ w) (ho:Ro ι w) (hrow:zNY w v.cells.toList) :
  ∃ ι' σ' av,Rep ι' σ' w∧Ro ι' w∧Sub ι ι'∧Le σ σ'∧VR ι' av v∧WT P σ' n t av.cells.toList:=by
 obtain ⟨fuel,h⟩:=h;obtain ⟨ι',σ',cs,r1,o1,s1,l1,v1,w1⟩:=yTA n t hp fuel _ _ ι σ h hr ho hrow;have one:(∀ c,v≠.agg c)→v.cells.toList=[v]→∃ ι' σ' av,Rep ι' σ' w∧Ro ι' w∧Sub ι ι'∧Le σ σ'∧VR ι' av v∧WT P σ' n t av.cells.toList:=by
  intro hna e;rw [e] at v1;cases v1 with
  | cons hx hn =>
   cases hn
   rename_i x;refine ⟨ι',σ',x,r1,o1,s1,l1,hx, ?_⟩
   have hc:=hx.cells;rw [e] at hc;have:x.cells.toList=[x]:=by
    cases x with
    | agg cs =>
     exfalso;cases hx with
     | atom hat=>exact absurd hat (by simp [uQ])
     | agg _ _=>exact hna _ rfl
    | _=>rfl
   rw [this];exact w1
 cases v with
 | agg c =>
  refine ⟨ι',σ',.agg ⟨cs⟩,r1,o1,s1,l1, ?_,w1⟩
  cases c with | mk l=>exact VR.agg' v1
 | _=>exact one (by simp) rfl
theorem yLT {n:Nat}:∀ {ts:List TypeId} {vs:List Value} {ds:List (DataW H)} {ps:List MemPlace} {ι:Inj} {σ:St},DataW.TrodAll enc P w 0 (fun _=>true) held ts vs ds ps→(∀ t∈ts,zGR P n t=true)→Rep ι σ w→Ro ι w→(∀ v∈vs,zNY w v.cells.toList) →
  ∃ ι' σ' avs,Rep ι' σ' w∧Ro ι' w∧Le σ σ'∧Sub ι ι'∧VRs ι' avs vs∧WTs P σ' n ts avs
 | [],[],[],ps,ι,σ,h,_,hr,ho,_=>⟨ι,σ,[],hr,ho,Le.refl _,Sub.refl _,.nil,trivial⟩
 | t::ts,v::vs,d::ds,ps,ι,σ,h,hp,hr,ho,hrow=>by
  obtain ⟨p,q,h1,h2,_⟩:=h;obtain ⟨ι1,σ1,av,r1,o1,s1,l1,v1,w1⟩:=ySZ (hp t (by simp)) h1 hr ho (hrow v (by simp));obtain ⟨ι2,σ2,avs,r2,o2,l2,s2,v2,w2⟩:=yLT h2 (fun t ht=>hp t (by simp [ht])) r1 o1 (fun v hv=>hrow v (by simp [hv]));exact ⟨ι2,σ2,av::avs,r2,o2,l1.trans l2,s1.trans s2,.cons (v1.sub s2) v2,w1.le l2,w2⟩
 | [],_::_,_,_,_,_,h,_,_,_,_=>h.elim
 | _::_,[],_,_,_,_,h,_,_,_,_=>h.elim
 | [],[],_::_,_,_,_,h,_,_,_,_=>h.elim
 | _::_,_::_,[],_,_,_,h,_,_,_,_=>h.elim

theorem zRO {t:TypeId} {v:Value} (h:Value.okWide P w .any 0 t v):zNY w v.cells.toList:=by
  have cell:∀ {u:TypeId} {A:Addr} {len cap:Nat},Cell.okWide P w .any 0 u (.slice (some A) len cap)→∃ (c:Nat) (arr:Array Value) (el:TypeId) (fr:Nat × Nat),w.heap[c]?=some (.cells arr el fr):=by
    intro u A len cap hc;have hok:Cell.ok P w .any 0 u (.slice (some A) len cap):=by
      unfold Cell.okWide at hc;split at hc <;> first | exact hc | (rename_i heq;cases heq)
    unfold Cell.ok at hok;split at hok <;> first | (rename_i heq;cases heq;done) | skip
    all_goals first
      | (rename_i heq;cases heq;obtain ⟨_,_,_,_,row,cells,hs,_⟩:=hok
         unfold World.shape? at hs
         split at hs
         · rename_i c elem hh;exact ⟨_,_,_,_,hh⟩
         · cases hs)
      | exact hok.elim
      | skip
  intro A len cap hm;unfold Value.okWide at h;split at h
  · obtain ⟨cs,rfl,_,ts,_,_,hc⟩:=h;obtain ⟨i,hi⟩:=List.getElem?_of_mem hm;obtain ⟨u,_,hu⟩:=hc i _ (by simpa [Value.cells] using hi);exact cell hu
  · obtain ⟨cs,rfl,_,ts,_,_,hc⟩:=h;obtain ⟨i,hi⟩:=List.getElem?_of_mem hm;obtain ⟨u,_,hu⟩:=hc i _ (by simpa [Value.cells] using hi);exact cell hu
  · cases v with
    | slice a l c =>
      simp [Value.cells] at hm;obtain ⟨rfl,rfl,rfl⟩:=hm;exact cell h
    | agg cs =>
      exfalso;unfold Cell.okWide at h;split at h <;> first | (rename_i heq;cases heq;done) | skip
      unfold Cell.ok at h;split at h <;> first | (rename_i heq;cases heq;done) | exact h.elim | skip
    | _=>simp [Value.cells] at hm
end
end Go.Lay

namespace Go.Lay
open Go Go.RowKit
theorem zMI {W W':World} (h:Grown W W') {b:Nat} (hb:b<W.heap.size):W'.heap[b]?=W.heap[b]?:=by
 have:=h.1.2.2 b hb;split at this
 ·rename_i c t fr c' t' fr' h1 h2;obtain ⟨rfl,rfl,hs,hj⟩:=this;rw [h1,h2];have:c'=c:=Array.ext_getElem? (fun j=>hj j (fun f=>f));rw [this]
 ·rename_i h1 h2;rcases this with f | ⟨rfl,rfl⟩
  ·exact f.elim
  ·rw [h1,h2]
 ·exact this
theorem yAW {W W':World} (h:Grown W W') {p:MemPlace} (hp:p.block<W.heap.size):W.sameAt W' p:=by
 cases p with
 | cell b o=>exact World.cell?_of_block (w:=W) (zMI h hp)
 | map b=>exact zMI h hp
section
variable {H:Type} {enc:TypeId × Value→H} {P:Program} {w w':World} {b:Nat} {sp:Nat→Bool} {held:Bool}
theorem zLZ:∀ {ts:List TypeId} {vs:List Value} {ds:List (DataW H)} {ps:List MemPlace},DataW.TrodAll enc P w b sp held ts vs ds ps→(∀ p∈ps,w.sameAt w' p)→DataW.TrodAll enc P w' b sp held ts vs ds ps
 | [],[],[],_,h,_=>h
 | _::_,_::_,_::_,_,⟨p,q,⟨n,h1⟩,h2,e⟩,hs=>⟨p,q,⟨n,DataW.trod_carry _ _ _ _ h1 (fun x hx=>hs x (by rw [e];exact List.mem_append_left _ hx))⟩,zLZ h2 (fun x hx=>hs x (by rw [e];exact List.mem_append_right _ hx)),e⟩
theorem xFC (K:Kids P (· < P.types.size)) (hz:∀ (t:Nat) (e:TypeId),t<P.types.size→P.underlying t=some (.slice e)→0<P.cellsOf e) {ts:List TypeId} {vs:List Value} {ds:List (DataW H)} {ps:List MemPlace}
  (hT:∀ t∈ts,t<P.types.size) (h:DataW.TrodAll enc P w 0 (fun _=>true) true ts vs ds ps) (hg:Grown w w') (hlt:∀ p∈ps,p.block<w.heap.size) (hs:∀ p∈ps,sp p.block=true):DataW.TrodAll enc P w' 0 sp true ts vs ds ps :=
 zLZ (DataW.TrodAll.respare K hz hT h hs) (fun p hp=>yAW hg (hlt p hp))
end
end Go.Lay

namespace Go.Lay
open Go
section
variable {P:Program} {R:Nat→Rec} {rd:Option Nat} {c:Code} {fr fr':Fr} {σ σ':St} {e:Exit} {aw:FuncId}
def yWN (P:Program) (l:Nat) (args:List Value) (σ:St) (v:Value) (σ':St):Prop:=∃ N0,∀ N,N0≤N→uC (zX P N) (.yield l) args σ=some (v,σ')
end
end Go.Lay

namespace Go.Lay
open Go
section
variable {P:Program} {σ σ':St} {cs:List Value}
end
end Go.Lay

namespace Go.Lay
open Go
structure Only (S:Nat→Prop) (σ σ':St):Prop where
 y:σ.y≤σ'.y
 get:∀ b,b<σ.y→¬ S b→yK σ'.heap b=yK σ.heap b
 low:∀ m,m≤σ.low→m≤σ.y→(∀ b,b<σ.y→S b→m≤b)→m≤σ'.low
section
variable {P:Program} {S T:Nat→Prop} {σ σ' σ₁ σ₂ σ₃:St} {cs:List Value} {n b:Nat}
theorem Only.refl (S:Nat→Prop) (σ:St):Only S σ σ:=⟨Nat.le_refl _,fun _ _ _=>rfl,fun _ h _ _=>h⟩
theorem Only.trans (h:Only S σ₁ σ₂) (k:Only T σ₂ σ₃) (hT:∀ b,b<σ₁.y→T b→S b) (hT2:∀ m,m≤σ₁.y→(∀ b,b<σ₁.y→S b→m≤b)→∀ b,b<σ₂.y→T b→m≤b:=by intro m h1 h2 b h3 h4;(first | exact h4.elim | omega)):Only S σ₁ σ₃ :=
 ⟨Nat.le_trans h.y k.y,fun b hb hs=>(k.get b (Nat.lt_of_lt_of_le hb h.y) (fun ht=>hs (hT b hb ht))).trans (h.get b hb hs),fun m h1 h2 h3=>k.low m (h.low m h1 h2 h3) (Nat.le_trans h2 h.y) (hT2 m h2 h3)⟩
theorem Only.trans' (h:Only S σ₁ σ₂) (k:Only T σ₂ σ₃) (hT:∀ b,b<σ₂.y→T b→S b∨σ₁.y≤b):Only S σ₁ σ₃ :=
 ⟨Nat.le_trans h.y k.y,fun b hb hs=>(k.get b (Nat.lt_of_lt_of_le hb h.y) (fun ht=>(hT b (Nat.lt_of_lt_of_le hb h.y) ht).elim hs (fun h=>by omega))).trans (h.get b hb hs),fun m h1 h2 h3=>k.low m (h.low m h1 h2 h3) (Nat.le_trans h2 h.y) (fun b hb ht=>by
  rcases hT b hb ht with h4 | h4
  ·by_cases hb':b<σ₁.y
   ·exact h3 b hb' h4
   ·omega
  ·omega)⟩
theorem Only.mono (h:Only S σ σ') (hT:∀ b,b<σ.y→S b→T b):Only T σ σ':=⟨h.y,fun b hb hs=>h.get b hb (fun k=>hs (hT b hb k)),fun m h1 h2 h3=>h.low m h1 h2 (fun b hb k=>h3 b hb (hT b hb k))⟩
theorem New.only (h:New σ σ'):Only S σ σ':=⟨h.le.y,fun b hb _=>h.le.get b hb,fun m h1 h2 _=>h.low m h1 h2⟩
theorem Only.add (σ:St) (y:Blk):Only S σ (σ.add y):=(New.add σ y).only
theorem Only.row (σ:St) (cs:List Value) (n:Nat):Only S σ (σ.row cs n):=(New.row σ cs n).only
theorem Only.put {y:Blk} (hs:σ.y≤b∨S b):Only S σ (σ.put b y):=⟨Nat.le_refl _,fun c hc hs'=>by rw [St.put_get,if_neg (by rintro rfl;rcases hs with h | h;omega;exact hs' h)],fun m h1 h2 h3=>by
 simp only [St.put_low];rcases hs with h | h
 ·omega
 ·by_cases hb:b<σ.y
  ·have:=h3 b hb h;omega
  ·omega⟩
theorem Only.own (hs:σ.y≤b∨S b):Only S σ (σ.own b cs n):=Only.put hs
theorem Only.re (σ:St):Only S σ σ.re:=⟨Nat.le_refl _,fun _ _ _=>rfl,fun _ _ h _=>h⟩
theorem Only.own' (h:Only S σ σ') (k:Own σ b cs n) (hs:¬ S b):Own σ' b cs n:=⟨by rw [h.get b k.lt hs];exact k.get,Nat.lt_of_lt_of_le k.lt h.y⟩
theorem Only.rw' {a:Addr} (h:Only S σ σ') (k:Row σ a cs) (hs:¬ S a.block):Row σ' a cs:=⟨by
 have:=k.rd
 unfold yS at this ⊢
 rw [h.get _ k.lt hs];exact this,Nat.lt_of_lt_of_le k.lt h.y⟩
theorem Only.slp' {len:Nat} {p:Option Addr} (h:Only S σ σ') (k:SlP σ n p len cs) (hs:∀ a,p=some a→¬ S a.block):SlP σ' n p len cs:=by
 refine ⟨k.1, ?_⟩
 cases p with
 | none=>exact k.2
 | some a=>exact h.rw' (show Row σ a cs from k.2) (hs a rfl)
theorem Only.slv' {t len:Nat} {p:Option Addr} {vs:List Value} (h:Only S σ σ') (k:SlV P σ t n p len vs) (hs:∀ a,p=some a→¬ S a.block):SlV P σ' t n p len vs:=⟨h.slp' k.1 hs,k.2⟩
theorem Only.app' {n0 len:Nat} {v:Value} (h:Only S σ σ') (k:App σ n0 n v len cs) (hs:∀ a l c,v=.slice (some a) l c→¬ S a.block):App σ' n0 n v len cs:=by
 cases k with
 | nil=>exact .nil
 | more g1 g2 g3 g4 g5 g6 g7=>exact .more (by rw [h.get _ g4 (hs _ _ _ rfl)];exact g1) g2 g3 (Nat.lt_of_lt_of_le g4 h.y) g5 g6 g7
theorem Own.low {m:Nat} (h:Own σ b cs n):Own ⟨σ.heap,σ.y,m⟩ b cs n:=⟨h.get,h.lt⟩
def xWO (P:Program) (R:Nat→Rec) (g:Operand) (ps:Array Tmp) (as bo:Code) (fr:Fr) (σ:St) (e:Exit) (fr':Fr) (σ':St):Prop:=∃ N0,∀ N,N0≤N→zNA (R N) none g ps as bo fr σ=some (e,fr',σ')
def yZL (ms:List Nat) (σ σ':St):Prop:=zOC ms σ fun s=>s=σ'
theorem zMS:∀ {ms:List Nat} {σ:St} {K:St→Prop},yZL ms σ σ'→K σ'→zOC ms σ K
 | [],_,_,h,k=>by cases h;exact k
 | _::_,_,_,h,k=>⟨h.1,zMS h.2 k⟩
theorem zOK:∀ {ms:List Nat} {σ:St},(∀ d∈ms,yK σ.heap d=some .defd)→ms.Nodup→∃ σ',yZL ms σ σ'∧σ'.y=σ.y∧(∀ b,b ∉ ms→yK σ'.heap b=yK σ.heap b)∧∀ m,m≤σ.low→(∀ d∈ms,m≤d)→m≤σ'.low
 | [],σ,_,_=>⟨σ,rfl,rfl,fun _ _=>rfl,fun _ h _=>h⟩
 | d::ms,σ,h,hn=>by
  have hn:=List.nodup_cons.1 hn;obtain ⟨σ',h1,h2,h3,h4⟩:=zOK (ms:=ms) (σ:=σ.shut d) (fun c hc=>by
   rw [St.shut_get,if_neg (by rintro rfl;exact hn.1 hc)];exact h c (by simp [hc])) hn.2
  refine ⟨σ',⟨h d (by simp),h1⟩,h2,fun b hb=>?_,fun m hm hd=>h4 m ?_ (fun c hc=>hd c (by simp [hc]))⟩
  ·simp at hb;rw [h3 b hb.2,St.shut_get,if_neg hb.1]
  ·have:=hd d (by simp);simp;omega
end
end Go.Lay

namespace Go.Lay
open Go
section
variable {P:Program} {σ σ':St} {cs:List Value}
def AtP (p:Option Addr) (b:Nat):Prop:=∃ a,p=some a∧a.block=b
theorem AtP.none {b:Nat}:¬ AtP none b:=by rintro ⟨a,h,_⟩;cases h
theorem yFA {st xt e n m k len n0:Nat} {a2:Addr} {p:Option Addr} {c:Nat} {xs:List Value} (T:AppT P st xt e n) (hA:App σ n0 n (.slice p len c) len cs) (hr:Row σ a2 xs) (hm:xs.length=m*n) (hp:0<m) (hroom:len+m≤1073741824)
  (hc:xs.all cellB=true) (hn0:n0≤σ.y):∃ p' c' σ',yD P st xt (.slice p len c) (.slice (some a2) m k) σ=some (.slice p' (len+m) c',σ')∧App σ' n0 n (.slice p' (len+m) c') (len+m) (cs++xs)∧Only (AtP p) σ σ'∧(∀ b,AtP p' b→AtP p b∨σ.y≤b):=by
 obtain ⟨p',c',σ',h1,h2,h3⟩:=xMX (k:=k) T hA hr hm hp hroom hc hn0;refine ⟨p',c',σ',h1,h2, ?_⟩
 obtain ⟨xd,hxd,hxi⟩:=T.src;obtain ⟨ei,z,hei,hz,hby,hrz,hzl⟩:=T.info;have hrd:=hr.rd;rw [hm] at hrd;have hsrc:zAM σ n z xd (.slice (some a2) m k)=some (m,xs):=by
  unfold zAM;cases xd with
  | int _=>cases hxi
  | _=>simp only [vP,hrd,Option.map_some]
 have hcond:(zAQ (len+m) n ei.bytes && xs.all cellB && Nat.beq xs.length (m*n) && zV RD z && Nat.beq z.cells.toList.length n)=true:=by
  unfold zAQ;rw [(zW _ _).2 hroom,(zW _ _).2 T.le,(zW _ _).2 hby,hc,hm,Nat.beq_refl,hrz,hzl];rfl
 have hble:∀ x:Nat,Nat.ble (x+m) x=false:=fun x=>by rw [Bool.eq_false_iff];intro e;have:=(zW _ _).1 e;omega
 cases hA with
 | nil =>
  have hc0:yN 0=0:=by unfold yN;have:=wW;rw [if_neg (by omega)]
  have hc1:yU 0=true:=(yQ 0).2 wW;unfold yD at h1;simp only [T.el,hxd,hei,hz,hsrc,hcond,cond_true,vO,hc0,hble,cond_false,hc1,Nat.beq_refl,yO,Option.some.injEq,Prod.mk.injEq,Value.slice.injEq] at h1;obtain ⟨⟨rfl,_,_⟩,rfl⟩:=h1;exact ⟨Only.add _ _,fun b' hb=>.inr (by obtain ⟨a,e,rfl⟩:=hb;cases e;exact Nat.le_refl _)⟩
 | @more b' s nx _ _ sp log h hs hb hlt hl hpp hsn =>
  have hex:wM ((s,cs.length)::log) (yB ⟨b',0,sp⟩)=some cs.length:=by
   have:Nat.beq s (yB ⟨b',0,sp⟩)=true:=by unfold yB;simp only [hs];exact Nat.beq_refl _
   simp only [wM,this,cond_true]
  have hlf:wP ((s,cs.length)::log) (yB ⟨b',0,sp⟩)=(s,cs.length)::log:=by
   have:Nat.beq s (yB ⟨b',0,sp⟩)=true:=by unfold yB;simp only [hs];exact Nat.beq_refl _
   simp only [wP,this,cond_true]
  have hg:(Nat.beq len len && Nat.beq (0+len*n) cs.length && Nat.beq n n && !false && Nat.blt 0 n)=true:=by
   rw [Nat.beq_refl,Nat.zero_add,hl,Nat.beq_refl,Nat.beq_refl,(xY 0 n).2 T.pos];rfl
  unfold yD at h1;simp only [T.el,hxd,hei,hz,hsrc,hcond,cond_true,vO,uP,hble,cond_false,zEZ,zHQ,h,hex,hg,zDW,wG,St.write_eq,hlf,Option.some.injEq,Prod.mk.injEq,Value.slice.injEq] at h1;obtain ⟨⟨rfl,_,_⟩,rfl⟩:=h1;exact ⟨Only.put (.inr ⟨_,rfl,rfl⟩),fun b'' hb=>.inl (by obtain ⟨a,e,rfl⟩:=hb;cases e;exact ⟨_,rfl,rfl⟩)⟩
theorem Own.ldI {b n i:Nat} {t:TypeId} {v:Value} (h:Own σ b cs n) (ht:wN P t=some false) (hi:cs[i]?=some v):zB P σ t (zN ⟨b,0,none⟩ (Int.toNat (i:Int)*1))=some v:=by
 rw [Int.toNat_natCast,Nat.mul_one];have:=h.rw.load1 (P:=P) ht (k:=i) hi;exact this
theorem Own.stI {b n i:Nat} {t:TypeId} {v:Value} (h:Own σ b cs n) (hv:v.cells.toList=[v]) (hs:yT P t=some 1) (hc:cellB v=true) (hi:i<cs.length) :
  zQ P (evL [.pointer (some (zN ⟨b,0,none⟩ (Int.toNat (i:Int)*1))),v]) σ (.store t (.tmp 0) (.tmp 1))=some (undef,σ.own b (cs.set i v) n):=by
 have e:zN ⟨b,0,none⟩ (Int.toNat (i:Int)*1)=⟨b,i,none⟩:=by rw [Int.toNat_natCast,Nat.mul_one];simp [zN]
 rw [e];refine h.store (k:=i) hv hs (by simp [hc]) (by simp;omega) ?_
 rw [List.set_eq_take_append_cons_drop,if_pos hi];rfl
end
end Go.Lay

namespace Go.Lay
open Go
def yHF:Value→Bool
 | .tuple ⟨[]⟩=>true
 | _=>false
theorem yTH {v:Value} (h:yHF v=true):v=undef:=by
 unfold yHF at h;split at h
 ·rfl
 ·cases h
def shp:Nat→Bool→Tr Value→Bool
 | 0,_,.leaf=>true
 | d+1,c,.node (some v) l r=>(c || yHF v) && (shp d false l && shp d true r)
 | _,_,_=>false
def zDJ:List Bool→Nat
 | []=>0
 | b::p=>(bif b then 1 else 0)+2*zDJ p
def xMI:Bool→List Bool→Prop
 | c,[]=>c=true
 | _,b::p=>xMI b p
theorem yQH {g:Nat→Value}:∀ (d:Nat) (c:Bool) (t:Tr Value) (w a:Nat),shp d c t=true→(∀ p v,xMI c p→Tr.getP p t=some v→g (a+w*zDJ p)=v)→t=trF g d w a c
 | 0,c,.leaf,w,a,_,_=>rfl
 | 0,c,.node _ _ _,w,a,h,_=>by simp [shp] at h
 | d+1,c,.leaf,w,a,h,_=>by simp [shp] at h
 | d+1,c,.node none l r,w,a,h,_=>by simp [shp] at h
 | d+1,c,.node (some v) l r,w,a,h,hg=>by
  simp only [shp,Bool.and_eq_true] at h;obtain ⟨h1,h2,h3⟩:=h;have e1:v=bif c then g a else undef:=by
   cases c with
   | true =>
    have:=hg [] v rfl rfl;simp [zDJ] at this;simp [this]
   | false=>simpa using yTH (by simpa using h1)
  have e2:=yQH d false l (w*2) a h2 (fun p x hp hx=>by
   have:=hg (false::p) x (by cases p <;> exact hp) hx;simp [zDJ] at this;rw [← this];congr 1;rw [Nat.mul_assoc])
  have e3:=yQH d true r (w*2) (a+w) h3 (fun p x hp hx=>by
   have:=hg (true::p) x (by cases p <;> exact hp) hx;simp only [zDJ,cond_true] at this;rw [← this];congr 1;rw [Nat.mul_add,Nat.mul_one,Nat.mul_assoc,Nat.add_assoc])
  rw [e2,e3,e1];rfl
theorem yOK:∀ (p:List Bool),xMI true p→∀ f,zDJ p≤f→bits f (zDJ p)=p
 | [],_,f,_=>by
  cases f with
  | zero=>rfl
  | succ f=>simp [bits,zDJ]
 | b::p,hp,f,hf=>by
  have hp:xMI b p:=hp;have hpos:0<(bif b then 1 else 0)+2*zDJ p:=by
   cases p with
   | nil =>
    have:b=true:=hp;subst this;simp [zDJ]
   | cons b2 q =>
    have key:∀ (q:List Bool) (b:Bool),xMI b q→b=true∨0<zDJ q:=by
     intro q;induction q with
     | nil=>intro b h;exact .inl h
     | cons c q ih =>
      intro b h;rcases ih c h with h1 | h1
      ·right;simp [zDJ,h1];omega
      ·right;simp only [zDJ];omega
    rcases key q b2 hp with h1 | h1
    ·simp [zDJ,h1];omega
    ·simp only [zDJ];omega
  simp only [zDJ] at hf ⊢;match f with
  | 0=>omega
  | f+1 =>
   have ih:bits f (zDJ p)=p:=by
    cases p with
    | nil=>cases f <;> simp [bits,zDJ]
    | cons b2 q=>exact yOK (b2::q) hp f (by cases b <;> simp at hf <;> omega)
   have hb:Nat.beq ((bif b then 1 else 0)+2*zDJ p) 0=false:=by
    rw [Bool.eq_false_iff];intro e;have:=Nat.eq_of_beq_eq_true e;omega
   have h2:((bif b then 1 else 0)+2*zDJ p) / 2=zDJ p:=by cases b <;> simp <;> omega
   have h3:Nat.beq (((bif b then 1 else 0)+2*zDJ p) % 2) 1=b:=by
    cases b
    ·rw [Bool.eq_false_iff];intro e;have:=Nat.eq_of_beq_eq_true e;simp at this
    ·have:((bif true then 1 else 0)+2*zDJ p) % 2=1:=by simp
     rw [this];rfl
   simp only [bits,hb,cond_false,h3,h2,ih]
def yHK (n:Nat) (f:Tm):Bool:=Nat.beq f.n n && shp ((way n).length+1) true f.t
def AG (f:Tm):List (Nat × Value)→Prop
 | []=>True
 | (i,v)::l=>f.nth i=v∧AG f l
def ARf:List (Nat × Value)→Prop
 | []=>True
 | (_,v)::l=>v=v∧ARf l
theorem arf:∀ l:List (Nat × Value),ARf l
 | []=>trivial
 | (_,_)::l=>⟨rfl,arf l⟩
theorem xTL {f:Tm}:∀ {l:List (Nat × Value)},AG f l→ov l f.nth=f.nth
 | [],_=>rfl
 | (i,v)::l,h=>by
  have ih:=xTL h.2;funext j;unfold ov;cases hb:Nat.beq i j with
  | false=>rw [cond_false,ih]
  | true=>rw [cond_true,← Nat.eq_of_beq_eq_true hb,h.1]
theorem yNE {n:Nat} {f:Tm} {l:List (Nat × Value)} (h:yHK n f=true) (hl:AG f l):f=Fm n (ov l f.nth):=by
 unfold yHK at h;simp only [Bool.and_eq_true] at h;obtain ⟨h1,h2⟩:=h;have h1:=Nat.eq_of_beq_eq_true h1;subst h1;rw [xTL hl];have:=yQH (g:=f.nth) ((way f.n).length+1) true f.t 1 0 h2 (fun p v hp hv=>by
  rw [Nat.zero_add,Nat.one_mul];unfold Tm.nth way;rw [yOK p hp _ (Nat.le_refl _),hv])
 cases f with
 | mk n t=>unfold Fm;exact congrArg (Tm.mk n) this

def zEH (R:Nat→Rec):zQH:=fun r args σ v σ'=>∃ N0,∀ N,N0≤N→uC (R N) r args σ=some (v,σ')
def yOY (n:Nat):List Alt→Exit→Fr→St→Prop
 | [],_,_,_=>False
 | a::as,e,fr,σ=>(e=a.e∧∃ t g,fr=⟨Fm n (ov (a.l t) g),a.ms t⟩∧a.Q t σ)∨yOY n as e fr σ
def yOX:List (Exit × (St→Prop))→Exit→St→Prop
 | [],_,_=>False
 | a::as,e,σ=>(e=a.1∧a.2 σ)∨yOX as e σ
def yFL (n:Nat):List Alt→(Exit→Fr→St→Prop)→Prop
 | [],_=>True
 | a::as,K=>(∀ (t:a.T) (g:Nat→Value) (σ:St),a.Q t σ→K a.e ⟨Fm n (ov (a.l t) g),a.ms t⟩ σ)∧yFL n as K
def yWM (n:Nat) (l:List (Nat × Value)) (ms:List Nat):List (Exit × (St→Prop))→(Exit→Fr→St→Prop)→Prop
 | [],_=>True
 | a::as,K=>(∀ (g:Nat→Value) (σ:St),a.2 σ→K a.1 ⟨Fm n (ov l g),ms⟩ σ)∧yWM n l ms as K
theorem zRU {n:Nat} {K:Exit→Fr→St→Prop} {e:Exit} {fr:Fr} {σ:St}:∀ {l:List Alt},yFL n l K→yOY n l e fr σ→K e fr σ
 | [],_,h=>h.elim
 | a::as,hc,h=>by
  rcases h with ⟨rfl,t,g,rfl,hq⟩ | h
  ·exact hc.1 t g σ hq
  ·exact zRU hc.2 h
theorem zZG {n:Nat} {l0:List (Nat × Value)} {ms:List Nat} {K:Exit→Fr→St→Prop} {e:Exit} {g:Nat→Value} {σ:St}:∀ {l:List (Exit × (St→Prop))},yWM n l0 ms l K→yOX l e σ→K e ⟨Fm n (ov l0 g),ms⟩ σ
 | [],_,h=>h.elim
 | a::as,hc,h=>by
  rcases h with ⟨rfl,hq⟩ | h
  ·exact hc.1 g σ hq
  ·exact zZG hc.2 h
section
variable (P:Program) (R:Nat→Rec)
def yR (rd:Option Nat) (c:Code) (n:Nat) (l:List (Nat × Value)) (ms:List Nat) (alts:List Alt) (σ:St):Prop :=
 ∀ g:Nat→Value,∃ e fr' σ',zBG P R rd c ⟨Fm n (ov l g),ms⟩ σ e fr' σ'∧yOY n alts e fr' σ'
def xC (rd:Option Nat) (c:Code) (n:Nat) (l:List (Nat × Value)) (ms:List Nat) (alts:List Alt) (σ:St):Prop :=
 ∀ g:Nat→Value,∃ e fr' σ',zUI P R rd c ⟨Fm n (ov l g),ms⟩ σ e fr' σ'∧yOY n alts e fr' σ'
def zSL (gx:Operand) (ps:Array Tmp) (a b:Code) (n:Nat) (l:List (Nat × Value)) (alts:List (Exit × (St→Prop))) (σ:St):Prop :=
 ∀ (g:Nat→Value) (ms:List Nat),∃ e σ',xWO P R gx ps a b ⟨Fm n (ov l g),ms⟩ σ e ⟨Fm n (ov l g),σ.y::ms⟩ σ'∧yOX alts e σ'
def wpE (rd:Option Nat):Code→List Ans→Fr→St→(Exit→Fr→St→List Ans→Prop)→Prop
 | .skip,as,fr,σ,K=>K .normal fr σ as
 | .label _,as,fr,σ,K=>K .normal fr σ as
 | .ret,as,fr,σ,K=>K .ret fr σ as
 | .exit id,as,fr,σ,K=>K (.exit id) fr σ as
 | .seq x y,as,fr,σ,K=>wpE rd x as fr σ fun e fr σ as=>match e with
  | .normal=>wpE rd y as fr σ K
  | e=>K e fr σ as
 | .cond c x y,as,fr,σ,K=>match as with
  | .cut n l alts::_=>(yHK n fr.f=true∧AG fr.f l∧yR P R rd (.cond c x y) n l fr.marks alts σ)∧yFL n alts fun e fr σ=>∃ as,K e fr σ as
  | as=>match yG fr.f c with
   | .bool true=>wpE rd x as fr σ K
   | .bool false=>wpE rd y as fr σ K
   | _=>False
 | .block id c,as,fr,σ,K=>match as with
  | .cut n l alts::_=>(yHK n fr.f=true∧AG fr.f l∧yR P R rd (.block id c) n l fr.marks alts σ)∧yFL n alts fun e fr σ=>∃ as,K e fr σ as
  | as=>wpE rd c as fr σ fun e fr σ as=>match e with
   | .exit i=>match Nat.beq i id with
    | true=>K .normal fr σ as
    | false=>K (.exit i) fr σ as
   | e=>K e fr σ as
 | .scope c,as,fr,σ,K=>wpE rd c as fr σ K
 | .region _ ops d,as,fr,σ,K=>zHS P (zEH R) ops d as fr σ K
 | .loop c,as,fr,σ,K=>match as with
  | .lf n l alts::_=>(yHK n fr.f=true∧AG fr.f l∧xC P R rd c n l fr.marks alts σ)∧yFL n alts fun e fr σ=>∃ as,K e fr σ as
  | _=>False
 | .rangeFunc g ps a b,as,fr,σ,K=>match as,rd with
  | .rf n l alts::_,none=>(yHK n fr.f=true∧AG fr.f l∧zSL P R g ps a b n l alts σ)∧yWM n l (σ.y::fr.marks) alts fun e fr σ=>∃ as,K e fr σ as
  | _,_=>False
 | .goto _,_,_,_,_=>False
 | .refuse _,_,_,_,_=>False
end
section
variable {P:Program} {R:Nat→Rec} {rd:Option Nat}
theorem zKQ {C:zQH} {f:Tm} {σ:St} {o:Op} {as:List Ans} {K K':Value→St→List Ans→Prop} (h:zVT P C f σ o as K) (hk:∀ v s a,K v s a→K' v s a):zVT P C f σ o as K':=by
 unfold zVT at h ⊢;repeat' split at h
 all_goals first
  | exact h.elim
  | (simp only [*];exact ⟨h.1,hk _ _ _ h.2⟩)
  | (simp only [*];exact hk _ _ _ h)
  | exact ⟨h.1,hk _ _ _ h.2⟩
  | exact hk _ _ _ h
abbrev At3 (v:Value) (σ':St) (as':List Ans):Value→St→List Ans→Prop:=fun v2 s2 a2=>v2=v∧s2=σ'∧a2=as'
theorem yBJ {f:Tm} {σ:St} {o:Op} {as:List Ans} {K:Value→St→List Ans→Prop} (h:zVT P (zEH R) f σ o as K):∃ v σ' as',K v σ' as'∧∃ N0,∀ N,N0≤N→zVT P (zPX (R N)) f σ o as (At3 v σ' as'):=by
 unfold zVT at h;unfold zVT;repeat' split at h
 all_goals first
  | exact h.elim
  | (obtain ⟨⟨N0,hN⟩,hk⟩:=h;exact ⟨_,_,_,hk,N0,fun N hl=>⟨hN N hl,rfl,rfl,rfl⟩⟩)
  | exact ⟨_,_,_,h,0,fun N _=>⟨rfl,rfl,rfl⟩⟩
  | exact ⟨_,_,_,h.2,0,fun N _=>by simp only [*];exact ⟨h.1,rfl,rfl,rfl⟩⟩
  | exact ⟨_,_,_,h,0,fun N _=>by simp only [*];exact ⟨rfl,rfl,rfl⟩⟩
  | exact ⟨_,_,_,h.2,0,fun N _=>⟨h.1,rfl,rfl,rfl⟩⟩
theorem zGG {ops:Array Oper}:∀ (rest:List Oper) (as:List Ans) (f:Tm) (σ:St) (l:List Seen) (K:Tm→St→List Seen→List Ans→Prop),zFC P (zEH R) ops rest as f σ l K →
  ∃ f' σ' l' as',K f' σ' l' as'∧∃ N0,∀ N,N0≤N→zFC P (zPX (R N)) ops rest as f σ l fun f2 s2 l2 a2=>f2=f'∧s2=σ'∧l2=l'∧a2=as'
 | [],as,f,σ,l,K,h=>⟨f,σ,l,as,h,0,fun _ _=>⟨rfl,rfl,rfl,rfl⟩⟩
 | o::rest,as,f,σ,l,K,h=>by
  unfold zFC at h;unfold zFC;split at h
  ·rename_i hg;obtain ⟨v,σ1,as1,h1,N1,k1⟩:=yBJ h;obtain ⟨f',σ',l',as',h2,N2,k2⟩:=zGG rest _ _ _ _ _ h1;refine ⟨f',σ',l',as',h2,N1+N2,fun N hN=>?_⟩
   try simp only [hg]
   refine zKQ (k1 N (by omega)) ?_
   rintro _ _ _ ⟨rfl,rfl,rfl⟩;exact k2 N (by omega)
  ·rename_i hg;obtain ⟨f',σ',l',as',h2,N2,k2⟩:=zGG rest _ _ _ _ _ h;exact ⟨f',σ',l',as',h2,N2,fun N hN=>by (try simp only [hg]);exact k2 N hN⟩
  ·exact h.elim
theorem zIE {ops:Array Oper}:∀ (rest:List Oper) (as:List Ans) (f:Tm) (σ:St) (l:List Lk) (K:Tm→St→List Lk→List Ans→Prop),zCS P (zEH R) ops rest as f σ l K →
  ∃ f' σ' l' as',K f' σ' l' as'∧∃ N0,∀ N,N0≤N→zCS P (zPX (R N)) ops rest as f σ l fun f2 s2 l2 a2=>f2=f'∧s2=σ'∧l2=l'∧a2=as'
 | [],as,f,σ,l,K,h=>⟨f,σ,l,as,h,0,fun _ _=>⟨rfl,rfl,rfl,rfl⟩⟩
 | o::rest,as,f,σ,l,K,h=>by
  unfold zCS at h;unfold zCS;split at h
  ·rename_i hg;obtain ⟨v,σ1,as1,h1,N1,k1⟩:=yBJ h;obtain ⟨f',σ',l',as',h2,N2,k2⟩:=zIE rest _ _ _ _ _ h1;refine ⟨f',σ',l',as',h2,N1+N2,fun N hN=>?_⟩
   try simp only [hg]
   refine zKQ (k1 N (by omega)) ?_
   rintro _ _ _ ⟨rfl,rfl,rfl⟩;exact k2 N (by omega)
  ·rename_i hg;obtain ⟨f',σ',l',as',h2,N2,k2⟩:=zIE rest _ _ _ _ _ h;exact ⟨f',σ',l',as',h2,N2,fun N hN=>by (try simp only [hg]);exact k2 N hN⟩
  ·exact h.elim
theorem zGF {C:zQH} {ops:Array Oper}:∀ (rest:List Oper) (as:List Ans) (f:Tm) (σ:St) (l:List Seen) {K K':Tm→St→List Seen→List Ans→Prop},zFC P C ops rest as f σ l K→(∀ f s l a,K f s l a→K' f s l a)→zFC P C ops rest as f σ l K'
 | [],as,f,σ,l,K,K',h,hk=>hk _ _ _ _ h
 | o::rest,as,f,σ,l,K,K',h,hk=>by
  unfold zFC at h ⊢;split at h
  ·rename_i hg;try simp only [hg]
   exact zKQ h fun v s a hh=>zGF rest _ _ _ _ hh hk
  ·rename_i hg;try simp only [hg]
   exact zGF rest _ _ _ _ h hk
  ·exact h.elim
theorem zID {C:zQH} {ops:Array Oper}:∀ (rest:List Oper) (as:List Ans) (f:Tm) (σ:St) (l:List Lk) {K K':Tm→St→List Lk→List Ans→Prop},zCS P C ops rest as f σ l K→(∀ f s l a,K f s l a→K' f s l a)→zCS P C ops rest as f σ l K'
 | [],as,f,σ,l,K,K',h,hk=>hk _ _ _ _ h
 | o::rest,as,f,σ,l,K,K',h,hk=>by
  unfold zCS at h ⊢;split at h
  ·rename_i hg;try simp only [hg]
   exact zKQ h fun v s a hh=>zID rest _ _ _ _ hh hk
  ·rename_i hg;try simp only [hg]
   exact zID rest _ _ _ _ h hk
  ·exact h.elim
theorem zKF {K K':Prop}:∀ {l:List Lk},zED l K→(K→K')→zED l K'
 | [],h,hk=>hk h
 | s::ss,h,hk=>by
  unfold zED at h ⊢;split
  ·rename_i hs;(try simp only [hs] at h);exact ⟨h.1,zKF h.2 hk⟩
  ·rename_i hs;(try simp only [hs] at h);exact zKF h hk
theorem zNX {K:Prop}:∀ {l:List Lk},zED l K→K
 | [],h=>h
 | s::ss,h=>by
  unfold zED at h;split at h
  ·exact zNX h.2
  ·exact zNX h
theorem zEP {K K':Prop} {l:List Lk}:∀ {ps:List (Nat × Nat)},uJ l ps K→(K→K')→uJ l ps K'
 | [],h,hk=>hk h
 | p::ps,h,hk=>by
  unfold uJ at h ⊢;split at h
  ·rename_i sj sk h1 h2;try simp only [h1,h2]
   split at h
   ·rename_i hw;exact ⟨h.1,h.2.1,zEP h.2.2 hk⟩
   ·rename_i hw;exact zEP h hk
  ·exact h.elim
theorem zGM {K:Prop} {l:List Lk}:∀ {ps:List (Nat × Nat)},uJ l ps K→K
 | [],h=>h
 | p::ps,h=>by
  unfold uJ at h;split at h
  ·split at h
   ·exact zGM h.2.2
   ·exact zGM h
  ·exact h.elim
theorem yJE {id:Nat} {ops:Array Oper} {d:Bool} {as:List Ans} {fr:Fr} {σ:St} {K:Exit→Fr→St→List Ans→Prop} (h:zHS P (zEH R) ops d as fr σ K) :
  ∃ e fr' σ' as',zBG P R rd (.region id ops d) fr σ e fr' σ'∧K e fr' σ' as':=by
 have fin:∀ (f':Tm) (σ':St) (as':List Ans),K .normal ⟨f',fr.marks⟩ σ' as'→(∃ N0,∀ N,N0≤N→zHS P (zPX (R N)) ops d as fr σ fun e f2 s2 a2=>e=.normal∧f2=⟨f',fr.marks⟩∧s2=σ')→∃ e fr' σ' as',zBG P R rd (.region id ops d) fr σ e fr' σ'∧K e fr' σ' as':=by
  rintro f' σ' as' hk ⟨N0,hN⟩;refine ⟨.normal,⟨f',fr.marks⟩,σ',as',⟨N0,fun N hl=>?_⟩,hk⟩
  obtain ⟨e₂,f₂,s₂,_,h1,rfl,rfl,rfl⟩:=yPN (id:=id) (rec:=R N) N rd (K:=fun e f2 s2 _=>e=.normal∧f2=⟨f',fr.marks⟩∧s2=σ') (hN N hl);exact h1
 cases d with
 | false =>
  simp only [zHS] at h;obtain ⟨f',σ',l',as',h1,N0,hN⟩:=zGG _ _ _ _ _ _ h;refine fin f' σ' as' h1 ⟨N0,fun N hl=>?_⟩;simp only [zHS];exact zGF _ _ _ _ _ (hN N hl) (by rintro _ _ _ _ ⟨rfl,rfl,rfl,rfl⟩;refine ⟨?_, ?_, ?_⟩ <;> first | rfl | trivial)
 | true =>
  simp only [zHS] at h;split at h
  ·rename_i h0 hp hf;obtain ⟨f',σ',l',as',h1,N0,hN⟩:=zGG _ _ _ _ _ _ h;refine fin f' σ' as' h1 ⟨N0,fun N hl=>?_⟩;unfold zHS;simp only [];rw [h0,hp,hf];exact zGF _ _ _ _ _ (hN N hl) (by rintro _ _ _ _ ⟨rfl,rfl,rfl,rfl⟩;refine ⟨?_, ?_, ?_⟩ <;> first | rfl | trivial)
  ·rename_i ps fb h0 hno;obtain ⟨f',σ',l',as',h1,N0,hN⟩:=zIE _ _ _ _ _ _ h;refine fin f' σ' as' (zGM (zNX h1)) ⟨N0,fun N hl=>?_⟩;unfold zHS;dsimp only;have key:=zID (K':=fun f2 s2 l2 a2=>zED l2 (uJ l2 (zXQ ops (CheckFast.beforeF ops)) (Exit.normal=Exit.normal∧(⟨f2,fr.marks⟩:Fr)=⟨f',fr.marks⟩∧s2=σ'))) _ _ _ _ _ (hN N hl) (by
    rintro _ _ _ _ ⟨rfl,rfl,rfl,rfl⟩;exact zKF h1 (fun x=>zEP x (fun _=>⟨rfl,rfl,rfl⟩)))
   split
   ·rename_i g0 gp gf;exact absurd gf (hno gp)
   ·exact key
   ·rename_i g0;rw [h0] at g0;cases g0
  ·exact h.elim
theorem zBG.seqN {x y:Code} {fr fr1 fr2:Fr} {σ σ1 σ2:St} {e:Exit} (h1:zBG P R rd x fr σ .normal fr1 σ1) (h2:zBG P R rd y fr1 σ1 e fr2 σ2):zBG P R rd (.seq x y) fr σ e fr2 σ2:=by
 obtain ⟨N1,k1⟩:=h1;obtain ⟨N2,k2⟩:=h2;refine ⟨N1+N2,fun N hN=>?_⟩
 simp only [yY,xGS,k1 N (by omega)];exact k2 N (by omega)
theorem zBG.seqX {x y:Code} {fr fr1:Fr} {σ σ1:St} {e:Exit} (h1:zBG P R rd x fr σ e fr1 σ1) (he:e≠.normal):zBG P R rd (.seq x y) fr σ e fr1 σ1:=by
 obtain ⟨N1,k1⟩:=h1;refine ⟨N1,fun N hN=>?_⟩
 simp only [yY,xGS,k1 N hN];cases e <;> first | rfl | exact absurd rfl he
theorem zBG.mapD {x y:Code} {fr fr1:Fr} {σ σ1:St} {e:Exit} (h1:zBG P R rd x fr σ e fr1 σ1) (h:∀ N,yY P (R N) N rd y fr σ=yY P (R N) N rd x fr σ):zBG P R rd y fr σ e fr1 σ1:=by
 obtain ⟨N1,k1⟩:=h1;exact ⟨N1,fun N hN=>by rw [h];exact k1 N hN⟩
theorem zUI.code {c:Code} {fr fr':Fr} {σ σ':St} {e:Exit} (h:zUI P R rd c fr σ e fr' σ'):zBG P R rd (.loop c) fr σ e fr' σ':=by
 obtain ⟨N0,hN⟩:=h;exact ⟨N0,fun N hl=>by simp only [yY];exact hN N N hl hl⟩
theorem yER {c:Code} {n:Nat} {l:List (Nat × Value)} {alts:List Alt} {fr:Fr} {σ:St} {K:Exit→Fr→St→List Ans→Prop}
  (h:(yHK n fr.f=true∧AG fr.f l∧yR P R rd c n l fr.marks alts σ)∧yFL n alts fun e fr σ=>∃ as,K e fr σ as):∃ e fr' σ' as',zBG P R rd c fr σ e fr' σ'∧K e fr' σ' as':=by
 obtain ⟨⟨h1,h2,h3⟩,h4⟩:=h;obtain ⟨e,fr',σ',h5,h6⟩:=h3 fr.f.nth;rw [← yNE h1 h2] at h5;obtain ⟨as,hk⟩:=zRU h4 h6;exact ⟨e,fr',σ',as,h5,hk⟩
theorem zDB:∀ (c:Code) (as:List Ans) (fr:Fr) (σ:St) (K:Exit→Fr→St→List Ans→Prop),wpE P R rd c as fr σ K →
  ∃ e fr' σ' as',zBG P R rd c fr σ e fr' σ'∧K e fr' σ' as':=by
 intro c;induction c with
 | skip=>intro as fr σ K h;exact ⟨_,_,_,_,⟨0,fun _ _=>rfl⟩,h⟩
 | label _=>intro as fr σ K h;exact ⟨_,_,_,_,⟨0,fun _ _=>rfl⟩,h⟩
 | ret=>intro as fr σ K h;exact ⟨_,_,_,_,⟨0,fun _ _=>rfl⟩,h⟩
 | exit _=>intro as fr σ K h;exact ⟨_,_,_,_,⟨0,fun _ _=>rfl⟩,h⟩
 | goto _=>intro as fr σ K h;simp [wpE] at h
 | refuse _=>intro as fr σ K h;simp [wpE] at h
 | seq x y ihx ihy =>
  intro as fr σ K h;simp only [wpE] at h;obtain ⟨e,fr1,σ1,as1,h1,h2⟩:=ihx _ _ _ _ h;cases e with
  | normal =>
   obtain ⟨e,fr2,σ2,as2,h3,h4⟩:=ihy _ _ _ _ h2;exact ⟨e,fr2,σ2,as2,h1.seqN h3,h4⟩
  | _=>exact ⟨_,fr1,σ1,as1,h1.seqX (by simp),h2⟩
 | cond c x y ihx ihy =>
  intro as fr σ K h;unfold wpE at h;split at h
  ·exact yER h
  ·split at h
   ·rename_i hc;obtain ⟨e,fr1,σ1,as1,h1,h2⟩:=ihx _ _ _ _ h;exact ⟨e,fr1,σ1,as1,h1.mapD (fun N=>by simp only [yY,yNO,hc]),h2⟩
   ·rename_i hc;obtain ⟨e,fr1,σ1,as1,h1,h2⟩:=ihy _ _ _ _ h;exact ⟨e,fr1,σ1,as1,h1.mapD (fun N=>by simp only [yY,yNO,hc]),h2⟩
   ·exact h.elim
 | block id c ih =>
  intro as fr σ K h;unfold wpE at h;split at h
  ·exact yER h
  ·obtain ⟨e,fr1,σ1,as1,⟨N1,h1⟩,h2⟩:=ih _ _ _ _ h;cases e with
   | exit i =>
    simp only at h2;cases hb:Nat.beq i id with
    | true =>
     rw [hb] at h2;exact ⟨_,fr1,σ1,as1,⟨N1,fun N hN=>by simp only [yY,zSF,h1 N hN,hb,cond_true]⟩,h2⟩
    | false =>
     rw [hb] at h2;exact ⟨_,fr1,σ1,as1,⟨N1,fun N hN=>by simp only [yY,zSF,h1 N hN,hb,cond_false]⟩,h2⟩
   | _=>exact ⟨_,fr1,σ1,as1,⟨N1,fun N hN=>by simp only [yY,zSF,h1 N hN]⟩,h2⟩
 | scope c ih =>
  intro as fr σ K h;simp only [wpE] at h;obtain ⟨e,fr1,σ1,as1,h1,h2⟩:=ih _ _ _ _ h;exact ⟨e,fr1,σ1,as1,h1.mapD (fun N=>by simp only [yY]),h2⟩
 | region id ops d =>
  intro as fr σ K h;simp only [wpE] at h;exact yJE h
 | loop c _ =>
  intro as fr σ K h;unfold wpE at h;split at h;rotate_left
  ·exact h.elim
  obtain ⟨⟨h1,h2,h3⟩,h4⟩:=h;obtain ⟨e,fr',σ',h5,h6⟩:=h3 fr.f.nth;rw [← yNE h1 h2] at h5;obtain ⟨as,hk⟩:=zRU h4 h6;exact ⟨e,fr',σ',as,h5.code,hk⟩
 | rangeFunc g ps a b _ _ =>
  intro as fr σ K h;unfold wpE at h;split at h;rotate_left
  ·exact h.elim
  obtain ⟨⟨h1,h2,h3⟩,h4⟩:=h;obtain ⟨e,σ',⟨N0,h5⟩,h6⟩:=h3 fr.f.nth fr.marks;rw [← yNE h1 h2] at h5;obtain ⟨as,hk⟩:=zZG (g:=fr.f.nth) h4 h6;rw [← yNE h1 h2] at hk;exact ⟨e,_,σ',as,⟨N0,fun N hN=>by simp only [yY];exact h5 N hN⟩,hk⟩
end
end Go.Lay

namespace Go.Lay
open Go
@[simp] theorem xXU (a:Addr) (n:Nat):(zN a n).block=a.block:=rfl
@[simp] theorem xYL (σ:St):σ.re.y=σ.y:=rfl
@[simp] theorem xYM (σ:St):σ.re.low=σ.y:=rfl
theorem tt:true=true:=rfl
@[irreducible] def Hid (p:Prop):Prop:=p
theorem hid {p:Prop} (h:Hid p):p:=by unfold Hid at h;exact h
theorem kc {a b:Prop} (h:a=b) (x:b):a:=h.mpr x
def In (a:Alt):List Alt→Prop
 | []=>False
 | b::l=>a=b∨In a l
theorem in0 {a:Alt} {l:List Alt}:In a (a::l):=.inl rfl
theorem inS {a b:Alt} {l:List Alt} (h:In a l):In a (b::l):=.inr h
def zGC (n:Nat) (alts:List Alt):Exit→Fr→St→List Ans→Prop:=fun e fr σ as=>match as with
 | [.fin a t]=>(e=a.e∧yHK n fr.f=true∧AG fr.f (a.l t)∧fr.marks=a.ms t)∧(a.Q t σ∧In a alts)
 | _=>False
def FIN (alts:List Alt) (a:Alt) (t:a.T) (σ:St):Prop:=(a.e=a.e∧true=true∧ARf (a.l t)∧a.ms t=a.ms t)∧(a.Q t σ∧In a alts)
theorem fin {alts:List Alt} (a:Alt) (t:a.T) {σ:St} (h:a.Q t σ) (hi:In a alts):FIN alts a t σ:=⟨⟨rfl,rfl,arf _,rfl⟩,h,hi⟩
section
variable {P:Program} {R:Nat→Rec} {rd:Option Nat} {c:Code} {n:Nat} {l:List (Nat × Value)} {ms:List Nat} {alts:List Alt} {σ σ':St}
theorem yKP {a:Alt} {t:a.T} {fr:Fr} (h1:yHK n fr.f=true) (h2:AG fr.f (a.l t)) (h3:fr.marks=a.ms t) (h4:a.Q t σ):∀ {alts:List Alt},In a alts→yOY n alts a.e fr σ
 | [],h=>h.elim
 | b::as,h=>by
  rcases h with rfl | h
  ·refine .inl ⟨rfl,t,fr.f.nth, ?_,h4⟩;rw [← yNE h1 h2,← h3]
  ·exact .inr (yKP h1 h2 h3 h4 h)
theorem zDA (as:List Ans) (h:∀ g:Nat→Value,Hid (wpE P R rd c as ⟨Fm n (ov l g),ms⟩ σ (zGC n alts))):yR P R rd c n l ms alts σ:=by
 intro g;obtain ⟨e,fr',σ',as',h1,h2⟩:=zDB _ _ _ _ _ (hid (h g));refine ⟨e,fr',σ',h1, ?_⟩
 unfold zGC at h2;split at h2
 ·obtain ⟨⟨rfl,k1,k2,k3⟩,k4,k5⟩:=h2;exact yKP k1 k2 k3 k4 k5
 ·exact h2.elim
theorem wI (i:Nat):Exit.exit i≠.normal:=fun h=>by cases h
theorem zCK:Exit.ret≠.normal:=fun h=>by cases h
def zUH:List Alt→Prop
 | []=>True
 | a::l=>a.e≠.normal∧zUH l
theorem zUH.get:∀ {l:List Alt} {a:Alt},zUH l→In a l→a.e≠.normal
 | [],_,_,h=>h.elim
 | b::l,a,h,k=>by
  rcases k with rfl | k
  ·exact h.1
  ·exact h.2.get k
theorem zLD {T:Type} {lf:T→List (Nat × Value)} {mf:T→List Nat} {Inv:Nat→T→St→Prop} (hne:zUH alts)
  (hb:∀ k t σ,Inv k t σ→yR P R rd c n (lf t) (mf t) (⟨T,.normal,lf,mf,fun t' σ'=>∃ k',k' < k∧Inv k' t' σ'⟩::alts) σ):∀ k t σ,Inv k t σ→xC P R rd c n (lf t) (mf t) alts σ:=by
 intro k;induction k using Nat.strongRecOn with
 | ind k ih =>
  intro t σ hi g;obtain ⟨e,fr',σ',h1,h2⟩:=hb k t σ hi g;rcases h2 with ⟨rfl,t',g',rfl,k',hk,hi'⟩ | h2
  ·obtain ⟨e2,fr2,σ2,h3,h4⟩:=ih k' hk t' σ' hi' g';exact ⟨e2,fr2,σ2,.step h1 h3,h4⟩
  ·have he:e≠.normal:=by
    clear h1 ih hb hi;induction alts with
    | nil=>exact h2.elim
    | cons a as ih2 =>
     rcases h2 with ⟨rfl,_⟩ | h2
     ·exact hne.1
     ·exact ih2 hne.2 h2
   exact ⟨e,fr',σ',.exit h1 he,h2⟩
def kAt (P:Program) (R:Nat→Rec) (rd:Option Nat):Code→List Nat→(Exit→Fr→St→List Ans→Prop)→Exit→Fr→St→List Ans→Prop
 | .seq x y,0::p,K=>kAt P R rd x p fun e fr σ as=>match e with
  | .normal=>wpE P R rd y as fr σ K
  | e=>K e fr σ as
 | .seq _ y,1::p,K=>kAt P R rd y p K
 | .cond _ x _,0::p,K=>kAt P R rd x p K
 | .cond _ _ y,1::p,K=>kAt P R rd y p K
 | .block id c,0::p,K=>kAt P R rd c p fun e fr σ as=>match e with
  | .exit i=>match Nat.beq i id with
   | true=>K .normal fr σ as
   | false=>K (.exit i) fr σ as
  | e=>K e fr σ as
 | .scope c,0::p,K=>kAt P R rd c p K
 | _,_,K=>K
def kFn (P:Program) (f:FuncId) (Q:Value→St→Prop):Exit→Fr→St→List Ans→Prop:=fun e fr σ as =>
 match P.funcs[f]? with
 | some fn=>match e with
  | .normal=>zIF P fn fr σ as Q
  | .ret=>zIF P fn fr σ as Q
  | _=>False
 | none=>False
theorem zD.top {aw f:FuncId} {a:Value} {as:List Value} {v:Value} (h:zD P f (a::as) σ v σ'):zEH (zWA P aw) (.func f) (a::as) σ v σ':=h
def yWP (P:Program) (R:Nat→Rec) (f:FuncId) (args:List Value) (as:List Ans) (σ:St) (K:Value→St→Prop):Prop :=
 match P.funcs[f]? with
 | some fn=>match fn.body with
  | some c=>wpE P R none c as ⟨(Tm.args 0 args).foldl (fun f p=>f.set p.1 p.2) (fresh (args.length+(fn.ntmps-args.length))),[]⟩ σ fun e fr σ as=>match e with
   | .normal=>zIF P fn fr σ as K
   | .ret=>zIF P fn fr σ as K
   | _=>False
  | none=>False
 | none=>False
theorem zSP {f:FuncId} {args:List Value} {as:List Ans} {K:Value→St→Prop} (h:yWP P R f args as σ K):∃ v σ',(∃ N0,∀ N,N0≤N→zHY P (R N) N f args σ=some (v,σ'))∧K v σ':=by
 unfold yWP at h;split at h
 ·rename_i fn hfn;split at h
  ·rename_i c hc;obtain ⟨e,fr,σ₁,as',⟨N0,h1⟩,h2⟩:=zDB _ _ _ _ _ h;have fin:∀ (h2:zIF P fn fr σ₁ as' K) (he:e=.normal∨e=.ret),∃ v σ',(∃ N0,∀ N,N0≤N→zHY P (R N) N f args σ=some (v,σ'))∧K v σ':=by
    intro h2 he;obtain ⟨v,σ',h3,h4⟩:=yFO h2;refine ⟨v,σ',⟨N0,fun N hN=>?_⟩,h4⟩
    have key:xLX P fn (yY P (R N) N none c ⟨(Tm.args 0 args).foldl (fun f p=>f.set p.1 p.2) (fresh (args.length+(fn.ntmps-args.length))),[]⟩ σ)=zHY P (R N) N f args σ:=by
     simp only [zHY,hfn,hc,Tm.puts_eq]
    rw [← key,h1 N hN];rcases he with rfl | rfl <;> exact h3
   cases e with
   | normal=>exact fin h2 (.inl rfl)
   | ret=>exact fin h2 (.inr rfl)
   | _=>exact h2.elim
  ·exact h.elim
 ·exact h.elim
def zP (P:Program) (f:FuncId) (args:List Value) (σ:St) (Q:Value→St→Prop):Prop:=∃ v σ',xWN P f args σ v σ'∧Q v σ'
theorem xER {N:Nat} {f:FuncId} {args:List Value}:zX P (N+1) (.func f) args σ=zHY P (zX P N) N f args σ:=by
 simp only [zX,zHY];rfl
theorem zI {f:FuncId} {args:List Value} {Q:Value→St→Prop} (as:List Ans) (h:Hid (yWP P (zX P) f args as σ Q)):zP P f args σ Q:=by
 obtain ⟨v,σ',⟨N0,hN⟩,hq⟩:=zSP (hid h);refine ⟨v,σ',⟨N0+1,fun N hN'=>?_⟩,hq⟩
 obtain ⟨N,rfl⟩:∃ M,N=M+1:=⟨N-1,by omega⟩;rw [xER];exact hN N (by omega)
def yIQ (P:Program) (aw:FuncId) (f:FuncId) (args:List Value) (σ:St) (Q:Value→St→Prop):Prop:=∃ N v σ',zHY P (zWA P aw N) N f args σ=some (v,σ')∧Q v σ'
theorem zUQ {aw f:FuncId} {args:List Value} {Q:Value→St→Prop} (as:List Ans) (h:Hid (yWP P (zWA P aw) f args as σ Q)):yIQ P aw f args σ Q:=by
 obtain ⟨v,σ',⟨N0,hN⟩,hq⟩:=zSP (hid h);exact ⟨N0,v,σ',hN N0 (Nat.le_refl _),hq⟩
theorem xOP {aw:FuncId}:zEH (zWA P aw) (.func aw) [] σ (.bool true) σ:=⟨0,fun N _=>yZS⟩
theorem yIQ.walk {W:World} {ι:Inj} {aw:FuncId} (hP:ProgOk P) (hc:ShutF P aw) {f:FuncId} {avs args:List Value} (h:yIQ P aw f avs σ fun v _=>v=.bool true) (hr:Rep ι σ W) (ho:Ro ι W) (ha:VRs ι avs args) :
  Calls P f ⟨args⟩ W fun e w'=>e=.returned (.bool true)∧RowKit.Grown W w':=by
 obtain ⟨N,v,σ',hb,rfl⟩:=h;obtain ⟨_,h2⟩:=zEN hP (yPY hP hc N) hb hr ha;refine Calls.mono (callsIn_wide.1 (h2 0)) (fun e w' hR=>?_);cases e with
 | returned v' =>
  obtain ⟨ι',hv,hg⟩:=hR;exact ⟨by rw [hv.bool_inv],xLB hg ho.own⟩
 | panicked _=>exact hR.elim
 | outgrown=>exact hR.elim
theorem zP.pure {f:FuncId} {args:List Value} {v:Value} (h:zP P f args σ.re fun v' s=>v'=v∧σ.y≤s.low) (hv:zV RD v=true:=by rfl):zD P f args σ v σ:=by
 obtain ⟨_,σ',h1,rfl,h2⟩:=h;exact zQP h1 h2 hv
theorem zP.new {f:FuncId} {args:List Value} {Q:Value→St→Prop} (h:zP P f args σ.re fun v s=>New σ.re s∧Q v s) (hQ:∀ v s s',Q v s→Le s s'→Q v s') (hQ2:∀ v s,zV RD v=true→Q v s→Q v σ):∃ v σ',zD P f args σ v σ'∧New σ σ'∧Q v σ':=by
 obtain ⟨v,σ',h1,h2,h3⟩:=h;obtain ⟨v,σ'',k1,k2,k3⟩:=xWY (Q:=Q) h1 h2 h3 (fun s s' a b=>hQ _ s s' a b) (fun hr=>hQ2 _ _ hr h3);exact ⟨v,σ'',k1,k2,k3⟩
def xVW (tm:Tm) (ps:List Tmp) (a b:Code) (db:Nat):Exit→Blk
 | .ret=>.loop tm ps a b .done (some .ret) db
 | .exit id=>.loop tm ps a b .done (some (.exit id)) db
 | _=>.loop tm ps a b .ready none db
def zYW:Exit→Bool
 | .normal=>true
 | _=>false
def xXV (alts:List Alt) (e:Exit) (s:St):Prop:=∃ a,In a alts∧e=a.e∧∃ t,a.Q t s
def yPA (alts:List Alt):Exit→Fr→St→List Ans→Prop:=fun e _ σ as=>match as with
 | [.fin a t]=>e=a.e∧(a.Q t σ∧In a alts)
 | _=>False
def xYK (alts:List Alt) (a:Alt) (t:a.T) (σ:St):Prop:=a.e=a.e∧(a.Q t σ∧In a alts)
theorem xVU {alts:List Alt} (a:Alt) (t:a.T) {σ:St} (h:a.Q t σ) (hi:In a alts):xYK alts a t σ:=⟨rfl,h,hi⟩
def KAs (P:Program) (R:Nat→Rec) (lo:Nat) (b:Code) (τ τ':St) (K:Exit→Fr→St→List Ans→Prop):Exit→Fr→St→List Ans→Prop:=fun e fr s an=>(e=.normal∧s=τ)∧wpE P R (some lo) b an fr τ' K
def zFA (P:Program) (lo:Nat) (args:List Value) (τ:St) (tm:Tm) (ps:List Tmp) (a b:Code) (db:Nat) (alts:List Alt):Prop :=
 ∃ e s,xXV alts e s∧(e=.normal∨e=.ret∨(∃ i,e=.exit i)→lo<τ.y→yK s.heap lo=some (.loop tm ps a b .busy none db)→τ.y≤s.y→yWN P lo args τ (.bool (zYW e)) ⟨(s.put lo (xVW tm ps a b db e)).heap,s.y,min τ.low (min s.low lo)⟩)
theorem xGV {lo db:Nat} {tm:Tm} {ps:List Tmp} {a b:Code} {args:List Value} {τ:St} (hl:yK τ.heap lo=some (.loop tm ps a b .ready none db)) (hn:args.length=ps.length) {σ1:St} (hσ:σ1=τ.re.put lo (.loop tm ps a b .busy none db)) (as:List Ans)
  (h:Hid (wpE P (zX P) (some lo) a as ⟨(ps.zip args).foldl (fun f p=>f.set p.1 p.2) tm,[]⟩ τ.re (KAs P (zX P) lo b τ.re σ1 (yPA alts)))) :
  zFA P lo args τ tm ps a b db alts:=by
 subst hσ;obtain ⟨e1,fr1,s1,an1,⟨N1,h1⟩,⟨rfl,rfl⟩,h2⟩:=zDB _ _ _ _ _ (hid h);obtain ⟨e,fr2,s,an2,⟨N2,h3⟩,h4⟩:=zDB _ _ _ _ _ h2;unfold yPA at h4;split at h4;rotate_left
 ·exact h4.elim
 obtain ⟨rfl,h5,h6⟩:=h4;rename_i al t;refine ⟨_,s,⟨al,h6,rfl,t,h5⟩,fun he hlt hb hs=>⟨N1+N2+1,fun N hN=>?_⟩⟩
 obtain ⟨N,rfl⟩:∃ N',N=N'+1:=⟨N-1,by omega⟩;have k1:=h1 N (by omega);have k3:=h3 N (by omega);have hr:(⟨τ.heap,τ.y,τ.y⟩:St)=τ.re:=rfl;have hlr:yK τ.re.heap lo=some (.loop tm ps a b .ready none db):=hl;unfold uC;rw [hr];simp only [zX,hlr,hn,Nat.beq_refl,cond_true,Tm.puts_eq,k1,zKT,St.write_eq,k3];have key:∀ y:Blk,uD τ (.bool (zYW al.e)) (s.put lo y)=some (.bool (zYW al.e),⟨(s.put lo y).heap,s.y,min τ.low (min s.low lo)⟩):=by
  intro y;unfold uD;have e1:Nat.ble τ.y (s.put lo y).low=false:=by
   rw [Bool.eq_false_iff];intro e;have:=(zW _ _).1 e;simp only [St.put_low] at this;omega
  have e2:Nat.ble τ.y (s.put lo y).y=true:=(zW _ _).2 hs;simp only [e1,Bool.false_and,cond_false,e2,cond_true,wG,zAD];rfl
 rcases he with e | e | ⟨i,e⟩ <;> (rw [e] at key ⊢;simp only [zKS,zDP,hb,St.write_eq];exact key _)
def xLS:Option Code→Exit
 | some .ret=>.ret
 | some (.exit id)=>.exit id
 | _=>.normal
theorem xAQ {gx:Operand} {ps:Array Tmp} {a b:Code} {xs:List (Exit × (St→Prop))} {f:FuncId} {fs:List Value} (hg:∀ g,yG (Fm n (ov l g)) gx=.func (.func f) ⟨[]⟩ ⟨fs⟩)
  (h:∀ g,∃ v s st pend,zD P f (.func (.yield (σ.y+1)) ⟨[]⟩ ⟨[]⟩::fs) ((σ.add .defd).add (.loop (Fm n (ov l g)) ps.toList a b .ready none σ.y)) v s∧yK s.heap (σ.y+1)=some (.loop (Fm n (ov l g)) ps.toList a b st pend σ.y) ∧
   ((st=.ready∧pend=none)∨(st=.done∧(pend=some .ret∨∃ i,pend=some (.exit i))))∧yOX xs (xLS pend) (s.put (σ.y+1) (.loop (Fm n (ov l g)) ps.toList a b .exhausted pend σ.y))):zSL P (zX P) gx ps a b n l xs σ:=by
 intro g ms;obtain ⟨v,s,st,pend,⟨N0,hN⟩,hb,hst,hq⟩:=h g;refine ⟨xLS pend,_,⟨N0,fun N hl=>?_⟩,hq⟩
 have h1:=hN N hl;simp only [zNA,zGP,St.new_eq,hg,zME,List.nil_append,List.singleton_append,St.add_next];simp only [h1,zDQ,hb,St.write_eq];rcases hst with ⟨rfl,rfl⟩ | ⟨rfl,rfl | ⟨i,rfl⟩⟩ <;> rfl
end
end Go.Lay

namespace Go.Lay
open Go
section
variable {P:Program} {σ τ τ':St} {S:Nat→Prop}
theorem New.of_only (h:New σ τ) (k:Only S τ τ') (hs:∀ b,S b→σ.y≤b):New σ τ' :=
  ⟨⟨Nat.le_trans h.le.y k.y,fun b hb=>(k.get b (Nat.lt_of_lt_of_le hb h.le.y) (fun hS=>by have:=hs b hS;omega)).trans (h.le.get b hb)⟩,
   fun m h1 h2=>k.low m (h.low m h1 h2) (Nat.le_trans h2 h.le.y) (fun b _ hS=>Nat.le_trans h2 (hs b hS))⟩
theorem New.own {b n:Nat} {cs:List Value} (h:New σ τ) (hb:σ.y≤b):New σ (τ.own b cs n):=h.of_only (S:=(·=b)) (Only.own (.inr rfl)) (by rintro _ rfl;exact hb)
theorem New.row' {cs:List Value} {n:Nat} (h:New σ τ):New σ (τ.row cs n):=h.trans (New.row _ _ _)
theorem New.nx (h:New σ τ):σ.y≤τ.y:=h.le.y
theorem New.lw (h:New σ.re τ):σ.y≤τ.low:=h.low _ (Nat.le_refl _) (Nat.le_refl _)
structure Gr (P:Program) (σ:St) (n0 t n:Nat) (p:Option Addr) (len c:Nat) (vs:List Value):Prop where
 app:App σ n0 n (.slice p len c) len (xF vs)
 len_eq:vs.length=len
 el:∀ v∈vs,zBT P t n v
theorem Gr.nil {n0 t n:Nat}:Gr P σ n0 t n none 0 0 []:=⟨App.nil,rfl,by simp⟩
theorem Gr.le {n0 t n len c:Nat} {p:Option Addr} {vs:List Value} (h:Gr P σ n0 t n p len c vs) (k:Le σ τ):Gr P τ n0 t n p len c vs:=⟨h.app.keep k,h.len_eq,h.el⟩
theorem Gr.only {n0 t n len c:Nat} {p:Option Addr} {vs:List Value} (h:Gr P σ n0 t n p len c vs) (k:Only S σ τ) (hs:∀ b,AtP p b→¬ S b):Gr P τ n0 t n p len c vs :=
 ⟨k.app' h.app (by rintro a l c ⟨⟩;exact hs _ ⟨a,rfl,rfl⟩),h.len_eq,h.el⟩
theorem Gr.slv {n0 t n len c:Nat} {p:Option Addr} {vs:List Value} (h:Gr P σ n0 t n p len c vs):SlV P σ t n p len vs:=h.app.slv h.len_eq h.el
theorem Gr.bd {n0 t n len c b:Nat} {p:Option Addr} {vs:List Value} (h:Gr P σ n0 t n p len c vs) (hb:AtP p b):n0≤b∧b<σ.y:=by
 obtain ⟨a,e,rfl⟩:=hb;exact ⟨h.app.ge a e,h.app.lt a e⟩
theorem yMV {st xt t n n0 len c:Nat} {p:Option Addr} {vs:List Value} (v:Value) {cs:List Value} (T:AppT P st xt t n) (h:Gr P σ n0 t n p len c vs) (hle:Le σ τ) (hv:zBT P t n v) (hroom:len+1≤1073741824) (hn:n0≤σ.y) (e:v.cells.toList=cs:=by rfl) (hc:cs.all cellB=true:=by first | rfl | simp) :
  ∃ p' c' τ',yD P st xt (.slice p len c) (.slice (some ⟨τ.y,0,none⟩) 1 1) (τ.row cs n)=some (.slice p' (len+1) c',τ')∧Gr P τ' n0 t n p' (len+1) c' (vs++[v])∧Only (AtP p) (τ.row cs n) τ'∧(∀ b,AtP p' b→AtP p b∨τ.y≤b):=by
 subst e;have hl:=hv.len;obtain ⟨p',c',τ',h1,h2,h3,h4⟩:=yFA (k:=1) (m:=1) T ((h.le hle).app.keep (Le.row _ _ _)) (xQ τ v.cells.toList n) (by omega) (by omega) hroom hc (by have:=hle.y;simp;omega);refine ⟨p',c',τ',h1,⟨by rw [uM];simpa [xF] using h2,by simp [h.len_eq], ?_⟩,h3,fun b hb=>?_⟩
 ·intro x hx;simp at hx;rcases hx with hx | rfl
  ·exact h.el x hx
  ·exact hv
 ·rcases h4 b hb with h5 | h5
  ·exact .inl h5
  ·right;simp at h5;omega
theorem xYG {σ0:St} {st xt t n len c:Nat} {p:Option Addr} {vs:List Value} (v:Value) {cs:List Value} (T:AppT P st xt t n) (h:Gr P σ σ0.y t n p len c vs) (hN:New σ0 σ) (hle:New σ τ) (hv:zBT P t n v) (hroom:len+1≤1073741824) (e:v.cells.toList=cs:=by rfl) (hc:cs.all cellB=true:=by first | rfl | simp) :
  ∃ p' c' τ',yD P st xt (.slice p len c) (.slice (some ⟨τ.y,0,none⟩) 1 1) (τ.row cs n)=some (.slice p' (len+1) c',τ')∧Gr P τ' σ0.y t n p' (len+1) c' (vs++[v])∧New σ0 τ'∧Only (AtP p) (τ.row cs n) τ'∧(∀ b,AtP p' b→AtP p b∨τ.y≤b):=by
 obtain ⟨p',c',τ',h1,h2,h3,h4⟩:=yMV v T h hle.le hv hroom hN.nx e hc;exact ⟨p',c',τ',h1,h2,((hN.trans hle).row').of_only h3 (fun b hb=>(h.bd hb).1),h3,h4⟩
theorem zP.newSl {f:FuncId} {args:List Value} {t n len:Nat} {vs:List Value} (h:zP P f args σ.re fun v s=>New σ.re s∧∃ p c,v=.slice p len c∧SlV P s t n p len vs∧∀ b,AtP p b→σ.y≤b) :
  ∃ p c σ',zD P f args σ (.slice p len c) σ'∧New σ σ'∧SlV P σ' t n p len vs∧∀ b,AtP p b→σ.y≤b:=by
 obtain ⟨v,σ',h1,h2,p,c,rfl,h3,h4⟩:=zP.new (Q:=fun v s=>∃ p c,v=.slice p len c∧SlV P s t n p len vs∧∀ b,AtP p b→σ.y≤b) h (by
  rintro v s s' ⟨p,c,rfl,g1,g2⟩ hle;exact ⟨p,c,rfl,g1.le hle,g2⟩) (by
  rintro v s hr ⟨p,c,rfl,g1,g2⟩;cases p with
  | none=>exact ⟨none,c,rfl,zFE g1,fun b hb=>(AtP.none hb).elim⟩
  | some a=>exact Bool.noConfusion (show false=true from hr))
 exact ⟨p,c,σ',h1,h2,h3,h4⟩
def xXA (P:Program) (st e n:Nat) (z:Value):Bool :=
 (match wB P st with | some (e',n')=>Nat.beq e e' && Nat.beq n n' | none=>false) && (match P.info? e with | some ei=>Nat.ble ei.bytes 4096 | none=>false) && Nat.beq z.cells.toList.length n && Nat.ble n 4096 && Nat.blt 0 n
theorem xQO {st e n:Nat} {z:Value} (hb:xXA P st e n z=true) (hz:uZ P e=some z) {len:Nat} (hl:len≤1073741824) :
  zQ P (evL [.int .i64 (len:Int),.int .i64 (len:Int)]) σ (.makeSlice st (.tmp 0) (.tmp 1))=some (.slice (some ⟨σ.y,0,none⟩) len len,σ.row (yZ z.cells.toList len) n):=by
 unfold xXA at hb;simp only [Bool.and_eq_true] at hb;obtain ⟨⟨⟨⟨h1,h2⟩,h3⟩,h4⟩,h5⟩:=hb;split at h1;rotate_left
 ·cases h1
 rename_i e' n' he;simp only [Bool.and_eq_true] at h1;rw [← Nat.eq_of_beq_eq_true h1.1,← Nat.eq_of_beq_eq_true h1.2] at he;split at h2;rotate_left
 ·cases h2
 rename_i ei hi;have k1:leI 0 (len:Int)=true:=(wY _ _).2 (Int.natCast_nonneg _);have k2:leI (len:Int) (len:Int)=true:=(wY _ _).2 (Int.le_refl _);have k3:leI (len:Int) 1073741824=true:=(wY _ _).2 (by omega);have k4:zAQ len n ei.bytes=true:=by unfold zAQ;rw [(zW _ _).2 hl,h4,h2];rfl
 have e0:∀ l:List Value,evL l (.tmp 0)=l.getD 0 undef:=fun _=>rfl
 have e1:∀ l:List Value,evL l (.tmp 1)=l.getD 1 undef:=fun _=>rfl
 unfold zQ;simp only [he,e0,e1,List.getD_cons_zero,List.getD_cons_succ,hz,hi,k1,k2,k3,Int.toNat_natCast,k4,h3,h5,Bool.and_self,cond_true,yO];rfl
def wT (n:Nat) (P:Nat→Int):List Value:=(List.range n).map fun s=>.int .i64 (P s)
theorem zAW {n:Nat} {P:Nat→Int}:(wT n P).length=n:=by simp [wT]
theorem zVX {n s:Nat} {P:Nat→Int} (h:s<n):(wT n P)[s]?=some (.int .i64 (P s)):=by simp [wT,h]
theorem xGC {n s:Nat} {P:Nat→Int} {v:Int} (h:s<n):(wT n P).set s (.int .i64 v)=wT n (fun s'=>if s'=s then v else P s'):=by
 apply List.ext_getElem?;intro i;rw [List.getElem?_set];by_cases e:s=i
 ·subst e;simp [wT,h]
 ·rw [if_neg e];by_cases hi:i<n
  ·rw [zVX hi,zVX hi,if_neg (fun x=>e x.symm)]
  ·rw [List.getElem?_eq_none (by rw [zAW];omega),List.getElem?_eq_none (by rw [zAW];omega)]
theorem zDI {n:Nat} {P Q:Nat→Int} (h:∀ s,s<n→P s=Q s):wT n P=wT n Q:=by
 unfold wT;apply List.map_congr_left;intro s hs;rw [h s (by simpa using hs)]
theorem Only.lower {m:Nat} (h:Only S σ.re τ):Only S σ ⟨τ.heap,τ.y,min σ.low τ.low⟩ :=
 ⟨h.y,h.get,fun k h1 h2 h3=>by have:=h.low k h2 h2 h3;show k≤min _ _;omega⟩
theorem zP.mut {f:FuncId} {args:List Value} {Q:Value→St→Prop} (h:zP P f args σ.re fun v s=>Only S σ.re s∧(s.low<σ.y∨zV RD v=false)∧Q v s) (hQ:∀ v s m,Q v s→Q v ⟨s.heap,s.y,m⟩):∃ v σ',zD P f args σ v σ'∧Only S σ σ'∧Q v σ':=by
 obtain ⟨v,s,⟨N0,hN⟩,h1,h2,h3⟩:=h;refine ⟨v,⟨s.heap,s.y,min σ.low s.low⟩,⟨N0,fun N hl=>?_⟩,h1.lower (m:=0),hQ _ _ _ h3⟩
 unfold uC;rw [show (⟨σ.heap,σ.y,σ.y⟩:St)=σ.re from rfl,hN N hl];show uD σ v s=_;unfold uD;have e1:(Nat.ble σ.y s.low && zV RD v)=false:=by
  rcases h2 with h2 | h2
  ·rw [Bool.and_eq_false_iff];left;rw [Bool.eq_false_iff];intro e;have:=(zW _ _).1 e;omega
  ·rw [h2,Bool.and_false]
 have e2:Nat.ble σ.y s.y=true:=(zW _ _).2 h1.y;rw [e1,cond_false,e2,cond_true,wG,zAD]
theorem Own.at_ {b n:Nat} {cs:List Value} (h:Own σ b cs n) (k:yK τ.heap b=yK σ.heap b) (hn:σ.y≤τ.y):Own τ b cs n:=⟨by rw [k];exact h.get,Nat.lt_of_lt_of_le h.lt hn⟩
end
end Go.Lay

namespace Go.Lay
open Go
section
variable {P:Program} {σ τ:St}
def zFB (σ:St) (n:Nat) (p:Option Addr) (len c:Nat):Prop :=
 (p=none∧len=0∧c=0)∨∃ b rs nx ro,p=some ⟨b,0,none⟩∧len≤c∧yU c=true∧yK σ.heap b=some (.cells rs n [(0,rs.length)] nx ro)∧rs.length=len*n∧b<σ.y
theorem zFB.le {n len c:Nat} {p:Option Addr} (h:zFB σ n p len c) (k:Le σ τ):zFB τ n p len c:=by
 rcases h with h | ⟨b,rs,nx,ro,h1,h2,h3,h4,h5,h6⟩
 ·exact .inl h
 ·exact .inr ⟨b,rs,nx,ro,h1,h2,h3,by rw [k.get b h6];exact h4,h5,Nat.lt_of_lt_of_le h6 k.y⟩
theorem zLM {c:Nat} (h:yU c=true):yN c=c:=by
 have:=(yQ c).1 h;unfold yN;rw [if_neg (by omega)]
theorem zBX {k:IntKind} {x d top:Nat} {i:Int} (hi:i=(x:Int)) (h:x≤top):wR (some (.int k i)) d top=some x:=by
 subst hi;have h1:leI 0 (x:Int)=true:=(wY _ _).2 (by omega);have h2:leI (x:Int) (.ofNat top)=true:=(wY _ _).2 (by show (x:Int)≤(top:Int);omega);show (bif leI 0 (x:Int) && leI (x:Int) (.ofNat top) then some (x:Int).toNat else none)=some x;rw [h1,h2];rfl
def zHT (p:Option Addr) (n lo c:Nat):Option Addr:=match p with | none=>none | some a=>some (bif Nat.beq c lo then a else zN a (lo*n))
theorem zFB.part {n len c t e lo hi:Nat} {p:Option Addr} {vs:List Value} {lo' hi':Option Value} (h:zFB σ n p len c) (hv:SlV P σ e n p len vs) (hu:P.underlying t=some (.slice e)) (hs:yT P e=some n)
  (hlo:wR lo' 0 hi=some lo) (hhi:wR hi' len c=some hi) (h1:lo≤hi) (h2:hi≤len) :
  yI P σ t (.slice p len c) lo' hi' none=some (.slice (zHT p n lo c) (hi-lo) (c-lo))∧SlV P σ e n (zHT p n lo c) (hi-lo) ((vs.drop lo).take (hi-lo))∧(∀ a,zHT p n lo c=some a→a.block<σ.y):=by
 have hel:∀ v∈(vs.drop lo).take (hi-lo),zBT P e n v:=fun v hv'=>hv.2.2 v (List.mem_of_mem_drop (List.mem_of_mem_take hv'))
 have hvl:=hv.2.1;have hln:((vs.drop lo).take (hi-lo)).length=hi-lo:=by simp [hvl];omega
 rcases h with ⟨rfl,rfl,rfl⟩ | ⟨b,rs,nx,ro,rfl,hc1,hc2,hg,hrl,hb⟩
 ·have e1:hi=0:=by omega
  have e2:lo=0:=by omega
  subst e1 e2;have hx:yU 0=true:=(yQ 0).2 wW;refine ⟨?_,⟨?_,hln,hel⟩,by simp [zHT]⟩
  ·simp [yI,hu,hs,hx,vB,hlo,hhi,zHT]
  ·have:(vs.drop 0).take (0-0)=[]:=by simp
   rw [this];exact SlP.nil _ _
 ·have hL:=zLM hc2;have hok:zHX σ ⟨b,0,none⟩ n=true:=by simp [zHX,hg,yB,wM]
  have hle:Nat.ble lo c=true:=(zW _ _).2 (by omega);have hr0:Row σ ⟨b,0,none⟩ []:=by
   refine ⟨?_,hb⟩
   have hbl:Nat.ble 0 rs.length=true:=(zW _ _).2 (Nat.zero_le _);show yS σ ⟨b,0,none⟩ 0=some [];simp only [yS,hg,yB,Option.getD_none,wM,Nat.beq_refl,cond_true,Nat.zero_add,hbl,List.take_zero]
  have hr:Row σ ⟨b,0,none⟩ (xF vs):=by
   rcases Nat.eq_zero_or_pos len with h0 | h0
   ·have:vs=[]:=List.eq_nil_of_length_eq_zero (by omega);subst this;exact hr0
   ·obtain ⟨a,e,h⟩:=hv.1.some h0;cases e;exact h
  have hfl:(xF vs).length=len*n:=by rw [zJN hv.2.2,hvl]
  have hle2:lo*n+(hi-lo)*n≤len*n:=by
   rw [← Nat.add_mul];exact Nat.mul_le_mul_right _ (by omega)
  have hpart:((xF vs).drop (lo*n)).take ((hi-lo)*n)=xF ((vs.drop lo).take (hi-lo)):=by
   have key:∀ (ws:List Value) (k:Nat),(∀ v∈ws,zBT P e n v)→k≤ws.length→xF (ws.take k)=(xF ws).take (k*n)∧xF (ws.drop k)=(xF ws).drop (k*n):=by
    intro ws k hw hk;have h1:xF ws=xF (ws.take k)++xF (ws.drop k):=by rw [← uM,List.take_append_drop]
    have h2:(xF (ws.take k)).length=k*n:=by
     rw [zJN (fun v hv=>hw v (List.mem_of_mem_take hv)),List.length_take,Nat.min_eq_left hk]
    constructor
    ·rw [h1,← h2,List.take_left]
    ·rw [h1,← h2,List.drop_left]
   rw [← (key vs lo hv.2.2 (by omega)).2,← (key (vs.drop lo) (hi-lo) (fun v hv'=>hv.2.2 v (List.mem_of_mem_drop hv')) (by simp [hvl];omega)).1]
  refine ⟨?_,⟨?_,hln,hel⟩, ?_⟩
  ·simp only [yI,hu,hs,hok,cond_true,vB,hL,hhi,hlo,hc2,Bool.or_true,hle,Option.isSome_none,Bool.false_or,zHT]
  ·show SlP σ n (some (bif Nat.beq c lo then ⟨b,0,none⟩ else zN ⟨b,0,none⟩ (lo*n))) (hi-lo) _;cases hbq:Nat.beq c lo with
   | true =>
    have e1:=Nat.eq_of_beq_eq_true hbq;have e2:hi-lo=0:=by omega
    rw [cond_true,e2];have:(vs.drop lo).take 0=[]:=by simp
    rw [this];exact ⟨by simp [xF],hr0⟩
   | false =>
    rw [cond_false];refine ⟨by rw [← hpart,List.length_take,List.length_drop,hfl];omega, ?_⟩
    rw [← hpart];have:=hr.part (k:=lo*n) (m:=(hi-lo)*n) (by omega);exact this
  ·rintro a e;have e:some (bif Nat.beq c lo then (⟨b,0,none⟩:Addr) else zN ⟨b,0,none⟩ (lo*n))=some a:=e;cases hbq:Nat.beq c lo <;> rw [hbq] at e <;> cases e <;> exact hb
end
end Go.Lay

namespace Go.Lay
open Go
section
variable {P:Program}
theorem xG {α β:Type} (x:Sem α) (f:α→Sem β):yA P (x >>= f)=(yA P x).bind fun a=>yA P (f a):=by
 induction x with
 | pure a=>rfl
 | program k ih=>exact ih P
 | _=>rfl
theorem zOP {α:Type} (a:α):yA P (pure a:Sem α)=some a:=rfl
theorem yGL:yA P program=some P:=rfl
theorem zIY {t:TypeId} {d:TypeDesc} (h:P.underlying t=some d):yA P (underlying t)=some d:=by
 unfold underlying;rw [xG,yGL];simp only [Option.bind_some,h];rfl
theorem xHL {t:TypeId} {k:IntKind} (h:P.underlying t=some (.int k)):yA P (isAgg t)=some false:=by
 unfold isAgg;rw [xG,zIY h];rfl
theorem yXG {t:TypeId} {k:IntKind} (h:P.underlying t=some (.int k)) {cs:Array Value} {off:Nat} {v:Value} (hv:cs[off]?=some v):yA P (part t cs off)=some v:=by
 unfold part;rw [xG,xHL h];simp only [Option.bind_some,Bool.false_eq_true,if_false,hv];rfl
theorem zGQ {d:Nat} {t:TypeId} {k:IntKind} (h:P.underlying t=some (.int k)) (q:IntKind) (a b:Int):yA P (Op.equalIn (d+1) t (.int q a) (.int q b))=some (a == b):=by
 unfold Op.equalIn;rw [xG,zIY h];simp only [Option.bind_some,if_true];rfl
def yYG (P:Program):Nat→List Field→Bool
 | _,[]=>true
 | i, f :: fs => (match P.underlying f.type with | some (.int _) => true | _ => false) && Nat.beq f.offset i && (f.name != "_") && yYG P (i + 1) fs
theorem xCZ {f:Field} (h:(match P.underlying f.type with | some (.int _)=>true | _=>false)=true):∃ k,P.underlying f.type=some (.int k):=by
 split at h
 ·exact ⟨_,by assumption⟩
 ·cases h
theorem yCD {d:Nat} {xs ys:Array Value} {q:Nat→IntKind}:∀ (fs:List Field) (i:Nat) (as bs:List Int),yYG P i fs=true→as.length=fs.length→bs.length=fs.length→(∀ j x,as[j]?=some x→xs[i+j]?=some (.int (q (i+j)) x))→(∀ j x,bs[j]?=some x→ys[i+j]?=some (.int (q (i+j)) x)) →
  yA P (forIn fs ((none,()):Option Bool × Unit) fun f __s =>
   if f.name ≠ "_" then do
    let a ← part f.type xs f.offset
    let b ← part f.type ys f.offset
    let r ← Op.equalIn (d+1) f.type a b
    if (!r)=true then pure (ForInStep.done (some false,())) else pure (ForInStep.yield (none,()))
   else pure (ForInStep.yield (none,())))=some (if as=bs then (none,()) else (some false,()))
 | [],i,as,bs,_,ha,hb,_,_=>by
  have h1:as=[]:=by simpa using ha
  have h2:bs=[]:=by simpa using hb
  subst h1 h2;rfl
 | f::fs,i,[],bs,_,ha,_,_,_=>by simp at ha
 | f::fs,i,a::as,[],_,_,hb,_,_=>by simp at hb
 | f::fs,i,a::as,b::bs,h,ha,hb,hx,hy=>by
  simp only [yYG,Bool.and_eq_true] at h;obtain ⟨⟨⟨h1,h2⟩,h3⟩,h4⟩:=h;obtain ⟨ku,hu⟩:=xCZ h1;have ho:=Nat.eq_of_beq_eq_true h2;have hn : f.name ≠ "_" := by simpa using h3
  have ea:xs[f.offset]?=some (.int (q i) a):=by rw [ho];simpa using hx 0 a rfl
  have eb:ys[f.offset]?=some (.int (q i) b):=by rw [ho];simpa using hy 0 b rfl
  rw [List.forIn_cons,xG];simp only [if_pos hn];rw [xG,yXG hu ea];simp only [Option.bind_some];rw [xG,yXG hu eb];simp only [Option.bind_some];rw [xG,zGQ hu];simp only [Option.bind_some];by_cases e:a=b
  ·subst e;simp only [beq_self_eq_true,Bool.not_true,Bool.false_eq_true,if_false,zOP,Option.bind_some];have ih:=yCD (d:=d) (xs:=xs) (ys:=ys) fs (i+1) as bs h4 (by simpa using ha) (by simpa using hb) (fun j x hj=>by have:=hx (j+1) x (by simpa using hj);rwa [show i+(j+1)=i+1+j by omega] at this) (fun j x hj=>by have:=hy (j+1) x (by simpa using hj);rwa [show i+(j+1)=i+1+j by omega] at this);rw [ih];by_cases e2:as=bs
   ·rw [if_pos e2,if_pos (by rw [e2])]
   ·rw [if_neg e2,if_neg (by simpa using e2)]
  ·have e1:(a == b)=false:=by simpa using e
   simp only [e1,Bool.not_false,if_true,zOP,Option.bind_some];rw [if_neg (by intro k;exact e (by cases k;rfl))]
def yTL (P:Program) (t n:Nat):Bool:=match P.underlying t with
 | some (.struct fs)=>yYG P 0 fs.toList && Nat.beq fs.size n && !P.stoodInHeld t
 | _=>false
theorem xPK {t n d:Nat} (q:Nat→IntKind) (h:yTL P t n=true) {as bs:List Int} {xs ys:Array Value} (ha:as.length=n) (hb:bs.length=n) (hx:∀ (j:Nat) (x:Int),as[j]?=some x→xs[j]?=some (Value.int (q j) x)) (hy:∀ (j:Nat) (x:Int),bs[j]?=some x→ys[j]?=some (Value.int (q j) x)):yA P (Op.equalIn (d+2) t (.agg xs) (.agg ys))=some (decide (as=bs)):=by
 unfold yTL at h;split at h;rotate_left
 ·cases h
 rename_i fs hu;simp only [Bool.and_eq_true,Bool.not_eq_true'] at h;obtain ⟨⟨h1,h2⟩,h3⟩:=h;have h2:=Nat.eq_of_beq_eq_true h2;have hl:fs.toList.length=n:=by simpa using h2
 have key:=yCD (d:=d) (xs:=xs) (ys:=ys) (q:=q) fs.toList 0 as bs h1 (by omega) (by omega) (fun j x hj=>by simpa using hx j x hj) (fun j x hj=>by simpa using hy j x hj);unfold Op.equalIn;rw [xG,zIY hu];simp only [Option.bind_some];rw [xG,yGL];simp only [Option.bind_some,h3,Bool.false_eq_true,if_false];rw [xG,← Array.forIn_toList];rw [key];simp only [Option.bind_some];by_cases e:as=bs
 ·rw [if_pos e];simp [e];rfl
 ·rw [if_neg e];simp [e];rfl
theorem xUU {t n d:Nat} (h:yTL P t n=true) {as bs:List Int} (ha:as.length=n) (hb:bs.length=n):yA P (Op.equalIn (d+2) t (.agg ⟨as.map fun x=>.int .i64 x⟩) (.agg ⟨bs.map fun x=>.int .i64 x⟩))=some (decide (as=bs)) :=
 xPK (fun _=>.i64) h ha hb (fun j x hj=>by simp [hj]) (fun j x hj=>by simp [hj])
structure KeyT (P:Program) (kt:TypeId) {κ:Type} [DecidableEq κ] (enc:κ→Value):Prop where
 eq:∀ a b,yA P (Op.equal kt (enc a) (enc b))=some (decide (a=b))
 ok:∀ e a,zHW P e kt (enc a)=true
 bits:∀ a,Instr.sameBits 10000 (enc a) (enc a)=true
section
variable {κ α:Type} [DecidableEq κ] {σ τ:St} {b kt et mt:Nat} {enc:κ→Value} {vf:α→Value} {F:κ→Option α}
def zJM (m:List (κ × α)) (k:κ):Option α:=match m with
 | []=>none
 | e::m=>if k=e.1 then some e.2 else zJM m k
def zYL (k:κ):List (κ × α)→Nat→Option Nat
 | [],_=>none
 | e::m,i=>if k=e.1 then some i else zYL k m (i+1)
theorem zLE (hk:KeyT P kt enc) (k:κ):∀ (m:List (κ × α)) (i:Nat),zAK P kt (enc k) (m.map fun e=>(enc e.1,vf e.2)) i=some (zYL k m i)
 | [],i=>rfl
 | e::m,i=>by
  simp only [List.map_cons,zAK,hk.eq,zYL];by_cases h:k=e.1
  ·simp [h]
  ·simp only [h,decide_false,if_false];exact zLE hk k m (i+1)
theorem zLG {k:κ}:∀ {m:List (κ × α)} {i j:Nat},zYL k m i=some j→∃ v,i≤j∧m[j-i]?=some (k,v)∧zJM m k=some v
 | [],_,_,h=>by cases h
 | e::m,i,j,h=>by
  unfold zYL at h;split at h
  ·rename_i hk;cases h
   exact ⟨e.2,Nat.le_refl _,by simp [hk],by simp [zJM,hk]⟩
  ·rename_i hk;obtain ⟨v,h1,h2,h3⟩:=zLG h;refine ⟨v,by omega, ?_,by simp [zJM,hk,h3]⟩
   rw [show j-i=(j-(i+1))+1 by omega,List.getElem?_cons_succ];exact h2
theorem zRJ {k:κ}:∀ {m:List (κ × α)} {i:Nat},zYL k m i=none→zJM m k=none
 | [],_,_=>rfl
 | e::m,i,h=>by
  unfold zYL at h;split at h
  ·cases h
  ·rename_i hk;simp [zJM,hk,zRJ h]
def zGB (P:Program) (σ:St) (b:Nat) (enc:κ→Value) (vf:α→Value) (F:κ→Option α):Prop:=b<σ.y∧∃ m:List (κ × α),yK σ.heap b=some (.map (m.map fun e=>(enc e.1,vf e.2)))∧∀ k,F k=zJM m k
theorem zGB.le (h:zGB P σ b enc vf F) (k:Le σ τ):zGB P τ b enc vf F:=by
 obtain ⟨h1,m,h2,h3⟩:=h;exact ⟨Nat.lt_of_lt_of_le h1 k.y,m,by rw [k.get _ h1];exact h2,h3⟩
theorem zGB.at_ (h:zGB P σ b enc vf F) (k:yK τ.heap b=yK σ.heap b) (hn:σ.y≤τ.y):zGB P τ b enc vf F:=by
 obtain ⟨h1,m,h2,h3⟩:=h;exact ⟨Nat.lt_of_lt_of_le h1 hn,m,by rw [k];exact h2,h3⟩
theorem zGB.new (σ:St):zGB P (σ.add (.map [])) σ.y enc vf (fun _=>none):=⟨by simp,[],by rw [St.add_get,if_pos rfl];rfl,fun _=>rfl⟩
theorem zGB.look {z:Value} {ok:Bool} (h:zGB P σ b enc vf F) (hk:KeyT P kt enc) (hm:zDR P mt=some (kt,et)) (hz:uZ P et=some z) (k:κ) :
  xO P (evL [.map (some b),enc k]) σ (.lookup mt (.tmp 0) (.tmp 1) ok)=some (let v:=match F k with | some v=>vf v | none=>z;bif ok then .tuple ⟨[v,.bool (F k).isSome]⟩ else v):=by
 obtain ⟨h1,m,h2,h3⟩:=h;have e0:∀ l:List Value,evL l (.tmp 0)=l.getD 0 undef:=fun _=>rfl
 have e1:∀ l:List Value,evL l (.tmp 1)=l.getD 1 undef:=fun _=>rfl
 unfold xO;simp only [hm,hz,e0,e1,List.getD_cons_zero,List.getD_cons_succ,h2,hk.ok,cond_true,zLE hk];rw [h3 k];cases hi:zYL k m 0 with
 | none=>simp only [zRJ hi];rfl
 | some j =>
  obtain ⟨v,_,g2,g3⟩:=zLG hi;simp only [g3];rw [Nat.sub_zero] at g2;simp [g2]
theorem zGB.look1 {z:Value} (h:zGB P σ b enc vf F) (hk:KeyT P kt enc) (hm:zDR P mt=some (kt,et)) (hz:uZ P et=some z) {k:κ} {v:α} (hv:F k=some v) :
  xO P (evL [.map (some b),enc k]) σ (.lookup mt (.tmp 0) (.tmp 1) true)=some (.tuple ⟨[vf v,.bool true]⟩):=by rw [h.look hk hm hz k,hv];rfl
theorem zGB.look0 {z:Value} (h:zGB P σ b enc vf F) (hk:KeyT P kt enc) (hm:zDR P mt=some (kt,et)) (hz:uZ P et=some z) {k:κ} (hv:F k=none) :
  xO P (evL [.map (some b),enc k]) σ (.lookup mt (.tmp 0) (.tmp 1) true)=some (.tuple ⟨[z,.bool false]⟩):=by rw [h.look hk hm hz k,hv];rfl
theorem yNC {m:List (κ × α)} {k k':κ} {x:α} (h:zJM m k=none):zJM (m++[(k,x)]) k'=if k'=k then some x else zJM m k':=by
 induction m with
 | nil=>simp [zJM]
 | cons e m ih =>
  simp only [zJM] at h;split at h
  ·cases h
  ·rename_i hk;simp only [List.cons_append,zJM,ih h];by_cases h1:k'=e.1
   ·have:¬ k'=k:=fun h2=>hk (h2 ▸ h1)
    rw [if_pos h1,if_pos h1,if_neg this]
   ·rw [if_neg h1,if_neg h1]
theorem yNB {k k':κ} {x:α}:∀ {m:List (κ × α)} {i j:Nat},zYL k m i=some j→zJM (m.set (j-i) (k,x)) k'=if k'=k then some x else zJM m k'
 | [],_,_,h=>by cases h
 | e::m,i,j,h=>by
  unfold zYL at h;split at h
  ·rename_i hk;cases h
   simp only [Nat.sub_self,List.set_cons_zero,zJM];by_cases h1:k'=k
   ·rw [if_pos h1,if_pos h1]
   ·rw [if_neg h1,if_neg h1,if_neg (fun h2=>h1 (h2.trans hk.symm))]
  ·rename_i hk;obtain ⟨v,h1,_,_⟩:=zLG h;rw [show j-i=(j-(i+1))+1 by omega,List.set_cons_succ];simp only [zJM];rw [yNB h];by_cases h2:k'=e.1
   ·have:¬ k'=k:=fun h3=>hk (h3 ▸ h2)
    rw [if_pos h2,if_pos h2,if_neg this]
   ·rw [if_neg h2,if_neg h2]
theorem zGB.put (h:zGB P σ b enc vf F) (hk:KeyT P kt enc) (hm:zDR P mt=some (kt,et)) (k:κ) (x:α) :
  ∃ es,zQ P (evL [.map (some b),enc k,vf x]) σ (.mapUpdate mt (.tmp 0) (.tmp 1) (.tmp 2))=some (undef,σ.put b (.map es))∧zGB P (σ.put b (.map es)) b enc vf (fun k'=>if k'=k then some x else F k'):=by
 obtain ⟨h1,m,h2,h3⟩:=h;have e0:∀ l:List Value,evL l (.tmp 0)=l.getD 0 undef:=fun _=>rfl
 have e1:∀ l:List Value,evL l (.tmp 1)=l.getD 1 undef:=fun _=>rfl
 have e2:∀ l:List Value,evL l (.tmp 2)=l.getD 2 undef:=fun _=>rfl
 cases hi:zYL k m 0 with
 | none =>
  refine ⟨(m++[(k,x)]).map fun e=>(enc e.1,vf e.2), ?_,by simpa using h1,m++[(k,x)],by rw [St.put_get,if_pos rfl],fun k'=>?_⟩
  ·unfold zQ;simp only [hm,e0,e1,e2,List.getD_cons_zero,List.getD_cons_succ,h2,hk.ok,cond_true,zLE hk,hi,St.write_eq,List.map_append,List.map_cons,List.map_nil]
  ·show (if k'=k then some x else F k')=_;rw [yNC (zRJ hi),h3 k']
 | some j =>
  obtain ⟨v,_,g2,g3⟩:=zLG hi;rw [Nat.sub_zero] at g2;refine ⟨(m.set j (k,x)).map fun e=>(enc e.1,vf e.2), ?_,by simpa using h1,m.set j (k,x),by rw [St.put_get,if_pos rfl],fun k'=>?_⟩
  ·have g2':(m.map fun e=>(enc e.1,vf e.2))[j]?=some (enc k,vf v):=by simp [g2]
   unfold zQ;simp only [hm,e0,e1,e2,List.getD_cons_zero,List.getD_cons_succ,h2,hk.ok,cond_true,zLE hk,hi,g2',hk.bits,St.write_eq,List.map_set]
  ·have:=yNB (x:=x) (k':=k') hi;rw [Nat.sub_zero] at this;show (if k'=k then some x else F k')=_;rw [this,h3 k']
end
end
end Go.Lay

namespace Go.Lay
open Go
def Keys:List (Nat × Nat)→Nat→Prop
 | [],_=>True
 | (k,_)::l,nx=>k<nx∧Keys l k
theorem Keys.mono:∀ {l:List (Nat × Nat)} {m n:Nat},Keys l m→m≤n→Keys l n
 | [],_,_,_,_=>trivial
 | (_,_)::_,_,_,h,hm=>⟨Nat.lt_of_lt_of_le h.1 hm,h.2⟩
theorem Keys.tail:∀ {l:List (Nat × Nat)} {a:Nat × Nat} {m:Nat},Keys (a::l) m→Keys l m
 | _,(_,_),_,h=>h.2.mono (Nat.le_of_lt h.1)
theorem Keys.lt:∀ {l r:List (Nat × Nat)} {k e m:Nat},Keys (l++(k,e)::r) m→k<m
 | [],_,_,_,_,h=>h.1
 | (_,_)::l,_,_,_,_,h=>Nat.lt_trans (Keys.lt h.2) h.1
theorem Keys.drop:∀ {l r:List (Nat × Nat)} {m:Nat},Keys (l++r) m→Keys r m
 | [],_,_,h=>h
 | (_,_)::l,_,_,h=>(Keys.drop h.2).mono (Nat.le_of_lt h.1)
theorem Keys.find:∀ {l r:List (Nat × Nat)} {k e m:Nat},Keys (l++(k,e)::r) m→wM (l++(k,e)::r) k=some e∧wP (l++(k,e)::r) k=(k,e)::r
 | [],r,k,e,_,_=>by simp [wM,wP]
 | (k',e')::l,r,k,e,_,h=>by
  have h1:k<k':=Keys.lt h.2;have h2:Nat.beq k' k=false:=by rw [Bool.eq_false_iff];intro e;have:=Nat.eq_of_beq_eq_true e;omega
  obtain ⟨h3,h4⟩:=Keys.find h.2;exact ⟨by rw [List.cons_append,wM,h2,cond_false];exact h3,by rw [List.cons_append,wP,h2,cond_false];exact h4⟩
def Stk (z:St) (n0:Nat) (p:Option Addr) (len c:Nat) (xs:List Value) (sf:List (Nat × Nat)):Prop :=
 (p=none∧len=0∧c=0∧xs=[]∧sf=[])∨∃ b s bc pre r nx,p=some ⟨b,0,s⟩∧c=len+vW∧xs.length=len∧0<len∧sf=(s.getD 0,len)::r∧n0≤b∧b<z.y∧yK z.heap b=some (.cells bc 1 (pre++sf) nx false)∧bc.take len=xs∧Keys (pre++sf) nx
def Kid (n0:Nat) (p:Option Addr) (len c:Nat) (xs:List Value) (sf:List (Nat × Nat)) (p':Option Addr) (xs':List Value) (sf':List (Nat × Nat)):Prop :=
 (p=none∧len=0∧c=0∧xs=[]∧sf=[])∨∃ b s s' e r,p=some ⟨b,0,s⟩∧p'=some ⟨b,0,s'⟩∧sf'=e::sf∧sf=(s.getD 0,len)::r∧c=len+vW∧xs.length=len∧0<len∧xs'.take len=xs∧n0≤b
section
variable {P:Program} {S:Nat→Prop} {z z':St} {n0 len c len' c':Nat} {p p':Option Addr} {xs xs':List Value} {sf sf':List (Nat × Nat)}
theorem Stk.nil:Stk z n0 none 0 0 [] []:=.inl ⟨rfl,rfl,rfl,rfl,rfl⟩
theorem Stk.leq (h:Stk z n0 p len c xs sf):xs.length=len:=by
 rcases h with ⟨_,rfl,_,rfl,_⟩ | ⟨_,_,_,_,_,_,_,_,h,_⟩
 ·rfl
 ·exact h
theorem Stk.bd (h:Stk z n0 p len c xs sf):∀ b,AtP p b→n0≤b∧b<z.y:=by
 rintro b ⟨a,rfl,rfl⟩;rcases h with ⟨h,_⟩ | ⟨b,s,bc,pre,r,nx,h1,h2,h3,h4,h5,h6,h7,_⟩
 ·cases h
 ·cases h1;exact ⟨h6,h7⟩
theorem Stk.only (h:Stk z n0 p len c xs sf) (k:Only S z z') (hs:∀ b,AtP p b→¬ S b):Stk z' n0 p len c xs sf:=by
 rcases h with h | ⟨b,s,bc,pre,r,nx,rfl,h2,h3,h4,h5,h6,h7,h8,h9⟩
 ·exact .inl h
 ·exact .inr ⟨b,s,bc,pre,r,nx,rfl,h2,h3,h4,h5,h6,Nat.lt_of_lt_of_le h7 k.y,by rw [k.get b h7 (hs b ⟨_,rfl,rfl⟩)];exact h8,h9⟩
theorem Stk.le (h:Stk z n0 p len c xs sf) (k:Le z z'):Stk z' n0 p len c xs sf:=by
 rcases h with h | ⟨b,s,bc,pre,r,nx,rfl,h2,h3,h4,h5,h6,h7,h8,h9⟩
 ·exact .inl h
 ·exact .inr ⟨b,s,bc,pre,r,nx,rfl,h2,h3,h4,h5,h6,Nat.lt_of_lt_of_le h7 k.y,by rw [k.get b h7];exact h8,h9⟩
theorem Stk.slp (h:Stk z n0 p len c xs sf):SlP z 1 p len xs:=by
 rcases h with ⟨rfl,rfl,_,rfl,_⟩ | ⟨b,s,bc,pre,r,nx,rfl,h2,h3,h4,rfl,h6,h7,h8,h9,h10⟩
 ·exact SlP.nil _ _
 ·refine ⟨by omega, ?_,h7⟩
  have hle:Nat.ble (0+len) len=true:=(zW _ _).2 (by omega);unfold yS;simp only [h8,yB,(Keys.find h10).1,hle,cond_true,List.drop_zero,h3,h9]
theorem Stk.slv {t:Nat} (h:Stk z n0 p len c xs sf) (he:∀ v∈xs,zBT P t 1 v∧v.cells.toList=[v]):SlV P z t 1 p len xs:=by
 have hf:xF xs=xs:=by
  have:∀ l:List Value,(∀ v∈l,v.cells.toList=[v])→xF l=l:=by
   intro l;induction l with
   | nil=>intro _;rfl
   | cons v l ih =>
    intro h;have h1:=h v List.mem_cons_self;have h2:=ih (fun x hx=>h x (List.mem_cons_of_mem _ hx));have:xF (v::l)=v.cells.toList++xF l:=by simp [xF]
    rw [this,h1,h2];rfl
  exact this xs (fun v hv=>(he v hv).2)
 exact ⟨by rw [hf];exact h.slp,h.leq,fun v hv=>(he v hv).1⟩
theorem Kid.pop (h:Kid n0 p len c xs sf p' xs' sf') (k:Stk z n0 p' len' c' xs' sf'):Stk z n0 p len c xs sf:=by
 rcases h with h | ⟨b,s,s',e,r,rfl,rfl,rfl,rfl,rfl,h1,h2,h3,h4⟩
 ·exact .inl h
 ·rcases k with ⟨k,_⟩ | ⟨b',s2,bc,pre,r',nx,k1,k2,k3,k4,k5,k6,k7,k8,k9,k10⟩
  ·cases k
  ·cases k1
   refine .inr ⟨b,s,bc,pre++[e],r,nx,rfl,rfl,h1,h2,rfl,h4,k7, ?_, ?_, ?_⟩
   ·rw [List.append_assoc];exact k8
   ·have hl:len≤len':=by
     have:=congrArg List.length h3;simp at this;omega
    rw [← h3,← k9,List.take_take,Nat.min_eq_left hl]
   ·rw [List.append_assoc];exact k10
theorem Stk.push {st xt e:Nat} {v:Value} (T:AppT P st xt e 1) (h:Stk z n0 p len c xs sf) (hc:cellB v=true) (hroom:len+1≤1073741824) (hn:n0≤z.y) :
  ∃ p' c' sf' z',yD P st xt (.slice p len c) (.slice (some ⟨z.y,0,none⟩) 1 1) (z.row [v] 1)=some (.slice p' (len+1) c',z')∧Stk z' n0 p' (len+1) c' (xs++[v]) sf'∧Kid n0 p len c xs sf p' (xs++[v]) sf'∧Only (AtP p) z z'∧z'.low≤z.low∧∀ b,AtP p' b→AtP p b∨z.y≤b:=by
 obtain ⟨xd,hxd,hxi⟩:=T.src;obtain ⟨ei,zv,hei,hz,hby,hrz,hzl⟩:=T.info;have hrow:=xQ z [v] 1;have hsrc:zAM (z.row [v] 1) 1 zv xd (.slice (some ⟨z.y,0,none⟩) 1 1)=some (1,[v]):=by
  have:vP (z.row [v] 1) 1 (.slice (some ⟨z.y,0,none⟩) 1 1)=some (1,[v]):=by
   have hrd:=hrow.rd;have hrd:yS (z.row [v] 1) ⟨z.y,0,none⟩ (1*1)=some [v]:=hrd;simp [vP,hrd]
  unfold zAM;cases xd with
  | int _=>cases hxi
  | _=>simp only [this]
 have hcond:(zAQ (len+1) 1 ei.bytes && [v].all cellB && Nat.beq [v].length (1*1) && zV RD zv && Nat.beq zv.cells.toList.length 1)=true:=by
  unfold zAQ;have:Nat.beq [v].length (1*1)=true:=rfl;rw [(zW _ _).2 hroom,(zW _ _).2 T.le,(zW _ _).2 hby,this,hrz,hzl];simp [hc]
 have hc0:yN 0=0:=by unfold yN;have:=wW;rw [if_neg (by omega)]
 have hc1:yU 0=true:=(yQ 0).2 wW;rcases h with ⟨rfl,rfl,rfl,rfl,rfl⟩ | ⟨b,s,bc,pre,r,nx,rfl,rfl,h3,h4,rfl,h6,h7,h8,h9,h10⟩
 ·refine ⟨some ⟨(z.row [v] 1).y,0,none⟩,0+1+vW,[(0,1)],(z.row [v] 1).add (.cells [v] 1 [(0,1)] 1 false), ?_, ?_,.inl ⟨rfl,rfl,rfl,rfl,rfl⟩, ?_,Nat.le_refl _,fun b hb=>.inr (by obtain ⟨a,e,rfl⟩:=hb;cases e;simp)⟩
  ·have hble:Nat.ble (0+1) 0=false:=rfl;unfold yD;simp only [T.el,hxd,hei,hz,hsrc,hcond,cond_true,vO,hc0,hble,cond_false,hc1,yO];rfl
  ·refine .inr ⟨(z.row [v] 1).y,none,[v],[],[],1,rfl,rfl,rfl,by omega,rfl,by simp;omega,by simp, ?_,rfl,⟨by simp,trivial⟩⟩;rw [St.add_get,if_pos rfl];rfl
  ·exact (Only.row _ _ _).trans' (Only.add _ _:Only (AtP none) _ _) (fun b _ h=>.inl h)
 ·obtain ⟨f1,f2⟩:=Keys.find h10;have hcx:yU (len+vW)=false:=by unfold yU;rw [(zW _ _).2 (by omega)];rfl
  have hcl:yN (len+vW)=len:=uP _;have hble:Nat.ble (len+1) len=false:=by rw [Bool.eq_false_iff];intro e;have:=(zW _ _).1 e;omega
  have hgb:yK (z.row [v] 1).heap b=some (.cells bc 1 (pre++(s.getD 0,len)::r) nx false):=by
   rw [(Le.row z [v] 1).get b h7];exact h8
  have hg:(Nat.beq len len && Nat.beq (0+len*1) len && Nat.beq 1 1 && !false && Nat.blt 0 1)=true:=by
   rw [Nat.beq_refl,show 0+len*1=len by omega,Nat.beq_refl];rfl
  have hbl:(bc.take len).length=len:=by rw [h9];exact h3
  refine ⟨some ⟨b,0,some nx⟩,len+1+vW,(nx,len+1)::(s.getD 0,len)::r,(z.row [v] 1).put b (.cells (bc.take len++[v]) 1 ((nx,len+1)::(s.getD 0,len)::r) (nx+1) false), ?_, ?_, ?_, ?_, ?_,fun b' hb=>.inl (by obtain ⟨a,e,rfl⟩:=hb;cases e;exact ⟨_,rfl,rfl⟩)⟩
  ·unfold yD;simp only [T.el,hxd,hei,hz,hsrc,hcond,cond_true,vO,hcl,hble,cond_false,hcx];unfold zHQ;simp only [hgb,yB,f1,f2,hg,cond_true,zDW,wG,St.write_eq]
  ·refine .inr ⟨b,some nx,bc.take len++[v],[],(s.getD 0,len)::r,nx+1,rfl,rfl,by simp [h3],by omega,rfl,h6,by simp;omega, ?_, ?_,⟨by omega, ?_⟩⟩
   ·rw [St.put_get,if_pos rfl];rfl
   ·rw [List.take_of_length_le (by simp [hbl]),h9]
   ·have:=h10.drop;exact ⟨Keys.lt h10,this.2⟩
  ·exact .inr ⟨b,s,some nx,(nx,len+1),r,rfl,rfl,rfl,rfl,rfl,h3,h4,by rw [List.take_append_of_le_length (by omega),List.take_of_length_le (by omega)],h6⟩
  ·exact (Only.row _ _ _).trans' (Only.put (S:=AtP (some ⟨b,0,s⟩)) (.inr ⟨_,rfl,rfl⟩)) (fun b _ h=>.inl h)
  ·simp;omega
end
end Go.Lay
