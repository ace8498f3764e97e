
import Derived.ChangeArms
import Derived.ReadAgain
import Derived.ChangeBears
import Derived.Below
import Derived.Test.YtgfiniccfpfplaaGreatLayB
set_option linter.unusedVariables false
set_option linter.unusedSimpArgs false
namespace Go.Lay
open Go

def ov:List (Nat × Value)→(Nat→Value)→Nat→Value
 | [],g,i=>g i
 | (k,v)::l,g,i=>bif Nat.beq k i then v else ov l g i
def trF (g:Nat→Value):Nat→Nat→Nat→Bool→Tr Value
 | 0,_,_,_=>.leaf
 | d+1,w,a,c=>.node (some (bif c then g a else undef)) (trF g d (w*2) a false) (trF g d (w*2) (a+w) true)
def Fm (n:Nat) (g:Nat→Value):Tm:=⟨n,trF g ((way n).length+1) 1 0 true⟩
structure Alt where
 T:Type
 e:Exit
 l:T→List (Nat × Value)
 ms:T→List Nat
 Q:T→St→Prop

inductive Ans
 | g
 | b (t:Bool)
 | n (z:Int)
 | l (v:Value)
 | i
 | v (v:Value)
 | e (v:Value) (σ:St)
 | c (v:Value) (σ:St)
 | lp (e:Exit) (fr:Fr) (σ:St)
 | lf (n:Nat) (l:List (Nat × Value)) (alts:List Alt)
 | rf (n:Nat) (l:List (Nat × Value)) (alts:List (Exit × (St→Prop)))
 | fin (a:Alt) (t:a.T)
 | cut (n:Nat) (l:List (Nat × Value)) (alts:List Alt)

def St.row (σ:St) (cs:List Value) (esz:Nat):St:=σ.add (.cells cs esz [(0,cs.length)] 1 false)

def yRD (P:Program) (ev:Operand→Value) (σ:St) (o:Op):Option (Value × St) :=
 match o with
 | .alloc t=>match zCC P t with
  | some z=>some (.pointer (some ⟨σ.next,0,none⟩),σ.row z.cells.toList (eszT P t z.cells.toList.length))
  | none=>none
 | .box t x=>some (.pointer (some ⟨σ.next,0,none⟩),σ.row (ev x).cells.toList (eszT P t (ev x).cells.toList.length))
 | .buildSlice t len ps =>
  match wJ P t with
  | some (e,n)=>match zCC P e with
   | some z =>
    bif Nat.ble (len*n) 16777216 && Nat.beq z.cells.toList.length n then
     match zOG (fun i=>some (i*n,n)) (xA z.cells.toList len) (ps.toList.map fun p=>(p.1,ev p.2)) with
     | some cs=>some (.slice (some ⟨σ.next,0,none⟩) len len,σ.row cs n)
     | none=>none
    else none
   | none=>none
  | none=>none
 | .makeMap t none=>match zGL P t with
  | some _=>some (.map (some σ.next),σ.add (.map []))
  | none=>none
 | o=>match wB P ev o with
  | some v=>some (v,σ)
  | none=>none

def evL (l:List Value):Operand→Value
 | .tmp i=>l.getD i undef
 | _=>undef
def wC (n:Nat):List Operand:=(List.range n).map .tmp
def idxOk (i:Int) (len:Nat):Prop:=0≤i∧i<(len:Int)

def wpSee (P:Program) (f:Tm) (σ:St) (o:Op) (v:Value):Prop :=
 match o with
 | .slice t x lo hi mx=>zAK P σ t (yJ f x) (lo.map (yJ f)) (hi.map (yJ f)) (mx.map (yJ f))=some v
 | .lookup t m k ok=>xS P (evL [yJ f m,yJ f k]) σ (.lookup t (.tmp 0) (.tmp 1) ok)=some v
 | .index t x k=>zSC P t (yJ f x) (yJ f k)=some v
 | .binOp op t x y _=>zYD P op t x y (yJ f x) (yJ f y)=some v
 | .convert s d x=>xK P (evL [yJ f x]) σ (.convert s d (.tmp 0))=some v
 | .call c=>xK P (evL (c.args.toList.map (yJ f))) σ (.call { c with args:=⟨wC c.args.toList.length⟩ })=some v
 | o=>xK P (yJ f) σ o=some v
def wpEff (P:Program) (f:Tm) (σ:St) (o:Op) (v:Value) (σ':St):Prop :=
 match o with
 | .store t a x=>zS P (evL [yJ f a,yJ f x]) σ (.store t (.tmp 0) (.tmp 1))=some (v,σ')
 | .mapUpdate t m k x=>zS P (evL [yJ f m,yJ f k,yJ f x]) σ (.mapUpdate t (.tmp 0) (.tmp 1) (.tmp 2))=some (v,σ')
 | .insert t m k x=>zS P (evL [yJ f m,yJ f k,yJ f x]) σ (.insert t (.tmp 0) (.tmp 1) (.tmp 2))=some (v,σ')
 | .makeSlice t l c=>zS P (evL [yJ f l,yJ f c]) σ (.makeSlice t (.tmp 0) (.tmp 1))=some (v,σ')
 | .call c=>match c.callee,c.argTypes.toList,c.args.toList.map (yJ f) with
  | .builtin .append,[st,xt],[s,x]=>yK P st xt s x σ=some (v,σ')
  | _,_,_=>zS P (yJ f) σ (.call c)=some (v,σ')
 | o=>zS P (yJ f) σ o=some (v,σ')

abbrev zRN:=FnRef→List Value→St→Value→St→Prop
abbrev zTY (rec:Rec):zRN:=fun r args σ v σ'=>zBE rec r args σ=some (v,σ')
def zUY (P:Program) (C:zRN) (f:Tm) (σ:St) (o:Op):List Ans→(Value→St→List Ans→Prop)→Prop
 | .g::as,K=>match yRD P (yJ f) σ o with
  | some (v,σ')=>K v σ' as
  | none=>False
 | .b t::as,K=>match wB P (yJ f) o with
  | some (.bool e)=>e=t∧K (.bool t) σ as
  | _=>False
 | .n z::as,K=>match wB P (yJ f) o with
  | some (.int k e)=>e=z∧K (.int k z) σ as
  | _=>False
 | .l v::as,K=>match o with
  | .load t x=>match yJ f x with
   | .pointer (some a)=>zB P σ t a=some v∧K v σ as
   | _=>False
  | _=>False
 | .i::as,K=>match o with
  | .indexAddr t x k=>match yJ f k,yJ f x,P.underlying t with
   | .int _ i,.pointer (some a),some (.array len elem)=>match xB P elem with
    | some n=>idxOk i len∧K (.pointer (some (zP a (i.toNat*n)))) σ as
    | none=>False
   | .int _ i,.slice (some a) len _,some (.slice elem)=>match xB P elem with
    | some n=>idxOk i len∧K (.pointer (some (zP a (i.toNat*n)))) σ as
    | none=>False
   | _,_,_=>False
  | _=>False
 | .v v::as,K=>wpSee P f σ o v∧K v σ as
 | .e v σ'::as,K=>wpEff P f σ o v σ'∧K v σ' as
 | .c v σ'::as,K=>match o with
  | .call c=>match c.callee with
   | .value fx=>match zOA (yJ f fx) (c.args.toList.map (yJ f)) with
    | some (r,args)=>match extC P fx σ r args with
     | none=>C r args σ v σ'∧K v σ' as
     | some _=>False
    | none=>False
   | _=>False
  | _=>False
 | _,_=>False

def zHT (P:Program) (C:zRN) (ops:Array Oper):List Oper→List Ans→Tm→St→List Seen→(Tm→St→List Seen→List Ans→Prop)→Prop
 | [],as,f,σ,l,K=>K f σ l as
 | o::rest,as,f,σ,l,K =>
  match zHO ops f o with
  | some true=>zUY P C f σ o.op as fun v σ' as=>zHT P C ops rest as (zNQ f o.dst v) σ' (l++[⟨f,v,true,σ,σ'⟩]) K
  | some false=>zHT P C ops rest as (zNQ f o.dst undef) σ (l++[⟨f,undef,false,σ,σ⟩]) K
  | none=>False

def zK:Nat→Value→Bool
 | 0,_=>false
 | n+1,.agg cs=>cs.toList.all (zK n)
 | n+1,.tuple cs=>cs.toList.all (zK n)
 | n+1,.iface _ v=>zK n v
 | n+1,.func (.func _) f c=>f.toList.all (zK n) && c.toList.all (zK n)
 | _+1,.int k _=>zHY k k
 | _+1,.bool _ | _+1,.string _ | _+1,.pointer _ | _+1,.slice _ _ _ | _+1,.map _ | _+1,.nilFunc | _+1,.nilIface=>true
 | _+1,_=>false
structure Lk where
 want:Bool
 need:Bool
 low:Prop
 look:St→Prop
 before:St
 after:St
def zH (n:Nat) (vs:List Value):Prop:=vs.all (yU RD n)=true
def optL (f:Tm):Option Operand→List Value
 | some x=>[yJ f x]
 | none=>[]
def ySP (P:Program) (f:Tm) (o:Op) (v:Value) (σ:St):Prop :=
 match o with
 | .load t x=>match yJ f x with
  | .pointer (some a)=>(a.block<σ.next∧zK RD v=true)∧zB P σ t a=some v
  | _=>False
 | .slice t x lo hi mx=>(zH σ.next (yJ f x::(optL f lo++(optL f hi++optL f mx)))∧zK RD v=true)∧zAK P σ t (yJ f x) (lo.map (yJ f)) (hi.map (yJ f)) (mx.map (yJ f))=some v
 | .lookup t m k ok=>(zH σ.next [yJ f m,yJ f k]∧zK RD v=true)∧xS P (evL [yJ f m,yJ f k]) σ (.lookup t (.tmp 0) (.tmp 1) ok)=some v
 | .convert s d x=>(zH σ.next [yJ f x]∧zK RD v=true)∧xK P (evL [yJ f x]) σ (.convert s d (.tmp 0))=some v
 | .call c=>(zH σ.next (c.args.toList.map (yJ f))∧zK RD v=true)∧c.callee=.builtin .len∧xK P (evL (c.args.toList.map (yJ f))) σ (.call { c with args:=⟨wC c.args.toList.length⟩ })=some v
 | _=>False
def yRX:Value→Bool
 | .bool _ | .int .. | .string _ | .nilFunc | .nilIface=>true
 | _=>false
def yZK (f:Tm) (o:Op):List Value:=(o.operands.toList.filter fun x=>!isFn x).map (yJ f)
def lowB (f:Tm) (o:Op):Bool:=(xV o || zEG o) && !(yZK f o).all yRX
def zFF (P:Program) (C:zRN) (ops:Array Oper):List Oper→List Ans→Tm→St→List Lk→(Tm→St→List Lk→List Ans→Prop)→Prop
 | [],as,f,σ,l,K=>K f σ l as
 | o::rest,as,f,σ,l,K =>
  match zHO ops f o with
  | some true=>zUY P C f σ o.op as fun v σ' as=>zFF P C ops rest as (zNQ f o.dst v) σ' (l++[⟨true,lowB f o.op,zH σ.next (yZK f o.op),ySP P f o.op v,σ,σ'⟩]) K
  | some false=>zFF P C ops rest as (zNQ f o.dst undef) σ (l++[⟨false,false,True,fun _=>True,σ,σ⟩]) K
  | none=>False
def zAY (l:List Lk):List (Nat × Nat)→Prop→Prop
 | [],K=>K
 | p::ps,K=>match l[p.1]?,l[p.2]? with
  | some sj,some sk=>match sj.want with
   | true=>sj.look sk.before∧sj.look sk.after∧zAY l ps K
   | false=>zAY l ps K
  | _,_=>False
def zGU:List Lk→Prop→Prop
 | [],K=>K
 | s::ss,K=>match s.need with
  | true=>s.low∧zGU ss K
  | false=>zGU ss K

def zKX (P:Program) (C:zRN) (ops:Array Oper) (draw:Bool) (as:List Ans) (fr:Fr) (σ:St) (K:Exit→Fr→St→List Ans→Prop):Prop :=
 match draw with
 | false=>zHT P C ops ops.toList as fr.f σ [] fun f σ _ as=>K .normal ⟨f,fr.marks⟩ σ as
 | true=>match yFN ops (CheckFast.beforeF ops),zWR ops (CheckFast.beforeF ops),frees ops (CheckFast.beforeF ops) with
  | true,[],false=>zHT P C ops ops.toList as fr.f σ [] fun f σ _ as=>K .normal ⟨f,fr.marks⟩ σ as
  | true,ps,_=>zFF P C ops ops.toList as fr.f σ [] fun f σ l as=>zGU l (zAY l ps (K .normal ⟨f,fr.marks⟩ σ as))
  | false,_,_=>False

def wpC (P:Program) (rec:Rec) (N:Nat) (rd:Option Nat):Code→List Ans→Fr→St→(Exit→Fr→St→List Ans→Prop)→Prop
 | .skip,as,fr,σ,K=>K .normal fr σ as
 | .label _,as,fr,σ,K=>K .normal fr σ as
 | .ret,as,fr,σ,K=>K .ret fr σ as
 | .exit id,as,fr,σ,K=>K (.exit id) fr σ as
 | .seq x y,as,fr,σ,K=>wpC P rec N rd x as fr σ fun e fr σ as=>match e with
  | .normal=>wpC P rec N rd y as fr σ K
  | e=>K e fr σ as
 | .cond c x y,as,fr,σ,K=>match yJ fr.f c with
  | .bool true=>wpC P rec N rd x as fr σ K
  | .bool false=>wpC P rec N rd y as fr σ K
  | _=>False
 | .block id c,as,fr,σ,K=>wpC P rec N rd c as fr σ fun e fr σ as=>match e with
  | .exit i=>match Nat.beq i id with
   | true=>K .normal fr σ as
   | false=>K (.exit i) fr σ as
  | e=>K e fr σ as
 | .scope c,as,fr,σ,K=>wpC P rec N rd c as fr σ K
 | .region _ ops d,as,fr,σ,K=>zKX P (zTY rec) ops d as fr σ K
 | .loop c,.lp e fr' σ'::as,fr,σ,K=>zGM (yQ P rec N rd c) N fr σ=some (e,fr',σ')∧K e fr' σ' as
 | .rangeFunc g ps a bo,.lp e fr' σ'::as,fr,σ,K=>zOR rec rd g ps a bo fr σ=some (e,fr',σ')∧K e fr' σ' as
 | _,_,_,_,_=>False

section
variable {P:Program} {rec:Rec}

theorem yFS {o:Op} {f:Tm} {σ:St} {r:Value × St} (h:yRD P (yJ f) σ o=some r):opA P rec (yJ f) σ o=some r:=by
 unfold yRD at h
 split at h
 ·split at h
  ·rename_i z hz
   simp [opA,zJW,zS,hz,yP,vQ] at h ⊢
   exact h
  ·cases h
 ·simp [opA,zJW,zS,yP,vQ] at h ⊢
  exact h
 ·split at h
  ·rename_i e n hes
   split at h
   ·rename_i z hz
    obtain ⟨hc,h⟩:=wG h
    split at h
    ·rename_i cs hf
     simp only [opA,zJW,zS,hes,hz,hc,cond_true,hf,yP]
     exact h
    ·cases h
   ·cases h
  ·cases h
 ·split at h
  ·rename_i ke hmo
   simp only [opA,zJW,zS,hmo,cond_true,St.new_eq]
   exact h
  ·cases h
 ·rename_i hn1 hn2 hn3 hn4
  split at h
  ·rename_i v hv
   cases h
   unfold opA
   split
   ·rename_i c
    unfold zPL
    split
    ·rename_i fx hc
     exfalso
     simp only [wB] at hv
     split at hv <;> simp_all
    ·rename_i hc;exfalso;simp [wB,hc] at hv
    ·rename_i hc;exfalso;simp [wB,hc] at hv
    ·rename_i hc;rw [hv]
    ·rename_i hc;rw [hv];rfl
    ·rename_i hc;exfalso;simp [wB,hc] at hv
   ·simp [wB] at hv
   ·simp [wB] at hv
   ·simp [wB] at hv
   ·rw [hv]
   ·have:zJW o=false:=by
     cases o <;> first | rfl | (simp [wB] at hv;done) | (exfalso;rename_i hx _ _ _ _;exact hx _ rfl)
    rw [this,hv];rfl
  ·cases h
end
end Go.Lay

namespace Go.Lay
open Go
section
variable {P:Program} {rec:Rec}

theorem zBG {o:Op} {ev:Operand→Value} {σ:St} {v:Value} (hv:wB P ev o=some v):opA P rec ev σ o=some (v,σ):=by
 unfold opA
 split
 ·rename_i c
  unfold zPL
  split
  ·rename_i fx hc
   exfalso
   simp only [wB] at hv
   split at hv <;> simp_all
  ·rename_i hc;exfalso;simp [wB,hc] at hv
  ·rename_i hc;exfalso;simp [wB,hc] at hv
  ·rename_i hc;rw [hv]
  ·rename_i hc;rw [hv];rfl
  ·rename_i hc;exfalso;simp [wB,hc] at hv
 ·simp [wB] at hv
 ·simp [wB] at hv
 ·simp [wB] at hv
 ·rw [hv]
 ·have:zJW o=false:=by
   cases o <;> first | rfl | (simp [wB] at hv;done) | (exfalso;rename_i hx _ _ _ _;exact hx _ rfl)
  rw [this,hv];rfl

theorem zEH {o:Op} {ev:Operand→Value} {σ:St} {v:Value} (hv:wB P ev o=none) (hl:xS P ev σ o=some v):opA P rec ev σ o=some (v,σ):=by
 unfold opA
 split
 ·rename_i c
  unfold zPL
  split
  ·rename_i fx hc;exfalso;simp only [xS,hc] at hl;cases hl
  ·rename_i hc;exfalso;simp only [xS,hc] at hl;cases hl
  ·rename_i hc;exfalso;simp only [xS,hc] at hl;cases hl
  ·rename_i hc;rw [hv,hl];rfl
  ·rename_i b _ _ hb hc
   exfalso
   simp only [xS,hc] at hl
   cases b <;> first | (simp at hl;done) | exact hb rfl
  ·rename_i hc;exfalso;simp only [xS,hc] at hl;cases hl
 ·rw [hl];rfl
 ·rw [hl];rfl
 ·rw [hl];rfl
 ·rw [hv,hl];rfl
 ·exfalso
  cases o <;> first | (simp [xS] at hl;done) | (rename_i h1 h2 h3 h4 h5;first | exact h1 _ rfl | exact h2 _ _ rfl | exact h3 _ _ _ _ rfl | exact h4 _ _ _ _ _ rfl | exact h5 _ _ _ rfl)

theorem yWG {o:Op} {ev:Operand→Value} {σ σ':St} {v:Value} (h:zS P ev σ o=some (v,σ')):opA P rec ev σ o=some (v,σ'):=by
 unfold opA
 split
 ·rename_i c
  unfold zPL
  split
  ·rename_i fx hc
   simp only [zS,hc] at h
   split at h
   ·rename_i r as href
    simp only [Option.map_eq_some_iff] at h
    obtain ⟨v0,h1,h2⟩:=h
    simp only [h1];rw [h2]
   ·cases h
  ·exact h
  ·exact h
  ·rename_i hc;exfalso;simp only [zS,hc] at h;cases h
  ·rename_i b ha hcp _ hc
   exfalso
   simp only [zS,hc] at h
   cases b <;> first | (simp at h;done) | exact ha rfl | exact hcp rfl
  ·rename_i hc;exfalso;simp only [zS,hc] at h;cases h
 ·simp [zS] at h
 ·simp [zS] at h
 ·simp [zS] at h
 ·simp [zS] at h
 ·have:zJW o=true:=by
   cases o <;> first | rfl | (simp [zS] at h;done) | (exfalso;rename_i hx _ _ _ _;exact hx _ rfl)
  rw [this];exact h

theorem evL_tmps (l:List Value):(wC l.length).map (evL l)=l:=by
 apply List.ext_getElem
 ·simp [wC]
 ·intro i h1 h2
  simp [wC,evL,List.getD,h2]
theorem zVI {c:Call} {ev:Operand→Value} {σ:St} {v:Value} (h:xK P (evL (c.args.toList.map ev)) σ (.call { c with args:=⟨wC c.args.toList.length⟩ })=some v):xK P ev σ (.call c)=some v:=by
 have e:(wC c.args.toList.length).map (evL (c.args.toList.map ev))=c.args.toList.map ev:=by
  have:=evL_tmps (c.args.toList.map ev)
  rwa [List.length_map] at this
 simp only [xK,wB,xS,e] at h ⊢
 exact h

theorem zUX {f:Tm} {σ:St} {o:Op} {as:List Ans} {K:Value→St→List Ans→Prop} (h:zUY P (zTY rec) f σ o as K):∃ v σ' as',opA P rec (yJ f) σ o=some (v,σ')∧K v σ' as':=by
 unfold zUY at h
 split at h
 ·split at h
  ·rename_i v σ' ho;exact ⟨v,σ',_,yFS ho,h⟩
  ·exact h.elim
 ·split at h
  ·rename_i e he;obtain ⟨rfl,h⟩:=h;exact ⟨_,_,_,zBG he,h⟩
  ·exact h.elim
 ·split at h
  ·rename_i k e he;obtain ⟨rfl,h⟩:=h;exact ⟨_,_,_,zBG he,h⟩
  ·exact h.elim
 ·split at h
  ·split at h
   ·rename_i a ha
    exact ⟨_,_,_,zEH rfl (by simp only [xS,ha];exact h.1),h.2⟩
   ·exact h.elim
  ·exact h.elim
 ·split at h
  ·rename_i t x k
   split at h
   ·rename_i kd i a len elem hk hx hd
    split at h
    ·rename_i n hn
     refine ⟨_,_,_,zBG (v:=.pointer (some (zP a (i.toNat*n)))) ?_,h.2⟩
     have h1:leI 0 i=true:=(uC 0 i).2 h.1.1
     have h2:ltI i (.ofNat len)=true:=(zJS i _).2 h.1.2
     simp only [wB,zGQ,hk,hx,hd,hn,h1,h2,Bool.and_self,cond_true]
    ·exact h.elim
   ·rename_i kd i a len cp elem hk hx hd
    split at h
    ·rename_i n hn
     refine ⟨_,_,_,zBG (v:=.pointer (some (zP a (i.toNat*n)))) ?_,h.2⟩
     have h1:leI 0 i=true:=(uC 0 i).2 h.1.1
     have h2:ltI i (.ofNat len)=true:=(zJS i _).2 h.1.2
     simp only [wB,zGQ,hk,hx,hd,hn,h1,h2,Bool.and_self,cond_true]
    ·exact h.elim
   ·exact h.elim
  ·exact h.elim
 ·obtain ⟨hs,h⟩:=h
  refine ⟨_,_,_, ?_,h⟩
  unfold wpSee at hs
  split at hs
  ·exact zEH rfl hs
  ·exact zEH rfl hs
  ·exact zBG hs
  ·exact zBG hs
  ·unfold xK at hs
   split at hs
   ·rename_i v0 hv;cases hs;exact zBG hv
   ·rename_i hv;exact zEH hv hs
  ·have hs:=zVI hs
   unfold xK at hs
   split at hs
   ·rename_i v0 hv;cases hs;exact zBG hv
   ·rename_i hv;exact zEH hv hs
  ·unfold xK at hs
   split at hs
   ·rename_i v0 hv;cases hs;exact zBG hv
   ·rename_i hv;exact zEH hv hs
 ·obtain ⟨he,h⟩:=h
  refine ⟨_,_,_,yWG ?_,h⟩
  unfold wpEff at he
  split at he
  ·exact he
  ·exact he
  ·exact he
  ·exact he
  ·split at he
   ·rename_i hc ht ha
    simp only [zS,hc,ht,ha];exact he
   ·exact he
  ·exact he
 ·split at h
  ·split at h
   ·rename_i fx hc
    split at h
    ·rename_i r args href
     split at h
     ·rename_i hx
      refine ⟨_,_,_, ?_,h.2⟩
      simp only [opA,zPL,hc,href,hx];exact h.1
     ·exact h.elim
    ·exact h.elim
   ·exact h.elim
  ·exact h.elim
 ·exact h.elim

theorem zHA {ops:Array Oper}:∀ (rest:List Oper) (as:List Ans) (f:Tm) (σ:St) (l:List Seen) (K:Tm→St→List Seen→List Ans→Prop),zHT P (zTY rec) ops rest as f σ l K →
  ∃ l' t τ as',zCN P rec ops rest f σ=some (l',t,τ)∧K t τ (l++l') as'
 | [],as,f,σ,l,K,h=>⟨[],f,σ,as,rfl,by rw [List.append_nil];exact h⟩
 | o::rest,as,f,σ,l,K,h=>by
  unfold zHT at h
  split at h
  ·rename_i hg
   obtain ⟨v,σ',as',h1,h2⟩:=zUX h
   obtain ⟨l',t,τ,as2,h3,h4⟩:=zHA rest _ _ _ _ _ h2
   exact ⟨⟨f,v,true,σ,σ'⟩::l',t,τ,as2,by simp [zCN,hg,h1,zMF,uR,h3],by rw [List.append_assoc] at h4;exact h4⟩
  ·rename_i hg
   obtain ⟨l',t,τ,as2,h3,h4⟩:=zHA rest _ _ _ _ _ h
   exact ⟨⟨f,undef,false,σ,σ⟩::l',t,τ,as2,by simp [zCN,hg,uR,h3],by rw [List.append_assoc] at h4;exact h4⟩
  ·exact h.elim

theorem zGG {ops:Array Oper}:∀ (rest:List Oper) (f:Tm) (σ:St) (l:List Seen) (t:Tm) (τ:St),zCN P rec ops rest f σ=some (l,t,τ)→zNT P rec ops rest f σ=some (t,τ)
 | [],f,σ,l,t,τ,h=>by simp [zCN] at h;simp [zNT,h.2.1,h.2.2]
 | o::rest,f,σ,l,t,τ,h=>by
  unfold zCN at h
  split at h
  ·rename_i hg
   split at h
   ·rename_i v σ' hop
    rw [zMF,uR] at h
    split at h
    ·rename_i l' t' τ' hs
     simp at h;obtain ⟨_,rfl,rfl⟩:=h
     have:=zGG rest _ _ _ _ _ hs
     simp [zNT,hg,hop,uR,this]
    ·cases h
   ·cases h
  ·rename_i hg
   rw [uR] at h
   split at h
   ·rename_i l' t' τ' hs
    simp at h;obtain ⟨_,rfl,rfl⟩:=h
    have:=zGG rest _ _ _ _ _ hs
    simp [zNT,hg,uR,this]
   ·cases h
  ·cases h

theorem yXQ:∀ (n:Nat) (v:Value),zK n v=true→veq n v v=true:=by
 intro n
 induction n with
 | zero=>intro v h;simp [zK] at h
 | succ n ih =>
  have lists:∀ (l:List Value),l.all (zK n)=true→veq.veqs n l l=true:=by
   intro l
   induction l with
   | nil=>intro _;rfl
   | cons x l ihl =>
    intro h
    simp only [List.all_cons,Bool.and_eq_true] at h
    simp only [veq.veqs,Bool.and_eq_true]
    exact ⟨ih x h.1,ihl h.2⟩
  intro v h
  cases v with
  | agg cs=>simp only [zK] at h;simp only [veq];exact lists _ h
  | tuple cs=>simp only [zK] at h;simp only [veq];exact lists _ h
  | iface t x=>simp only [zK] at h;simp only [veq,Bool.and_eq_true];exact ⟨Nat.beq_refl _,ih x h⟩
  | func fn f c =>
   cases fn with
   | func g=>simp only [zK,Bool.and_eq_true] at h;simp only [veq,Bool.and_eq_true];exact ⟨⟨Nat.beq_refl _,lists _ h.1⟩,lists _ h.2⟩
   | _=>simp [zK] at h
  | bool b=>simp [veq]
  | int k n=>simp only [zK] at h;simp only [veq,yFJ,Bool.and_eq_true];exact ⟨h,by simp⟩
  | string s=>simp [veq]
  | pointer a=>simp [veq]
  | slice a l c=>simp [veq]
  | map a=>simp [veq]
  | nilFunc=>rfl
  | nilIface=>rfl
  | _=>simp [zK] at h

structure LkOk (P:Program) (o:Oper) (k:Lk) (s:Seen):Prop where
 want:k.want=s.want
 before:k.before=s.before
 after:k.after=s.after
 low:(k.need=true→k.low)→(!s.want || zFE s.before.next s.f o || !(xV o.op || zEG o.op))=true
 look:s.want=true→∀ σ,k.look σ→steady P o s σ=true
inductive LkAll (P:Program):List Oper→List Lk→List Seen→Prop
 | nil:LkAll P [] [] []
 | cons {o:Oper} {k:Lk} {s:Seen} {os:List Oper} {ks:List Lk} {ss:List Seen} (h:LkOk P o k s) (t:LkAll P os ks ss):LkAll P (o::os) (k::ks) (s::ss)
theorem LkAll.get {os:List Oper} {ks:List Lk} {ss:List Seen} (h:LkAll P os ks ss):∀ (i:Nat) (k:Lk),ks[i]?=some k→∃ o s,os[i]?=some o∧ss[i]?=some s∧LkOk P o k s:=by
 induction h with
 | nil=>intro i k h;simp at h
 | cons h _ ih =>
  intro i k hk
  cases i with
  | zero=>simp at hk;subst hk;exact ⟨_,_,rfl,rfl,h⟩
  | succ i=>simpa using ih i k (by simpa using hk)

theorem zGV {n:Nat} {f:Tm} {o:Oper} (h:zH n (o.op.operands.toList.map (yJ f))):zFE n f o=true:=by
 unfold zH at h
 rw [List.all_map] at h
 exact h
theorem yMT {n:Nat} {vs:List Value} (h:vs.all yRX=true):zH n vs:=by
 refine List.all_eq_true.2 (fun v hv=>?_)
 have:=List.all_eq_true.1 h v hv
 cases v <;> first | rfl | (simp [yRX] at this;done)
theorem zYF {n:Nat} {f:Tm} {o:Oper} (h:zH n (yZK f o.op)):zFE n f o=true:=by
 refine List.all_eq_true.2 (fun x hx=>?_)
 cases hx2:isFn x with
 | true=>cases x <;> first | (simp [isFn] at hx2;done) | rfl
 | false =>
  have:=List.all_eq_true.1 h (yJ f x) (List.mem_map_of_mem (List.mem_filter.2 ⟨hx,by rw [hx2];rfl⟩))
  exact this
theorem zHV {o:Oper} {s:Seen} {σ:St} (h1:zFE σ.next s.f o=true) (h2:zK RD s.v=true) (h3:xK P (yJ s.f) σ o.op=some s.v):steady P o s σ=true:=by
 unfold steady
 cases hw:s.want with
 | true=>rw [cond_true,h1,Bool.true_and,h3];exact yXQ _ _ h2
 | false=>rfl
theorem yJY {o:Oper} {s:Seen} {σ:St} (h:ySP P s.f o.op s.v σ):steady P o s σ=true:=by
 unfold ySP at h
 split at h
 ·rename_i t x ho
  split at h
  ·rename_i a ha
   refine zHV ?_ h.1.2 (by rw [ho];simp only [xK,wB,xS,ha];exact h.2)
   refine zGV (n:=σ.next) ?_
   unfold zH
   rw [ho]
   simp only [Op.operands,List.map_cons,List.map_nil,ha,List.all_cons,List.all_nil,Bool.and_true]
   exact (wO _ _).2 h.1.1
  ·exact h.elim
 ·rename_i t x lo hi mx ho
  refine zHV ?_ h.1.2 (by rw [ho];exact h.2)
  refine zGV (n:=σ.next) ?_
  have h1:=h.1.1
  unfold zH at h1 ⊢
  rw [ho]
  cases lo <;> cases hi <;> cases mx <;> simpa [Op.operands,optL] using h1
 ·rename_i t m k ok ho
  refine zHV ?_ h.1.2 (by rw [ho];exact h.2)
  refine zGV (n:=σ.next) ?_
  have h1:=h.1.1
  unfold zH at h1 ⊢
  rw [ho]
  simpa [Op.operands] using h1
 ·rename_i t m k ho
  refine zHV ?_ h.1.2 (by rw [ho];exact h.2)
  refine zGV (n:=σ.next) ?_
  have h1:=h.1.1
  unfold zH at h1 ⊢
  rw [ho]
  simpa [Op.operands] using h1
 ·rename_i c ho
  refine zHV ?_ h.1.2 (by rw [ho];exact zVI h.2.2)
  refine zGV (n:=σ.next) ?_
  have h1:=h.1.1
  unfold zH at h1 ⊢
  rw [ho]
  simpa [Op.operands,Call.operands,h.2.1] using h1
 ·exact h.elim

theorem zJB {ops:Array Oper}:∀ (rest:List Oper) (as:List Ans) (f:Tm) (σ:St) (l:List Lk) (K:Tm→St→List Lk→List Ans→Prop),zFF P (zTY rec) ops rest as f σ l K →
  ∃ l' t τ as' lk,zCN P rec ops rest f σ=some (l',t,τ)∧LkAll P rest lk l'∧K t τ (l++lk) as'
 | [],as,f,σ,l,K,h=>⟨[],f,σ,as,[],rfl,.nil,by rw [List.append_nil];exact h⟩
 | o::rest,as,f,σ,l,K,h=>by
  unfold zFF at h
  split at h
  ·rename_i hg
   obtain ⟨v,σ',as',h1,h2⟩:=zUX h
   obtain ⟨l',t,τ,as2,lk,h3,h4,h5⟩:=zJB rest _ _ _ _ _ h2
   refine ⟨⟨f,v,true,σ,σ'⟩::l',t,τ,as2,⟨true,lowB f o.op,zH σ.next (yZK f o.op),ySP P f o.op v,σ,σ'⟩::lk,by simp [zCN,hg,h1,zMF,uR,h3],.cons ⟨rfl,rfl,rfl,fun hl=>?_,fun _ σ₁ hl=>yJY (s:=⟨f,v,true,σ,σ'⟩) hl⟩ h4,by rw [List.append_assoc] at h5;exact h5⟩
   simp only at hl
   cases ha:xV o.op || zEG o.op with
   | false=>simp
   | true =>
    have hb:zFE σ.next f o=true:=by
     cases ht:(yZK f o.op).all yRX with
     | true=>exact zYF (yMT ht)
     | false=>exact zYF (hl (by unfold lowB;rw [ha,ht];rfl))
    simp only [hb];simp
  ·rename_i hg
   obtain ⟨l',t,τ,as2,lk,h3,h4,h5⟩:=zJB rest _ _ _ _ _ h
   exact ⟨⟨f,undef,false,σ,σ⟩::l',t,τ,as2,⟨false,false,True,fun _=>True,σ,σ⟩::lk,by simp [zCN,hg,uR,h3],.cons ⟨rfl,rfl,rfl,fun _=>rfl,fun h=>by cases h⟩ h4,by rw [List.append_assoc] at h5;exact h5⟩
  ·exact h.elim

theorem zKH:∀ {os:List Oper} {ks:List Lk} {ss:List Seen} {K:Prop},LkAll P os ks ss→zGU ks K→zIU os ss=true∧K
 | [],_,_,_,.nil,hb=>⟨rfl,hb⟩
 | _::_,k::_,_::_,K,.cons h t,hb=>by
  simp only [zGU] at hb
  simp only [zIU,Bool.and_eq_true]
  cases hn:k.need with
  | true =>
   rw [hn] at hb
   obtain ⟨h1,h2⟩:=zKH t hb.2
   exact ⟨⟨h.low (fun _=>hb.1),h1⟩,h2⟩
  | false =>
   rw [hn] at hb
   obtain ⟨h1,h2⟩:=zKH t hb
   exact ⟨⟨h.low (fun e=>by rw [hn] at e;cases e),h1⟩,h2⟩
theorem zGF {ops:Array Oper} {ks:List Lk} {l:List Seen} {K:Prop} (h:LkAll P ops.toList ks l):∀ (ps:List (Nat × Nat)),zAY ks ps K→ps.all (yET P ops l)=true∧K
 | [],hk=>⟨rfl,hk⟩
 | p::ps,hs=>by
  simp only [zAY] at hs
  rw [List.all_cons,Bool.and_eq_true]
  unfold yET
  split at hs
  ·rename_i sj sk e1 e2
   obtain ⟨oj,s1,a1,a2,a3⟩:=h.get _ _ e1
   obtain ⟨_,s2,_,b2,b3⟩:=h.get _ _ e2
   have a1:ops[p.1]?=some oj:=by simpa using a1
   rw [a1,a2,b2]
   simp only
   cases hw:s1.want with
   | true =>
    rw [a3.want,hw] at hs
    simp only at hs
    rw [b3.before,b3.after] at hs
    obtain ⟨g1,g2⟩:=zGF h ps hs.2.2
    rw [a3.look hw _ hs.1,a3.look hw _ hs.2.1]
    exact ⟨⟨rfl,g1⟩,g2⟩
   | false =>
    rw [a3.want,hw] at hs
    obtain ⟨g1,g2⟩:=zGF h ps hs
    exact ⟨⟨by simp [steady,hw],g1⟩,g2⟩
  ·exact hs.elim

theorem yTO (N:Nat) (rd:Option Nat):∀ (c:Code) (as:List Ans) (fr:Fr) (σ:St) (K:Exit→Fr→St→List Ans→Prop),wpC P rec N rd c as fr σ K →
  ∃ e fr' σ' as',yQ P rec N rd c fr σ=some (e,fr',σ')∧K e fr' σ' as':=by
 intro c
 induction c with
 | skip=>intro as fr σ K h;exact ⟨_,_,_,_,rfl,h⟩
 | label _=>intro as fr σ K h;exact ⟨_,_,_,_,rfl,h⟩
 | ret=>intro as fr σ K h;exact ⟨_,_,_,_,rfl,h⟩
 | exit _=>intro as fr σ K h;exact ⟨_,_,_,_,rfl,h⟩
 | goto _=>intro as fr σ K h;cases as <;> exact h.elim
 | refuse _=>intro as fr σ K h;cases as <;> exact h.elim
 | seq x y ihx ihy =>
  intro as fr σ K h
  simp only [wpC] at h
  obtain ⟨e,fr₁,σ₁,as₁,h1,h2⟩:=ihx _ _ _ _ h
  cases e with
  | normal =>
   obtain ⟨e₂,fr₂,σ₂,as₂,h3,h4⟩:=ihy _ _ _ _ h2
   exact ⟨e₂,fr₂,σ₂,as₂,by simp only [yQ,yNC,h1,h3],h4⟩
  | _=>exact ⟨_,fr₁,σ₁,as₁,by simp only [yQ,yNC,h1],h2⟩
 | cond c x y ihx ihy =>
  intro as fr σ K h
  simp only [wpC] at h
  split at h
  ·rename_i hc
   obtain ⟨e,fr₁,σ₁,as₁,h1,h2⟩:=ihx _ _ _ _ h
   exact ⟨e,fr₁,σ₁,as₁,by simp only [yQ,zXQ,hc,h1],h2⟩
  ·rename_i hc
   obtain ⟨e,fr₁,σ₁,as₁,h1,h2⟩:=ihy _ _ _ _ h
   exact ⟨e,fr₁,σ₁,as₁,by simp only [yQ,zXQ,hc,h1],h2⟩
  ·exact h.elim
 | block id c ih =>
  intro as fr σ K h
  simp only [wpC] at h
  obtain ⟨e,fr₁,σ₁,as₁,h1,h2⟩:=ih _ _ _ _ h
  cases e with
  | exit i =>
   simp only at h2
   cases hi:Nat.beq i id with
   | true=>rw [hi] at h2;exact ⟨_,fr₁,σ₁,as₁,by simp only [yQ,zKE,h1,hi,cond_true],h2⟩
   | false=>rw [hi] at h2;exact ⟨_,fr₁,σ₁,as₁,by simp only [yQ,zKE,h1,hi,cond_false],h2⟩
  | _=>exact ⟨_,fr₁,σ₁,as₁,by simp only [yQ,zKE,h1],h2⟩
 | scope c ih=>intro as fr σ K h;exact ih _ _ _ _ h
 | loop c ih =>
  intro as fr σ K h
  cases as with
  | nil=>exact h.elim
  | cons x as=>cases x with
   | lp e fr' σ'=>exact ⟨e,fr',σ',as,h.1,h.2⟩
   | _=>exact h.elim
 | rangeFunc g ps a bo _ _ =>
  intro as fr σ K h
  cases as with
  | nil=>exact h.elim
  | cons x as=>cases x with
   | lp e fr' σ'=>exact ⟨e,fr',σ',as,h.1,h.2⟩
   | _=>exact h.elim
 | region id ops draw =>
  intro as fr σ K h
  simp only [wpC] at h
  cases draw with
  | false =>
   simp only [zKX] at h
   obtain ⟨l',t,τ,as',h1,h2⟩:=zHA _ _ _ _ _ _ h
   exact ⟨.normal,⟨t,fr.marks⟩,τ,as',by simp only [yQ,zMY,zGG _ _ _ _ _ _ h1],h2⟩
  | true =>
   simp only [zKX] at h
   split at h
   ·rename_i h0 hp hf
    obtain ⟨l',t,τ,as',h1,h2⟩:=zHA _ _ _ _ _ _ h
    refine ⟨.normal,⟨t,fr.marks⟩,τ,as', ?_,h2⟩
    simp only [yQ,zMY,zXN,h0,hp,hf,cond_true,zGG _ _ _ _ _ _ h1]
   ·rename_i ps _ h0 hno
    obtain ⟨l',t,τ,as',lk,h1,hlk,h2⟩:=zJB _ _ _ _ _ _ h
    rw [List.nil_append] at h2
    obtain ⟨h3,h2⟩:=zKH hlk h2
    obtain ⟨h4,h2⟩:=zGF hlk _ h2
    refine ⟨.normal,⟨t,fr.marks⟩,τ,as', ?_,h2⟩
    have hd:zXN P rec ops fr.f σ=some (t,τ):=by
     unfold zXN
     rw [h0,cond_true]
     split
     ·exact zGG _ _ _ _ _ _ h1
     ·rw [h1]
      simp only
      rw [h3,h4];rfl
    simp only [yQ,zMY,hd]
   ·exact h.elim

def zPR:List Nat→St→(St→Prop)→Prop
 | [],σ,K=>K σ
 | d::ds,σ,K=>yS σ.heap d=some .defd∧zPR ds (σ.shut d) K
def yGM (P:Program) (f:Tm) (σ:St):List ResultVar→List Ans→List Value→(List Value→Prop)→Prop
 | [],_,vs,K=>K vs
 | .tmp t::rs,as,vs,K=>yGM P f σ rs as (vs++[f.nth t]) K
 | .cell a t::rs,as,vs,K=>match as,f.nth a with
  | .l v::as,.pointer (some a)=>zB P σ t a=some v∧yGM P f σ rs as (vs++[v]) K
  | _,_=>False
def yZM:List Value→Value
 | [v]=>v
 | vs=>.tuple ⟨vs⟩
def zLA (P:Program) (fn:Func) (fr:Fr) (σ:St) (as:List Ans) (K:Value→St→Prop):Prop :=
 zPR fr.marks σ fun σ=>yGM P fr.f σ fn.results.toList as [] fun vs=>K (yZM vs) σ
def wpFn (P:Program) (n:Nat) (f:FuncId) (args:List Value) (as:List Ans) (σ:St) (K:Value→St→Prop):Prop :=
 match P.funcs[f]? with
 | some fn=>match fn.body with
  | some c=>wpC P (zZ P n) n none c as ⟨(Tm.args 0 args).foldl (fun f p=>f.set p.1 p.2) (fresh (args.length+(fn.ntmps-args.length))),[]⟩ σ fun e fr σ as=>match e with
   | .normal=>zLA P fn fr σ as K
   | .ret=>zLA P fn fr σ as K
   | _=>False
  | none=>False
 | none=>False

theorem zNV:∀ (ms:List Nat) (σ:St) (K:St→Prop),zPR ms σ K→∃ σ',zEM ms σ=some σ'∧K σ'
 | [],σ,K,h=>⟨σ,rfl,h⟩
 | d::ds,σ,K,h=>by
  obtain ⟨σ',h1,h2⟩:=zNV ds _ K h.2
  exact ⟨σ',by simp only [zEM,h.1,St.drop_eq,h1],h2⟩
theorem zKW {f:Tm} {σ:St}:∀ (rs:List ResultVar) (as:List Ans) (vs:List Value) (K:List Value→Prop),yGM P f σ rs as vs K→∃ ws,zBH P f σ rs=some ws∧K (vs++ws)
 | [],as,vs,K,h=>⟨[],rfl,by rw [List.append_nil];exact h⟩
 | .tmp t::rs,as,vs,K,h=>by
  obtain ⟨ws,h1,h2⟩:=zKW rs as _ K h
  exact ⟨f.nth t::ws,by simp only [zBH,zPY,h1],by rw [List.append_assoc] at h2;exact h2⟩
 | .cell a t::rs,as,vs,K,h=>by
  unfold yGM at h
  split at h
  ·rename_i v as' a0 ha
   obtain ⟨ws,h1,h2⟩:=zKW rs _ _ K h.2
   exact ⟨v::ws,by simp only [zBH,zPY,ha,h.1,h1],by rw [List.append_assoc] at h2;exact h2⟩
  ·exact h.elim
theorem yDI {fn:Func} {fr:Fr} {σ:St} {as:List Ans} {K:Value→St→Prop} (h:zLA P fn fr σ as K):∃ v σ',zTW P fn fr σ=some (v,σ')∧K v σ':=by
 obtain ⟨σ',h1,h2⟩:=zNV _ _ _ h
 obtain ⟨ws,h3,h4⟩:=zKW _ _ _ _ h2
 rw [List.nil_append] at h4
 refine ⟨yZM ws,σ', ?_,h4⟩
 have:zIC P fn fr.f σ'=some (yZM ws):=by
  unfold zIC
  rw [h3]
  match ws with
  | []=>rfl
  | [v]=>rfl
  | _::_::_=>rfl
 simp only [zTW,h1,this,zMF]
end
end Go.Lay

namespace Go.Lay
open Go

theorem leI_or (a b:Int):(leI a b=true∧a≤b)∨(leI a b=false∧b<a):=by
 by_cases h:a≤b
 ·exact .inl ⟨(uC a b).2 h,h⟩
 ·exact .inr ⟨by rw [yEZ];simp;omega,by omega⟩
theorem ltI_or (a b:Int):(ltI a b=true∧a<b)∨(ltI a b=false∧b≤a):=by
 by_cases h:a<b
 ·exact .inl ⟨(zJS a b).2 h,h⟩
 ·exact .inr ⟨by rw [yEX];simp;omega,by omega⟩
theorem yTC (a b:Int):eqI a b=true↔a=b:=by rw [yFJ];simp
theorem wrap64 {n:Int} (h1:-9223372036854775808≤n) (h2:n≤9223372036854775807):zNU .i64 n=n:=by
 have e1:(2:Int) ^ 64=18446744073709551616:=by decide
 have e2:(2:Int) ^ (64-1)=9223372036854775808:=by decide
 rw [zPQ]
 simp only [IntKind.wrap,IntKind.bits,IntKind.signed,e1,e2,Bool.true_and,decide_eq_true_eq]
 split <;> omega

structure Row (σ:St) (a:Addr) (cs:List Value):Prop where
 rd:yY σ a cs.length=some cs
 lt:a.block<σ.next
structure Le (σ σ':St):Prop where
 next:σ.next≤σ'.next
 get:∀ b,b<σ.next→yS σ'.heap b=yS σ.heap b
def St.re (σ:St):St:=⟨σ.heap,σ.next,σ.next⟩

section
variable {P:Program} {σ σ':St} {a:Addr} {cs:List Value}
theorem Le.refl (σ:St):Le σ σ:=⟨Nat.le_refl _,fun _ _=>rfl⟩
theorem Le.trans {σ₁ σ₂ σ₃:St} (h:Le σ₁ σ₂) (k:Le σ₂ σ₃):Le σ₁ σ₃:=⟨Nat.le_trans h.next k.next,fun b hb=>(k.get b (Nat.lt_of_lt_of_le hb h.next)).trans (h.get b hb)⟩
theorem Le.add (σ:St) (y:Blk):Le σ (σ.add y):=⟨by simp,fun b hb=>by rw [St.add_get,if_neg (Nat.ne_of_lt hb)]⟩
theorem Le.row (σ:St) (cs:List Value) (n:Nat):Le σ (σ.row cs n):=Le.add _ _
theorem yNJ (h:Le σ σ') (hb:a.block<σ.next) (n:Nat):yY σ' a n=yY σ a n:=by
 unfold yY;rw [h.get _ hb]
theorem Row.le (h:Row σ a cs) (l:Le σ σ'):Row σ' a cs:=⟨by rw [yNJ l h.lt];exact h.rd,Nat.lt_of_lt_of_le h.lt l.next⟩
theorem Row.row (h:Row σ a cs) {ds:List Value} {n:Nat}:Row (σ.row ds n) a cs:=h.le (Le.row _ _ _)
theorem Row.re (h:Row σ a cs):Row σ.re a cs:=⟨h.rd,h.lt⟩
theorem Le.re' (h:Le σ σ'):Le σ σ'.re:=⟨h.next,h.get⟩
theorem xE (σ:St) (cs:List Value) (n:Nat):Row (σ.row cs n) ⟨σ.next,0,none⟩ cs:=by
 refine ⟨?_,by simp [St.row]⟩
 have h1:yS (σ.row cs n).heap σ.next=some (.cells cs n [(0,cs.length)] 1 false):=by
  show yS (σ.add _).heap σ.next=_
  rw [St.add_get,if_pos rfl]
 have h2:Nat.ble (0+cs.length) cs.length=true:=(zW _ _).2 (by omega)
 have h3:Nat.beq 0 0=true:=rfl
 unfold yY
 simp only [h1,yI,Option.getD_none,uP,h3,cond_true,h2,List.drop_zero,List.take_length]
theorem Row.part (h:Row σ a cs) {k m:Nat} (hk:k+m≤cs.length):Row σ (zP a k) ((cs.drop k).take m):=by
 have hl:((cs.drop k).take m).length=m:=by simp;omega
 refine ⟨?_,h.lt⟩
 have hr:=h.rd
 rw [hl]
 unfold yY at hr
 split at hr
 ·rename_i bc esz log nx ro hb
  split at hr
  ·rename_i e he
   obtain ⟨hle,hr⟩:=wG hr
   have hle:=(zW _ _).1 hle
   have key:yY σ (zP a k) m=bif Nat.ble (a.off+k+m) e then some ((bc.drop (a.off+k)).take m) else none:=by
    unfold yY
    rw [show yS σ.heap (zP a k).block=some (.cells bc esz log nx ro) from hb]
    show (match uP log (yI a) with | some e=>bif Nat.ble (a.off+k+m) e then some ((bc.drop (a.off+k)).take m) else none | none=>none)=_
    rw [he]
   rw [key,(zW (a.off+k+m) e).2 (by omega),cond_true]
   have hr2:(bc.drop a.off).take cs.length=cs:=by simpa using hr
   congr 1
   rw [show (cs.drop k).take m=((((bc.drop a.off).take cs.length)).drop k).take m from by rw [hr2]]
   rw [List.drop_take,List.drop_drop,List.take_take]
   congr 1
   omega
  ·cases hr
 ·cases hr
theorem Row.load1 (h:Row σ a cs) {t:TypeId} (ht:vU P t=some false) {k:Nat} {v:Value} (hv:cs[k]?=some v):zB P σ t (zP a k)=some v:=by
 have hk:k<cs.length:=(List.getElem?_eq_some_iff.1 hv).1
 have hp:=(h.part (k:=k) (m:=1) (by omega)).rd
 have e:(cs.drop k).take 1=[v]:=by
  rw [List.drop_eq_getElem_cons hk]
  have:=(List.getElem?_eq_some_iff.1 hv).2
  simp [this]
 rw [e] at hp
 unfold zB
 simp only [ht]
 have hp:yY σ (zP a k) 1=some [v]:=hp
 rw [hp]
theorem Row.loadN (h:Row σ a cs) {t:TypeId} {n:Nat} (ht:vU P t=some true) (hs:xB P t=some n) {k:Nat} {ds:List Value} (hd:(cs.drop k).take n=ds) (hl:ds.length=n) (hk:k+n≤cs.length):zB P σ t (zP a k)=some (.agg ⟨ds⟩):=by
 have hp:=(h.part (k:=k) (m:=n) hk).rd
 rw [hd,hl] at hp
 unfold zB
 simp only [ht,hs,hp,Option.map_some]
theorem Row.ld {b k:Nat} {s:Option Nat} (h:Row σ ⟨b,0,s⟩ cs) {t:TypeId} (ht:vU P t=some false) {v:Value} (hv:cs[k]?=some v):zB P σ t ⟨b,k,s⟩=some v:=by
 have:=h.load1 (P:=P) ht hv
 simpa [zP] using this
theorem Row.ldN {b k n:Nat} {s:Option Nat} (h:Row σ ⟨b,0,s⟩ cs) {t:TypeId} (ht:vU P t=some true) (hs:xB P t=some n) {ds:List Value} (hd:(cs.drop k).take n=ds) (hl:ds.length=n) (hk:k+n≤cs.length):zB P σ t ⟨b,k,s⟩=some (.agg ⟨ds⟩):=by
 have:=h.loadN (P:=P) ht hs hd hl hk
 simpa [zP] using this

structure Own (σ:St) (b:Nat) (cs:List Value) (n:Nat):Prop where
 get:yS σ.heap b=some (.cells cs n [(0,cs.length)] 1 false)
 lt:b<σ.next
def St.own (σ:St) (b:Nat) (cs:List Value) (n:Nat):St:=σ.put b (.cells cs n [(0,cs.length)] 1 false)
theorem zC (σ:St) (cs:List Value) (n:Nat):Own (σ.row cs n) σ.next cs n:=⟨by
 show yS (σ.add _).heap σ.next=_
 rw [St.add_get,if_pos rfl],by simp [St.row]⟩
theorem Own.le {b n:Nat} (h:Own σ b cs n) (l:Le σ σ'):Own σ' b cs n:=⟨by rw [l.get _ h.lt];exact h.get,Nat.lt_of_lt_of_le h.lt l.next⟩
theorem Own.row {b n:Nat} (h:Own σ b cs n) {ds:List Value} {m:Nat}:Own (σ.row ds m) b cs n:=h.le (Le.row _ _ _)
theorem Own.add {b n:Nat} (h:Own σ b cs n) {y:Blk}:Own (σ.add y) b cs n:=h.le (Le.add _ _)
theorem Own.own {b n c m:Nat} (h:Own σ b cs n) {ds:List Value} (hne:b≠c):Own (σ.own c ds m) b cs n:=⟨by
 show yS (σ.put _ _).heap b=_
 rw [St.put_get,if_neg hne];exact h.get,h.lt⟩
theorem Own.put {b n:Nat} (h:Own σ b cs n) {ds:List Value}:Own (σ.own b ds n) b ds n:=⟨by
 show yS (σ.put _ _).heap b=_
 rw [St.put_get,if_pos rfl],h.lt⟩
theorem Own.rw {b n:Nat} (h:Own σ b cs n):Row σ ⟨b,0,none⟩ cs:=by
 refine ⟨?_,h.lt⟩
 have h2:Nat.ble (0+cs.length) cs.length=true:=(zW _ _).2 (by omega)
 have h3:Nat.beq 0 0=true:=rfl
 unfold yY
 simp only [h.get,yI,Option.getD_none,uP,h3,cond_true,h2,List.drop_zero,List.take_length]
theorem Row.own {b n:Nat} (h:Row σ a cs) {ds:List Value} (hne:a.block≠b):Row (σ.own b ds n) a cs:=⟨by
 have hr:=h.rd
 unfold yY at hr ⊢
 rw [show yS (σ.own b ds n).heap a.block=yS σ.heap a.block from by
  show yS (σ.put _ _).heap a.block=_
  rw [St.put_get,if_neg hne]]
 exact hr,h.lt⟩
theorem Own.store {b n k:Nat} (h:Own σ b cs n) {t:TypeId} {v:Value} {vs ds:List Value} (hv:v.cells.toList=vs) (hs:xB P t=some vs.length) (hc:vs.all cellB=true) (hk:k+vs.length≤cs.length) (hd:cs.take k++(vs++cs.drop (k+vs.length))=ds) :
  zS P (evL [.pointer (some ⟨b,k,none⟩),v]) σ (.store t (.tmp 0) (.tmp 1))=some (undef,σ.own b ds n):=by
 have h1:Nat.beq v.cells.toList.length vs.length=true:=by rw [hv];exact Nat.beq_refl _
 have h2:(Nat.beq 0 0 && Nat.ble (k+vs.length) cs.length && !false && vs.all cellB)=true:=by
  rw [(zW _ _).2 hk,hc];rfl
 have hl:ds.length=cs.length:=by rw [← hd];simp;omega
 have hw:uT σ ⟨b,k,none⟩ vs=some (σ.own b ds n):=by
  unfold uT
  simp only [h.get,yI,Option.getD_none,h2,cond_true,zHP,St.write_eq,hd]
  unfold St.own
  rw [hl]
 have:zLC P σ t ⟨b,k,none⟩ v=some (σ.own b ds n):=by
  unfold zLC
  rw [hv] at h1 ⊢
  simp only [hs,h1,cond_true,hw]
 show (zLC P σ t ⟨b,k,none⟩ v).map _=_
 rw [this];rfl
@[simp] theorem St.own_next (σ:St) (b:Nat) (cs:List Value) (n:Nat):(σ.own b cs n).next=σ.next:=rfl
@[simp] theorem St.own_low (σ:St) (b:Nat) (cs:List Value) (n:Nat):(σ.own b cs n).low=min σ.low b:=rfl
@[simp] theorem St.row_next (σ:St) (cs:List Value) (n:Nat):(σ.row cs n).next=σ.next+1:=rfl
@[simp] theorem St.row_low (σ:St) (cs:List Value) (n:Nat):(σ.row cs n).low=σ.low:=rfl

def SlP (σ:St) (n:Nat) (p:Option Addr) (len:Nat) (l:List Value):Prop :=
 l.length=len*n∧match p with
  | none=>len=0
  | some a=>Row σ a l
theorem SlP.le {n len:Nat} {p:Option Addr} {l:List Value} (h:SlP σ n p len l) (k:Le σ σ'):SlP σ' n p len l:=by
 refine ⟨h.1, ?_⟩
 cases p with
 | none=>exact h.2
 | some a=>exact Row.le h.2 k
theorem SlP.row {n len:Nat} {p:Option Addr} {l:List Value} (h:SlP σ n p len l) {ds:List Value} {m:Nat}:SlP (σ.row ds m) n p len l:=h.le (Le.row _ _ _)
theorem SlP.re {n len:Nat} {p:Option Addr} {l:List Value} (h:SlP σ n p len l):SlP σ.re n p len l:=h.le (Le.re' (Le.refl _))
theorem SlP.own {n len:Nat} {p:Option Addr} {l:List Value} (h:SlP σ n p len l) {b m:Nat} {ds:List Value} (hb:σ.next≤b∨∀ a,p=Option.some a→a.block≠b):SlP (σ.own b ds m) n p len l:=by
 refine ⟨h.1, ?_⟩
 cases p with
 | none=>exact h.2
 | some a =>
  have hr:Row σ a l:=h.2
  exact hr.own (by rcases hb with hb | hb;exact (have:=hr.lt;by omega);exact hb a rfl)
theorem SlP.some {n len:Nat} {p:Option Addr} {l:List Value} (h:SlP σ n p len l) (hl:0<len):∃ a,p=.some a∧Row σ a l:=by
 cases p with
 | none=>have:=h.2;omega
 | some a=>exact ⟨a,rfl,h.2⟩
theorem Row.sl {n len:Nat} (h:Row σ a cs) (hl:cs.length=len*n):SlP σ n (.some a) len cs:=⟨hl,h⟩
theorem SlP.nil (σ:St) (n:Nat):SlP σ n none 0 []:=⟨by simp,rfl⟩

def Runs (P:Program) (f:FuncId) (args:List Value) (σ:St) (v:Value) (σ':St):Prop:=∃ N0,∀ N,N0≤N→zZ P N (.func f) args σ=some (v,σ')
def zE (P:Program) (f:FuncId) (args:List Value) (σ:St) (v:Value) (σ':St):Prop:=∃ N0,∀ N,N0≤N→zBE (zZ P N) (.func f) args σ=some (v,σ')
end
end Go.Lay

namespace Go.Lay
open Go

def Code.part:List Nat→Code→Code
 | 0::p,.seq a _=>Code.part p a
 | 1::p,.seq _ b=>Code.part p b
 | 0::p,.cond _ a _=>Code.part p a
 | 1::p,.cond _ _ b=>Code.part p b
 | 0::p,.block _ c=>Code.part p c
 | 0::p,.scope c=>Code.part p c
 | 0::p,.loop c=>Code.part p c
 | 0::p,.rangeFunc _ _ a _=>Code.part p a
 | 1::p,.rangeFunc _ _ _ b=>Code.part p b
 | _,c=>c
def zX (P:Program) (f:FuncId):Code:=match P.funcs[f]? with | some fn=>(match fn.body with | some c=>c | none=>.skip) | none=>.skip

def CodeE (P:Program) (rd:Option Nat) (c:Code) (fr:Fr) (σ:St) (e:Exit) (fr':Fr) (σ':St):Prop :=
 ∃ N0,∀ N,N0≤N→yQ P (zZ P N) N rd c fr σ=some (e,fr',σ')
def yMB (P:Program) (rd:Option Nat) (c:Code) (fr:Fr) (σ:St) (e:Exit) (fr':Fr) (σ':St):Prop :=
 ∃ N0,∀ N m,N0≤N→N0≤m→zGM (yQ P (zZ P N) N rd c) m fr σ=some (e,fr',σ')
section
variable {P:Program} {rd:Option Nat} {c:Code} {fr fr' fr₁:Fr} {σ σ' σ₁:St} {e:Exit}
theorem yMB.step (h:CodeE P rd c fr σ .normal fr₁ σ₁) (k:yMB P rd c fr₁ σ₁ e fr' σ'):yMB P rd c fr σ e fr' σ':=by
 obtain ⟨N1,h1⟩:=h
 obtain ⟨N2,h2⟩:=k
 refine ⟨N1+N2+1,fun N m hN hm=>?_⟩
 obtain ⟨m,rfl⟩:∃ m',m=m'+1:=⟨m-1,by omega⟩
 simp only [zGM,h1 N (by omega)]
 exact h2 N m (by omega) (by omega)
theorem yMB.exit (h:CodeE P rd c fr σ e fr' σ') (he:e≠.normal):yMB P rd c fr σ e fr' σ':=by
 obtain ⟨N1,h1⟩:=h
 refine ⟨N1+1,fun N m hN hm=>?_⟩
 obtain ⟨m,rfl⟩:∃ m',m=m'+1:=⟨m-1,by omega⟩
 simp only [zGM,h1 N (by omega)]
 split
 ·rename_i heq;cases heq;exact absurd rfl he
 ·rfl
end

structure Keep (n0:Nat) (σ σ':St):Prop where
 next:σ.next≤σ'.next
 get:∀ b,b<n0→yS σ'.heap b=yS σ.heap b
 low:min σ.low n0≤σ'.low
section
variable {P:Program} {σ σ':St} {a:Addr} {cs:List Value} {n0:Nat}
theorem Keep.trans {σ₁ σ₂ σ₃:St} (h:Keep n0 σ₁ σ₂) (k:Keep n0 σ₂ σ₃):Keep n0 σ₁ σ₃:=⟨Nat.le_trans h.next k.next,fun b hb=>(k.get b hb).trans (h.get b hb),by have:=h.low;have:=k.low;omega⟩
theorem Keep.add (hn:n0≤σ.next) (y:Blk):Keep n0 σ (σ.add y):=⟨by simp,fun b hb=>by rw [St.add_get,if_neg (by omega)],by simp;omega⟩
theorem Keep.put {b:Nat} (hb:n0≤b) (y:Blk):Keep n0 σ (σ.put b y):=⟨by simp,fun c hc=>by rw [St.put_get,if_neg (by omega)],by simp;omega⟩
theorem Row.keep (h:Row σ a cs) (k:Keep n0 σ σ') (hb:a.block<n0):Row σ' a cs:=⟨by
 have:=h.rd
 unfold yY at this ⊢
 rw [k.get _ hb];exact this,Nat.lt_of_lt_of_le h.lt k.next⟩
theorem SlP.keep {n len:Nat} {p:Option Addr} {l:List Value} (h:SlP σ n p len l) (k:Keep σ.next σ σ'):SlP σ' n p len l:=by
 refine ⟨h.1, ?_⟩
 cases p with
 | none=>exact h.2
 | some a =>
  have hr:Row σ a l:=h.2
  exact hr.keep k hr.lt

inductive App (σ:St) (n0 n:Nat):Value→Nat→List Value→Prop
 | nil:App σ n0 n (.slice none 0 0) 0 []
 | more {b s nx len:Nat} {cs:List Value} {sp:Option Nat} {log:List (Nat × Nat)} (h:yS σ.heap b=some (.cells cs n ((s,cs.length)::log) nx false)) (hs:sp.getD 0=s) (hb:n0≤b) (hlt:b<σ.next) (hl:cs.length=len*n) (hp:0<len) (hsn:s<nx) :
   App σ n0 n (.slice (some ⟨b,0,sp⟩) len (len+zAV)) len cs

def isIntD:TypeDesc→Bool
 | .int _=>true
 | _=>false
structure AppT (P:Program) (st xt e n:Nat):Prop where
 el:wJ P st=some (e,n)
 src:∃ xd,P.underlying xt=some xd∧isIntD xd=false
 info:∃ ei z,P.info? e=some ei∧ei.zero=some z∧ei.bytes≤4096∧zV RD z=true∧Nat.beq z.cells.toList.length n=true
 le:n≤4096
 pos:0<n
def appTB (P:Program) (st xt e n:Nat):Bool :=
 (match wJ P st with | some (e',n')=>Nat.beq e e' && Nat.beq n n' | none=>false) &&
 (match P.underlying xt with | some xd=>!isIntD xd | none=>false) &&
 (match P.info? e with | some ei=>(match ei.zero with | some z=>Nat.ble ei.bytes 4096 && zV RD z && Nat.beq z.cells.toList.length n | none=>false) | none=>false) &&
 Nat.ble n 4096 && Nat.blt 0 n
theorem zKK {P:Program} {st xt e n:Nat} (h:appTB P st xt e n=true):AppT P st xt e n:=by
 unfold appTB at h
 simp only [Bool.and_eq_true] at h
 obtain ⟨⟨⟨⟨h1,h2⟩,h3⟩,h4⟩,h5⟩:=h
 refine ⟨?_, ?_, ?_,(zW _ _).1 h4,(zW _ _).1 h5⟩
 ·split at h1
  ·rename_i e' n' he
   simp only [Bool.and_eq_true] at h1
   rw [he,Nat.eq_of_beq_eq_true h1.1,Nat.eq_of_beq_eq_true h1.2]
  ·cases h1
 ·split at h2
  ·rename_i xd hx;exact ⟨xd,hx,by simpa using h2⟩
  ·cases h2
 ·split at h3
  ·rename_i ei hi
   split at h3
   ·rename_i z hz
    simp only [Bool.and_eq_true] at h3
    exact ⟨ei,z,hi,hz,(zW _ _).1 h3.1.1,h3.1.2,h3.2⟩
   ·cases h3
  ·cases h3

theorem zCW (x:Nat):yO (x+zAV)=x:=by unfold yO;rw [if_pos (by omega)];omega
theorem zHR (x:Nat):xC (x+zAV)=false:=by rw [Bool.eq_false_iff];intro e;have:=(yX _).1 e;omega
theorem uH:0<zAV:=by unfold zAV;decide

theorem yRE {st xt e n m k len:Nat} {v:Value} {a2:Addr} {xs:List Value} (T:AppT P st xt e n) (hA:App σ n0 n v len cs) (hr:Row σ a2 xs) (hm:xs.length=m*n) (hp:0<m) (hroom:len+m≤1073741824) (hc:xs.all cellB=true) (hn0:n0≤σ.next) :
  ∃ v' σ',yK P st xt v (.slice (some a2) m k) σ=some (v',σ')∧App σ' n0 n v' (len+m) (cs++xs)∧Keep n0 σ σ':=by
 obtain ⟨xd,hxd,hxi⟩:=T.src
 obtain ⟨ei,z,hei,hz,hby,hrz,hzl⟩:=T.info
 have hrd:=hr.rd
 rw [hm] at hrd
 have hsrc:zCJ σ n z xd (.slice (some a2) m k)=some (m,xs):=by
  unfold zCJ
  cases xd with
  | int _=>cases hxi
  | _=>simp only [wY,hrd,Option.map_some]
 have hcond:(zCO (len+m) n ei.bytes && xs.all cellB && Nat.beq xs.length (m*n) && zV RD z && Nat.beq z.cells.toList.length n)=true:=by
  unfold zCO
  rw [(zW _ _).2 hroom,(zW _ _).2 T.le,(zW _ _).2 hby,hc,hm,Nat.beq_refl,hrz,hzl];rfl
 have hble:∀ x:Nat,Nat.ble (x+m) x=false:=fun x=>by rw [Bool.eq_false_iff];intro e;have:=(zW _ _).1 e;omega
 cases hA with
 | nil =>
  refine ⟨.slice (some ⟨σ.next,0,none⟩) (0+m) (0+m+zAV),σ.add (.cells xs n [(0,xs.length)] 1 false), ?_, ?_,Keep.add hn0 _⟩
  ·have hc0:yO 0=0:=by unfold yO;have:=uH;rw [if_neg (by omega)]
   have hc1:xC 0=true:=(yX 0).2 uH
   unfold yK
   simp only [T.el,hxd,hei,hz,hsrc,hcond,cond_true,uS,hc0,hble,cond_false,hc1,Nat.beq_refl,yP]
  ·have e1:0+m=m:=Nat.zero_add m
   rw [e1,List.nil_append]
   exact .more (b:=σ.next) (s:=0) (nx:=1) (log:=[]) (by rw [St.add_get,if_pos rfl]) rfl hn0 (by simp) hm hp (by omega)
 | @more b s nx _ _ sp log h hs hb hlt hl hpp hsn =>
  have hex:uP ((s,cs.length)::log) (yI ⟨b,0,sp⟩)=some cs.length:=by
   have:Nat.beq s (yI ⟨b,0,sp⟩)=true:=by unfold yI;simp only [hs];exact Nat.beq_refl _
   simp only [uP,this,cond_true]
  have hlf:vG ((s,cs.length)::log) (yI ⟨b,0,sp⟩)=(s,cs.length)::log:=by
   have:Nat.beq s (yI ⟨b,0,sp⟩)=true:=by unfold yI;simp only [hs];exact Nat.beq_refl _
   simp only [vG,this,cond_true]
  have hg:(Nat.beq len len && Nat.beq (0+len*n) cs.length && Nat.beq n n && !false && Nat.blt 0 n)=true:=by
   rw [Nat.beq_refl,Nat.zero_add,hl,Nat.beq_refl,Nat.beq_refl,(wO 0 n).2 T.pos];rfl
  refine ⟨.slice (some ⟨b,0,some nx⟩) (len+m) (len+m+zAV),σ.put b (.cells (cs.take cs.length++xs) n ((nx,cs.length+m*n)::(s,cs.length)::log) (nx+1) false), ?_, ?_,Keep.put hb _⟩
  ·unfold yK
   simp only [T.el,hxd,hei,hz,hsrc,hcond,cond_true,uS,zCW,hble,cond_false,zHR,zKM,h,hex,hg,zHP,vQ,St.write_eq,hlf]
  ·refine .more (b:=b) (s:=nx) (nx:=nx+1) (log:=(s,cs.length)::log) ?_ rfl hb hlt ?_ (by omega) (by omega)
   ·rw [St.put_get,if_pos rfl,List.take_length]
    simp [hm]
   ·simp [hl,hm,Nat.add_mul]
theorem App.sl {v:Value} {n len:Nat} (h:App σ n0 n v len cs):∃ p cap,v=.slice p len cap∧SlP σ n p len cs:=by
 cases h with
 | nil=>exact ⟨none,0,rfl,SlP.nil _ _⟩
 | @more b s nx _ _ sp log h hs hb hlt hl hp hsn =>
  refine ⟨_,_,rfl,hl, ?_,hlt⟩
  have hex:uP ((s,cs.length)::log) (yI ⟨b,0,sp⟩)=some cs.length:=by
   have:Nat.beq s (yI ⟨b,0,sp⟩)=true:=by unfold yI;simp only [hs];exact Nat.beq_refl _
   simp only [uP,this,cond_true]
  have h2:Nat.ble (0+cs.length) cs.length=true:=(zW _ _).2 (by omega)
  unfold yY
  simp only [h,hex,h2,cond_true,List.drop_zero,List.take_length]
theorem App.keep {v:Value} {n len:Nat} (h:App σ n0 n v len cs) (hk:Le σ σ'):App σ' n0 n v len cs:=by
 cases h with
 | nil=>exact .nil
 | more h hs hb hlt hl hp hsn=>exact .more (by rw [hk.get _ hlt];exact h) hs hb (Nat.lt_of_lt_of_le hlt hk.next) hl hp hsn
def vI (vs:List Value):List Value:=vs.flatMap fun v=>v.cells.toList
def zHQ (P:Program) (t:TypeId) (n:Nat) (v:Value):Prop :=
 (vU P t=some false∧n=1∧v.cells.toList=[v])∨(vU P t=some true∧xB P t=some n∧∃ cs:List Value,v=.agg ⟨cs⟩∧cs.length=n)
theorem zHQ.len {t n:Nat} {v:Value} (h:zHQ P t n v):v.cells.toList.length=n:=by
 rcases h with ⟨_,h1,h2⟩ | ⟨_,_,ds,rfl,h⟩
 ·rw [h2,h1];rfl
 ·exact h
theorem yKT {t n:Nat}:∀ {vs:List Value} {i:Nat} {v:Value},(∀ v∈vs,zHQ P t n v)→vs[i]?=some v→((vI vs).drop (i*n)).take n=v.cells.toList∧i*n+n≤(vI vs).length
 | [],i,v,_,h=>by simp at h
 | x::vs,0,v,hv,h=>by
  simp at h;subst h
  have h1:=(hv x (by simp)).len
  unfold vI
  rw [List.flatMap_cons,Nat.zero_mul,List.drop_zero,Nat.zero_add,List.length_append]
  exact ⟨by rw [← h1,List.take_left'  rfl],by omega⟩
 | x::vs,i+1,v,hv,h=>by
  have h1:=(hv x (by simp)).len
  have ih:=yKT (vs:=vs) (i:=i) (v:=v) (fun x hx=>hv x (by simp [hx])) (by simpa using h)
  unfold vI at ih ⊢
  rw [List.flatMap_cons,Nat.add_mul,Nat.one_mul,List.length_append]
  refine ⟨?_,by omega⟩
  rw [show i*n+n=x.cells.toList.length+i*n by omega,List.drop_append]
  simp only [Nat.add_sub_cancel_left]
  rw [List.drop_of_length_le (by omega),List.nil_append]
  exact ih.1
theorem Row.el {vs:List Value} {t n i:Nat} {v:Value} (h:Row σ a (vI vs)) (he:∀ v∈vs,zHQ P t n v) (hv:vs[i]?=some v):zB P σ t (zP a (i*n))=some v:=by
 obtain ⟨h1,h2⟩:=yKT he hv
 rcases he v (List.mem_of_getElem? hv) with ⟨g1,g2,g3⟩ | ⟨g1,g2,ds,rfl,g3⟩
 ·subst g2
  refine h.load1 g1 ?_
  rw [g3] at h1
  have:=congrArg (fun l=>l[0]?) h1
  simp only [List.getElem?_cons_zero] at this
  rw [List.getElem?_take_of_lt (by omega),List.getElem?_drop] at this
  simpa using this
 ·exact h.loadN g1 g2 h1 g3 h2
def SlV (P:Program) (σ:St) (t n:Nat) (p:Option Addr) (len:Nat) (vs:List Value):Prop:=SlP σ n p len (vI vs)∧vs.length=len∧∀ v∈vs,zHQ P t n v
theorem SlV.le {t n len:Nat} {p:Option Addr} {vs:List Value} (h:SlV P σ t n p len vs) (k:Le σ σ'):SlV P σ' t n p len vs:=⟨h.1.le k,h.2⟩
theorem SlV.row {t n len:Nat} {p:Option Addr} {vs:List Value} (h:SlV P σ t n p len vs) {ds:List Value} {m:Nat}:SlV P (σ.row ds m) t n p len vs:=⟨h.1.row,h.2⟩
theorem SlV.re {t n len:Nat} {p:Option Addr} {vs:List Value} (h:SlV P σ t n p len vs):SlV P σ.re t n p len vs:=⟨h.1.re,h.2⟩
theorem SlV.keep {t n len:Nat} {p:Option Addr} {vs:List Value} (h:SlV P σ t n p len vs) (k:Keep σ.next σ σ'):SlV P σ' t n p len vs:=⟨h.1.keep k,h.2⟩
theorem SlV.own {t n len:Nat} {p:Option Addr} {vs:List Value} (h:SlV P σ t n p len vs) {b m:Nat} {ds:List Value} (hb:σ.next≤b∨∀ a,p=Option.some a→a.block≠b):SlV P (σ.own b ds m) t n p len vs:=⟨h.1.own hb,h.2⟩
theorem SlV.some {t n len i:Nat} {p:Option Addr} {vs:List Value} (h:SlV P σ t n p len vs) (hi:i<len):∃ a,p=.some a∧Row σ a (vI vs):=h.1.some (by omega)
theorem SlV.at {t n len i:Nat} {p:Option Addr} {vs:List Value} {a:Addr} {v:Value} (h:SlV P σ t n p len vs) (hp:p=Option.some a) (hv:vs[i]?=Option.some v):zB P σ t (zP a (Int.toNat (i:Int)*n))=Option.some v:=by
 subst hp
 have hr:Row σ a (vI vs):=h.1.2
 rw [Int.toNat_natCast]
 exact hr.el h.2.2 hv
theorem zAS {t:Nat} (h:vU P t=some false) (k:IntKind) (n:Int):zHQ P t 1 (.int k n):=.inl ⟨h,rfl,rfl⟩

end
end Go.Lay

namespace Go.Lay
open Go

def zLH (ι:Inj) (b c o z:Nat):Inj:={ ι with loc:=fun b' s=>if b'=b∧s=0 then some ⟨c,0,o,z⟩ else ι.loc b' s }
structure Ro (ι:Inj) (w:World):Prop where
 own:∀ c,ι.own c=none
 csz:∀ (c:Nat) arr el fr,w.heap[c]?=some (.cells arr el fr)→ι.csz c=arr.size
def yHG (w:World):Inj:={ loc:=fun _ _=>none,own:=fun _=>none,csz:=fun c=>match w.heap[c]? with | some (.cells arr _ _)=>arr.size | _=>0 }
theorem yYH (w:World):Rep (yHG w) yZS w∧Ro (yHG w) w :=
 ⟨⟨fun b y h=>by simp [yZS,yS,Tr.getP_leaf] at h,fun _ _ _ h=>by simp [yHG] at h,fun _ _ h=>by simp [yHG] at h,fun _ _ _=>rfl⟩,⟨fun _=>rfl,fun c arr el fr h=>by simp [yHG,h]⟩⟩

section
variable {P:Program} {w:World} {ι:Inj} {σ σ':St}

theorem yAJ (hr:Rep ι σ w) (c o z:Nat):Sub ι (zLH ι σ.next c o z):=by
 refine ⟨fun b s L h=>?_,fun _ _ _ _=>rfl⟩
 simp only [zLH]
 rw [if_neg];exact h
 rintro ⟨rfl,rfl⟩
 rw [hr.fresh _ _ (Nat.le_refl _)] at h;cases h

theorem add_ro (hr:Rep ι σ w) (ho:Ro ι w) {c o:Nat} {arr:Array Value} {el:TypeId} {fr:Nat × Nat} (hc:w.heap[c]?=some (.cells arr el fr)) {rs:List Value} (z:Nat) (hl:o+rs.length≤arr.size)
  (hv:∀ (j:Nat) v,rs[j]?=some v→∃ v',arr[o+j]?=some v'∧VR ι v v') :
  Rep (zLH ι σ.next c o z) (σ.add (.cells rs z [(0,rs.length)] 1 true)) w∧Ro (zLH ι σ.next c o z) w:=by
 have hs:=yAJ hr c o z
 have hcw:c<w.heap.size:=by
  have:=(Array.getElem?_eq_some_iff.1 hc).1;exact this
 refine ⟨⟨fun b y hb=>?_,fun b s L h=>?_,fun c' b h=>?_,fun b s h=>?_⟩,⟨ho.own,ho.csz⟩⟩
 ·rw [St.add_get] at hb
  by_cases hbn:b=σ.next
  ·rw [if_pos hbn] at hb;cases hb;subst hbn
   refine ⟨by simp,.cells (fun s e hm=>?_) (by simp) (fun s₁ e₁ s₂ e₂ L₁ L₂ h₁ h₂ l₁ l₂ _=>?_) (fun s hs'=>?_)⟩
   ·simp at hm;obtain ⟨rfl,rfl⟩:=hm
    refine ⟨by omega,Nat.le_refl _,⟨c,0,o,z⟩,by simp [zLH],⟨arr,el,fr,hc,(ho.csz _ _ _ _ hc).symm,by simp,by simpa using hl,fun j _ h2=>?_⟩,rfl,Nat.zero_le _,by simpa [zLH] using ho.own c⟩
    obtain ⟨v',g1,g2⟩:=hv j rs[j] (by simp [h2])
    exact ⟨rs[j],v',by simp [h2],by simpa using g1,g2.sub hs⟩
   ·simp at h₁ h₂
    obtain ⟨rfl,_⟩:=h₁
    obtain ⟨rfl,_⟩:=h₂
    rw [l₁] at l₂;cases l₂;rfl
   ·simp only [zLH]
    rw [if_neg (by omega)];exact hr.fresh _ _ (Nat.le_refl _)
  ·rw [if_neg hbn] at hb
   have h:=hr.blk b y hb
   refine ⟨by simp;omega,h.2.keepS hs (fun s L _=>rfl) (fun _ _ _ _=>rfl) (fun cs esz log next ro hyy s hs'=>?_)⟩
   have:=h.2;subst hyy
   cases this with
   | cells _ _ _ fresh =>
    simp only [zLH]
    rw [if_neg (fun e=>hbn e.1)];exact fresh s hs'
 ·simp only [zLH] at h
  split at h
  ·cases h;exact hcw
  ·exact hr.lt _ _ _ h
 ·have:ι.own c'=some b:=h
  rw [ho.own c'] at this;cases this
 ·simp only [zLH]
  simp at h
  rw [if_neg (by omega)];exact hr.fresh _ _ (by omega)

def zSK (P:Program):List Field→Nat→Nat→Bool
 | [],o,tot=>Nat.beq o tot
 | f::fs,o,tot=>Nat.beq f.offset o && zSK P fs (o+P.cellsOf f.type) tot
def zJP (P:Program):Nat→TypeId→Bool
 | 0,_=>false
 | n+1,t=>match P.underlying t with
  | some .bool=>true
  | some (.int _)=>true
  | some .string=>true
  | some (.slice e)=>Nat.blt 0 (P.cellsOf e) && zJP P n e
  | some (.struct fs)=>zSK P fs.toList 0 (P.cellsOf t) && fs.toList.all fun f=>zJP P n f.type
  | _=>false
def WT (P:Program) (σ:St):Nat→TypeId→List Value→Prop
 | 0,_,_=>False
 | n+1,t,cs=>match P.underlying t with
  | some .bool=>∃ b,cs=[.bool b]
  | some (.int k)=>∃ i,cs=[.int k i]∧k.min≤i∧i≤k.max
  | some .string=>∃ s:ByteArray,cs=[.string s]∧s.size≤maxLen
  | some (.slice e)=>cs=[.slice none 0 0]∨∃ b len cap rs,cs=[.slice (some ⟨b,0,none⟩) len cap]∧len≤maxLen∧(len≤yO cap∧xC cap=true)∧rs.length=len*P.cellsOf e ∧
    yS σ.heap b=some (.cells rs (P.cellsOf e) [(0,rs.length)] 1 true)∧b<σ.next∧∀ i,i<len→WT P σ n e ((rs.drop (i*P.cellsOf e)).take (P.cellsOf e))
  | some (.struct fs)=>cs.length=P.cellsOf t∧∀ f∈fs.toList,f.offset+P.cellsOf f.type≤cs.length∧WT P σ n f.type ((cs.drop f.offset).take (P.cellsOf f.type))
  | _=>False

theorem WT.le:∀ {n:Nat} {t:TypeId} {cs:List Value},WT P σ n t cs→Le σ σ'→WT P σ' n t cs:=by
 intro n
 induction n with
 | zero=>intro t cs h;exact h.elim
 | succ n ih =>
  intro t cs h k
  unfold WT at h ⊢
  split at h <;> rename_i hu
  ·exact h
  ·exact h
  ·exact h
  ·rcases h with h | ⟨b,len,cap,rs,h1,h2,h3,h4,h5,h6,h7⟩
   ·exact .inl h
   ·exact .inr ⟨b,len,cap,rs,h1,h2,h3,h4,by rw [k.get _ h6];exact h5,Nat.lt_of_lt_of_le h6 k.next,fun i hi=>ih (h7 i hi) k⟩
  ·exact ⟨h.1,fun f hf=>⟨(h.2 f hf).1,ih (h.2 f hf).2 k⟩⟩
  ·exact h.elim

theorem yLN {a:Addr} {arr:Array Value} {el:TypeId} {fr:Nat × Nat} (hc:w.heap[a.block]?=some (.cells arr el fr)) (hs:a.spot=none) (m i:Nat):w.cell? ((a.add m).add i)=arr[a.off+m+i]?:=by
 have key:∀ (x:Addr) (j:Nat),x.spot=none→(x.add j).block=x.block∧(x.add j).off=x.off+j∧(x.add j).spot=none:=by
  intro x j hx
  unfold Addr.add
  split
  ·rename_i e;subst e;exact ⟨rfl,rfl,hx⟩
  ·exact ⟨rfl,rfl,rfl⟩
 obtain ⟨k1,k2,k3⟩:=key a m hs
 obtain ⟨k4,k5,k6⟩:=key (a.add m) i k3
 simp only [World.cell?,k4,k1,hc,k6,k5,k2,Option.isSome_none]
 rfl

variable {H:Type} {enc:TypeId × Value→H} {held:Bool}

def zPP (w:World) (cs':List Value):Prop:=∀ A len cap,Value.slice (some A) len cap∈cs'→∃ (c:Nat) (arr:Array Value) (el:TypeId) (fr:Nat × Nat),w.heap[c]?=some (.cells arr el fr)
def yDD (P:Program) (w:World) (ι:Inj) (σ:St) (cs':List Value) (Q:St→List Value→Prop):Prop :=
 ∃ ι' σ' cs,Rep ι' σ' w∧Ro ι' w∧Sub ι ι'∧Le σ σ'∧VRs ι' cs cs'∧Q σ' cs

theorem yCR:∀ {fs:List Field} {o tot:Nat},zSK P fs o tot=true→o≤tot
 | [],o,tot,h=>by have:=Nat.eq_of_beq_eq_true h;omega
 | f::fs,o,tot,h=>by
  simp only [zSK,Bool.and_eq_true] at h
  have:=yCR h.2;omega

theorem yJP {n fuel:Nat}
  (ih:∀ t,zJP P n t=true→∀ fuel cs' x ι σ,DataW.trod enc P w 0 (fun _=>true) held fuel t cs'=some x→Rep ι σ w→Ro ι w→zPP w cs'→yDD P w ι σ cs' fun σ' cs=>WT P σ' n t cs) {cs':List Value} (hrow:zPP w cs') :
  ∀ (fs:List Field) (o:Nat) (ι:Inj) (σ:St),zSK P fs o cs'.length=true→(∀ f∈fs,zJP P n f.type=true)→(∀ f∈fs,∃ x,DataW.trod enc P w 0 (fun _=>true) held fuel f.type ((cs'.drop f.offset).take (P.cellsOf f.type))=some x) →
   Rep ι σ w→Ro ι w→yDD P w ι σ (cs'.drop o) fun σ' cs=>∀ f∈fs,o≤f.offset∧f.offset+P.cellsOf f.type≤cs'.length∧WT P σ' n f.type ((cs.drop (f.offset-o)).take (P.cellsOf f.type)):=by
 intro fs
 induction fs with
 | nil =>
  intro o ι σ hc _ _ hr ho
  have:=Nat.eq_of_beq_eq_true hc
  refine ⟨ι,σ,[],hr,ho,Sub.refl _,Le.refl _, ?_,fun f hf=>by cases hf⟩
  rw [List.drop_of_length_le (by omega)];exact .nil
 | cons f fs ihf =>
  intro o ι σ hc hp ht hr ho
  simp only [zSK,Bool.and_eq_true] at hc
  have hoff:=Nat.eq_of_beq_eq_true hc.1
  have hle:=yCR hc.2
  obtain ⟨x,hx⟩:=ht f (by simp)
  obtain ⟨ι₁,σ₁,c1,r1,o1,s1,l1,v1,w1⟩:=ih f.type (hp f (by simp)) _ _ _ ι σ hx hr ho (fun A len cap hm=>hrow A len cap (List.mem_of_mem_drop (List.mem_of_mem_take hm)))
  obtain ⟨ι₂,σ₂,c2,r2,o2,s2,l2,v2,w2⟩:=ihf (o+P.cellsOf f.type) ι₁ σ₁ hc.2 (fun g hg=>hp g (by simp [hg])) (fun g hg=>ht g (by simp [hg])) r1 o1
  have hlen:c1.length=P.cellsOf f.type:=by rw [v1.length];simp;omega
  refine ⟨ι₂,σ₂,c1++c2,r2,o2,s1.trans s2,l1.trans l2, ?_,fun g hg=>?_⟩
  ·have e:cs'.drop o=(cs'.drop f.offset).take (P.cellsOf f.type)++cs'.drop (o+P.cellsOf f.type):=by
    rw [hoff,← List.drop_drop,List.take_append_drop]
   rw [e]
   exact VRs.append (v1.sub s2) v2
  ·rcases List.mem_cons.1 hg with rfl | hg
   ·refine ⟨by omega,by omega, ?_⟩
    rw [hoff,Nat.sub_self,List.drop_zero,← hlen,List.take_left']
    ·exact w1.le l2
    ·rfl
   ·obtain ⟨g1,g2,g3⟩:=w2 g hg
    refine ⟨by omega,g2, ?_⟩
    have e:(c1++c2).drop (g.offset-o)=c2.drop (g.offset-(o+P.cellsOf f.type)):=by
     rw [List.drop_append,List.drop_of_length_le (by omega),List.nil_append]
     congr 1;omega
    rw [e];exact g3

theorem zWS {n fuel:Nat} {e:TypeId} {a:Addr} {arr:Array Value} {el:TypeId} {fr:Nat × Nat} (hc:w.heap[a.block]?=some (.cells arr el fr)) (hs:a.spot=none)
  (ih:∀ fuel cs' x ι σ,DataW.trod enc P w 0 (fun _=>true) held fuel e cs'=some x→Rep ι σ w→Ro ι w→zPP w cs'→yDD P w ι σ cs' fun σ' cs=>WT P σ' n e cs) (hr:Rep ι σ w) (ho:Ro ι w) :
  ∀ (k:Nat),(∀ i,i<k→∃ x,(w.cells? 0 (a.add (i*P.cellsOf e)) (P.cellsOf e)).bind (DataW.trod enc P w 0 (fun _=>true) held fuel e)=some x) →
   ∃ (ι':Inj) (σ':St) (rs:List Value),Rep ι' σ' w∧Ro ι' w∧Sub ι ι'∧Le σ σ'∧rs.length=k*P.cellsOf e∧(∀ i,i<k→WT P σ' n e ((rs.drop (i*P.cellsOf e)).take (P.cellsOf e))) ∧
    ∀ (j:Nat) v,rs[j]?=some v→∃ v',arr[a.off+j]?=some v'∧VR ι' v v'
 | 0,_=>⟨ι,σ,[],hr,ho,Sub.refl _,Le.refl _,by simp,fun i hi=>by omega,fun j v h=>by simp at h⟩
 | k+1,ht=>by
  obtain ⟨ι₁,σ₁,rs,r1,o1,s1,l1,n1,w1,v1⟩:=zWS hc hs ih hr ho k (fun i hi=>ht i (by omega))
  obtain ⟨x,hx⟩:=ht k (by omega)
  simp only [Option.bind_eq_some_iff] at hx
  obtain ⟨chunk,hch,hx⟩:=hx
  obtain ⟨_,hlen,hcells⟩:=World.cells?_some hch
  obtain ⟨ι₂,σ₂,c,r2,o2,s2,l2,v2,w2⟩:=ih _ _ _ ι₁ σ₁ hx r1 o1 (fun _ _ _ _=>⟨_,_,_,_,hc⟩)
  have hcl:c.length=P.cellsOf e:=by rw [v2.length];exact hlen
  refine ⟨ι₂,σ₂,rs++c,r2,o2,s1.trans s2,l1.trans l2,by rw [List.length_append,n1,hcl,Nat.add_mul];omega,fun i hi=>?_,fun j v hj=>?_⟩
  ·by_cases hik:i<k
   ·have h1:i*P.cellsOf e+P.cellsOf e≤rs.length:=by
     rw [n1,show i*P.cellsOf e+P.cellsOf e=(i+1)*P.cellsOf e by rw [Nat.add_mul,Nat.one_mul]]
     exact Nat.mul_le_mul_right _ hik
    have e1:((rs++c).drop (i*P.cellsOf e)).take (P.cellsOf e)=(rs.drop (i*P.cellsOf e)).take (P.cellsOf e):=by
     rw [List.drop_append_of_le_length (by omega),List.take_append_of_le_length (by simp;omega)]
    rw [e1];exact (w1 i hik).le l2
   ·have:i=k:=by omega
    subst this
    rw [← n1,List.drop_left' rfl,List.take_of_length_le (by omega)];exact w2
  ·by_cases hjr:j<rs.length
   ·rw [List.getElem?_append_left hjr] at hj
    obtain ⟨v',g1,g2⟩:=v1 j v hj
    exact ⟨v',g1,g2.sub s2⟩
   ·rw [List.getElem?_append_right (by omega)] at hj
    obtain ⟨v',g1,g2⟩:=v2.get_some hj
    have hjc:j-rs.length<P.cellsOf e:=by rw [← hcl];exact (List.getElem?_eq_some_iff.1 hj).1
    refine ⟨v', ?_,g2⟩
    have:=hcells (j-rs.length) hjc
    rw [yLN hc hs,g1] at this
    rw [← this,← n1];congr 1;omega

theorem yPH:∀ (n:Nat) (t:TypeId),zJP P n t=true→∀ (fuel:Nat) (cs':List Value) (x:DataW H × List MemPlace) (ι:Inj) (σ:St),DataW.trod enc P w 0 (fun _=>true) held fuel t cs'=some x→Rep ι σ w→Ro ι w→zPP w cs' →
  yDD P w ι σ cs' fun σ' cs=>WT P σ' n t cs:=by
 intro n
 induction n with
 | zero=>intro t h;simp [zJP] at h
 | succ n ih =>
  intro t hp fuel cs' x ι σ h hr ho hrow
  have one:∀ (v:Value),zV RD v=true→cs'=[v]→WT P σ (n+1) t [v]→yDD P w ι σ cs' fun σ' cs=>WT P σ' (n+1) t cs :=
   fun v hv e hw=>⟨ι,σ,[v],hr,ho,Sub.refl _,Le.refl _,by rw [e];exact .cons (.refl_rigid _ hv) .nil,hw⟩
  unfold zJP at hp
  split at hp <;> rename_i hu
  ·obtain ⟨b,e,_⟩:=DataW.trod_bool hu h
   exact one _ rfl e (by unfold WT;rw [hu];exact ⟨b,rfl⟩)
  ·obtain ⟨i,e,_,hw⟩:=DataW.trod_int hu h
   exact one _ rfl e (by unfold WT;rw [hu];exact ⟨i,rfl,by simpa [Lit.wf] using hw⟩)
  ·obtain ⟨s,e,_,hw⟩:=DataW.trod_string hu h
   exact one _ rfl e (by unfold WT;rw [hu];exact ⟨s,rfl,hw⟩)
  ·rename_i e
   simp only [Bool.and_eq_true] at hp
   have hpos:0<P.cellsOf e:=(wO _ _).1 hp.1
   rcases DataW.trod_slice hu h with ⟨hcs,_⟩ | ⟨a,len,cap,elems,rest,m,rfl,hcs,_,_,hle,hmax,hel,hget,hrest,_⟩
   ·exact one _ rfl hcs (by unfold WT;rw [hu];exact .inl rfl)
   ·
    have hx:xC cap=true:=(yX cap).2 (by unfold zAV;unfold maxLen at hmax;omega)
    obtain ⟨capA,hcapR,hcl,hc0⟩:∃ capA,zMI capA cap∧(len≤yO capA∧xC capA=true)∧(cap=0→capA=0) :=
     ⟨cap,by unfold zMI;rw [if_pos hx],⟨by have:=(yX cap).1 hx;unfold yO;rw [if_neg (by omega)];exact hle,hx⟩,fun e=>e⟩
    have fin:∀ {ι₁:Inj} {σ₁:St} {rs:List Value} {c o:Nat} {arr:Array Value} {el:TypeId} {fr:Nat × Nat},Rep ι₁ σ₁ w→Ro ι₁ w→Sub ι ι₁→Le σ σ₁→w.heap[c]?=some (.cells arr el fr)→rs.length=len*P.cellsOf e →
      (∀ i,i<len→WT P σ₁ n e ((rs.drop (i*P.cellsOf e)).take (P.cellsOf e)))→(∀ (j:Nat) v,rs[j]?=some v→∃ v',arr[o+j]?=some v'∧VR ι₁ v v')→o+cap*P.cellsOf e≤arr.size →
      (a=⟨c,o,none⟩∨(len=0∧capA=0∧cap=0))→yDD P w ι σ cs' fun σ' cs=>WT P σ' (n+1) t cs:=by
     intro ι₁ σ₁ rs c o arr el fr hr1 ho1 hs1 hl1 hc hlen hw hv hsz hA
     have hlo:len*P.cellsOf e≤cap*P.cellsOf e:=Nat.mul_le_mul_right _ hle
     obtain ⟨g1,g2⟩:=add_ro hr1 ho1 hc (P.cellsOf e) (by omega) hv
     have hsub:=yAJ hr1 c o (P.cellsOf e)
     refine ⟨_,_,[.slice (some ⟨σ₁.next,0,none⟩) len capA],g1,g2,hs1.trans hsub,hl1.trans (Le.add _ _), ?_, ?_⟩
     ·rw [hcs]
      refine .cons (.slice (L:=⟨c,0,o,P.cellsOf e⟩) (by simp [zLH,yI]) (Nat.zero_le _) ?_ hcapR ?_) .nil
      ·rcases hA with rfl | hA
       ·exact .inl (by simp [Loc.at])
       ·exact .inr ⟨hA.1,by rw [hA.2.1];unfold yO;split <;> omega,hA.2.2⟩
      ·show o+(0-0)+cap*P.cellsOf e≤ι₁.csz c
       rw [ho1.csz _ _ _ _ hc];omega
     ·unfold WT;rw [hu]
      refine .inr ⟨σ₁.next,len,capA,rs,rfl,by omega,hcl,hlen,by rw [St.add_get,if_pos rfl],by simp,fun i hi=>(hw i hi).le (Le.add _ _)⟩
    by_cases hcap:cap=0
    ·
     subst hcap
     have hl0:len=0:=by omega
     have hca:capA=0:=hc0 rfl
     obtain ⟨c,arr,el,fr,hc⟩:=hrow a len 0 (by rw [hcs];simp)
     exact fin (rs:=[]) (o:=0) hr ho (Sub.refl _) (Le.refl _) hc (by rw [hl0];simp) (fun i hi=>by omega) (fun j v hj=>by simp at hj) (by omega) (.inr ⟨hl0,hca,rfl⟩)
    ·
     have hall:∀ i,i<cap→∃ x,(w.cells? 0 (a.add (i*P.cellsOf e)) (P.cellsOf e)).bind (DataW.trod enc P w 0 (fun _=>true) held m e)=some x:=by
      intro i hi
      by_cases hil:i<len
      ·exact ⟨elems[i]'(by omega),by rw [hget i hil];simp⟩
      ·obtain ⟨r1,r2⟩:=hrest rfl
       have:=r2 (i-len) (by omega)
       rw [show len+(i-len)=i by omega] at this
       exact ⟨rest[i-len]'(by omega),by rw [this];simp⟩
     obtain ⟨x0,hx0⟩:=hall 0 (by omega)
     simp only [Option.bind_eq_some_iff] at hx0
     obtain ⟨ch0,hc0,_⟩:=hx0
     obtain ⟨_,hl0,hcell0⟩:=World.cells?_some hc0
     have h00:=hcell0 0 hpos
     have ha0:(a.add (0*P.cellsOf e)).add 0=a:=by simp [Addr.add]
     rw [ha0] at h00
     have hsome:∃ v,w.cell? a=some v:=⟨ch0[0]'(by omega),by rw [h00];simp⟩
     obtain ⟨v0,hv0⟩:=hsome
     obtain ⟨arr,el,fr,hc,hsp⟩:∃ arr el fr,w.heap[a.block]?=some (.cells arr el fr)∧a.spot=none:=by
      unfold World.cell? at hv0
      split at hv0
      ·rename_i arr el fr hc
       refine ⟨arr,el,fr,hc, ?_⟩
       cases hs:a.spot with
       | none=>rfl
       | some s=>rw [hs] at hv0;simp at hv0
      ·cases hv0
     obtain ⟨ι₁,σ₁,rs,r1,o1,s1,l1,n1,w1,v1⟩:=zWS hc hsp (fun fuel cs' x ι σ=>ih e hp.2 fuel cs' x ι σ) hr ho len (fun i hi=>hall i (by omega))
     refine fin r1 o1 s1 l1 hc n1 w1 v1 ?_ (.inl ?_)
     ·obtain ⟨x1,hx1⟩:=hall (cap-1) (by omega)
      simp only [Option.bind_eq_some_iff] at hx1
      obtain ⟨ch1,hc1,_⟩:=hx1
      obtain ⟨_,hl1,hcell1⟩:=World.cells?_some hc1
      have h1:=hcell1 (P.cellsOf e-1) (by omega)
      rw [yLN hc hsp] at h1
      have hb:a.off+(cap-1)*P.cellsOf e+(P.cellsOf e-1)<arr.size:=by
       rcases Nat.lt_or_ge (a.off+(cap-1)*P.cellsOf e+(P.cellsOf e-1)) arr.size with hlt | hge
       ·exact hlt
       ·rw [Array.getElem?_eq_none hge] at h1
        have:ch1[P.cellsOf e-1]?=some (ch1[P.cellsOf e-1]'(by omega)):=by simp
        rw [this] at h1;cases h1
      have e1:(cap-1)*P.cellsOf e+P.cellsOf e=cap*P.cellsOf e:=by
       rw [show cap*P.cellsOf e=(cap-1+1)*P.cellsOf e by rw [Nat.sub_add_cancel (by omega)],Nat.add_mul,Nat.one_mul]
      omega
     ·cases a with | mk b o s=>simp at hsp;subst hsp;rfl
  ·rename_i fs
   simp only [Bool.and_eq_true] at hp
   obtain ⟨xs,m,rfl,_,hl,hxl,hget⟩:=DataW.trod_struct hu h
   obtain ⟨ι₁,σ₁,c,r1,o1,s1,l1,v1,w1⟩:=yJP (fuel:=m) ih hrow fs.toList 0 ι σ (by rw [hl];exact hp.1) (fun f hf=>List.all_eq_true.1 hp.2 f hf) (fun f hf=>by
    obtain ⟨i,hi⟩:=List.getElem?_of_mem hf
    have hi2:fs[i]?=some f:=by simpa using hi
    have hlt:i<xs.length:=by rw [hxl];exact (Array.getElem?_eq_some_iff.1 hi2).1
    exact ⟨xs[i],by rw [hget i f hi2];simp [hlt]⟩) hr ho
   refine ⟨ι₁,σ₁,c,r1,o1,s1,l1,by simpa using v1, ?_⟩
   unfold WT;rw [hu]
   have hcl:c.length=cs'.length:=by have:=v1.length;simpa using this
   refine ⟨by rw [hcl,hl],fun f hf=>?_⟩
   obtain ⟨_,g2,g3⟩:=w1 f hf
   exact ⟨by omega,by simpa using g3⟩
  ·cases hp
end
end Go.Lay

namespace Go.Lay
open Go

def zDO (P:Program) (R:Nat→Rec) (rd:Option Nat) (c:Code) (fr:Fr) (σ:St) (e:Exit) (fr':Fr) (σ':St):Prop:=∃ N0,∀ N,N0≤N→yQ P (R N) N rd c fr σ=some (e,fr',σ')
def zUC (P:Program) (R:Nat→Rec) (rd:Option Nat) (c:Code) (fr:Fr) (σ:St) (e:Exit) (fr':Fr) (σ':St):Prop :=
 ∃ N0,∀ N m,N0≤N→N0≤m→zGM (yQ P (R N) N rd c) m fr σ=some (e,fr',σ')
section
variable {P:Program} {R:Nat→Rec} {rd:Option Nat} {c:Code} {fr fr' fr₁:Fr} {σ σ' σ₁:St} {e:Exit}
theorem zUC.step (h:zDO P R rd c fr σ .normal fr₁ σ₁) (k:zUC P R rd c fr₁ σ₁ e fr' σ'):zUC P R rd c fr σ e fr' σ':=by
 obtain ⟨N1,h1⟩:=h
 obtain ⟨N2,h2⟩:=k
 refine ⟨N1+N2+1,fun N m hN hm=>?_⟩
 obtain ⟨m,rfl⟩:∃ m',m=m'+1:=⟨m-1,by omega⟩
 simp only [zGM,h1 N (by omega)]
 exact h2 N m (by omega) (by omega)
theorem zUC.exit (h:zDO P R rd c fr σ e fr' σ') (he:e≠.normal):zUC P R rd c fr σ e fr' σ':=by
 obtain ⟨N1,h1⟩:=h
 refine ⟨N1+1,fun N m hN hm=>?_⟩
 obtain ⟨m,rfl⟩:∃ m',m=m'+1:=⟨m-1,by omega⟩
 simp only [zGM,h1 N (by omega)]
 split
 ·rename_i heq;cases heq;exact absurd rfl he
 ·rfl
end

section
variable {P:Program} {σ σ':St}
theorem Own.ld {b n k:Nat} {cs:List Value} {s:Option Nat} (h:Own σ b cs n) (hs:s=none) {t:TypeId} (ht:vU P t=some false) {v:Value} (hv:cs[k]?=some v):zB P σ t ⟨b,k,s⟩=some v:=by subst hs;exact h.rw.ld ht hv
theorem Own.ldN {b n k m:Nat} {cs ds:List Value} (h:Own σ b cs n) {t:TypeId} (ht:vU P t=some true) (hs:xB P t=some m) (hd:(cs.drop k).take m=ds) (hl:ds.length=m) (hk:k+m≤cs.length):zB P σ t ⟨b,k,none⟩=some (.agg ⟨ds⟩) :=
 h.rw.ldN ht hs hd hl hk

theorem Row.ld1 {a:Addr} {v:Value} (h:Row σ a [v]) {t:TypeId} (ht:vU P t=some false):zB P σ t a=some v:=by
 have:=h.load1 (P:=P) ht (k:=0) (v:=v) rfl
 simpa [zP] using this
theorem yH {n:Nat} {v:Value} (h:zV RD v=true):yU RD n v=true:=by
 have key:∀ (d:Nat) (v:Value),zV d v=true→yU d n v=true:=by
  intro d
  induction d with
  | zero=>intro v h;simp [zV] at h
  | succ d ih =>
   intro v h
   have lists:∀ (l:List Value),l.all (zV d)=true→l.all (yU d n)=true:=fun l hl=>List.all_eq_true.2 (fun x hx=>ih x (List.all_eq_true.1 hl x hx))
   cases v with
   | agg cs=>simp only [zV] at h;simp only [yU];exact lists _ h
   | tuple cs=>simp only [zV] at h;simp only [yU];exact lists _ h
   | iface t x=>simp only [zV] at h;simp only [yU];exact ih x h
   | pointer a=>cases a with | none=>rfl | some _=>simp [zV,zCA] at h
   | slice a l c=>cases a with | none=>rfl | some _=>simp [zV,zCA] at h
   | map a=>cases a with | none=>rfl | some _=>simp [zV,zCA] at h
   | func fn f c =>
    cases fn with
    | func g=>simp only [zV,Bool.and_eq_true] at h;simp only [yU,Bool.and_eq_true];exact ⟨⟨trivial,lists _ h.1⟩,lists _ h.2⟩
    | _=>simp [zV,zCA] at h
   | _=>rfl
 exact key RD v h
theorem zI {n:Nat} {a:Addr} (h:a.block<n):yU RD n (.pointer (some a))=true:=(wO _ _).2 h
theorem zKI {n l c:Nat} {a:Addr} (h:a.block<n):yU RD n (.slice (some a) l c)=true:=(wO _ _).2 h
theorem yA {n l c:Nat} {p:Option Addr} (h:∀ a,p=some a→a.block<n):yU RD n (.slice p l c)=true:=by
 cases p with
 | none=>rfl
 | some a=>exact zKI (h a rfl)
theorem zF {n:Nat}:zH n []:=rfl
theorem zD {n:Nat} {v:Value} {vs:List Value} (h:yU RD n v=true) (t:zH n vs):zH n (v::vs):=by
 unfold zH at t ⊢
 rw [List.all_cons,h,t];rfl
theorem Le.own {b n:Nat} {ds:List Value} (h:Le σ σ') (hb:σ.next≤b):Le σ (σ'.own b ds n):=⟨h.next,fun c hc=>by
 show yS (σ'.put _ _).heap c=_
 rw [St.put_get,if_neg (by omega)];exact h.get c hc⟩
theorem zHX {t n len:Nat} {vs:List Value} (h:SlV P σ t n none len vs):SlV P σ' t n none len vs:=⟨⟨h.1.1,h.1.2⟩,h.2⟩
theorem xH {t n len:Nat} {p:Option Addr} {vs:List Value} (h:SlV P σ t n p len vs):∀ a,p=some a→a.block<σ.next:=by
 intro a e;subst e
 exact (show Row σ a (vI vs) from h.1.2).lt
theorem zCT (xs ys:List Value):vI (xs++ys)=vI xs++vI ys:=by simp [vI]
theorem zBY (xs:List Int) (k:IntKind):vI (xs.map fun x=>.int k x)=xs.map fun x=>.int k x:=by
 induction xs with
 | nil=>rfl
 | cons x xs ih =>
  rw [List.map_cons,show (Value.int k x::xs.map fun x=>Value.int k x)=[Value.int k x]++xs.map fun x=>Value.int k x from rfl,zCT,ih]
  rfl
theorem App.ge {n0 n len:Nat} {p:Option Addr} {c:Nat} {cs:List Value} (h:App σ n0 n (.slice p len c) len cs):∀ a,p=some a→n0≤a.block:=by
 intro a e
 subst e
 cases h with
 | more h hs hb hlt hl hp hsn=>exact hb
theorem app_step {st xt e n m k len n0:Nat} {a2:Addr} {p:Option Addr} {c:Nat} {cs xs:List Value} (T:AppT P st xt e n) (hA:App σ n0 n (.slice p len c) len cs) (hr:Row σ a2 xs) (hm:xs.length=m*n) (hp:0<m) (hroom:len+m≤1073741824)
  (hc:xs.all cellB=true) (hn0:n0≤σ.next):∃ p' c' σ',yK P st xt (.slice p len c) (.slice (some a2) m k) σ=some (.slice p' (len+m) c',σ')∧App σ' n0 n (.slice p' (len+m) c') (len+m) (cs++xs)∧Keep n0 σ σ':=by
 obtain ⟨v',σ',h1,h2,h3⟩:=yRE (k:=k) T hA hr hm hp hroom hc hn0
 obtain ⟨p',c',rfl,_⟩:=h2.sl
 exact ⟨p',c',σ',h1,h2,h3⟩
theorem App.slv {n0 n len t:Nat} {p:Option Addr} {c:Nat} {vs:List Value} (h:App σ n0 n (.slice p len c) len (vI vs)) (hl:vs.length=len) (he:∀ v∈vs,zHQ P t n v):SlV P σ t n p len vs:=by
 obtain ⟨p',c',e,hs⟩:=h.sl
 cases e
 exact ⟨hs,hl,he⟩
theorem App.lt {n0 n len:Nat} {p:Option Addr} {c:Nat} {cs:List Value} (h:App σ n0 n (.slice p len c) len cs):∀ a,p=some a→a.block<σ.next:=by
 intro a e
 subst e
 cases h with
 | more h hs hb hlt hl hp hsn=>exact hlt
theorem zWP {f:FuncId} {args:List Value} {v:Value} (h:Runs P f args σ.re v σ') (hl:σ.next≤σ'.low) (hv:zV RD v=true):zE P f args σ v σ:=by
 obtain ⟨N0,hN⟩:=h
 refine ⟨N0,fun N hNN=>?_⟩
 have h1:=hN N hNN
 unfold zBE
 rw [show (⟨σ.heap,σ.next,σ.next⟩:St)=σ.re from rfl,h1]
 show zCF σ v σ'=_
 unfold zCF
 rw [(zW _ _).2 hl,hv];rfl
structure New (σ σ':St):Prop where
 le:Le σ σ'
 low:∀ m,m≤σ.low→m≤σ.next→m≤σ'.low
theorem New.refl (σ:St):New σ σ:=⟨Le.refl _,fun _ h _=>h⟩
theorem New.trans {σ₁ σ₂ σ₃:St} (h:New σ₁ σ₂) (k:New σ₂ σ₃):New σ₁ σ₃:=⟨h.le.trans k.le,fun m h1 h2=>k.low m (h.low m h1 h2) (Nat.le_trans h2 h.le.next)⟩
theorem New.row (σ:St) (cs:List Value) (n:Nat):New σ (σ.row cs n):=⟨Le.row _ _ _,fun _ h _=>h⟩
theorem New.add (σ:St) (y:Blk):New σ (σ.add y):=⟨Le.add _ _,fun _ h _=>h⟩
theorem new_c {f:FuncId} {args:List Value} {v:Value} {Q:Value→St→Prop} (h:Runs P f args σ.re v σ') (hn:New σ.re σ') (hq:Q v σ') (hQ:∀ s s',Q v s→Le s s'→Q v s') (hr:zV RD v=true→Q v σ) :
  ∃ v σ'',zE P f args σ v σ''∧New σ σ''∧Q v σ'':=by
 obtain ⟨N0,hN⟩:=h
 have h2:σ.next≤σ'.low:=hn.low _ (Nat.le_refl _) (Nat.le_refl _)
 have h3:σ.next≤σ'.next:=hn.le.next
 cases hrv:zV RD v with
 | true =>
  refine ⟨v,σ,⟨N0,fun N hNN=>?_⟩,New.refl _,hr hrv⟩
  have h1:=hN N hNN
  unfold zBE
  rw [show (⟨σ.heap,σ.next,σ.next⟩:St)=σ.re from rfl,h1]
  show zCF σ v σ'=_
  unfold zCF
  rw [(zW _ _).2 h2,hrv];rfl
 | false =>
  refine ⟨v,⟨σ'.heap,σ'.next,min σ.low σ'.low⟩,⟨N0,fun N hNN=>?_⟩,⟨⟨h3,fun b hb=>hn.le.get b hb⟩,fun m h4 h5=>?_⟩,hQ _ _ hq ⟨Nat.le_refl _,fun _ _=>rfl⟩⟩
  ·have h1:=hN N hNN
   unfold zBE
   rw [show (⟨σ.heap,σ.next,σ.next⟩:St)=σ.re from rfl,h1]
   show zCF σ v σ'=_
   unfold zCF
   rw [hrv,Bool.and_false,cond_false,(zW _ _).2 h3,cond_true,vQ,zFC]
  ·show m≤min σ.low σ'.low
   omega
theorem xJ {a b:Int} (h:a≤b):leI a b=true:=(uC a b).2 h
theorem xU {a b:Int} (h:¬ a≤b):leI a b=false:=by rw [yEZ];simp;omega
theorem zU {a b:Int} (h:a<b):ltI a b=true:=(zJS a b).2 h
theorem zY {a b:Int} (h:¬ a<b):ltI a b=false:=by rw [yEX];simp;omega
theorem xL {a b:Int} (h:a=b):eqI a b=true:=(yTC a b).2 h
theorem yZ {a b:Int} (h:¬ a=b):eqI a b=false:=by rw [Bool.eq_false_iff];exact fun e=>h ((yTC a b).1 e)
theorem zBO {a b:Int} (h:¬ a=b):(!eqI a b)=true:=by rw [yZ h];rfl
theorem uB {a b:Int} (h:a=b):(!eqI a b)=false:=by rw [xL h];rfl
end
end Go.Lay

namespace Go.Lay
open Go
section
variable {P:Program} {rec:Rec} {ι:Inj} {σ σ':St} {w:World}

def yZF (aw:FuncId) (rec:Rec):Rec:=fun r args σ=>match r with
 | .func f=>match args with
  | []=>bif Nat.beq f aw then some (.bool true,σ) else rec (.func f) [] σ
  | a::l=>rec (.func f) (a::l) σ
 | .yield l=>rec (.yield l) args σ
def zPW (P:Program) (aw:FuncId) (N:Nat):Rec:=yZF aw (zZ P N)
structure ShutF (P:Program) (aw:FuncId):Prop where
 ok : ∀ (ι : Inj) (σ : St) (w : World), Rep ι σ w → (∃ fn, P.funcs[aw]? = some fn ∧ fn.body.isSome = true ∧ fn.name ≠ "runtime.NumGoroutine") ∧ ∀ n, CallsIn (Fw none) n P aw ⟨[]⟩ w (zMR ι σ w (.bool true) σ)
theorem yJN {aw:FuncId} (h:RecSound P rec) (hc:ShutF P aw):RecSound P (yZF aw rec):=by
 refine ⟨fun f args σ v σ' hr ι w args' hrep ha=>?_,fun l args σ v σ' hr=>h.yield l args σ v σ' hr⟩
 cases args with
 | cons a l=>exact h.func f (a::l) σ v σ' hr ι w args' hrep ha
 | nil =>
  have hr:(bif Nat.beq f aw then some (.bool true,σ) else rec (.func f) [] σ)=some (v,σ'):=hr
  rcases zCX hr with ⟨hf,hr⟩ | ⟨_,hr⟩
  ·have hf:=Nat.eq_of_beq_eq_true hf
   simp at hr;obtain ⟨rfl,rfl⟩:=hr
   subst hf
   cases ha
   exact hc.ok ι σ w hrep
  ·exact h.func f [] σ v σ' hr ι w args' hrep ha
theorem yMU (hP:ProgOk P) {aw:FuncId} (hc:ShutF P aw) (N:Nat):RecSound P (zPW P aw N):=yJN (zJF hP N) hc
theorem yWP (hP:ProgOk P) {l:List Ent} (hl:zMP P l) {N:Nat} {f:FuncId} (h:okB (zKS P (yJX l (zZ P N)) N f [] yZS)=true):ShutF P f:=by
 refine ⟨fun ι σ w hr=>?_⟩
 obtain ⟨σ',hb⟩:=yZQ h
 obtain ⟨h1,h2⟩:=zHF hP (zPF hP hl N) hb (rep_no w) .nil
 refine ⟨h1,fun n=>CallsIn.mono (h2 n) (fun e w' hR=>?_)⟩
 cases e with
 | returned v' =>
  obtain ⟨ι',hv,hg⟩:=hR
  have hs:∀ c,c<w.heap.size→w'.heap[c]?=w.heap[c]?:=fun c hc=>hg.pres.same c hc (fun b hb=>by simp [ySN] at hb)
  have hv:=hv.bool_inv;subst hv
  exact ⟨ι,.bool true,Ext.refl _ _ _,hr.grown hg.pres.size hs,⟨hg.pres.size,fun c hc _=>hs c hc,hg.pres.tape,hg.pres.os,hg.pres.output,hg.pres.fr⟩,Nat.le_refl _,Nat.le_refl _⟩
 | panicked _=>exact hR.elim
 | outgrown=>exact hR.elim
theorem yTT {aw:FuncId} {N:Nat}:zBE (zPW P aw N) (.func aw) [] σ=some (.bool true,σ):=by
 unfold zBE
 have e:zPW P aw N (.func aw) [] ⟨σ.heap,σ.next,σ.next⟩=some (.bool true,⟨σ.heap,σ.next,σ.next⟩):=by
  show (bif Nat.beq aw aw then _ else _)=_
  rw [Nat.beq_refl];rfl
 rw [e]
 show zCF σ _ _=_
 unfold zCF
 rw [(zW _ _).2 (Nat.le_refl _)];rfl

variable {H:Type} {enc:TypeId × Value→H} {held:Bool}
def WTs (P:Program) (σ:St) (n:Nat):List TypeId→List Value→Prop
 | [],[]=>True
 | t::ts,v::vs=>WT P σ n t v.cells.toList∧WTs P σ n ts vs
 | _,_=>False
theorem yPG {n:Nat} {t:TypeId} {v:Value} {d:DataW H} {ps:List MemPlace} (hp:zJP P n t=true) (h:DataW.Trod enc P w 0 (fun _=>true) held t v d ps) (hr:Rep ι σ w) (ho:Ro ι w) (hrow:zPP w v.cells.toList) :
  ∃ ι' σ' av,Rep ι' σ' w∧Ro ι' w∧Sub ι ι'∧Le σ σ'∧VR ι' av v∧WT P σ' n t av.cells.toList:=by
 obtain ⟨fuel,h⟩:=h
 obtain ⟨ι',σ',cs,r1,o1,s1,l1,v1,w1⟩:=yPH n t hp fuel _ _ ι σ h hr ho hrow
 have one:(∀ c,v≠.agg c)→v.cells.toList=[v]→∃ ι' σ' av,Rep ι' σ' w∧Ro ι' w∧Sub ι ι'∧Le σ σ'∧VR ι' av v∧WT P σ' n t av.cells.toList:=by
  intro hna e
  rw [e] at v1
  cases v1 with
  | cons hx hn =>
   cases hn
   rename_i x
   refine ⟨ι',σ',x,r1,o1,s1,l1,hx, ?_⟩
   have hc:=hx.cells
   rw [e] at hc
   have:x.cells.toList=[x]:=by
    cases x with
    | agg cs =>
     exfalso
     cases hx with
     | atom hat=>exact absurd hat (by simp [zCA])
     | agg _ _=>exact hna _ rfl
    | _=>rfl
   rw [this];exact w1
 cases v with
 | agg c =>
  refine ⟨ι',σ',.agg ⟨cs⟩,r1,o1,s1,l1, ?_,w1⟩
  cases c with | mk l=>exact VR.agg' v1
 | _=>exact one (by simp) rfl
theorem yJQ {n:Nat}:∀ {ts:List TypeId} {vs:List Value} {ds:List (DataW H)} {ps:List MemPlace} {ι:Inj} {σ:St},DataW.TrodAll enc P w 0 (fun _=>true) held ts vs ds ps→(∀ t∈ts,zJP P n t=true)→Rep ι σ w→Ro ι w→(∀ v∈vs,zPP w v.cells.toList) →
  ∃ ι' σ' avs,Rep ι' σ' w∧Ro ι' w∧Le σ σ'∧Sub ι ι'∧VRs ι' avs vs∧WTs P σ' n ts avs
 | [],[],[],ps,ι,σ,h,_,hr,ho,_=>⟨ι,σ,[],hr,ho,Le.refl _,Sub.refl _,.nil,trivial⟩
 | t::ts,v::vs,d::ds,ps,ι,σ,h,hp,hr,ho,hrow=>by
  obtain ⟨p,q,h1,h2,_⟩:=h
  obtain ⟨ι1,σ1,av,r1,o1,s1,l1,v1,w1⟩:=yPG (hp t (by simp)) h1 hr ho (hrow v (by simp))
  obtain ⟨ι2,σ2,avs,r2,o2,l2,s2,v2,w2⟩:=yJQ h2 (fun t ht=>hp t (by simp [ht])) r1 o1 (fun v hv=>hrow v (by simp [hv]))
  exact ⟨ι2,σ2,av::avs,r2,o2,l1.trans l2,s1.trans s2,.cons (v1.sub s2) v2,w1.le l2,w2⟩
 | [],_::_,_,_,_,_,h,_,_,_,_=>h.elim
 | _::_,[],_,_,_,_,h,_,_,_,_=>h.elim
 | [],[],_::_,_,_,_,h,_,_,_,_=>h.elim
 | _::_,_::_,[],_,_,_,h,_,_,_,_=>h.elim

theorem yVW {t:TypeId} {v:Value} (h:Value.okWide P w .any 0 t v):zPP w v.cells.toList:=by
  have cell:∀ {u:TypeId} {A:Addr} {len cap:Nat},Cell.okWide P w .any 0 u (.slice (some A) len cap)→∃ (c:Nat) (arr:Array Value) (el:TypeId) (fr:Nat × Nat),w.heap[c]?=some (.cells arr el fr):=by
    intro u A len cap hc
    have hok:Cell.ok P w .any 0 u (.slice (some A) len cap):=by
      unfold Cell.okWide at hc
      split at hc <;> first | exact hc | (rename_i heq;cases heq)
    unfold Cell.ok at hok
    split at hok <;> first | (rename_i heq;cases heq;done) | skip
    all_goals first
      | (rename_i heq;cases heq;obtain ⟨_,_,_,_,row,cells,hs,_⟩:=hok
         unfold World.shape? at hs
         split at hs
         · rename_i c elem hh;exact ⟨_,_,_,_,hh⟩
         · cases hs)
      | exact hok.elim
      | skip
  intro A len cap hm
  unfold Value.okWide at h
  split at h
  · obtain ⟨cs,rfl,_,ts,_,_,hc⟩:=h
    obtain ⟨i,hi⟩:=List.getElem?_of_mem hm
    obtain ⟨u,_,hu⟩:=hc i _ (by simpa [Value.cells] using hi)
    exact cell hu
  · obtain ⟨cs,rfl,_,ts,_,_,hc⟩:=h
    obtain ⟨i,hi⟩:=List.getElem?_of_mem hm
    obtain ⟨u,_,hu⟩:=hc i _ (by simpa [Value.cells] using hi)
    exact cell hu
  · cases v with
    | slice a l c =>
      simp [Value.cells] at hm
      obtain ⟨rfl,rfl,rfl⟩:=hm
      exact cell h
    | agg cs =>
      exfalso
      unfold Cell.okWide at h
      split at h <;> first | (rename_i heq;cases heq;done) | skip
      unfold Cell.ok at h
      split at h <;> first | (rename_i heq;cases heq;done) | exact h.elim | skip
    | _=>simp [Value.cells] at hm
end
end Go.Lay

namespace Go.Lay
open Go Go.RowKit
theorem zOF {W W':World} (h:Grown W W') {b:Nat} (hb:b<W.heap.size):W'.heap[b]?=W.heap[b]?:=by
 have:=h.1.2.2 b hb
 split at this
 ·rename_i c t fr c' t' fr' h1 h2
  obtain ⟨rfl,rfl,hs,hj⟩:=this
  rw [h1,h2]
  have:c'=c:=Array.ext_getElem? (fun j=>hj j (fun f=>f))
  rw [this]
 ·rename_i h1 h2
  rcases this with f | ⟨rfl,rfl⟩
  ·exact f.elim
  ·rw [h1,h2]
 ·exact this
theorem zYS {W W':World} (h:Grown W W') {p:MemPlace} (hp:p.block<W.heap.size):W.sameAt W' p:=by
 cases p with
 | cell b o=>exact World.cell?_of_block (w:=W) (zOF h hp)
 | map b=>exact zOF h hp
section
variable {H:Type} {enc:TypeId × Value→H} {P:Program} {w w':World} {b:Nat} {sp:Nat→Bool} {held:Bool}
theorem zNX:∀ {ts:List TypeId} {vs:List Value} {ds:List (DataW H)} {ps:List MemPlace},DataW.TrodAll enc P w b sp held ts vs ds ps→(∀ p∈ps,w.sameAt w' p)→DataW.TrodAll enc P w' b sp held ts vs ds ps
 | [],[],[],_,h,_=>h
 | _::_,_::_,_::_,_,⟨p,q,⟨n,h1⟩,h2,e⟩,hs=>⟨p,q,⟨n,DataW.trod_carry _ _ _ _ h1 (fun x hx=>hs x (by rw [e];exact List.mem_append_left _ hx))⟩,zNX h2 (fun x hx=>hs x (by rw [e];exact List.mem_append_right _ hx)),e⟩
theorem yWX (K:Kids P (· < P.types.size)) (hz:∀ (t:Nat) (e:TypeId),t<P.types.size→P.underlying t=some (.slice e)→0<P.cellsOf e) {ts:List TypeId} {vs:List Value} {ds:List (DataW H)} {ps:List MemPlace}
  (hT:∀ t∈ts,t<P.types.size) (h:DataW.TrodAll enc P w 0 (fun _=>true) true ts vs ds ps) (hg:Grown w w') (hlt:∀ p∈ps,p.block<w.heap.size) (hs:∀ p∈ps,sp p.block=true):DataW.TrodAll enc P w' 0 sp true ts vs ds ps :=
 zNX (DataW.TrodAll.respare K hz hT h hs) (fun p hp=>zYS hg (hlt p hp))
theorem yXT {t:TypeId} {vs:List Value} {ds:List (DataW H)} {ps:List MemPlace} (h:DataW.TrodAll enc P w b sp held [t] vs ds ps):∃ v d,vs=[v]∧ds=[d]:=by
 match vs,ds,h with
 | [v],[d],_=>exact ⟨v,d,rfl,rfl⟩
 | _::_::_,[_],⟨_,_,_,h,_⟩=>exact h.elim
 | _::_::_,_::_::_,⟨_,_,_,h,_⟩=>exact h.elim
 | [_],_::_::_,⟨_,_,_,h,_⟩=>exact h.elim
 | _::_,[],h=>exact h.elim
 | [],_::_,h=>exact h.elim
 | [],[],h=>exact h.elim
end
end Go.Lay

namespace Go.Lay
open Go
section
variable {P:Program} {R:Nat→Rec} {rd:Option Nat} {c:Code} {fr fr':Fr} {σ σ':St} {e:Exit} {aw:FuncId}
def yRQ (P:Program) (l:Nat) (args:List Value) (σ:St) (v:Value) (σ':St):Prop:=∃ N0,∀ N,N0≤N→zBE (zZ P N) (.yield l) args σ=some (v,σ')
end
end Go.Lay

namespace Go.Lay
open Go
section
variable {P:Program} {σ σ':St} {cs:List Value}
end
end Go.Lay

namespace Go.Lay
open Go
structure Only (S:Nat→Prop) (σ σ':St):Prop where
 next:σ.next≤σ'.next
 get:∀ b,b<σ.next→¬ S b→yS σ'.heap b=yS σ.heap b
 low:∀ m,m≤σ.low→m≤σ.next→(∀ b,b<σ.next→S b→m≤b)→m≤σ'.low
section
variable {P:Program} {S T:Nat→Prop} {σ σ' σ₁ σ₂ σ₃:St} {cs:List Value} {n b:Nat}
theorem Only.refl (S:Nat→Prop) (σ:St):Only S σ σ:=⟨Nat.le_refl _,fun _ _ _=>rfl,fun _ h _ _=>h⟩
theorem Only.trans (h:Only S σ₁ σ₂) (k:Only T σ₂ σ₃) (hT:∀ b,b<σ₁.next→T b→S b) (hT2:∀ m,m≤σ₁.next→(∀ b,b<σ₁.next→S b→m≤b)→∀ b,b<σ₂.next→T b→m≤b:=by intro m h1 h2 b h3 h4;(first | exact h4.elim | omega)):Only S σ₁ σ₃ :=
 ⟨Nat.le_trans h.next k.next,fun b hb hs=>(k.get b (Nat.lt_of_lt_of_le hb h.next) (fun ht=>hs (hT b hb ht))).trans (h.get b hb hs),fun m h1 h2 h3=>k.low m (h.low m h1 h2 h3) (Nat.le_trans h2 h.next) (hT2 m h2 h3)⟩
theorem Only.trans' (h:Only S σ₁ σ₂) (k:Only T σ₂ σ₃) (hT:∀ b,b<σ₂.next→T b→S b∨σ₁.next≤b):Only S σ₁ σ₃ :=
 ⟨Nat.le_trans h.next k.next,fun b hb hs=>(k.get b (Nat.lt_of_lt_of_le hb h.next) (fun ht=>(hT b (Nat.lt_of_lt_of_le hb h.next) ht).elim hs (fun h=>by omega))).trans (h.get b hb hs),fun m h1 h2 h3=>k.low m (h.low m h1 h2 h3) (Nat.le_trans h2 h.next) (fun b hb ht=>by
  rcases hT b hb ht with h4 | h4
  ·by_cases hb':b<σ₁.next
   ·exact h3 b hb' h4
   ·omega
  ·omega)⟩
theorem Only.mono (h:Only S σ σ') (hT:∀ b,b<σ.next→S b→T b):Only T σ σ':=⟨h.next,fun b hb hs=>h.get b hb (fun k=>hs (hT b hb k)),fun m h1 h2 h3=>h.low m h1 h2 (fun b hb k=>h3 b hb (hT b hb k))⟩
theorem New.only (h:New σ σ'):Only S σ σ':=⟨h.le.next,fun b hb _=>h.le.get b hb,fun m h1 h2 _=>h.low m h1 h2⟩
theorem Only.add (σ:St) (y:Blk):Only S σ (σ.add y):=(New.add σ y).only
theorem Only.row (σ:St) (cs:List Value) (n:Nat):Only S σ (σ.row cs n):=(New.row σ cs n).only
theorem Only.put {y:Blk} (hs:σ.next≤b∨S b):Only S σ (σ.put b y):=⟨Nat.le_refl _,fun c hc hs'=>by rw [St.put_get,if_neg (by rintro rfl;rcases hs with h | h;omega;exact hs' h)],fun m h1 h2 h3=>by
 simp only [St.put_low]
 rcases hs with h | h
 ·omega
 ·by_cases hb:b<σ.next
  ·have:=h3 b hb h;omega
  ·omega⟩
theorem Only.own (hs:σ.next≤b∨S b):Only S σ (σ.own b cs n):=Only.put hs
theorem Only.re (σ:St):Only S σ σ.re:=⟨Nat.le_refl _,fun _ _ _=>rfl,fun _ _ h _=>h⟩
theorem Only.own' (h:Only S σ σ') (k:Own σ b cs n) (hs:¬ S b):Own σ' b cs n:=⟨by rw [h.get b k.lt hs];exact k.get,Nat.lt_of_lt_of_le k.lt h.next⟩
theorem Only.rw' {a:Addr} (h:Only S σ σ') (k:Row σ a cs) (hs:¬ S a.block):Row σ' a cs:=⟨by
 have:=k.rd
 unfold yY at this ⊢
 rw [h.get _ k.lt hs];exact this,Nat.lt_of_lt_of_le k.lt h.next⟩
theorem Only.slp' {len:Nat} {p:Option Addr} (h:Only S σ σ') (k:SlP σ n p len cs) (hs:∀ a,p=some a→¬ S a.block):SlP σ' n p len cs:=by
 refine ⟨k.1, ?_⟩
 cases p with
 | none=>exact k.2
 | some a=>exact h.rw' (show Row σ a cs from k.2) (hs a rfl)
theorem Only.slv' {t len:Nat} {p:Option Addr} {vs:List Value} (h:Only S σ σ') (k:SlV P σ t n p len vs) (hs:∀ a,p=some a→¬ S a.block):SlV P σ' t n p len vs:=⟨h.slp' k.1 hs,k.2⟩
theorem Only.app' {n0 len:Nat} {v:Value} (h:Only S σ σ') (k:App σ n0 n v len cs) (hs:∀ a l c,v=.slice (some a) l c→¬ S a.block):App σ' n0 n v len cs:=by
 cases k with
 | nil=>exact .nil
 | more g1 g2 g3 g4 g5 g6 g7=>exact .more (by rw [h.get _ g4 (hs _ _ _ rfl)];exact g1) g2 g3 (Nat.lt_of_lt_of_le g4 h.next) g5 g6 g7
def RangeR (P:Program) (R:Nat→Rec) (g:Operand) (ps:Array Tmp) (as bo:Code) (fr:Fr) (σ:St) (e:Exit) (fr':Fr) (σ':St):Prop:=∃ N0,∀ N,N0≤N→zOR (R N) none g ps as bo fr σ=some (e,fr',σ')
def ShutR (ms:List Nat) (σ σ':St):Prop:=zPR ms σ fun s=>s=σ'
theorem zUZ:∀ {ms:List Nat} {σ:St} {K:St→Prop},ShutR ms σ σ'→K σ'→zPR ms σ K
 | [],_,_,h,k=>by cases h;exact k
 | _::_,_,_,h,k=>⟨h.1,zUZ h.2 k⟩
theorem yGY:∀ {ms:List Nat} {σ:St},(∀ d∈ms,yS σ.heap d=some .defd)→ms.Nodup→∃ σ',ShutR ms σ σ'∧σ'.next=σ.next∧(∀ b,b ∉ ms→yS σ'.heap b=yS σ.heap b)∧∀ m,m≤σ.low→(∀ d∈ms,m≤d)→m≤σ'.low
 | [],σ,_,_=>⟨σ,rfl,rfl,fun _ _=>rfl,fun _ h _=>h⟩
 | d::ms,σ,h,hn=>by
  have hn:=List.nodup_cons.1 hn
  obtain ⟨σ',h1,h2,h3,h4⟩:=yGY (ms:=ms) (σ:=σ.shut d) (fun c hc=>by
   rw [St.shut_get,if_neg (by rintro rfl;exact hn.1 hc)];exact h c (by simp [hc])) hn.2
  refine ⟨σ',⟨h d (by simp),h1⟩,h2,fun b hb=>?_,fun m hm hd=>h4 m ?_ (fun c hc=>hd c (by simp [hc]))⟩
  ·simp at hb
   rw [h3 b hb.2,St.shut_get,if_neg hb.1]
  ·have:=hd d (by simp)
   simp;omega
end
end Go.Lay

namespace Go.Lay
open Go
section
variable {P:Program} {σ σ':St} {cs:List Value}
def AtP (p:Option Addr) (b:Nat):Prop:=∃ a,p=some a∧a.block=b
theorem AtP.none {b:Nat}:¬ AtP none b:=by rintro ⟨a,h,_⟩;cases h
theorem yCT {st xt e n m k len n0:Nat} {a2:Addr} {p:Option Addr} {c:Nat} {xs:List Value} (T:AppT P st xt e n) (hA:App σ n0 n (.slice p len c) len cs) (hr:Row σ a2 xs) (hm:xs.length=m*n) (hp:0<m) (hroom:len+m≤1073741824)
  (hc:xs.all cellB=true) (hn0:n0≤σ.next):∃ p' c' σ',yK P st xt (.slice p len c) (.slice (some a2) m k) σ=some (.slice p' (len+m) c',σ')∧App σ' n0 n (.slice p' (len+m) c') (len+m) (cs++xs)∧Only (AtP p) σ σ'∧(∀ b,AtP p' b→AtP p b∨σ.next≤b):=by
 obtain ⟨p',c',σ',h1,h2,h3⟩:=app_step (k:=k) T hA hr hm hp hroom hc hn0
 refine ⟨p',c',σ',h1,h2, ?_⟩
 obtain ⟨xd,hxd,hxi⟩:=T.src
 obtain ⟨ei,z,hei,hz,hby,hrz,hzl⟩:=T.info
 have hrd:=hr.rd
 rw [hm] at hrd
 have hsrc:zCJ σ n z xd (.slice (some a2) m k)=some (m,xs):=by
  unfold zCJ
  cases xd with
  | int _=>cases hxi
  | _=>simp only [wY,hrd,Option.map_some]
 have hcond:(zCO (len+m) n ei.bytes && xs.all cellB && Nat.beq xs.length (m*n) && zV RD z && Nat.beq z.cells.toList.length n)=true:=by
  unfold zCO
  rw [(zW _ _).2 hroom,(zW _ _).2 T.le,(zW _ _).2 hby,hc,hm,Nat.beq_refl,hrz,hzl];rfl
 have hble:∀ x:Nat,Nat.ble (x+m) x=false:=fun x=>by rw [Bool.eq_false_iff];intro e;have:=(zW _ _).1 e;omega
 cases hA with
 | nil =>
  have hc0:yO 0=0:=by unfold yO;have:=uH;rw [if_neg (by omega)]
  have hc1:xC 0=true:=(yX 0).2 uH
  unfold yK at h1
  simp only [T.el,hxd,hei,hz,hsrc,hcond,cond_true,uS,hc0,hble,cond_false,hc1,Nat.beq_refl,yP,Option.some.injEq,Prod.mk.injEq,Value.slice.injEq] at h1
  obtain ⟨⟨rfl,_,_⟩,rfl⟩:=h1
  exact ⟨Only.add _ _,fun b' hb=>.inr (by obtain ⟨a,e,rfl⟩:=hb;cases e;exact Nat.le_refl _)⟩
 | @more b' s nx _ _ sp log h hs hb hlt hl hpp hsn =>
  have hex:uP ((s,cs.length)::log) (yI ⟨b',0,sp⟩)=some cs.length:=by
   have:Nat.beq s (yI ⟨b',0,sp⟩)=true:=by unfold yI;simp only [hs];exact Nat.beq_refl _
   simp only [uP,this,cond_true]
  have hlf:vG ((s,cs.length)::log) (yI ⟨b',0,sp⟩)=(s,cs.length)::log:=by
   have:Nat.beq s (yI ⟨b',0,sp⟩)=true:=by unfold yI;simp only [hs];exact Nat.beq_refl _
   simp only [vG,this,cond_true]
  have hg:(Nat.beq len len && Nat.beq (0+len*n) cs.length && Nat.beq n n && !false && Nat.blt 0 n)=true:=by
   rw [Nat.beq_refl,Nat.zero_add,hl,Nat.beq_refl,Nat.beq_refl,(wO 0 n).2 T.pos];rfl
  unfold yK at h1
  simp only [T.el,hxd,hei,hz,hsrc,hcond,cond_true,uS,zCW,hble,cond_false,zHR,zKM,h,hex,hg,zHP,vQ,St.write_eq,hlf,Option.some.injEq,Prod.mk.injEq,Value.slice.injEq] at h1
  obtain ⟨⟨rfl,_,_⟩,rfl⟩:=h1
  exact ⟨Only.put (.inr ⟨_,rfl,rfl⟩),fun b'' hb=>.inl (by obtain ⟨a,e,rfl⟩:=hb;cases e;exact ⟨_,rfl,rfl⟩)⟩
theorem Own.ldI {b n i:Nat} {t:TypeId} {v:Value} (h:Own σ b cs n) (ht:vU P t=some false) (hi:cs[i]?=some v):zB P σ t (zP ⟨b,0,none⟩ (Int.toNat (i:Int)*1))=some v:=by
 rw [Int.toNat_natCast,Nat.mul_one]
 have:=h.rw.load1 (P:=P) ht (k:=i) hi
 exact this
theorem Own.stI {b n i:Nat} {t:TypeId} {v:Value} (h:Own σ b cs n) (hv:v.cells.toList=[v]) (hs:xB P t=some 1) (hc:cellB v=true) (hi:i<cs.length) :
  zS P (evL [.pointer (some (zP ⟨b,0,none⟩ (Int.toNat (i:Int)*1))),v]) σ (.store t (.tmp 0) (.tmp 1))=some (undef,σ.own b (cs.set i v) n):=by
 have e:zP ⟨b,0,none⟩ (Int.toNat (i:Int)*1)=⟨b,i,none⟩:=by rw [Int.toNat_natCast,Nat.mul_one];simp [zP]
 rw [e]
 refine h.store (k:=i) hv hs (by simp [hc]) (by simp;omega) ?_
 rw [List.set_eq_take_append_cons_drop,if_pos hi];rfl
end
end Go.Lay

namespace Go.Lay
open Go
def yFE:Value→Bool
 | .tuple ⟨[]⟩=>true
 | _=>false
theorem yPR {v:Value} (h:yFE v=true):v=undef:=by
 unfold yFE at h
 split at h
 ·rfl
 ·cases h
def shp:Nat→Bool→Tr Value→Bool
 | 0,_,.leaf=>true
 | d+1,c,.node (some v) l r=>(c || yFE v) && (shp d false l && shp d true r)
 | _,_,_=>false
def zGE:List Bool→Nat
 | []=>0
 | b::p=>(bif b then 1 else 0)+2*zGE p
def canP:Bool→List Bool→Prop
 | c,[]=>c=true
 | _,b::p=>canP b p
theorem yNB {g:Nat→Value}:∀ (d:Nat) (c:Bool) (t:Tr Value) (w a:Nat),shp d c t=true→(∀ p v,canP c p→Tr.getP p t=some v→g (a+w*zGE p)=v)→t=trF g d w a c
 | 0,c,.leaf,w,a,_,_=>rfl
 | 0,c,.node _ _ _,w,a,h,_=>by simp [shp] at h
 | d+1,c,.leaf,w,a,h,_=>by simp [shp] at h
 | d+1,c,.node none l r,w,a,h,_=>by simp [shp] at h
 | d+1,c,.node (some v) l r,w,a,h,hg=>by
  simp only [shp,Bool.and_eq_true] at h
  obtain ⟨h1,h2,h3⟩:=h
  have e1:v=bif c then g a else undef:=by
   cases c with
   | true =>
    have:=hg [] v rfl rfl
    simp [zGE] at this
    simp [this]
   | false=>simpa using yPR (by simpa using h1)
  have e2:=yNB d false l (w*2) a h2 (fun p x hp hx=>by
   have:=hg (false::p) x (by cases p <;> exact hp) hx
   simp [zGE] at this
   rw [← this]
   congr 1
   rw [Nat.mul_assoc])
  have e3:=yNB d true r (w*2) (a+w) h3 (fun p x hp hx=>by
   have:=hg (true::p) x (by cases p <;> exact hp) hx
   simp only [zGE,cond_true] at this
   rw [← this]
   congr 1
   rw [Nat.mul_add,Nat.mul_one,Nat.mul_assoc,Nat.add_assoc])
  rw [e2,e3,e1];rfl
theorem yLR:∀ (p:List Bool),canP true p→∀ f,zGE p≤f→bits f (zGE p)=p
 | [],_,f,_=>by
  cases f with
  | zero=>rfl
  | succ f=>simp [bits,zGE]
 | b::p,hp,f,hf=>by
  have hp:canP b p:=hp
  have hpos:0<(bif b then 1 else 0)+2*zGE p:=by
   cases p with
   | nil =>
    have:b=true:=hp
    subst this;simp [zGE]
   | cons b2 q =>
    have key:∀ (q:List Bool) (b:Bool),canP b q→b=true∨0<zGE q:=by
     intro q
     induction q with
     | nil=>intro b h;exact .inl h
     | cons c q ih =>
      intro b h
      rcases ih c h with h1 | h1
      ·right;simp [zGE,h1];omega
      ·right;simp only [zGE];omega
    rcases key q b2 hp with h1 | h1
    ·simp [zGE,h1];omega
    ·simp only [zGE];omega
  simp only [zGE] at hf ⊢
  match f with
  | 0=>omega
  | f+1 =>
   have ih:bits f (zGE p)=p:=by
    cases p with
    | nil=>cases f <;> simp [bits,zGE]
    | cons b2 q=>exact yLR (b2::q) hp f (by cases b <;> simp at hf <;> omega)
   have hb:Nat.beq ((bif b then 1 else 0)+2*zGE p) 0=false:=by
    rw [Bool.eq_false_iff];intro e;have:=Nat.eq_of_beq_eq_true e;omega
   have h2:((bif b then 1 else 0)+2*zGE p) / 2=zGE p:=by cases b <;> simp <;> omega
   have h3:Nat.beq (((bif b then 1 else 0)+2*zGE p) % 2) 1=b:=by
    cases b
    ·rw [Bool.eq_false_iff];intro e;have:=Nat.eq_of_beq_eq_true e;simp at this
    ·have:((bif true then 1 else 0)+2*zGE p) % 2=1:=by simp
     rw [this];rfl
   simp only [bits,hb,cond_false,h3,h2,ih]
def yFG (n:Nat) (f:Tm):Bool:=Nat.beq f.n n && shp ((way n).length+1) true f.t
def AG (f:Tm):List (Nat × Value)→Prop
 | []=>True
 | (i,v)::l=>f.nth i=v∧AG f l
def ARf:List (Nat × Value)→Prop
 | []=>True
 | (_,v)::l=>v=v∧ARf l
theorem arf:∀ l:List (Nat × Value),ARf l
 | []=>trivial
 | (_,_)::l=>⟨rfl,arf l⟩
theorem ov_ag {f:Tm}:∀ {l:List (Nat × Value)},AG f l→ov l f.nth=f.nth
 | [],_=>rfl
 | (i,v)::l,h=>by
  have ih:=ov_ag h.2
  funext j
  unfold ov
  cases hb:Nat.beq i j with
  | false=>rw [cond_false,ih]
  | true=>rw [cond_true,← Nat.eq_of_beq_eq_true hb,h.1]
theorem yKR {n:Nat} {f:Tm} {l:List (Nat × Value)} (h:yFG n f=true) (hl:AG f l):f=Fm n (ov l f.nth):=by
 unfold yFG at h
 simp only [Bool.and_eq_true] at h
 obtain ⟨h1,h2⟩:=h
 have h1:=Nat.eq_of_beq_eq_true h1
 subst h1
 rw [ov_ag hl]
 have:=yNB (g:=f.nth) ((way f.n).length+1) true f.t 1 0 h2 (fun p v hp hv=>by
  rw [Nat.zero_add,Nat.one_mul]
  unfold Tm.nth way
  rw [yLR p hp _ (Nat.le_refl _),hv])
 cases f with
 | mk n t=>unfold Fm;exact congrArg (Tm.mk n) this

def zGY (R:Nat→Rec):zRN:=fun r args σ v σ'=>∃ N0,∀ N,N0≤N→zBE (R N) r args σ=some (v,σ')
def yMA (n:Nat):List Alt→Exit→Fr→St→Prop
 | [],_,_,_=>False
 | a::as,e,fr,σ=>(e=a.e∧∃ t g,fr=⟨Fm n (ov (a.l t) g),a.ms t⟩∧a.Q t σ)∨yMA n as e fr σ
def yLZ:List (Exit × (St→Prop))→Exit→St→Prop
 | [],_,_=>False
 | a::as,e,σ=>(e=a.1∧a.2 σ)∨yLZ as e σ
def yDG (n:Nat):List Alt→(Exit→Fr→St→Prop)→Prop
 | [],_=>True
 | a::as,K=>(∀ (t:a.T) (g:Nat→Value) (σ:St),a.Q t σ→K a.e ⟨Fm n (ov (a.l t) g),a.ms t⟩ σ)∧yDG n as K
def yRP (n:Nat) (l:List (Nat × Value)) (ms:List Nat):List (Exit × (St→Prop))→(Exit→Fr→St→Prop)→Prop
 | [],_=>True
 | a::as,K=>(∀ (g:Nat→Value) (σ:St),a.2 σ→K a.1 ⟨Fm n (ov l g),ms⟩ σ)∧yRP n l ms as K
theorem zSJ {n:Nat} {K:Exit→Fr→St→Prop} {e:Exit} {fr:Fr} {σ:St}:∀ {l:List Alt},yDG n l K→yMA n l e fr σ→K e fr σ
 | [],_,h=>h.elim
 | a::as,hc,h=>by
  rcases h with ⟨rfl,t,g,rfl,hq⟩ | h
  ·exact hc.1 t g σ hq
  ·exact zSJ hc.2 h
theorem zXP {n:Nat} {l0:List (Nat × Value)} {ms:List Nat} {K:Exit→Fr→St→Prop} {e:Exit} {g:Nat→Value} {σ:St}:∀ {l:List (Exit × (St→Prop))},yRP n l0 ms l K→yLZ l e σ→K e ⟨Fm n (ov l0 g),ms⟩ σ
 | [],_,h=>h.elim
 | a::as,hc,h=>by
  rcases h with ⟨rfl,hq⟩ | h
  ·exact hc.1 g σ hq
  ·exact zXP hc.2 h
section
variable (P:Program) (R:Nat→Rec)
def xQ (rd:Option Nat) (c:Code) (n:Nat) (l:List (Nat × Value)) (ms:List Nat) (alts:List Alt) (σ:St):Prop :=
 ∀ g:Nat→Value,∃ e fr' σ',zDO P R rd c ⟨Fm n (ov l g),ms⟩ σ e fr' σ'∧yMA n alts e fr' σ'
def xX (rd:Option Nat) (c:Code) (n:Nat) (l:List (Nat × Value)) (ms:List Nat) (alts:List Alt) (σ:St):Prop :=
 ∀ g:Nat→Value,∃ e fr' σ',zUC P R rd c ⟨Fm n (ov l g),ms⟩ σ e fr' σ'∧yMA n alts e fr' σ'
def yFZ (gx:Operand) (ps:Array Tmp) (a b:Code) (n:Nat) (l:List (Nat × Value)) (alts:List (Exit × (St→Prop))) (σ:St):Prop :=
 ∀ (g:Nat→Value) (ms:List Nat),∃ e σ',RangeR P R gx ps a b ⟨Fm n (ov l g),ms⟩ σ e ⟨Fm n (ov l g),σ.next::ms⟩ σ'∧yLZ alts e σ'
def wpE (rd:Option Nat):Code→List Ans→Fr→St→(Exit→Fr→St→List Ans→Prop)→Prop
 | .skip,as,fr,σ,K=>K .normal fr σ as
 | .label _,as,fr,σ,K=>K .normal fr σ as
 | .ret,as,fr,σ,K=>K .ret fr σ as
 | .exit id,as,fr,σ,K=>K (.exit id) fr σ as
 | .seq x y,as,fr,σ,K=>wpE rd x as fr σ fun e fr σ as=>match e with
  | .normal=>wpE rd y as fr σ K
  | e=>K e fr σ as
 | .cond c x y,as,fr,σ,K=>match as with
  | .cut n l alts::_=>(yFG n fr.f=true∧AG fr.f l∧xQ P R rd (.cond c x y) n l fr.marks alts σ)∧yDG n alts fun e fr σ=>∃ as,K e fr σ as
  | as=>match yJ fr.f c with
   | .bool true=>wpE rd x as fr σ K
   | .bool false=>wpE rd y as fr σ K
   | _=>False
 | .block id c,as,fr,σ,K=>match as with
  | .cut n l alts::_=>(yFG n fr.f=true∧AG fr.f l∧xQ P R rd (.block id c) n l fr.marks alts σ)∧yDG n alts fun e fr σ=>∃ as,K e fr σ as
  | as=>wpE rd c as fr σ fun e fr σ as=>match e with
   | .exit i=>match Nat.beq i id with
    | true=>K .normal fr σ as
    | false=>K (.exit i) fr σ as
   | e=>K e fr σ as
 | .scope c,as,fr,σ,K=>wpE rd c as fr σ K
 | .region _ ops d,as,fr,σ,K=>zKX P (zGY R) ops d as fr σ K
 | .loop c,as,fr,σ,K=>match as with
  | .lf n l alts::_=>(yFG n fr.f=true∧AG fr.f l∧xX P R rd c n l fr.marks alts σ)∧yDG n alts fun e fr σ=>∃ as,K e fr σ as
  | _=>False
 | .rangeFunc g ps a b,as,fr,σ,K=>match as,rd with
  | .rf n l alts::_,none=>(yFG n fr.f=true∧AG fr.f l∧yFZ P R g ps a b n l alts σ)∧yRP n l (σ.next::fr.marks) alts fun e fr σ=>∃ as,K e fr σ as
  | _,_=>False
 | .goto _,_,_,_,_=>False
 | .refuse _,_,_,_,_=>False
end
section
variable {P:Program} {R:Nat→Rec} {rd:Option Nat}
theorem zMU {C:zRN} {f:Tm} {σ:St} {o:Op} {as:List Ans} {K K':Value→St→List Ans→Prop} (h:zUY P C f σ o as K) (hk:∀ v s a,K v s a→K' v s a):zUY P C f σ o as K':=by
 unfold zUY at h ⊢
 repeat' split at h
 all_goals first
  | exact h.elim
  | (simp only [*];exact ⟨h.1,hk _ _ _ h.2⟩)
  | (simp only [*];exact hk _ _ _ h)
  | exact ⟨h.1,hk _ _ _ h.2⟩
  | exact hk _ _ _ h
abbrev At3 (v:Value) (σ':St) (as':List Ans):Value→St→List Ans→Prop:=fun v2 s2 a2=>v2=v∧s2=σ'∧a2=as'
theorem yAC {f:Tm} {σ:St} {o:Op} {as:List Ans} {K:Value→St→List Ans→Prop} (h:zUY P (zGY R) f σ o as K):∃ v σ' as',K v σ' as'∧∃ N0,∀ N,N0≤N→zUY P (zTY (R N)) f σ o as (At3 v σ' as'):=by
 unfold zUY at h
 unfold zUY
 repeat' split at h
 all_goals first
  | exact h.elim
  | (obtain ⟨⟨N0,hN⟩,hk⟩:=h;exact ⟨_,_,_,hk,N0,fun N hl=>⟨hN N hl,rfl,rfl,rfl⟩⟩)
  | exact ⟨_,_,_,h,0,fun N _=>⟨rfl,rfl,rfl⟩⟩
  | exact ⟨_,_,_,h.2,0,fun N _=>by simp only [*];exact ⟨h.1,rfl,rfl,rfl⟩⟩
  | exact ⟨_,_,_,h,0,fun N _=>by simp only [*];exact ⟨rfl,rfl,rfl⟩⟩
  | exact ⟨_,_,_,h.2,0,fun N _=>⟨h.1,rfl,rfl,rfl⟩⟩
theorem zJA {ops:Array Oper}:∀ (rest:List Oper) (as:List Ans) (f:Tm) (σ:St) (l:List Seen) (K:Tm→St→List Seen→List Ans→Prop),zHT P (zGY R) ops rest as f σ l K →
  ∃ f' σ' l' as',K f' σ' l' as'∧∃ N0,∀ N,N0≤N→zHT P (zTY (R N)) ops rest as f σ l fun f2 s2 l2 a2=>f2=f'∧s2=σ'∧l2=l'∧a2=as'
 | [],as,f,σ,l,K,h=>⟨f,σ,l,as,h,0,fun _ _=>⟨rfl,rfl,rfl,rfl⟩⟩
 | o::rest,as,f,σ,l,K,h=>by
  unfold zHT at h
  unfold zHT
  split at h
  ·rename_i hg
   obtain ⟨v,σ1,as1,h1,N1,k1⟩:=yAC h
   obtain ⟨f',σ',l',as',h2,N2,k2⟩:=zJA rest _ _ _ _ _ h1
   refine ⟨f',σ',l',as',h2,N1+N2,fun N hN=>?_⟩
   try simp only [hg]
   refine zMU (k1 N (by omega)) ?_
   rintro _ _ _ ⟨rfl,rfl,rfl⟩
   exact k2 N (by omega)
  ·rename_i hg
   obtain ⟨f',σ',l',as',h2,N2,k2⟩:=zJA rest _ _ _ _ _ h
   exact ⟨f',σ',l',as',h2,N2,fun N hN=>by (try simp only [hg]);exact k2 N hN⟩
  ·exact h.elim
theorem zKZ {ops:Array Oper}:∀ (rest:List Oper) (as:List Ans) (f:Tm) (σ:St) (l:List Lk) (K:Tm→St→List Lk→List Ans→Prop),zFF P (zGY R) ops rest as f σ l K →
  ∃ f' σ' l' as',K f' σ' l' as'∧∃ N0,∀ N,N0≤N→zFF P (zTY (R N)) ops rest as f σ l fun f2 s2 l2 a2=>f2=f'∧s2=σ'∧l2=l'∧a2=as'
 | [],as,f,σ,l,K,h=>⟨f,σ,l,as,h,0,fun _ _=>⟨rfl,rfl,rfl,rfl⟩⟩
 | o::rest,as,f,σ,l,K,h=>by
  unfold zFF at h
  unfold zFF
  split at h
  ·rename_i hg
   obtain ⟨v,σ1,as1,h1,N1,k1⟩:=yAC h
   obtain ⟨f',σ',l',as',h2,N2,k2⟩:=zKZ rest _ _ _ _ _ h1
   refine ⟨f',σ',l',as',h2,N1+N2,fun N hN=>?_⟩
   try simp only [hg]
   refine zMU (k1 N (by omega)) ?_
   rintro _ _ _ ⟨rfl,rfl,rfl⟩
   exact k2 N (by omega)
  ·rename_i hg
   obtain ⟨f',σ',l',as',h2,N2,k2⟩:=zKZ rest _ _ _ _ _ h
   exact ⟨f',σ',l',as',h2,N2,fun N hN=>by (try simp only [hg]);exact k2 N hN⟩
  ·exact h.elim
theorem zIZ {C:zRN} {ops:Array Oper}:∀ (rest:List Oper) (as:List Ans) (f:Tm) (σ:St) (l:List Seen) {K K':Tm→St→List Seen→List Ans→Prop},zHT P C ops rest as f σ l K→(∀ f s l a,K f s l a→K' f s l a)→zHT P C ops rest as f σ l K'
 | [],as,f,σ,l,K,K',h,hk=>hk _ _ _ _ h
 | o::rest,as,f,σ,l,K,K',h,hk=>by
  unfold zHT at h ⊢
  split at h
  ·rename_i hg
   try simp only [hg]
   exact zMU h fun v s a hh=>zIZ rest _ _ _ _ hh hk
  ·rename_i hg
   try simp only [hg]
   exact zIZ rest _ _ _ _ h hk
  ·exact h.elim
theorem zKY {C:zRN} {ops:Array Oper}:∀ (rest:List Oper) (as:List Ans) (f:Tm) (σ:St) (l:List Lk) {K K':Tm→St→List Lk→List Ans→Prop},zFF P C ops rest as f σ l K→(∀ f s l a,K f s l a→K' f s l a)→zFF P C ops rest as f σ l K'
 | [],as,f,σ,l,K,K',h,hk=>hk _ _ _ _ h
 | o::rest,as,f,σ,l,K,K',h,hk=>by
  unfold zFF at h ⊢
  split at h
  ·rename_i hg
   try simp only [hg]
   exact zMU h fun v s a hh=>zKY rest _ _ _ _ hh hk
  ·rename_i hg
   try simp only [hg]
   exact zKY rest _ _ _ _ h hk
  ·exact h.elim
theorem zMJ {K K':Prop}:∀ {l:List Lk},zGU l K→(K→K')→zGU l K'
 | [],h,hk=>hk h
 | s::ss,h,hk=>by
  unfold zGU at h ⊢
  split
  ·rename_i hs;(try simp only [hs] at h);exact ⟨h.1,zMJ h.2 hk⟩
  ·rename_i hs;(try simp only [hs] at h);exact zMJ h hk
theorem zPM {K:Prop}:∀ {l:List Lk},zGU l K→K
 | [],h=>h
 | s::ss,h=>by
  unfold zGU at h
  split at h
  ·exact zPM h.2
  ·exact zPM h
theorem zHH {K K':Prop} {l:List Lk}:∀ {ps:List (Nat × Nat)},zAY l ps K→(K→K')→zAY l ps K'
 | [],h,hk=>hk h
 | p::ps,h,hk=>by
  unfold zAY at h ⊢
  split at h
  ·rename_i sj sk h1 h2
   try simp only [h1,h2]
   split at h
   ·rename_i hw;exact ⟨h.1,h.2.1,zHH h.2.2 hk⟩
   ·rename_i hw;exact zHH h hk
  ·exact h.elim
theorem zJD {K:Prop} {l:List Lk}:∀ {ps:List (Nat × Nat)},zAY l ps K→K
 | [],h=>h
 | p::ps,h=>by
  unfold zAY at h
  split at h
  ·split at h
   ·exact zJD h.2.2
   ·exact zJD h
  ·exact h.elim
theorem yGN {id:Nat} {ops:Array Oper} {d:Bool} {as:List Ans} {fr:Fr} {σ:St} {K:Exit→Fr→St→List Ans→Prop} (h:zKX P (zGY R) ops d as fr σ K) :
  ∃ e fr' σ' as',zDO P R rd (.region id ops d) fr σ e fr' σ'∧K e fr' σ' as':=by
 have fin:∀ (f':Tm) (σ':St) (as':List Ans),K .normal ⟨f',fr.marks⟩ σ' as'→(∃ N0,∀ N,N0≤N→zKX P (zTY (R N)) ops d as fr σ fun e f2 s2 a2=>e=.normal∧f2=⟨f',fr.marks⟩∧s2=σ')→∃ e fr' σ' as',zDO P R rd (.region id ops d) fr σ e fr' σ'∧K e fr' σ' as':=by
  rintro f' σ' as' hk ⟨N0,hN⟩
  refine ⟨.normal,⟨f',fr.marks⟩,σ',as',⟨N0,fun N hl=>?_⟩,hk⟩
  obtain ⟨e₂,f₂,s₂,_,h1,rfl,rfl,rfl⟩:=yTO (rec:=R N) N rd (.region id ops d) as fr σ (fun e f2 s2 _=>e=.normal∧f2=⟨f',fr.marks⟩∧s2=σ') (by simp only [wpC];exact hN N hl)
  exact h1
 cases d with
 | false =>
  simp only [zKX] at h
  obtain ⟨f',σ',l',as',h1,N0,hN⟩:=zJA _ _ _ _ _ _ h
  refine fin f' σ' as' h1 ⟨N0,fun N hl=>?_⟩
  simp only [zKX]
  exact zIZ _ _ _ _ _ (hN N hl) (by rintro _ _ _ _ ⟨rfl,rfl,rfl,rfl⟩;refine ⟨?_, ?_, ?_⟩ <;> first | rfl | trivial)
 | true =>
  simp only [zKX] at h
  split at h
  ·rename_i h0 hp hf
   obtain ⟨f',σ',l',as',h1,N0,hN⟩:=zJA _ _ _ _ _ _ h
   refine fin f' σ' as' h1 ⟨N0,fun N hl=>?_⟩
   unfold zKX;simp only []
   rw [h0,hp,hf]
   exact zIZ _ _ _ _ _ (hN N hl) (by rintro _ _ _ _ ⟨rfl,rfl,rfl,rfl⟩;refine ⟨?_, ?_, ?_⟩ <;> first | rfl | trivial)
  ·rename_i ps fb h0 hno
   obtain ⟨f',σ',l',as',h1,N0,hN⟩:=zKZ _ _ _ _ _ _ h
   refine fin f' σ' as' (zJD (zPM h1)) ⟨N0,fun N hl=>?_⟩
   unfold zKX;dsimp only
   have key:=zKY (K':=fun f2 s2 l2 a2=>zGU l2 (zAY l2 (zWR ops (CheckFast.beforeF ops)) (Exit.normal=Exit.normal∧(⟨f2,fr.marks⟩:Fr)=⟨f',fr.marks⟩∧s2=σ'))) _ _ _ _ _ (hN N hl) (by
    rintro _ _ _ _ ⟨rfl,rfl,rfl,rfl⟩
    exact zMJ h1 (fun x=>zHH x (fun _=>⟨rfl,rfl,rfl⟩)))
   split
   ·rename_i g0 gp gf;exact absurd gf (hno gp)
   ·exact key
   ·rename_i g0;rw [h0] at g0;cases g0
  ·exact h.elim
theorem zDO.seqN {x y:Code} {fr fr1 fr2:Fr} {σ σ1 σ2:St} {e:Exit} (h1:zDO P R rd x fr σ .normal fr1 σ1) (h2:zDO P R rd y fr1 σ1 e fr2 σ2):zDO P R rd (.seq x y) fr σ e fr2 σ2:=by
 obtain ⟨N1,k1⟩:=h1
 obtain ⟨N2,k2⟩:=h2
 refine ⟨N1+N2,fun N hN=>?_⟩
 simp only [yQ,yNC,k1 N (by omega)]
 exact k2 N (by omega)
theorem zDO.seqX {x y:Code} {fr fr1:Fr} {σ σ1:St} {e:Exit} (h1:zDO P R rd x fr σ e fr1 σ1) (he:e≠.normal):zDO P R rd (.seq x y) fr σ e fr1 σ1:=by
 obtain ⟨N1,k1⟩:=h1
 refine ⟨N1,fun N hN=>?_⟩
 simp only [yQ,yNC,k1 N hN]
 cases e <;> first | rfl | exact absurd rfl he
theorem zDO.mapD {x y:Code} {fr fr1:Fr} {σ σ1:St} {e:Exit} (h1:zDO P R rd x fr σ e fr1 σ1) (h:∀ N,yQ P (R N) N rd y fr σ=yQ P (R N) N rd x fr σ):zDO P R rd y fr σ e fr1 σ1:=by
 obtain ⟨N1,k1⟩:=h1
 exact ⟨N1,fun N hN=>by rw [h];exact k1 N hN⟩
theorem zUC.code {c:Code} {fr fr':Fr} {σ σ':St} {e:Exit} (h:zUC P R rd c fr σ e fr' σ'):zDO P R rd (.loop c) fr σ e fr' σ':=by
 obtain ⟨N0,hN⟩:=h
 exact ⟨N0,fun N hl=>by simp only [yQ];exact hN N N hl hl⟩
theorem yCQ {c:Code} {n:Nat} {l:List (Nat × Value)} {alts:List Alt} {fr:Fr} {σ:St} {K:Exit→Fr→St→List Ans→Prop}
  (h:(yFG n fr.f=true∧AG fr.f l∧xQ P R rd c n l fr.marks alts σ)∧yDG n alts fun e fr σ=>∃ as,K e fr σ as):∃ e fr' σ' as',zDO P R rd c fr σ e fr' σ'∧K e fr' σ' as':=by
 obtain ⟨⟨h1,h2,h3⟩,h4⟩:=h
 obtain ⟨e,fr',σ',h5,h6⟩:=h3 fr.f.nth
 rw [← yKR h1 h2] at h5
 obtain ⟨as,hk⟩:=zSJ h4 h6
 exact ⟨e,fr',σ',as,h5,hk⟩
theorem zMV:∀ (c:Code) (as:List Ans) (fr:Fr) (σ:St) (K:Exit→Fr→St→List Ans→Prop),wpE P R rd c as fr σ K →
  ∃ e fr' σ' as',zDO P R rd c fr σ e fr' σ'∧K e fr' σ' as':=by
 intro c
 induction c with
 | skip=>intro as fr σ K h;exact ⟨_,_,_,_,⟨0,fun _ _=>rfl⟩,h⟩
 | label _=>intro as fr σ K h;exact ⟨_,_,_,_,⟨0,fun _ _=>rfl⟩,h⟩
 | ret=>intro as fr σ K h;exact ⟨_,_,_,_,⟨0,fun _ _=>rfl⟩,h⟩
 | exit _=>intro as fr σ K h;exact ⟨_,_,_,_,⟨0,fun _ _=>rfl⟩,h⟩
 | goto _=>intro as fr σ K h;simp [wpE] at h
 | refuse _=>intro as fr σ K h;simp [wpE] at h
 | seq x y ihx ihy =>
  intro as fr σ K h
  simp only [wpE] at h
  obtain ⟨e,fr1,σ1,as1,h1,h2⟩:=ihx _ _ _ _ h
  cases e with
  | normal =>
   obtain ⟨e,fr2,σ2,as2,h3,h4⟩:=ihy _ _ _ _ h2
   exact ⟨e,fr2,σ2,as2,h1.seqN h3,h4⟩
  | _=>exact ⟨_,fr1,σ1,as1,h1.seqX (by simp),h2⟩
 | cond c x y ihx ihy =>
  intro as fr σ K h
  unfold wpE at h
  split at h
  ·exact yCQ h
  ·split at h
   ·rename_i hc
    obtain ⟨e,fr1,σ1,as1,h1,h2⟩:=ihx _ _ _ _ h
    exact ⟨e,fr1,σ1,as1,h1.mapD (fun N=>by simp only [yQ,zXQ,hc]),h2⟩
   ·rename_i hc
    obtain ⟨e,fr1,σ1,as1,h1,h2⟩:=ihy _ _ _ _ h
    exact ⟨e,fr1,σ1,as1,h1.mapD (fun N=>by simp only [yQ,zXQ,hc]),h2⟩
   ·exact h.elim
 | block id c ih =>
  intro as fr σ K h
  unfold wpE at h
  split at h
  ·exact yCQ h
  ·obtain ⟨e,fr1,σ1,as1,⟨N1,h1⟩,h2⟩:=ih _ _ _ _ h
   cases e with
   | exit i =>
    simp only at h2
    cases hb:Nat.beq i id with
    | true =>
     rw [hb] at h2
     exact ⟨_,fr1,σ1,as1,⟨N1,fun N hN=>by simp only [yQ,zKE,h1 N hN,hb,cond_true]⟩,h2⟩
    | false =>
     rw [hb] at h2
     exact ⟨_,fr1,σ1,as1,⟨N1,fun N hN=>by simp only [yQ,zKE,h1 N hN,hb,cond_false]⟩,h2⟩
   | _=>exact ⟨_,fr1,σ1,as1,⟨N1,fun N hN=>by simp only [yQ,zKE,h1 N hN]⟩,h2⟩
 | scope c ih =>
  intro as fr σ K h
  simp only [wpE] at h
  obtain ⟨e,fr1,σ1,as1,h1,h2⟩:=ih _ _ _ _ h
  exact ⟨e,fr1,σ1,as1,h1.mapD (fun N=>by simp only [yQ]),h2⟩
 | region id ops d =>
  intro as fr σ K h
  simp only [wpE] at h
  exact yGN h
 | loop c _ =>
  intro as fr σ K h
  unfold wpE at h
  split at h
  rotate_left
  ·exact h.elim
  obtain ⟨⟨h1,h2,h3⟩,h4⟩:=h
  obtain ⟨e,fr',σ',h5,h6⟩:=h3 fr.f.nth
  rw [← yKR h1 h2] at h5
  obtain ⟨as,hk⟩:=zSJ h4 h6
  exact ⟨e,fr',σ',as,h5.code,hk⟩
 | rangeFunc g ps a b _ _ =>
  intro as fr σ K h
  unfold wpE at h
  split at h
  rotate_left
  ·exact h.elim
  obtain ⟨⟨h1,h2,h3⟩,h4⟩:=h
  obtain ⟨e,σ',⟨N0,h5⟩,h6⟩:=h3 fr.f.nth fr.marks
  rw [← yKR h1 h2] at h5
  obtain ⟨as,hk⟩:=zXP (g:=fr.f.nth) h4 h6
  rw [← yKR h1 h2] at hk
  exact ⟨e,_,σ',as,⟨N0,fun N hN=>by simp only [yQ];exact h5 N hN⟩,hk⟩
end
end Go.Lay

namespace Go.Lay
open Go
@[simp] theorem aadd_blk (a:Addr) (n:Nat):(zP a n).block=a.block:=rfl
@[simp] theorem re_nx (σ:St):σ.re.next=σ.next:=rfl
@[simp] theorem re_lw (σ:St):σ.re.low=σ.next:=rfl
theorem tt:true=true:=rfl
@[irreducible] def Hid (p:Prop):Prop:=p
theorem hid {p:Prop} (h:Hid p):p:=by unfold Hid at h;exact h
theorem kc {a b:Prop} (h:a=b) (x:b):a:=h.mpr x
def In (a:Alt):List Alt→Prop
 | []=>False
 | b::l=>a=b∨In a l
theorem in0 {a:Alt} {l:List Alt}:In a (a::l):=.inl rfl
theorem inS {a b:Alt} {l:List Alt} (h:In a l):In a (b::l):=.inr h
def yXD (n:Nat) (alts:List Alt):Exit→Fr→St→List Ans→Prop:=fun e fr σ as=>match as with
 | [.fin a t]=>(e=a.e∧yFG n fr.f=true∧AG fr.f (a.l t)∧fr.marks=a.ms t)∧(a.Q t σ∧In a alts)
 | _=>False
def FIN (alts:List Alt) (a:Alt) (t:a.T) (σ:St):Prop:=(a.e=a.e∧true=true∧ARf (a.l t)∧a.ms t=a.ms t)∧(a.Q t σ∧In a alts)
theorem fin {alts:List Alt} (a:Alt) (t:a.T) {σ:St} (h:a.Q t σ) (hi:In a alts):FIN alts a t σ:=⟨⟨rfl,rfl,arf _,rfl⟩,h,hi⟩
section
variable {P:Program} {R:Nat→Rec} {rd:Option Nat} {c:Code} {n:Nat} {l:List (Nat × Value)} {ms:List Nat} {alts:List Alt} {σ σ':St}
theorem yJM {a:Alt} {t:a.T} {fr:Fr} (h1:yFG n fr.f=true) (h2:AG fr.f (a.l t)) (h3:fr.marks=a.ms t) (h4:a.Q t σ):∀ {alts:List Alt},In a alts→yMA n alts a.e fr σ
 | [],h=>h.elim
 | b::as,h=>by
  rcases h with rfl | h
  ·refine .inl ⟨rfl,t,fr.f.nth, ?_,h4⟩
   rw [← yKR h1 h2,← h3]
  ·exact .inr (yJM h1 h2 h3 h4 h)
theorem zO (as:List Ans) (h:∀ g:Nat→Value,Hid (wpE P R rd c as ⟨Fm n (ov l g),ms⟩ σ (yXD n alts))):xQ P R rd c n l ms alts σ:=by
 intro g
 obtain ⟨e,fr',σ',as',h1,h2⟩:=zMV _ _ _ _ _ (hid (h g))
 refine ⟨e,fr',σ',h1, ?_⟩
 unfold yXD at h2
 split at h2
 ·obtain ⟨⟨rfl,k1,k2,k3⟩,k4,k5⟩:=h2
  exact yJM k1 k2 k3 k4 k5
 ·exact h2.elim
theorem zAB (i:Nat):Exit.exit i≠.normal:=fun h=>by cases h
theorem zEW:Exit.ret≠.normal:=fun h=>by cases h
def yTN:List Alt→Prop
 | []=>True
 | a::l=>a.e≠.normal∧yTN l
theorem yTN.get:∀ {l:List Alt} {a:Alt},yTN l→In a l→a.e≠.normal
 | [],_,_,h=>h.elim
 | b::l,a,h,k=>by
  rcases k with rfl | k
  ·exact h.1
  ·exact h.2.get k
theorem yF {T:Type} {lf:T→List (Nat × Value)} {mf:T→List Nat} {Inv:Nat→T→St→Prop} (hne:yTN alts)
  (hb:∀ k t σ,Inv k t σ→xQ P R rd c n (lf t) (mf t) (⟨T,.normal,lf,mf,fun t' σ'=>∃ k',k' < k∧Inv k' t' σ'⟩::alts) σ):∀ k t σ,Inv k t σ→xX P R rd c n (lf t) (mf t) alts σ:=by
 intro k
 induction k using Nat.strongRecOn with
 | ind k ih =>
  intro t σ hi g
  obtain ⟨e,fr',σ',h1,h2⟩:=hb k t σ hi g
  rcases h2 with ⟨rfl,t',g',rfl,k',hk,hi'⟩ | h2
  ·obtain ⟨e2,fr2,σ2,h3,h4⟩:=ih k' hk t' σ' hi' g'
   exact ⟨e2,fr2,σ2,.step h1 h3,h4⟩
  ·have he:e≠.normal:=by
    clear h1 ih hb hi
    induction alts with
    | nil=>exact h2.elim
    | cons a as ih2 =>
     rcases h2 with ⟨rfl,_⟩ | h2
     ·exact hne.1
     ·exact ih2 hne.2 h2
   exact ⟨e,fr',σ',.exit h1 he,h2⟩
def kAt (P:Program) (R:Nat→Rec) (rd:Option Nat):Code→List Nat→(Exit→Fr→St→List Ans→Prop)→Exit→Fr→St→List Ans→Prop
 | .seq x y,0::p,K=>kAt P R rd x p fun e fr σ as=>match e with
  | .normal=>wpE P R rd y as fr σ K
  | e=>K e fr σ as
 | .seq _ y,1::p,K=>kAt P R rd y p K
 | .cond _ x _,0::p,K=>kAt P R rd x p K
 | .cond _ _ y,1::p,K=>kAt P R rd y p K
 | .block id c,0::p,K=>kAt P R rd c p fun e fr σ as=>match e with
  | .exit i=>match Nat.beq i id with
   | true=>K .normal fr σ as
   | false=>K (.exit i) fr σ as
  | e=>K e fr σ as
 | .scope c,0::p,K=>kAt P R rd c p K
 | _,_,K=>K
def kFn (P:Program) (f:FuncId) (Q:Value→St→Prop):Exit→Fr→St→List Ans→Prop:=fun e fr σ as =>
 match P.funcs[f]? with
 | some fn=>match e with
  | .normal=>zLA P fn fr σ as Q
  | .ret=>zLA P fn fr σ as Q
  | _=>False
 | none=>False
theorem zE.top {aw f:FuncId} {a:Value} {as:List Value} {v:Value} (h:zE P f (a::as) σ v σ'):zGY (zPW P aw) (.func f) (a::as) σ v σ':=h
def yRT (P:Program) (R:Nat→Rec) (f:FuncId) (args:List Value) (as:List Ans) (σ:St) (K:Value→St→Prop):Prop :=
 match P.funcs[f]? with
 | some fn=>match fn.body with
  | some c=>wpE P R none c as ⟨(Tm.args 0 args).foldl (fun f p=>f.set p.1 p.2) (fresh (args.length+(fn.ntmps-args.length))),[]⟩ σ fun e fr σ as=>match e with
   | .normal=>zLA P fn fr σ as K
   | .ret=>zLA P fn fr σ as K
   | _=>False
  | none=>False
 | none=>False
theorem zST {f:FuncId} {args:List Value} {as:List Ans} {K:Value→St→Prop} (h:yRT P R f args as σ K):∃ v σ',(∃ N0,∀ N,N0≤N→zKS P (R N) N f args σ=some (v,σ'))∧K v σ':=by
 unfold yRT at h
 split at h
 ·rename_i fn hfn
  split at h
  ·rename_i c hc
   obtain ⟨e,fr,σ₁,as',⟨N0,h1⟩,h2⟩:=zMV _ _ _ _ _ h
   have fin:∀ (h2:zLA P fn fr σ₁ as' K) (he:e=.normal∨e=.ret),∃ v σ',(∃ N0,∀ N,N0≤N→zKS P (R N) N f args σ=some (v,σ'))∧K v σ':=by
    intro h2 he
    obtain ⟨v,σ',h3,h4⟩:=yDI h2
    refine ⟨v,σ',⟨N0,fun N hN=>?_⟩,h4⟩
    have key:endA P fn (yQ P (R N) N none c ⟨(Tm.args 0 args).foldl (fun f p=>f.set p.1 p.2) (fresh (args.length+(fn.ntmps-args.length))),[]⟩ σ)=zKS P (R N) N f args σ:=by
     simp only [zKS,hfn,hc,Tm.puts_eq]
    rw [← key,h1 N hN]
    rcases he with rfl | rfl <;> exact h3
   cases e with
   | normal=>exact fin h2 (.inl rfl)
   | ret=>exact fin h2 (.inr rfl)
   | _=>exact h2.elim
  ·exact h.elim
 ·exact h.elim
def zQ (P:Program) (f:FuncId) (args:List Value) (σ:St) (Q:Value→St→Prop):Prop:=∃ v σ',Runs P f args σ v σ'∧Q v σ'
theorem yWQ {N:Nat} {f:FuncId} {args:List Value}:zZ P (N+1) (.func f) args σ=zKS P (zZ P N) N f args σ:=by
 simp only [zZ,zKS]
 rfl
theorem zM {f:FuncId} {args:List Value} {Q:Value→St→Prop} (as:List Ans) (h:Hid (yRT P (zZ P) f args as σ Q)):zQ P f args σ Q:=by
 obtain ⟨v,σ',⟨N0,hN⟩,hq⟩:=zST (hid h)
 refine ⟨v,σ',⟨N0+1,fun N hN'=>?_⟩,hq⟩
 obtain ⟨N,rfl⟩:∃ M,N=M+1:=⟨N-1,by omega⟩
 rw [yWQ]
 exact hN N (by omega)
def yLY (P:Program) (aw:FuncId) (f:FuncId) (args:List Value) (σ:St) (Q:Value→St→Prop):Prop:=∃ N v σ',zKS P (zPW P aw N) N f args σ=some (v,σ')∧Q v σ'
theorem yDJ {aw f:FuncId} {args:List Value} {Q:Value→St→Prop} (as:List Ans) (h:Hid (yRT P (zPW P aw) f args as σ Q)):yLY P aw f args σ Q:=by
 obtain ⟨v,σ',⟨N0,hN⟩,hq⟩:=zST (hid h)
 exact ⟨N0,v,σ',hN N0 (Nat.le_refl _),hq⟩
theorem topE {aw:FuncId}:zGY (zPW P aw) (.func aw) [] σ (.bool true) σ:=⟨0,fun N _=>yTT⟩
theorem yLY.walk {W:World} {ι:Inj} {aw:FuncId} (hP:ProgOk P) (hc:ShutF P aw) {f:FuncId} {avs args:List Value} (h:yLY P aw f avs σ fun v _=>v=.bool true) (hr:Rep ι σ W) (ho:Ro ι W) (ha:VRs ι avs args) :
  Calls P f ⟨args⟩ W fun e w'=>e=.returned (.bool true)∧RowKit.Grown W w':=by
 obtain ⟨N,v,σ',hb,rfl⟩:=h
 obtain ⟨_,h2⟩:=zHF hP (yMU hP hc N) hb hr ha
 refine Calls.mono (callsIn_wide.1 (h2 0)) (fun e w' hR=>?_)
 cases e with
 | returned v' =>
  obtain ⟨ι',hv,hg⟩:=hR
  exact ⟨by rw [hv.bool_inv],grown_of hg ho.own⟩
 | panicked _=>exact hR.elim
 | outgrown=>exact hR.elim
theorem zQ.pure {f:FuncId} {args:List Value} {v:Value} (h:zQ P f args σ.re fun v' s=>v'=v∧σ.next≤s.low) (hv:zV RD v=true:=by rfl):zE P f args σ v σ:=by
 obtain ⟨_,σ',h1,rfl,h2⟩:=h
 exact zWP h1 h2 hv
theorem zQ.new {f:FuncId} {args:List Value} {Q:Value→St→Prop} (h:zQ P f args σ.re fun v s=>New σ.re s∧Q v s) (hQ:∀ v s s',Q v s→Le s s'→Q v s') (hQ2:∀ v s,zV RD v=true→Q v s→Q v σ):∃ v σ',zE P f args σ v σ'∧New σ σ'∧Q v σ':=by
 obtain ⟨v,σ',h1,h2,h3⟩:=h
 obtain ⟨v,σ'',k1,k2,k3⟩:=new_c (Q:=Q) h1 h2 h3 (fun s s' a b=>hQ _ s s' a b) (fun hr=>hQ2 _ _ hr h3)
 exact ⟨v,σ'',k1,k2,k3⟩
def endBlk (tm:Tm) (ps:List Tmp) (a b:Code) (db:Nat):Exit→Blk
 | .ret=>.loop tm ps a b .done (some .ret) db
 | .exit id=>.loop tm ps a b .done (some (.exit id)) db
 | _=>.loop tm ps a b .ready none db
def yQG:Exit→Bool
 | .normal=>true
 | _=>false
def PostS (alts:List Alt) (e:Exit) (s:St):Prop:=∃ a,In a alts∧e=a.e∧∃ t,a.Q t s
def KFinS (alts:List Alt):Exit→Fr→St→List Ans→Prop:=fun e _ σ as=>match as with
 | [.fin a t]=>e=a.e∧(a.Q t σ∧In a alts)
 | _=>False
def FINS (alts:List Alt) (a:Alt) (t:a.T) (σ:St):Prop:=a.e=a.e∧(a.Q t σ∧In a alts)
theorem finS {alts:List Alt} (a:Alt) (t:a.T) {σ:St} (h:a.Q t σ) (hi:In a alts):FINS alts a t σ:=⟨rfl,h,hi⟩
def KAs (P:Program) (R:Nat→Rec) (lo:Nat) (b:Code) (τ τ':St) (K:Exit→Fr→St→List Ans→Prop):Exit→Fr→St→List Ans→Prop:=fun e fr s an=>(e=.normal∧s=τ)∧wpE P R (some lo) b an fr τ' K
def yRO (P:Program) (lo:Nat) (args:List Value) (τ:St) (tm:Tm) (ps:List Tmp) (a b:Code) (db:Nat) (alts:List Alt):Prop :=
 ∃ e s,PostS alts e s∧(e=.normal∨e=.ret∨(∃ i,e=.exit i)→lo<τ.next→yS s.heap lo=some (.loop tm ps a b .busy none db)→τ.next≤s.next→yRQ P lo args τ (.bool (yQG e)) ⟨(s.put lo (endBlk tm ps a b db e)).heap,s.next,min τ.low (min s.low lo)⟩)
theorem yYF {lo db:Nat} {tm:Tm} {ps:List Tmp} {a b:Code} {args:List Value} {τ:St} (hl:yS τ.heap lo=some (.loop tm ps a b .ready none db)) (hn:args.length=ps.length) {σ1:St} (hσ:σ1=τ.re.put lo (.loop tm ps a b .busy none db)) (as:List Ans)
  (h:Hid (wpE P (zZ P) (some lo) a as ⟨(ps.zip args).foldl (fun f p=>f.set p.1 p.2) tm,[]⟩ τ.re (KAs P (zZ P) lo b τ.re σ1 (KFinS alts)))) :
  yRO P lo args τ tm ps a b db alts:=by
 subst hσ
 obtain ⟨e1,fr1,s1,an1,⟨N1,h1⟩,⟨rfl,rfl⟩,h2⟩:=zMV _ _ _ _ _ (hid h)
 obtain ⟨e,fr2,s,an2,⟨N2,h3⟩,h4⟩:=zMV _ _ _ _ _ h2
 unfold KFinS at h4
 split at h4
 rotate_left
 ·exact h4.elim
 obtain ⟨rfl,h5,h6⟩:=h4
 rename_i al t
 refine ⟨_,s,⟨al,h6,rfl,t,h5⟩,fun he hlt hb hs=>⟨N1+N2+1,fun N hN=>?_⟩⟩
 obtain ⟨N,rfl⟩:∃ N',N=N'+1:=⟨N-1,by omega⟩
 have k1:=h1 N (by omega)
 have k3:=h3 N (by omega)
 have hr:(⟨τ.heap,τ.next,τ.next⟩:St)=τ.re:=rfl
 have hlr:yS τ.re.heap lo=some (.loop tm ps a b .ready none db):=hl
 unfold zBE
 rw [hr]
 simp only [zZ,hlr,hn,Nat.beq_refl,cond_true,Tm.puts_eq,k1,zRV,St.write_eq,k3]
 have key:∀ y:Blk,zCF τ (.bool (yQG al.e)) (s.put lo y)=some (.bool (yQG al.e),⟨(s.put lo y).heap,s.next,min τ.low (min s.low lo)⟩):=by
  intro y
  unfold zCF
  have e1:Nat.ble τ.next (s.put lo y).low=false:=by
   rw [Bool.eq_false_iff];intro e;have:=(zW _ _).1 e;simp only [St.put_low] at this;omega
  have e2:Nat.ble τ.next (s.put lo y).next=true:=(zW _ _).2 hs
  simp only [e1,Bool.false_and,cond_false,e2,cond_true,vQ,zFC]
  rfl
 rcases he with e | e | ⟨i,e⟩ <;> (rw [e] at key ⊢;simp only [zRU,zHZ,hb,St.write_eq];exact key _)
def exitC:Option Code→Exit
 | some .ret=>.ret
 | some (.exit id)=>.exit id
 | _=>.normal
theorem yUE {gx:Operand} {ps:Array Tmp} {a b:Code} {xs:List (Exit × (St→Prop))} {f:FuncId} {fs:List Value} (hg:∀ g,yJ (Fm n (ov l g)) gx=.func (.func f) ⟨[]⟩ ⟨fs⟩)
  (h:∀ g,∃ v s st pend,zE P f (.func (.yield (σ.next+1)) ⟨[]⟩ ⟨[]⟩::fs) ((σ.add .defd).add (.loop (Fm n (ov l g)) ps.toList a b .ready none σ.next)) v s∧yS s.heap (σ.next+1)=some (.loop (Fm n (ov l g)) ps.toList a b st pend σ.next) ∧
   ((st=.ready∧pend=none)∨(st=.done∧(pend=some .ret∨∃ i,pend=some (.exit i))))∧yLZ xs (exitC pend) (s.put (σ.next+1) (.loop (Fm n (ov l g)) ps.toList a b .exhausted pend σ.next))):yFZ P (zZ P) gx ps a b n l xs σ:=by
 intro g ms
 obtain ⟨v,s,st,pend,⟨N0,hN⟩,hb,hst,hq⟩:=h g
 refine ⟨exitC pend,_,⟨N0,fun N hl=>?_⟩,hq⟩
 have h1:=hN N hl
 simp only [zOR,zJG,St.new_eq,hg,zOA,List.nil_append,List.singleton_append,St.add_next]
 simp only [h1,zGI,hb,St.write_eq]
 rcases hst with ⟨rfl,rfl⟩ | ⟨rfl,rfl | ⟨i,rfl⟩⟩ <;> rfl
end
end Go.Lay

namespace Go.Lay
open Go
section
variable {P:Program} {σ τ τ':St} {S:Nat→Prop}
theorem New.of_only (h:New σ τ) (k:Only S τ τ') (hs:∀ b,S b→σ.next≤b):New σ τ' :=
  ⟨⟨Nat.le_trans h.le.next k.next,fun b hb=>(k.get b (Nat.lt_of_lt_of_le hb h.le.next) (fun hS=>by have:=hs b hS;omega)).trans (h.le.get b hb)⟩,
   fun m h1 h2=>k.low m (h.low m h1 h2) (Nat.le_trans h2 h.le.next) (fun b _ hS=>Nat.le_trans h2 (hs b hS))⟩
theorem New.own {b n:Nat} {cs:List Value} (h:New σ τ) (hb:σ.next≤b):New σ (τ.own b cs n):=h.of_only (S:=(·=b)) (Only.own (.inr rfl)) (by rintro _ rfl;exact hb)
theorem New.row' {cs:List Value} {n:Nat} (h:New σ τ):New σ (τ.row cs n):=h.trans (New.row _ _ _)
theorem New.nx (h:New σ τ):σ.next≤τ.next:=h.le.next
theorem New.lw (h:New σ.re τ):σ.next≤τ.low:=h.low _ (Nat.le_refl _) (Nat.le_refl _)
structure Gr (P:Program) (σ:St) (n0 t n:Nat) (p:Option Addr) (len c:Nat) (vs:List Value):Prop where
 app:App σ n0 n (.slice p len c) len (vI vs)
 len_eq:vs.length=len
 el:∀ v∈vs,zHQ P t n v
theorem Gr.nil {n0 t n:Nat}:Gr P σ n0 t n none 0 0 []:=⟨App.nil,rfl,by simp⟩
theorem Gr.le {n0 t n len c:Nat} {p:Option Addr} {vs:List Value} (h:Gr P σ n0 t n p len c vs) (k:Le σ τ):Gr P τ n0 t n p len c vs:=⟨h.app.keep k,h.len_eq,h.el⟩
theorem Gr.only {n0 t n len c:Nat} {p:Option Addr} {vs:List Value} (h:Gr P σ n0 t n p len c vs) (k:Only S σ τ) (hs:∀ b,AtP p b→¬ S b):Gr P τ n0 t n p len c vs :=
 ⟨k.app' h.app (by rintro a l c ⟨⟩;exact hs _ ⟨a,rfl,rfl⟩),h.len_eq,h.el⟩
theorem Gr.slv {n0 t n len c:Nat} {p:Option Addr} {vs:List Value} (h:Gr P σ n0 t n p len c vs):SlV P σ t n p len vs:=h.app.slv h.len_eq h.el
theorem Gr.bd {n0 t n len c b:Nat} {p:Option Addr} {vs:List Value} (h:Gr P σ n0 t n p len c vs) (hb:AtP p b):n0≤b∧b<σ.next:=by
 obtain ⟨a,e,rfl⟩:=hb;exact ⟨h.app.ge a e,h.app.lt a e⟩
theorem yKI {st xt t n n0 len c:Nat} {p:Option Addr} {vs:List Value} (v:Value) {cs:List Value} (T:AppT P st xt t n) (h:Gr P σ n0 t n p len c vs) (hle:Le σ τ) (hv:zHQ P t n v) (hroom:len+1≤1073741824) (hn:n0≤σ.next) (e:v.cells.toList=cs:=by rfl) (hc:cs.all cellB=true:=by first | rfl | simp) :
  ∃ p' c' τ',yK P st xt (.slice p len c) (.slice (some ⟨τ.next,0,none⟩) 1 1) (τ.row cs n)=some (.slice p' (len+1) c',τ')∧Gr P τ' n0 t n p' (len+1) c' (vs++[v])∧Only (AtP p) (τ.row cs n) τ'∧(∀ b,AtP p' b→AtP p b∨τ.next≤b):=by
 subst e
 have hl:=hv.len
 obtain ⟨p',c',τ',h1,h2,h3,h4⟩:=yCT (k:=1) (m:=1) T ((h.le hle).app.keep (Le.row _ _ _)) (xE τ v.cells.toList n) (by omega) (by omega) hroom hc (by have:=hle.next;simp;omega)
 refine ⟨p',c',τ',h1,⟨by rw [zCT];simpa [vI] using h2,by simp [h.len_eq], ?_⟩,h3,fun b hb=>?_⟩
 ·intro x hx
  simp at hx
  rcases hx with hx | rfl
  ·exact h.el x hx
  ·exact hv
 ·rcases h4 b hb with h5 | h5
  ·exact .inl h5
  ·right;simp at h5;omega
theorem grow {σ0:St} {st xt t n len c:Nat} {p:Option Addr} {vs:List Value} (v:Value) {cs:List Value} (T:AppT P st xt t n) (h:Gr P σ σ0.next t n p len c vs) (hN:New σ0 σ) (hle:New σ τ) (hv:zHQ P t n v) (hroom:len+1≤1073741824) (e:v.cells.toList=cs:=by rfl) (hc:cs.all cellB=true:=by first | rfl | simp) :
  ∃ p' c' τ',yK P st xt (.slice p len c) (.slice (some ⟨τ.next,0,none⟩) 1 1) (τ.row cs n)=some (.slice p' (len+1) c',τ')∧Gr P τ' σ0.next t n p' (len+1) c' (vs++[v])∧New σ0 τ'∧Only (AtP p) (τ.row cs n) τ'∧(∀ b,AtP p' b→AtP p b∨τ.next≤b):=by
 obtain ⟨p',c',τ',h1,h2,h3,h4⟩:=yKI v T h hle.le hv hroom hN.nx e hc
 exact ⟨p',c',τ',h1,h2,((hN.trans hle).row').of_only h3 (fun b hb=>(h.bd hb).1),h3,h4⟩
theorem zQ.newSl {f:FuncId} {args:List Value} {t n len:Nat} {vs:List Value} (h:zQ P f args σ.re fun v s=>New σ.re s∧∃ p c,v=.slice p len c∧SlV P s t n p len vs∧∀ b,AtP p b→σ.next≤b) :
  ∃ p c σ',zE P f args σ (.slice p len c) σ'∧New σ σ'∧SlV P σ' t n p len vs∧∀ b,AtP p b→σ.next≤b:=by
 obtain ⟨v,σ',h1,h2,p,c,rfl,h3,h4⟩:=zQ.new (Q:=fun v s=>∃ p c,v=.slice p len c∧SlV P s t n p len vs∧∀ b,AtP p b→σ.next≤b) h (by
  rintro v s s' ⟨p,c,rfl,g1,g2⟩ hle;exact ⟨p,c,rfl,g1.le hle,g2⟩) (by
  rintro v s hr ⟨p,c,rfl,g1,g2⟩
  cases p with
  | none=>exact ⟨none,c,rfl,zHX g1,fun b hb=>(AtP.none hb).elim⟩
  | some a=>exact Bool.noConfusion (show false=true from hr))
 exact ⟨p,c,σ',h1,h2,h3,h4⟩
def mkTB (P:Program) (st e n:Nat) (z:Value):Bool :=
 (match wJ P st with | some (e',n')=>Nat.beq e e' && Nat.beq n n' | none=>false) && (match P.info? e with | some ei=>Nat.ble ei.bytes 4096 | none=>false) && Nat.beq z.cells.toList.length n && Nat.ble n 4096 && Nat.blt 0 n
theorem make_sl {st e n:Nat} {z:Value} (hb:mkTB P st e n z=true) (hz:zCC P e=some z) {len:Nat} (hl:len≤1073741824) :
  zS P (evL [.int .i64 (len:Int),.int .i64 (len:Int)]) σ (.makeSlice st (.tmp 0) (.tmp 1))=some (.slice (some ⟨σ.next,0,none⟩) len len,σ.row (xA z.cells.toList len) n):=by
 unfold mkTB at hb
 simp only [Bool.and_eq_true] at hb
 obtain ⟨⟨⟨⟨h1,h2⟩,h3⟩,h4⟩,h5⟩:=hb
 split at h1
 rotate_left
 ·cases h1
 rename_i e' n' he
 simp only [Bool.and_eq_true] at h1
 rw [← Nat.eq_of_beq_eq_true h1.1,← Nat.eq_of_beq_eq_true h1.2] at he
 split at h2
 rotate_left
 ·cases h2
 rename_i ei hi
 have k1:leI 0 (len:Int)=true:=(uC _ _).2 (Int.natCast_nonneg _)
 have k2:leI (len:Int) (len:Int)=true:=(uC _ _).2 (Int.le_refl _)
 have k3:leI (len:Int) 1073741824=true:=(uC _ _).2 (by omega)
 have k4:zCO len n ei.bytes=true:=by unfold zCO;rw [(zW _ _).2 hl,h4,h2];rfl
 have e0:∀ l:List Value,evL l (.tmp 0)=l.getD 0 undef:=fun _=>rfl
 have e1:∀ l:List Value,evL l (.tmp 1)=l.getD 1 undef:=fun _=>rfl
 unfold zS
 simp only [he,e0,e1,List.getD_cons_zero,List.getD_cons_succ,hz,hi,k1,k2,k3,Int.toNat_natCast,k4,h3,h5,Bool.and_self,cond_true,yP]
 rfl
def vR (n:Nat) (P:Nat→Int):List Value:=(List.range n).map fun s=>.int .i64 (P s)
theorem zDC {n:Nat} {P:Nat→Int}:(vR n P).length=n:=by simp [vR]
theorem zVD {n s:Nat} {P:Nat→Int} (h:s<n):(vR n P)[s]?=some (.int .i64 (P s)):=by simp [vR,h]
theorem yXS {n s:Nat} {P:Nat→Int} {v:Int} (h:s<n):(vR n P).set s (.int .i64 v)=vR n (fun s'=>if s'=s then v else P s'):=by
 apply List.ext_getElem?
 intro i
 rw [List.getElem?_set]
 by_cases e:s=i
 ·subst e;simp [vR,h]
 ·rw [if_neg e]
  by_cases hi:i<n
  ·rw [zVD hi,zVD hi,if_neg (fun x=>e x.symm)]
  ·rw [List.getElem?_eq_none (by rw [zDC];omega),List.getElem?_eq_none (by rw [zDC];omega)]
theorem zGD {n:Nat} {P Q:Nat→Int} (h:∀ s,s<n→P s=Q s):vR n P=vR n Q:=by
 unfold vR
 apply List.map_congr_left
 intro s hs
 rw [h s (by simpa using hs)]
theorem Only.lower {m:Nat} (h:Only S σ.re τ):Only S σ ⟨τ.heap,τ.next,min σ.low τ.low⟩ :=
 ⟨h.next,h.get,fun k h1 h2 h3=>by have:=h.low k h2 h2 h3;show k≤min _ _;omega⟩
theorem Own.at_ {b n:Nat} {cs:List Value} (h:Own σ b cs n) (k:yS τ.heap b=yS σ.heap b) (hn:σ.next≤τ.next):Own τ b cs n:=⟨by rw [k];exact h.get,Nat.lt_of_lt_of_le h.lt hn⟩
end
end Go.Lay

namespace Go.Lay
open Go
section
variable {P:Program} {σ τ:St}
def zSQ (σ:St) (n:Nat) (p:Option Addr) (len c:Nat):Prop :=
 (p=none∧len=0∧c=0)∨∃ b rs nx ro,p=some ⟨b,0,none⟩∧len≤c∧xC c=true∧yS σ.heap b=some (.cells rs n [(0,rs.length)] nx ro)∧rs.length=len*n∧b<σ.next
theorem zSM {c:Nat} (h:xC c=true):yO c=c:=by
 have:=(yX c).1 h
 unfold yO;rw [if_neg (by omega)]
theorem yQZ {k:IntKind} {x d top:Nat} {i:Int} (hi:i=(x:Int)) (h:x≤top):uY (some (.int k i)) d top=some x:=by
 subst hi
 have h1:leI 0 (x:Int)=true:=(uC _ _).2 (by omega)
 have h2:leI (x:Int) (.ofNat top)=true:=(uC _ _).2 (by show (x:Int)≤(top:Int);omega)
 show (bif leI 0 (x:Int) && leI (x:Int) (.ofNat top) then some (x:Int).toNat else none)=some x
 rw [h1,h2];rfl
end
end Go.Lay

namespace Go.Lay
open Go
section
variable {P:Program}
theorem xI {α β:Type} (x:Sem α) (f:α→Sem β):yC P (x >>= f)=(yC P x).bind fun a=>yC P (f a):=by
 induction x with
 | pure a=>rfl
 | program k ih=>exact ih P
 | _=>rfl
theorem zQU {α:Type} (a:α):yC P (pure a:Sem α)=some a:=rfl
theorem yEP:yC P program=some P:=rfl
theorem zLT {t:TypeId} {d:TypeDesc} (h:P.underlying t=some d):yC P (underlying t)=some d:=by
 unfold underlying
 rw [xI,yEP]
 simp only [Option.bind_some,h]
 rfl
theorem yZA {t:TypeId} {k:IntKind} (h:P.underlying t=some (.int k)):yC P (isAgg t)=some false:=by
 unfold isAgg
 rw [xI,zLT h]
 rfl
theorem ySH {t:TypeId} {k:IntKind} (h:P.underlying t=some (.int k)) {cs:Array Value} {off:Nat} {v:Value} (hv:cs[off]?=some v):yC P (part t cs off)=some v:=by
 unfold part
 rw [xI,yZA h]
 simp only [Option.bind_some,Bool.false_eq_true,if_false,hv]
 rfl
theorem zJO {d:Nat} {t:TypeId} {k:IntKind} (h:P.underlying t=some (.int k)) (q:IntKind) (a b:Int):yC P (Op.equalIn (d+1) t (.int q a) (.int q b))=some (a == b):=by
 unfold Op.equalIn
 rw [xI,zLT h]
 simp only [Option.bind_some,if_true]
 rfl
def yST (P:Program):Nat→List Field→Bool
 | _,[]=>true
 | i, f :: fs => (match P.underlying f.type with | some (.int _) => true | _ => false) && Nat.beq f.offset i && (f.name != "_") && yST P (i + 1) fs
theorem yVS {f:Field} (h:(match P.underlying f.type with | some (.int _)=>true | _=>false)=true):∃ k,P.underlying f.type=some (.int k):=by
 split at h
 ·exact ⟨_,by assumption⟩
 ·cases h
theorem yBA {d:Nat} {xs ys:Array Value} {q:Nat→IntKind}:∀ (fs:List Field) (i:Nat) (as bs:List Int),yST P i fs=true→as.length=fs.length→bs.length=fs.length→(∀ j x,as[j]?=some x→xs[i+j]?=some (.int (q (i+j)) x))→(∀ j x,bs[j]?=some x→ys[i+j]?=some (.int (q (i+j)) x)) →
  yC P (forIn fs ((none,()):Option Bool × Unit) fun f __s =>
   if f.name ≠ "_" then do
    let a ← part f.type xs f.offset
    let b ← part f.type ys f.offset
    let r ← Op.equalIn (d+1) f.type a b
    if (!r)=true then pure (ForInStep.done (some false,())) else pure (ForInStep.yield (none,()))
   else pure (ForInStep.yield (none,())))=some (if as=bs then (none,()) else (some false,()))
 | [],i,as,bs,_,ha,hb,_,_=>by
  have h1:as=[]:=by simpa using ha
  have h2:bs=[]:=by simpa using hb
  subst h1 h2;rfl
 | f::fs,i,[],bs,_,ha,_,_,_=>by simp at ha
 | f::fs,i,a::as,[],_,_,hb,_,_=>by simp at hb
 | f::fs,i,a::as,b::bs,h,ha,hb,hx,hy=>by
  simp only [yST,Bool.and_eq_true] at h
  obtain ⟨⟨⟨h1,h2⟩,h3⟩,h4⟩:=h
  obtain ⟨ku,hu⟩:=yVS h1
  have ho:=Nat.eq_of_beq_eq_true h2
  have hn : f.name ≠ "_" := by simpa using h3
  have ea:xs[f.offset]?=some (.int (q i) a):=by rw [ho];simpa using hx 0 a rfl
  have eb:ys[f.offset]?=some (.int (q i) b):=by rw [ho];simpa using hy 0 b rfl
  rw [List.forIn_cons,xI]
  simp only [if_pos hn]
  rw [xI,ySH hu ea]
  simp only [Option.bind_some]
  rw [xI,ySH hu eb]
  simp only [Option.bind_some]
  rw [xI,zJO hu]
  simp only [Option.bind_some]
  by_cases e:a=b
  ·subst e
   simp only [beq_self_eq_true,Bool.not_true,Bool.false_eq_true,if_false,zQU,Option.bind_some]
   have ih:=yBA (d:=d) (xs:=xs) (ys:=ys) fs (i+1) as bs h4 (by simpa using ha) (by simpa using hb) (fun j x hj=>by have:=hx (j+1) x (by simpa using hj);rwa [show i+(j+1)=i+1+j by omega] at this) (fun j x hj=>by have:=hy (j+1) x (by simpa using hj);rwa [show i+(j+1)=i+1+j by omega] at this)
   rw [ih]
   by_cases e2:as=bs
   ·rw [if_pos e2,if_pos (by rw [e2])]
   ·rw [if_neg e2,if_neg (by simpa using e2)]
  ·have e1:(a == b)=false:=by simpa using e
   simp only [e1,Bool.not_false,if_true,zQU,Option.bind_some]
   rw [if_neg (by intro k;exact e (by cases k;rfl))]
def yPV (P:Program) (t n:Nat):Bool:=match P.underlying t with
 | some (.struct fs)=>yST P 0 fs.toList && Nat.beq fs.size n && !P.stoodInHeld t
 | _=>false
theorem pv_recK {t n d:Nat} (q:Nat→IntKind) (h:yPV P t n=true) {as bs:List Int} {xs ys:Array Value} (ha:as.length=n) (hb:bs.length=n) (hx:∀ (j:Nat) (x:Int),as[j]?=some x→xs[j]?=some (Value.int (q j) x)) (hy:∀ (j:Nat) (x:Int),bs[j]?=some x→ys[j]?=some (Value.int (q j) x)):yC P (Op.equalIn (d+2) t (.agg xs) (.agg ys))=some (decide (as=bs)):=by
 unfold yPV at h
 split at h
 rotate_left
 ·cases h
 rename_i fs hu
 simp only [Bool.and_eq_true,Bool.not_eq_true'] at h
 obtain ⟨⟨h1,h2⟩,h3⟩:=h
 have h2:=Nat.eq_of_beq_eq_true h2
 have hl:fs.toList.length=n:=by simpa using h2
 have key:=yBA (d:=d) (xs:=xs) (ys:=ys) (q:=q) fs.toList 0 as bs h1 (by omega) (by omega) (fun j x hj=>by simpa using hx j x hj) (fun j x hj=>by simpa using hy j x hj)
 unfold Op.equalIn
 rw [xI,zLT hu]
 simp only [Option.bind_some]
 rw [xI,yEP]
 simp only [Option.bind_some,h3,Bool.false_eq_true,if_false]
 rw [xI,← Array.forIn_toList]
 rw [key]
 simp only [Option.bind_some]
 by_cases e:as=bs
 ·rw [if_pos e];simp [e];rfl
 ·rw [if_neg e];simp [e];rfl
theorem pv_rec {t n d:Nat} (h:yPV P t n=true) {as bs:List Int} (ha:as.length=n) (hb:bs.length=n):yC P (Op.equalIn (d+2) t (.agg ⟨as.map fun x=>.int .i64 x⟩) (.agg ⟨bs.map fun x=>.int .i64 x⟩))=some (decide (as=bs)) :=
 pv_recK (fun _=>.i64) h ha hb (fun j x hj=>by simp [hj]) (fun j x hj=>by simp [hj])
structure KeyT (P:Program) (kt:TypeId) {κ:Type} [DecidableEq κ] (enc:κ→Value):Prop where
 eq:∀ a b,yC P (Op.equal kt (enc a) (enc b))=some (decide (a=b))
 ok:∀ e a,zKR P e kt (enc a)=true
 bits:∀ a,Instr.sameBits 10000 (enc a) (enc a)=true
section
variable {κ α:Type} [DecidableEq κ] {σ τ:St} {b kt et mt:Nat} {enc:κ→Value} {vf:α→Value} {F:κ→Option α}
def zLZ (m:List (κ × α)) (k:κ):Option α:=match m with
 | []=>none
 | e::m=>if k=e.1 then some e.2 else zLZ m k
def zXE (k:κ):List (κ × α)→Nat→Option Nat
 | [],_=>none
 | e::m,i=>if k=e.1 then some i else zXE k m (i+1)
theorem zND (hk:KeyT P kt enc) (k:κ):∀ (m:List (κ × α)) (i:Nat),zCI P kt (enc k) (m.map fun e=>(enc e.1,vf e.2)) i=some (zXE k m i)
 | [],i=>rfl
 | e::m,i=>by
  simp only [List.map_cons,zCI,hk.eq,zXE]
  by_cases h:k=e.1
  ·simp [h]
  ·simp only [h,decide_false,if_false];exact zND hk k m (i+1)
theorem zNH {k:κ}:∀ {m:List (κ × α)} {i j:Nat},zXE k m i=some j→∃ v,i≤j∧m[j-i]?=some (k,v)∧zLZ m k=some v
 | [],_,_,h=>by cases h
 | e::m,i,j,h=>by
  unfold zXE at h
  split at h
  ·rename_i hk
   cases h
   exact ⟨e.2,Nat.le_refl _,by simp [hk],by simp [zLZ,hk]⟩
  ·rename_i hk
   obtain ⟨v,h1,h2,h3⟩:=zNH h
   refine ⟨v,by omega, ?_,by simp [zLZ,hk,h3]⟩
   rw [show j-i=(j-(i+1))+1 by omega,List.getElem?_cons_succ]
   exact h2
theorem zSD {k:κ}:∀ {m:List (κ × α)} {i:Nat},zXE k m i=none→zLZ m k=none
 | [],_,_=>rfl
 | e::m,i,h=>by
  unfold zXE at h
  split at h
  ·cases h
  ·rename_i hk;simp [zLZ,hk,zSD h]
def zIV (P:Program) (σ:St) (b:Nat) (enc:κ→Value) (vf:α→Value) (F:κ→Option α):Prop:=b<σ.next∧∃ m:List (κ × α),yS σ.heap b=some (.map (m.map fun e=>(enc e.1,vf e.2)))∧∀ k,F k=zLZ m k
theorem zIV.le (h:zIV P σ b enc vf F) (k:Le σ τ):zIV P τ b enc vf F:=by
 obtain ⟨h1,m,h2,h3⟩:=h
 exact ⟨Nat.lt_of_lt_of_le h1 k.next,m,by rw [k.get _ h1];exact h2,h3⟩
theorem zIV.at_ (h:zIV P σ b enc vf F) (k:yS τ.heap b=yS σ.heap b) (hn:σ.next≤τ.next):zIV P τ b enc vf F:=by
 obtain ⟨h1,m,h2,h3⟩:=h
 exact ⟨Nat.lt_of_lt_of_le h1 hn,m,by rw [k];exact h2,h3⟩
theorem zIV.new (σ:St):zIV P (σ.add (.map [])) σ.next enc vf (fun _=>none):=⟨by simp,[],by rw [St.add_get,if_pos rfl];rfl,fun _=>rfl⟩
theorem zIV.look {z:Value} {ok:Bool} (h:zIV P σ b enc vf F) (hk:KeyT P kt enc) (hm:zGL P mt=some (kt,et)) (hz:zCC P et=some z) (k:κ) :
  xS P (evL [.map (some b),enc k]) σ (.lookup mt (.tmp 0) (.tmp 1) ok)=some (let v:=match F k with | some v=>vf v | none=>z;bif ok then .tuple ⟨[v,.bool (F k).isSome]⟩ else v):=by
 obtain ⟨h1,m,h2,h3⟩:=h
 have e0:∀ l:List Value,evL l (.tmp 0)=l.getD 0 undef:=fun _=>rfl
 have e1:∀ l:List Value,evL l (.tmp 1)=l.getD 1 undef:=fun _=>rfl
 unfold xS
 simp only [hm,hz,e0,e1,List.getD_cons_zero,List.getD_cons_succ,h2,hk.ok,cond_true,zND hk]
 rw [h3 k]
 cases hi:zXE k m 0 with
 | none=>simp only [zSD hi];rfl
 | some j =>
  obtain ⟨v,_,g2,g3⟩:=zNH hi
  simp only [g3]
  rw [Nat.sub_zero] at g2
  simp [g2]
theorem zIV.look1 {z:Value} (h:zIV P σ b enc vf F) (hk:KeyT P kt enc) (hm:zGL P mt=some (kt,et)) (hz:zCC P et=some z) {k:κ} {v:α} (hv:F k=some v) :
  xS P (evL [.map (some b),enc k]) σ (.lookup mt (.tmp 0) (.tmp 1) true)=some (.tuple ⟨[vf v,.bool true]⟩):=by rw [h.look hk hm hz k,hv];rfl
theorem zIV.look0 {z:Value} (h:zIV P σ b enc vf F) (hk:KeyT P kt enc) (hm:zGL P mt=some (kt,et)) (hz:zCC P et=some z) {k:κ} (hv:F k=none) :
  xS P (evL [.map (some b),enc k]) σ (.lookup mt (.tmp 0) (.tmp 1) true)=some (.tuple ⟨[z,.bool false]⟩):=by rw [h.look hk hm hz k,hv];rfl
theorem yKP {m:List (κ × α)} {k k':κ} {x:α} (h:zLZ m k=none):zLZ (m++[(k,x)]) k'=if k'=k then some x else zLZ m k':=by
 induction m with
 | nil=>simp [zLZ]
 | cons e m ih =>
  simp only [zLZ] at h
  split at h
  ·cases h
  ·rename_i hk
   simp only [List.cons_append,zLZ,ih h]
   by_cases h1:k'=e.1
   ·have:¬ k'=k:=fun h2=>hk (h2 ▸ h1)
    rw [if_pos h1,if_pos h1,if_neg this]
   ·rw [if_neg h1,if_neg h1]
theorem yKO {k k':κ} {x:α}:∀ {m:List (κ × α)} {i j:Nat},zXE k m i=some j→zLZ (m.set (j-i) (k,x)) k'=if k'=k then some x else zLZ m k'
 | [],_,_,h=>by cases h
 | e::m,i,j,h=>by
  unfold zXE at h
  split at h
  ·rename_i hk
   cases h
   simp only [Nat.sub_self,List.set_cons_zero,zLZ]
   by_cases h1:k'=k
   ·rw [if_pos h1,if_pos h1]
   ·rw [if_neg h1,if_neg h1,if_neg (fun h2=>h1 (h2.trans hk.symm))]
  ·rename_i hk
   obtain ⟨v,h1,_,_⟩:=zNH h
   rw [show j-i=(j-(i+1))+1 by omega,List.set_cons_succ]
   simp only [zLZ]
   rw [yKO h]
   by_cases h2:k'=e.1
   ·have:¬ k'=k:=fun h3=>hk (h3 ▸ h2)
    rw [if_pos h2,if_pos h2,if_neg this]
   ·rw [if_neg h2,if_neg h2]
theorem zIV.put (h:zIV P σ b enc vf F) (hk:KeyT P kt enc) (hm:zGL P mt=some (kt,et)) (k:κ) (x:α) :
  ∃ es,zS P (evL [.map (some b),enc k,vf x]) σ (.mapUpdate mt (.tmp 0) (.tmp 1) (.tmp 2))=some (undef,σ.put b (.map es))∧zIV P (σ.put b (.map es)) b enc vf (fun k'=>if k'=k then some x else F k'):=by
 obtain ⟨h1,m,h2,h3⟩:=h
 have e0:∀ l:List Value,evL l (.tmp 0)=l.getD 0 undef:=fun _=>rfl
 have e1:∀ l:List Value,evL l (.tmp 1)=l.getD 1 undef:=fun _=>rfl
 have e2:∀ l:List Value,evL l (.tmp 2)=l.getD 2 undef:=fun _=>rfl
 cases hi:zXE k m 0 with
 | none =>
  refine ⟨(m++[(k,x)]).map fun e=>(enc e.1,vf e.2), ?_,by simpa using h1,m++[(k,x)],by rw [St.put_get,if_pos rfl],fun k'=>?_⟩
  ·unfold zS
   simp only [hm,e0,e1,e2,List.getD_cons_zero,List.getD_cons_succ,h2,hk.ok,cond_true,zND hk,hi,St.write_eq,List.map_append,List.map_cons,List.map_nil]
  ·show (if k'=k then some x else F k')=_
   rw [yKP (zSD hi),h3 k']
 | some j =>
  obtain ⟨v,_,g2,g3⟩:=zNH hi
  rw [Nat.sub_zero] at g2
  refine ⟨(m.set j (k,x)).map fun e=>(enc e.1,vf e.2), ?_,by simpa using h1,m.set j (k,x),by rw [St.put_get,if_pos rfl],fun k'=>?_⟩
  ·have g2':(m.map fun e=>(enc e.1,vf e.2))[j]?=some (enc k,vf v):=by simp [g2]
   unfold zS
   simp only [hm,e0,e1,e2,List.getD_cons_zero,List.getD_cons_succ,h2,hk.ok,cond_true,zND hk,hi,g2',hk.bits,St.write_eq,List.map_set]
  ·have:=yKO (x:=x) (k':=k') hi
   rw [Nat.sub_zero] at this
   show (if k'=k then some x else F k')=_
   rw [this,h3 k']
end
end
end Go.Lay

namespace Go.Lay
open Go
def Keys:List (Nat × Nat)→Nat→Prop
 | [],_=>True
 | (k,_)::l,nx=>k<nx∧Keys l k
theorem Keys.mono:∀ {l:List (Nat × Nat)} {m n:Nat},Keys l m→m≤n→Keys l n
 | [],_,_,_,_=>trivial
 | (_,_)::_,_,_,h,hm=>⟨Nat.lt_of_lt_of_le h.1 hm,h.2⟩
theorem Keys.tail:∀ {l:List (Nat × Nat)} {a:Nat × Nat} {m:Nat},Keys (a::l) m→Keys l m
 | _,(_,_),_,h=>h.2.mono (Nat.le_of_lt h.1)
theorem Keys.lt:∀ {l r:List (Nat × Nat)} {k e m:Nat},Keys (l++(k,e)::r) m→k<m
 | [],_,_,_,_,h=>h.1
 | (_,_)::l,_,_,_,_,h=>Nat.lt_trans (Keys.lt h.2) h.1
theorem Keys.drop:∀ {l r:List (Nat × Nat)} {m:Nat},Keys (l++r) m→Keys r m
 | [],_,_,h=>h
 | (_,_)::l,_,_,h=>(Keys.drop h.2).mono (Nat.le_of_lt h.1)
theorem Keys.find:∀ {l r:List (Nat × Nat)} {k e m:Nat},Keys (l++(k,e)::r) m→uP (l++(k,e)::r) k=some e∧vG (l++(k,e)::r) k=(k,e)::r
 | [],r,k,e,_,_=>by simp [uP,vG]
 | (k',e')::l,r,k,e,_,h=>by
  have h1:k<k':=Keys.lt h.2
  have h2:Nat.beq k' k=false:=by rw [Bool.eq_false_iff];intro e;have:=Nat.eq_of_beq_eq_true e;omega
  obtain ⟨h3,h4⟩:=Keys.find h.2
  exact ⟨by rw [List.cons_append,uP,h2,cond_false];exact h3,by rw [List.cons_append,vG,h2,cond_false];exact h4⟩
def Stk (z:St) (n0:Nat) (p:Option Addr) (len c:Nat) (xs:List Value) (sf:List (Nat × Nat)):Prop :=
 (p=none∧len=0∧c=0∧xs=[]∧sf=[])∨∃ b s bc pre r nx,p=some ⟨b,0,s⟩∧c=len+zAV∧xs.length=len∧0<len∧sf=(s.getD 0,len)::r∧n0≤b∧b<z.next∧yS z.heap b=some (.cells bc 1 (pre++sf) nx false)∧bc.take len=xs∧Keys (pre++sf) nx
def Kid (n0:Nat) (p:Option Addr) (len c:Nat) (xs:List Value) (sf:List (Nat × Nat)) (p':Option Addr) (xs':List Value) (sf':List (Nat × Nat)):Prop :=
 (p=none∧len=0∧c=0∧xs=[]∧sf=[])∨∃ b s s' e r,p=some ⟨b,0,s⟩∧p'=some ⟨b,0,s'⟩∧sf'=e::sf∧sf=(s.getD 0,len)::r∧c=len+zAV∧xs.length=len∧0<len∧xs'.take len=xs∧n0≤b
section
variable {P:Program} {S:Nat→Prop} {z z':St} {n0 len c len' c':Nat} {p p':Option Addr} {xs xs':List Value} {sf sf':List (Nat × Nat)}
theorem Stk.nil:Stk z n0 none 0 0 [] []:=.inl ⟨rfl,rfl,rfl,rfl,rfl⟩
theorem Stk.leq (h:Stk z n0 p len c xs sf):xs.length=len:=by
 rcases h with ⟨_,rfl,_,rfl,_⟩ | ⟨_,_,_,_,_,_,_,_,h,_⟩
 ·rfl
 ·exact h
theorem Stk.bd (h:Stk z n0 p len c xs sf):∀ b,AtP p b→n0≤b∧b<z.next:=by
 rintro b ⟨a,rfl,rfl⟩
 rcases h with ⟨h,_⟩ | ⟨b,s,bc,pre,r,nx,h1,h2,h3,h4,h5,h6,h7,_⟩
 ·cases h
 ·cases h1;exact ⟨h6,h7⟩
theorem Stk.only (h:Stk z n0 p len c xs sf) (k:Only S z z') (hs:∀ b,AtP p b→¬ S b):Stk z' n0 p len c xs sf:=by
 rcases h with h | ⟨b,s,bc,pre,r,nx,rfl,h2,h3,h4,h5,h6,h7,h8,h9⟩
 ·exact .inl h
 ·exact .inr ⟨b,s,bc,pre,r,nx,rfl,h2,h3,h4,h5,h6,Nat.lt_of_lt_of_le h7 k.next,by rw [k.get b h7 (hs b ⟨_,rfl,rfl⟩)];exact h8,h9⟩
theorem Stk.le (h:Stk z n0 p len c xs sf) (k:Le z z'):Stk z' n0 p len c xs sf:=by
 rcases h with h | ⟨b,s,bc,pre,r,nx,rfl,h2,h3,h4,h5,h6,h7,h8,h9⟩
 ·exact .inl h
 ·exact .inr ⟨b,s,bc,pre,r,nx,rfl,h2,h3,h4,h5,h6,Nat.lt_of_lt_of_le h7 k.next,by rw [k.get b h7];exact h8,h9⟩
theorem Stk.slp (h:Stk z n0 p len c xs sf):SlP z 1 p len xs:=by
 rcases h with ⟨rfl,rfl,_,rfl,_⟩ | ⟨b,s,bc,pre,r,nx,rfl,h2,h3,h4,rfl,h6,h7,h8,h9,h10⟩
 ·exact SlP.nil _ _
 ·refine ⟨by omega, ?_,h7⟩
  have hle:Nat.ble (0+len) len=true:=(zW _ _).2 (by omega)
  unfold yY
  simp only [h8,yI,(Keys.find h10).1,hle,cond_true,List.drop_zero,h3,h9]
theorem Stk.slv {t:Nat} (h:Stk z n0 p len c xs sf) (he:∀ v∈xs,zHQ P t 1 v∧v.cells.toList=[v]):SlV P z t 1 p len xs:=by
 have hf:vI xs=xs:=by
  have:∀ l:List Value,(∀ v∈l,v.cells.toList=[v])→vI l=l:=by
   intro l
   induction l with
   | nil=>intro _;rfl
   | cons v l ih =>
    intro h
    have h1:=h v List.mem_cons_self
    have h2:=ih (fun x hx=>h x (List.mem_cons_of_mem _ hx))
    have:vI (v::l)=v.cells.toList++vI l:=by simp [vI]
    rw [this,h1,h2];rfl
  exact this xs (fun v hv=>(he v hv).2)
 exact ⟨by rw [hf];exact h.slp,h.leq,fun v hv=>(he v hv).1⟩
theorem Kid.pop (h:Kid n0 p len c xs sf p' xs' sf') (k:Stk z n0 p' len' c' xs' sf'):Stk z n0 p len c xs sf:=by
 rcases h with h | ⟨b,s,s',e,r,rfl,rfl,rfl,rfl,rfl,h1,h2,h3,h4⟩
 ·exact .inl h
 ·rcases k with ⟨k,_⟩ | ⟨b',s2,bc,pre,r',nx,k1,k2,k3,k4,k5,k6,k7,k8,k9,k10⟩
  ·cases k
  ·cases k1
   refine .inr ⟨b,s,bc,pre++[e],r,nx,rfl,rfl,h1,h2,rfl,h4,k7, ?_, ?_, ?_⟩
   ·rw [List.append_assoc];exact k8
   ·have hl:len≤len':=by
     have:=congrArg List.length h3
     simp at this;omega
    rw [← h3,← k9,List.take_take,Nat.min_eq_left hl]
   ·rw [List.append_assoc];exact k10
theorem Stk.push {st xt e:Nat} {v:Value} (T:AppT P st xt e 1) (h:Stk z n0 p len c xs sf) (hc:cellB v=true) (hroom:len+1≤1073741824) (hn:n0≤z.next) :
  ∃ p' c' sf' z',yK P st xt (.slice p len c) (.slice (some ⟨z.next,0,none⟩) 1 1) (z.row [v] 1)=some (.slice p' (len+1) c',z')∧Stk z' n0 p' (len+1) c' (xs++[v]) sf'∧Kid n0 p len c xs sf p' (xs++[v]) sf'∧Only (AtP p) z z'∧z'.low≤z.low∧∀ b,AtP p' b→AtP p b∨z.next≤b:=by
 obtain ⟨xd,hxd,hxi⟩:=T.src
 obtain ⟨ei,zv,hei,hz,hby,hrz,hzl⟩:=T.info
 have hrow:=xE z [v] 1
 have hsrc:zCJ (z.row [v] 1) 1 zv xd (.slice (some ⟨z.next,0,none⟩) 1 1)=some (1,[v]):=by
  have:wY (z.row [v] 1) 1 (.slice (some ⟨z.next,0,none⟩) 1 1)=some (1,[v]):=by
   have hrd:=hrow.rd
   have hrd:yY (z.row [v] 1) ⟨z.next,0,none⟩ (1*1)=some [v]:=hrd
   simp [wY,hrd]
  unfold zCJ
  cases xd with
  | int _=>cases hxi
  | _=>simp only [this]
 have hcond:(zCO (len+1) 1 ei.bytes && [v].all cellB && Nat.beq [v].length (1*1) && zV RD zv && Nat.beq zv.cells.toList.length 1)=true:=by
  unfold zCO
  have:Nat.beq [v].length (1*1)=true:=rfl
  rw [(zW _ _).2 hroom,(zW _ _).2 T.le,(zW _ _).2 hby,this,hrz,hzl]
  simp [hc]
 have hc0:yO 0=0:=by unfold yO;have:=uH;rw [if_neg (by omega)]
 have hc1:xC 0=true:=(yX 0).2 uH
 rcases h with ⟨rfl,rfl,rfl,rfl,rfl⟩ | ⟨b,s,bc,pre,r,nx,rfl,rfl,h3,h4,rfl,h6,h7,h8,h9,h10⟩
 ·refine ⟨some ⟨(z.row [v] 1).next,0,none⟩,0+1+zAV,[(0,1)],(z.row [v] 1).add (.cells [v] 1 [(0,1)] 1 false), ?_, ?_,.inl ⟨rfl,rfl,rfl,rfl,rfl⟩, ?_,Nat.le_refl _,fun b hb=>.inr (by obtain ⟨a,e,rfl⟩:=hb;cases e;simp)⟩
  ·have hble:Nat.ble (0+1) 0=false:=rfl
   unfold yK
   simp only [T.el,hxd,hei,hz,hsrc,hcond,cond_true,uS,hc0,hble,cond_false,hc1,yP]
   rfl
  ·refine .inr ⟨(z.row [v] 1).next,none,[v],[],[],1,rfl,rfl,rfl,by omega,rfl,by simp;omega,by simp, ?_,rfl,⟨by simp,trivial⟩⟩
   rw [St.add_get,if_pos rfl];rfl
  ·exact (Only.row _ _ _).trans' (Only.add _ _:Only (AtP none) _ _) (fun b _ h=>.inl h)
 ·obtain ⟨f1,f2⟩:=Keys.find h10
  have hcx:xC (len+zAV)=false:=by unfold xC;rw [(zW _ _).2 (by omega)];rfl
  have hcl:yO (len+zAV)=len:=zCW _
  have hble:Nat.ble (len+1) len=false:=by rw [Bool.eq_false_iff];intro e;have:=(zW _ _).1 e;omega
  have hgb:yS (z.row [v] 1).heap b=some (.cells bc 1 (pre++(s.getD 0,len)::r) nx false):=by
   rw [(Le.row z [v] 1).get b h7];exact h8
  have hg:(Nat.beq len len && Nat.beq (0+len*1) len && Nat.beq 1 1 && !false && Nat.blt 0 1)=true:=by
   rw [Nat.beq_refl,show 0+len*1=len by omega,Nat.beq_refl];rfl
  have hbl:(bc.take len).length=len:=by rw [h9];exact h3
  refine ⟨some ⟨b,0,some nx⟩,len+1+zAV,(nx,len+1)::(s.getD 0,len)::r,(z.row [v] 1).put b (.cells (bc.take len++[v]) 1 ((nx,len+1)::(s.getD 0,len)::r) (nx+1) false), ?_, ?_, ?_, ?_, ?_,fun b' hb=>.inl (by obtain ⟨a,e,rfl⟩:=hb;cases e;exact ⟨_,rfl,rfl⟩)⟩
  ·unfold yK
   simp only [T.el,hxd,hei,hz,hsrc,hcond,cond_true,uS,hcl,hble,cond_false,hcx]
   unfold zKM
   simp only [hgb,yI,f1,f2,hg,cond_true,zHP,vQ,St.write_eq]
  ·refine .inr ⟨b,some nx,bc.take len++[v],[],(s.getD 0,len)::r,nx+1,rfl,rfl,by simp [h3],by omega,rfl,h6,by simp;omega, ?_, ?_,⟨by omega, ?_⟩⟩
   ·rw [St.put_get,if_pos rfl];rfl
   ·rw [List.take_of_length_le (by simp [hbl]),h9]
   ·have:=h10.drop
    exact ⟨Keys.lt h10,this.2⟩
  ·exact .inr ⟨b,s,some nx,(nx,len+1),r,rfl,rfl,rfl,rfl,rfl,h3,h4,by rw [List.take_append_of_le_length (by omega),List.take_of_length_le (by omega)],h6⟩
  ·exact (Only.row _ _ _).trans' (Only.put (S:=AtP (some ⟨b,0,s⟩)) (.inr ⟨_,rfl,rfl⟩)) (fun b _ h=>.inl h)
  ·simp;omega
end
end Go.Lay
