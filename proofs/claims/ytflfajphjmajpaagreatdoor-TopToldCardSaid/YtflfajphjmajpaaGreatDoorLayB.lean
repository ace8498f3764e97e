
import Derived.RangeFuncLeaves
import Derived.Sort.Row
import Derived.Sort.Grow
import Derived.Laws.IdiomCopy
import Derived.Sort.Statements
import Derived.Deep.Draws
import Derived.RangeFuncRecord
import Derived.Recover
import Derived.RowKit3
import Derived.Test.YtflfajphjmajpaaGreatDoorLayA
set_option linter.unusedVariables false
set_option linter.unusedSimpArgs false
namespace Go.Lay
open Go
variable {rd rd':Option Nat} {n:Nat} {P:Program} {f:FuncId} {w w':World} {R:Ending->World->Prop} {v v' v₀:Value} {Z₁ Z':St} {a:Act} {o:Oper} {next:Act->World->Prop} {Q:Exit->Act->World->Prop} {nx:Next} {α:Type} {c:Bool} {x:Option α} {z:α}

def Fw (rd:Option Nat):Fence:={ Fence.wide with round:=rd }
theorem zRE (rd:Option Nat) (f:FuncId):(Fw rd).fn f:=trivial
theorem zLC (rd:Option Nat):(Fw rd).depth.isSome=true->∀ n:Nat,1<=n:=fun h=>by simp [Fw,Fence.wide] at h
theorem yAI {args:Array Value} (h:CallsIn (Fw rd) n P f args w R):CallsIn (Fw rd') n P f args w R:=h
theorem ySD {l:Nat} {t:Array Value} {as bo:Code} (h:RoundIn (Fw rd) n P l f t as bo w R):RoundIn (Fw rd') n P l f t as bo w R:=h

def zDJ (V:Inj) (Z:St) (w:World) (v:Value) (Z':St):Ending->World->Prop
 | .returned v',w'=>∃ V',VR V' v v'/\Good V Z w V' Z' w'
 | _,_=>False

structure RecSound (P:Program) (rec:Rec):Prop where
 func:∀ f args Z v Z',rec (.func f) args Z=some (v,Z')->∀ (V:Inj) (w:World) (args':List Value),Rep V Z w->VRs V args args' ->
  (∃ fn, P.funcs[f]? = some fn ∧ fn.body.isSome = true ∧ fn.name ≠ "runtime.NumGoroutine") ∧ ∀ n, CallsIn (Fw none) n P f ⟨args'⟩ w (zDJ V Z w v Z')
 yield:∀ l args Z v Z',rec (.yield l) args Z=some (v,Z')->∀ (V:Inj) (w:World) (args':List Value) (L:Loc),Rep V Z w->VRs V args args'->V.loc l 0=some L ->
  ∀ n,∃ fn tmps as bo,(Instr.yield L.c ⟨args'⟩).run P w=.ok (.round L.c fn tmps as bo) w/\RoundIn (Fw none) n P L.c fn tmps as bo w (zDJ V Z w v Z')

section
variable {P:Program} {V:Inj} {Z:St} {w:World} {rec:Rec}

theorem Rep.relow (h:Rep V Z w) (l:Nat):Rep V ⟨Z.heap,Z.y,l⟩ w:=⟨h.blk,h.lt,h.ownlt,h.fresh⟩

theorem yAO {V':Inj} (h:vW Z v Z₁=some (v₀,Z')) (hr:Rep V Z w) (hv:VR V' v v') (hg:Good V ⟨Z.heap,Z.y,Z.y⟩ w V' Z₁ w') :
  v₀=v/\∃ V'',VR V'' v v'/\Good V Z w V'' Z' w':=by
 unfold vW at h;cases hc:Nat.ble Z.y Z₁.low && zQ RD v with
 | true =>
  rw [hc,cond_true] at h;simp only [Bool.and_eq_true] at hc;have hlow:=(zP _ _).1 hc.1;simp at h;obtain ⟨rfl,rfl⟩:=h;have he:=hv.rigid _ hc.2;subst he;have hsame:∀ c,c<w.heap.size->(∀ b,V.own c=some b->b<Z.y)->w'.heap[c]?=w.heap[c]?:=fun c hcs ho =>
   hg.pres.same c hcs (fun b hb=>Nat.lt_of_lt_of_le (ho b hb) hlow)
  refine ⟨rfl,V,.refl_rigid _ hc.2,Ext.refl _ _ _,⟨fun b y hb=>⟨(hr.blk b y hb).1,(hr.blk b y hb).2.keep (Ext.refl V w.heap.size 0) hr.lt (fun c hcs ho=>?_) (fun cs esz log next ro hy s hs'=>?_)⟩,fun b s L hl=>?_,fun c b hb=>?_,hr.fresh⟩,
   ⟨hg.pres.size,fun c hcs ho=>hsame c hcs (fun b hb=>(hr.ownlt c b hb).2),hg.pres.tape,hg.pres.os,hg.pres.output,hg.pres.fr,hg.pres.drawn⟩,Nat.le_refl _,Nat.le_refl _⟩
  ·refine hsame c hcs (fun b' hb'=>?_);rcases ho with ho | ho
   ·exact (hr.ownlt c b' hb').2
   ·rw [ho] at hb';cases hb'
  ·have:=(hr.blk b y hb).2;subst hy;cases this with | cells _ _ _ fresh=>exact fresh s hs'
  ·exact Nat.lt_of_lt_of_le (hr.lt b s L hl) hg.pres.size
  ·exact ⟨Nat.lt_of_lt_of_le (hr.ownlt c b hb).1 hg.pres.size,(hr.ownlt c b hb).2⟩
 | false =>
  rw [hc,cond_false] at h;cases hn:Nat.ble Z.y Z₁.y with
  | false=>rw [hn,cond_false] at h;cases h
  | true =>
   rw [hn,cond_true,wL,zBD] at h;have hn:=(zP _ _).1 hn;simp at h;obtain ⟨rfl,rfl⟩:=h;refine ⟨rfl,V',hv,hg.ext,hg.rep.relow _,⟨hg.pres.size,fun c hcs ho=>hg.pres.same c hcs (fun b hb=>?_),hg.pres.tape,hg.pres.os,hg.pres.output,hg.pres.fr,hg.pres.drawn⟩,Nat.min_le_left _ _,hn⟩
   have:=ho b hb;simp at this;omega

theorem xEM (h:vW Z v Z₁=some (v₀,Z')):Z.y<=Z'.y:=by
 unfold vW at h;cases hc:Nat.ble Z.y Z₁.low && zQ RD v with
 | true=>rw [hc,cond_true] at h;simp at h;rw [h.2];exact Nat.le_refl _
 | false =>
  rw [hc,cond_false] at h;cases hn:Nat.ble Z.y Z₁.y with
  | false=>rw [hn,cond_false] at h;cases h
  | true=>rw [hn,cond_true,wL] at h;simp at h;rw [<- h.2];exact (zP _ _).1 hn

theorem yVU {r:FnRef} {args:List Value} (h:uE rec r args Z=some (v,Z')):Z.y<=Z'.y:=by
 unfold uE at h;split at h
 ·cases h
 ·exact xEM h

theorem zDJ.mono (hr:Rep V Z w) (hb:vW Z v Z₁=some (v₀,Z')) {e:Ending} {w':World} (h:zDJ V ⟨Z.heap,Z.y,Z.y⟩ w v Z₁ e w'):zDJ V Z w v₀ Z' e w':=by
 cases e with
 | returned v' =>
  obtain ⟨V',hv,hg⟩:=h;obtain ⟨rfl,V'',h1,h2⟩:=yAO hb hr hv hg;exact ⟨V'',h1,h2⟩
 | panicked _=>exact h
 | outgrown=>exact h

theorem yAJ (hrec:RecSound P rec) {f:FuncId} {args args':List Value} {v:Value} {Z':St} (h:uE rec (.func f) args Z=some (v,Z')) (hr:Rep V Z w) (ha:VRs V args args') :
  (∃ fn, P.funcs[f]? = some fn ∧ fn.body.isSome = true ∧ fn.name ≠ "runtime.NumGoroutine") ∧ ∀ rd n, CallsIn (Fw rd) n P f ⟨args'⟩ w (zDJ V Z w v Z') := by
 unfold uE at h;split at h
 ·cases h
 ·rename_i v₁ Z₁ hc;obtain ⟨h1,h2⟩:=hrec.func _ _ _ _ _ hc V w args' (hr.relow _) ha;exact ⟨h1,fun rd n=>yAI (CallsIn.mono (h2 n) (fun e w'=>zDJ.mono hr h))⟩

theorem yPQ (hrec:RecSound P rec) {l:Nat} {args args':List Value} {v:Value} {Z':St} {L:Loc} (h:uE rec (.yield l) args Z=some (v,Z')) (hr:Rep V Z w) (ha:VRs V args args') (hl:V.loc l 0=some L) :
  ∀ rd n,∃ fn tmps as bo,(Instr.yield L.c ⟨args'⟩).run P w=.ok (.round L.c fn tmps as bo) w/\RoundIn (Fw rd) n P L.c fn tmps as bo w (zDJ V Z w v Z'):=by
 unfold uE at h;split at h
 ·cases h
 ·rename_i v₁ Z₁ hc;intro rd n;obtain ⟨fn,tmps,as,bo,h1,h2⟩:=hrec.yield _ _ _ _ _ hc V w args' L (hr.relow _) ha hl n;exact ⟨fn,tmps,as,bo,h1,ySD (RoundIn.mono h2 (fun e w'=>zDJ.mono hr h))⟩

theorem zAA {f:Tm} (h:TmR V f a.tmps) {x:Operand} (hx:zIM x=true):VR V (yC f x) (a.eval x):=by
 cases x with
 | tmp t=>exact h.2 t
 | const v=>exact .refl_rigid _ hx
 | global g=>exact .any rfl
 | func g=>exact .func (.func g) rfl (fun i v v' h=>by simp at h) rfl (fun i v v' h=>by simp at h)

theorem yLL (h:zCK o=true) {x:Operand} (hx:x∈o.op.operands):zIM x=true :=
 List.all_eq_true.1 h x (by simpa using hx)

theorem NextV.upon (h:NextV nx v') (hn:next (a.put o.dst v') w') :
  o.uponIn (Fw rd) n P a next Q (.ok nx w'):=by
 cases h with
 | value=>exact hn
 | skip=>exact hn

theorem zLG (hd:∀ c,o.op≠.defer c)
  (hrun:(execOp a.eval o).run P w=.ok nx w') (h:NextV nx v') (hn:next (a.put o.dst v') w'):o.wpIn (Fw rd) n P a w next Q:=by
 refine ⟨fun f _=>zRE rd f, ?_⟩
 rw [Oper.semAt_eq _ _ _ hd,hrun];exact h.upon hn

theorem yT (h:(bif c then x else none)=some z):c=true/\x=some z:=by cases c <;> simp_all
theorem vB {y:Option α} (h:(bif c then x else y)=some z):(c=true/\x=some z)\/(c=false/\y=some z):=by cases c <;> simp_all

theorem zCW {a:Addr} {vs:List Value} (h:yZ Z a vs=some Z'):Z.y<=Z'.y:=by
 unfold yZ at h;split at h
 ·split at h
  ·obtain ⟨_,h⟩:=yT h;rw [zBU,St.write_eq] at h;simp at h;rw [<- h];simp
  ·cases h
 ·cases h

theorem yJK {base:Option Addr} {len cap cnt:Nat} {cs:List Value} (h:vZ Z n base len cap cnt cs=some (v,Z')):Z.y<=Z'.y:=by
 unfold vZ at h;rcases vB h with ⟨_,h⟩ | ⟨_,h⟩
 ·split at h
  ·obtain ⟨_,h⟩:=yT h;simp at h;rw [<- h.2];exact Nat.le_refl _
  ·rcases vB h with ⟨_,h⟩ | ⟨_,h⟩
   ·simp at h;rw [<- h.2];exact Nat.le_refl _
   ·simp only [Option.map_eq_some_iff] at h;obtain ⟨Z₁,h1,h2⟩:=h;simp at h2;rw [<- h2.2];exact zCW h1
 ·rcases vB h with ⟨_,h⟩ | ⟨_,h⟩
  ·split at h
   ·obtain ⟨_,h⟩:=yT h;rw [yO] at h;simp at h;rw [<- h.2];simp
   ·split at h
    ·rw [yO] at h;simp at h;rw [<- h.2];simp
    ·cases h
  ·split at h
   ·cases h
   ·unfold zIU at h;split at h
    ·split at h
     ·obtain ⟨_,h⟩:=yT h;rw [zBU,wL,wL,St.write_eq] at h;simp at h;rw [<- h.2];simp
     ·cases h
    ·cases h

theorem yVH {o:Op} {ev:Operand->Value} (h:zN P ev Z o=some (v,Z')):Z.y<=Z'.y:=by
 unfold zN at h;split at h
 ·split at h
  ·rw [wL,yO] at h;simp at h;rw [<- h.2];simp
  ·cases h
 ·rw [wL,yO] at h;simp at h;rw [<- h.2];simp
 ·split at h
  ·split at h
   ·obtain ⟨_,h⟩:=yT h;split at h
    ·rw [yO] at h;simp at h;rw [<- h.2];simp
    ·cases h
   ·cases h
  ·cases h
 ·split at h
  ·split at h
   ·rw [St.new_eq] at h;simp at h;rw [<- h.2];simp
   ·cases h
  ·split at h
   ·rw [St.new_eq] at h;simp at h;rw [<- h.2];simp
   ·cases h
 ·split at h
  ·split at h
   ·obtain ⟨_,h⟩:=yT h;rw [yO] at h;simp at h;rw [<- h.2];simp
   ·cases h
  ·cases h
 ·split at h
  ·simp only [Option.map_eq_some_iff] at h;obtain ⟨Z₁,h1,h2⟩:=h;simp at h2;rw [<- h2.2];unfold zHN at h1;split at h1
   ·obtain ⟨_,h1⟩:=yT h1;exact zCW h1
   ·cases h1
  ·cases h
 ·split at h
  ·split at h
   ·obtain ⟨_,h⟩:=yT h;split at h
    ·split at h
     ·obtain ⟨_,h⟩:=yT h;rw [St.write_eq] at h;simp at h;rw [<- h.2];simp
     ·cases h
    ·rw [St.write_eq] at h;simp at h;rw [<- h.2];simp
    ·cases h
   ·cases h
  ·cases h
 ·split at h
  ·split at h
   ·obtain ⟨_,h⟩:=yT h;split at h
    ·split at h
     ·obtain ⟨_,h⟩:=yT h;rw [St.write_eq] at h;simp at h;rw [<- h.2];simp
     ·cases h
    ·rw [St.write_eq] at h;simp at h;rw [<- h.2];simp
    ·cases h
   ·cases h
  ·cases h
 ·split at h
  ·split at h
   ·unfold yA at h;split at h
    ·split at h
     ·split at h
      ·split at h
       ·obtain ⟨_,h⟩:=yT h;exact yJK h
       ·cases h
      ·cases h
     ·cases h
    ·cases h
   ·cases h
  ·split at h
   ·split at h
    ·split at h
     ·split at h
      ·simp at h;rw [<- h.2];exact Nat.le_refl _
      ·rcases vB h with ⟨_,h⟩ | ⟨_,h⟩
       ·simp at h;rw [<- h.2];exact Nat.le_refl _
       ·simp only [Option.map_eq_some_iff] at h;obtain ⟨Z₁,h1,h2⟩:=h;simp at h2;rw [<- h2.2];exact zCW h1
     ·cases h
    ·cases h
   ·cases h
  ·split at h
   ·split at h
    ·split at h
     ·obtain ⟨_,h⟩:=yT h;simp only [Option.map_eq_some_iff] at h;obtain ⟨Z₁,h1,h2⟩:=h;simp at h2;rw [<- h2.2];exact zCW h1
     ·cases h
    ·cases h
   ·cases h
  ·split at h
   ·simp only [Option.map_eq_some_iff] at h;obtain ⟨v0,h1,h2⟩:=h;simp at h2;rw [<- h2.2];exact Nat.le_refl _
   ·cases h
  ·cases h
 ·cases h
end
end Go.Lay

namespace Go.Lay
open Go
variable {k:IntKind} {l vs:List Value} {v:Value}
section
open Go.Sort
def yG {α:Type} (cf:α->α->Int) (x y:α):Bool:=decide (cf x y<0)
def flatO {α:Type} (enc:α->List Value) (d:Array α):Array Value:=⟨(d.toList.map enc).flatten⟩
def sortW {α:Type} (enc:α->List Value) (w:World) (blk off m:Nat) (d:Array α) (os:Array Obj):World:=Go.Sort.grow (putRow id (Go.Sort.ahead w m) blk off (flatO enc d)) os
structure SortLaw (P:Program) (f k:Nat):Prop where
 none:∀ (p:Option Addr) (cap:Nat) (fv:Value) (w:World),Calls P f #[.slice p 0 cap,fv] w fun e w'=>e=.returned (.tuple #[])/\w'=w
 total:∀ (α:Type) [Inhabited α] (enc:α->List Value),(∀ x,(enc x).length=k)->(∀ x,∀ v∈enc x,v.oneCell'=true)->∀ (cf:α->α->Int),SWO (yG cf)->∀ (g:Nat) (blk off cap:Nat) (d:Array α) (w:World),
  (∀ args w,(callFunc g args).run P w=.ok (.enter g args) w) ->
  (∀ (m:Nat) (os:Array Obj) (dk:Array α),dk.size=d.size->∀ x y:α,Calls P g (#[.agg (enc x).toArray,.agg (enc y).toArray]++#[]) (sortW enc w blk off m dk os) fun e w'=>e=.returned (.int .i64 (cf x y))/\∃ q os',w'=Go.Sort.grow ((sortW enc w blk off m dk os).drewN q) os') ->
  Holds id w blk off (flatO enc d)->blk<w.heap.size->d.size<4611686018427387904 ->
  (∀ x y,(yG cf) x y=false->(yG cf) y x=false->x=y) ->
  Calls P f #[.slice (some ⟨blk,off,Option.none⟩) d.size cap,.func (.func g) #[] #[]] w fun e w'=>e=.returned (.tuple #[])/\∃ n os,w'=sortW enc w blk off n (d.toList.mergeSort fun x y=>!(yG cf) y x).toArray os
end
def st0:St:=⟨.leaf,0,0⟩
def zVC (rec:Rec) (g:FuncId) (x y:List Value):Option Int :=
 match rec (.func g) [.agg ⟨x⟩,.agg ⟨y⟩] st0 with
 | some (.int .i64 c,_)=>some c
 | _=>none
def ltO (rec:Rec) (g:FuncId) (x y:List Value):Bool:=match zVC rec g x y with
 | some c=>ltI c 0
 | none=>false
def zPV:Value->Bool
 | .int _ _=>true
 | _=>false
def kEq:IntKind->IntKind->Bool
 | .i64,.i64=>true
 | .u8,.u8=>true
 | _,_=>false
def zAO:List Value->List Value->Bool
 | [],[]=>true
 | .int k a::l,.int k' b::l'=>kEq k k' && eqI a b && zAO l l'
 | _,_=>false
theorem xUL {k':IntKind} (h:kEq k k'=true):k=k':=by cases k <;> cases k' <;> first | rfl | (simp [kEq] at h)
theorem yPO {a:Int}:∀ {l':List Value},zAO (.int k a::l) l'=true->∃ b r,l'=.int k b::r/\a=b/\zAO l r=true
 | [],h=>by simp [zAO] at h
 | v::r,h=>by
  cases v with
  | int k' b =>
   simp only [zAO,Bool.and_eq_true] at h;obtain rfl:=xUL h.1.1;exact ⟨b,r,rfl,by have e:=h.1.2;rw [zTC] at e;simpa using e,h.2⟩
  | _=>simp [zAO] at h
theorem yAH:∀ {l l':List Value},zAO l l'=true->l=l'
 | [],[],_=>rfl
 | [],_::_,h=>by simp [zAO] at h
 | v::l,l',h=>by
  cases v with
  | int k a =>
   obtain ⟨b,r,rfl,rfl,h2⟩:=yPO h;rw [yAH h2]
  | _=>cases l' <;> simp [zAO] at h
section
variable {α:Type}
def yCK (lt:α->α->Bool) (x:α):List α->List α
 | []=>[x]
 | y::l=>bif lt y x then y::yCK lt x l else x::y::l
def sortL (lt:α->α->Bool):List α->List α
 | []=>[]
 | x::l=>yCK lt x (sortL lt l)
def zFW (k:Nat):Nat->List Value->List (List Value)
 | 0,_=>[]
 | n+1,cs=>cs.take k::zFW k n (cs.drop k)
def xUJ (eq lt:α->α->Bool) (df:α->α->Bool) (xs:List α):Bool :=
 xs.all fun x=>!lt x x && xs.all fun y=>df x y && (lt x y || lt y x || eq x y) && xs.all fun z=>(!lt x y || !lt y z || lt x z) && (lt x y || lt y z || !lt x z)
end
def zWB (rec:Rec) (k:Nat):List Value->St->Option (Value × St)
 | [.slice p len _,.func (.func g) fa ca],Z =>
  bif Nat.beq len 0 then some (.tuple ⟨[]⟩,Z)
  else match p with
  | some a=>bif Nat.ble len 1000000 && Nat.beq fa.size 0 && Nat.beq ca.size 0 then
    match yR Z a (len*k) with
    | some cs=>bif cs.all zPV && xUJ zAO (ltO rec g) (fun x y=>(zVC rec g x y).isSome) (zFW k len cs) then
      match yZ Z a (sortL (ltO rec g) (zFW k len cs)).flatten with
      | some Z'=>some (.tuple ⟨[]⟩,Z')
      | none=>none
     else none
    | none=>none
   else none
  | none=>none
 | _,_=>none
section
variable {α:Type} {lt:α->α->Bool} {xs:List α}
theorem zSP (x:α):∀ l:List α,(yCK lt x l).Perm (x::l)
 | []=>.refl _
 | y::l=>by
  unfold yCK;cases lt y x with
  | true=>exact ((zSP x l).cons y).trans (.swap x y l)
  | false=>exact .refl _
theorem sortL_perm:∀ l:List α,(sortL lt l).Perm l
 | []=>.refl _
 | x::l=>(zSP x _).trans ((sortL_perm l).cons x)
theorem zUL (tr:∀ a b c,lt a b=false->lt b c=false->lt a c=false) (an:∀ a b,lt a b=true->lt b a=false) (x:α):∀ l:List α,l.Pairwise (fun a b=>lt b a=false)->(yCK lt x l).Pairwise (fun a b=>lt b a=false)
 | [],_=>by simp [yCK]
 | y::l,h=>by
  have h':=List.pairwise_cons.1 h;unfold yCK;cases e:lt y x with
  | true =>
   refine List.pairwise_cons.2 ⟨fun z hz=>?_,zUL tr an x l h'.2⟩;rcases List.mem_cons.1 ((zSP x l).mem_iff.1 hz) with rfl | hz
   ·exact an _ _ e
   ·exact h'.1 z hz
  | false =>
   refine List.pairwise_cons.2 ⟨fun z hz=>?_,h⟩;rcases List.mem_cons.1 hz with rfl | hz
   ·exact e
   ·exact tr _ _ _ (h'.1 z hz) e
theorem zDX (tr:∀ a b c,lt a b=false->lt b c=false->lt a c=false) (an:∀ a b,lt a b=true->lt b a=false):∀ l:List α,(sortL lt l).Pairwise (fun a b=>lt b a=false)
 | []=>.nil
 | x::l=>zUL tr an x _ (zDX tr an l)
theorem zWA (ti:∀ a b,lt a b=false->lt b a=false->a=b):∀ {l l':List α},l.Perm l'->l.Pairwise (fun a b=>lt b a=false)->l'.Pairwise (fun a b=>lt b a=false)->l=l'
 | [],l',hp,_,_=>(List.nil_perm.1 hp).symm
 | x::l,[],hp,_,_=>absurd hp.length_eq (by simp)
 | x::l,y::l',hp,h,h'=>by
  have e:x=y:=by
   rcases List.mem_cons.1 (hp.mem_iff.1 List.mem_cons_self) with e | e
   ·exact e
   ·rcases List.mem_cons.1 (hp.mem_iff.2 (List.mem_cons_self (a:=y))) with e2 | e2
    ·exact e2.symm
    ·exact ti _ _ ((List.pairwise_cons.1 h').1 x e) ((List.pairwise_cons.1 h).1 y e2) |> fun q=>q
  subst e;rw [zWA ti (List.Perm.cons_inv hp) (List.pairwise_cons.1 h).2 (List.pairwise_cons.1 h').2]
theorem yDJ {β:Type} {lt':β->β->Bool} (f:α->β) (h:∀ a∈xs,∀ b∈xs,lt' (f a) (f b)=lt a b):sortL lt' (xs.map f)=(sortL lt xs).map f:=by
 have ins:∀ (x:α) (l:List α),x∈xs->(∀ y∈l,y∈xs)->yCK lt' (f x) (l.map f)=(yCK lt x l).map f:=by
  intro x l hx;induction l with
  | nil=>intro _;rfl
  | cons y l ih =>
   intro hl;rw [List.map_cons];unfold yCK;rw [h y (hl y List.mem_cons_self) x hx];cases lt y x with
   | true=>simp only [cond_true,List.map_cons];rw [ih fun z hz=>hl z (List.mem_cons_of_mem _ hz)]
   | false=>rfl
 suffices key:∀ l:List α,(∀ y∈l,y∈xs)->sortL lt' (l.map f)=(sortL lt l).map f from key xs fun _ h=>h
 intro l;induction l with
 | nil=>intro _;rfl
 | cons y l ih =>
  intro hl;rw [List.map_cons];unfold sortL;rw [ih fun z hz=>hl z (List.mem_cons_of_mem _ hz)];exact ins y _ (hl y List.mem_cons_self) fun z hz=>hl z (List.mem_cons_of_mem _ ((sortL_perm l).mem_iff.1 hz))
theorem yAA {k:Nat}:∀ (n:Nat) (cs:List Value),cs.length=n*k->(zFW k n cs).flatten=cs/\(zFW k n cs).length=n/\∀ x∈zFW k n cs,x.length=k
 | 0,cs,h=>by
  have:cs=[]:=List.eq_nil_of_length_eq_zero (by omega);subst this;exact ⟨rfl,rfl,by simp [zFW]⟩
 | n+1,cs,h=>by
  have e:(n+1)*k=n*k+k:=Nat.succ_mul n k;obtain ⟨h1,h2,h3⟩:=yAA (k:=k) n (cs.drop k) (by rw [List.length_drop];omega);refine ⟨?_, ?_,fun x hx=>?_⟩
  ·show cs.take k++(zFW k n (cs.drop k)).flatten=cs;rw [h1,List.take_append_drop]
  ·show (zFW k n (cs.drop k)).length+1=n+1;rw [h2]
  ·rcases List.mem_cons.1 hx with rfl | hx
   ·rw [List.length_take];omega
   ·exact h3 x hx
end
section
open Go.Sort
variable {P:Program} {V:Inj} {Z:St} {w:World} {rec:Rec}
def zSC:Inj:={ loc:=fun _ _=>none,own:=fun _=>none,csz:=fun _=>0 }
theorem xPF (w:World):Rep zSC st0 w :=
 ⟨fun b y h=>by simp [st0,yD,Tr.getP_leaf] at h,fun _ _ _ h=>by simp [zSC] at h,fun _ _ h=>by simp [zSC] at h,fun _ _ _=>rfl⟩
theorem xAL:∀ {a b:World},a.heap=b.heap->a.tape=b.tape->a.drawn=b.drawn->a.os=b.os->a.output=b.output->a=b:=by
 intro a b h1 h2 h3 h4 h5;cases a;cases b
 simp_all
theorem yUY {a b:Array Obj} (h1:a.size<=b.size) (h2:∀ c,c<a.size->b[c]?=a[c]?):b=a++b.extract a.size b.size:=by
 apply Array.ext_getElem?;intro i;rw [Array.getElem?_append];split
 ·rename_i h;exact h2 i h
 ·rename_i h;rw [Array.getElem?_extract];by_cases hi:i<b.size
  ·rw [if_pos (by omega),show a.size+(i-a.size)=i by omega]
  ·rw [if_neg (by omega)];simp;omega
theorem xCM {V':Inj} {s:St} {W w':World} (h:Good zSC st0 W V' s w'):∃ q os',w'=Go.Sort.grow (W.drewN q) os':=by
 have hp:=h.pres;refine ⟨w'.drawn-W.drawn,w'.heap.extract W.heap.size w'.heap.size,xAL ?_ ?_ ?_ ?_ ?_⟩
 ·exact yUY hp.size fun c hc=>hp.same c hc (fun b hb=>by simp [zSC] at hb)
 ·exact hp.tape
 ·show w'.drawn=W.drawn+(w'.drawn-W.drawn);have:=hp.drawn;omega
 ·exact hp.os
 ·exact hp.output
theorem xCN {n:Nat} {os:Array Obj} (hr:Rep V Z w):Good V Z w V Z (Go.Sort.grow (Go.Sort.ahead w n) os):=by
 have hs:w.heap.size<=(Go.Sort.grow (Go.Sort.ahead w n) os).heap.size:=by
  show w.heap.size<=(w.heap++os).size;rw [Array.size_append];omega
 have hc:∀ c,c<w.heap.size->(Go.Sort.grow (Go.Sort.ahead w n) os).heap[c]?=w.heap[c]?:=fun c hc=>by
  show (w.heap++os)[c]?=_;rw [Array.getElem?_append,if_pos hc]
 exact ⟨Ext.refl _ _ _,hr.grown hs hc,⟨hs,fun c h _=>hc c h,rfl,rfl,rfl,fun c h arr elem f hf=>.inl ⟨arr,elem,by rw [<- hc c h];exact hf⟩,Nat.le_add_right _ _⟩,Nat.le_refl _,Nat.le_refl _⟩
theorem xGI {v':Value} (h:VR V v v') (hv:zPV v=true):v'=v:=by
 cases v with
 | int k n=>cases h;rfl
 | _=>simp [zPV] at hv
theorem yXE:∀ {l l':List Value},VRs V l l'->l.all zPV=true->l'=l
 | [],_,.nil,_=>rfl
 | v::l,_,.cons h t,ha=>by
  simp only [List.all_cons,Bool.and_eq_true] at ha;rw [xGI h ha.1,yXE t ha.2]
theorem xKH (hv:zPV v=true):VR V v v:=by
 cases v with
 | int k n=>exact .atom rfl
 | _=>simp [zPV] at hv
theorem yMS:∀ {l:List Value},l.all zPV=true->VRs V l l
 | [],_=>.nil
 | v::l,h=>by
  simp only [List.all_cons,Bool.and_eq_true] at h;exact .cons (xKH h.1) (yMS h.2)
theorem xNE (h:l.all zPV=true):VR V (.agg ⟨l⟩) (.agg ⟨l⟩):=by
 refine .agg rfl fun i v v' h1 h2=>?_
 rw [h1] at h2;cases h2
 have h1:l[i]?=some v:=by simpa using h1
 exact xKH (List.all_eq_true.1 h v (List.mem_of_getElem? h1))
theorem yVN (hrec:RecSound P rec) {g:FuncId} {x y:List Value} {c:Int} (h:zVC rec g x y=some c) (hx:x.all zPV=true) (hy:y.all zPV=true) (W:World) :
  (∃ fn, P.funcs[g]? = some fn ∧ fn.body.isSome = true ∧ fn.name ≠ "runtime.NumGoroutine") ∧ Calls P g ⟨[.agg ⟨x⟩, .agg ⟨y⟩]⟩ W fun e w' => e = .returned (.int .i64 c) ∧ ∃ q os', w' = Go.Sort.grow (W.drewN q) os' := by
 unfold zVC at h;split at h
 ·rename_i c' s hc;cases h
  obtain ⟨h1,h2⟩:=hrec.func _ _ _ _ _ hc zSC W [.agg ⟨x⟩,.agg ⟨y⟩] (xPF W) (.cons (xNE hx) (.cons (xNE hy) .nil));refine ⟨h1,Calls.mono (callsIn_wide.1 (h2 0)) fun e w' hR=>?_⟩
  cases e with
  | returned v' =>
   obtain ⟨V',hv,hg⟩:=hR;exact ⟨by rw [xGI hv rfl],xCM hg⟩
  | panicked _=>exact hR.elim
  | outgrown=>exact hR.elim
 ·cases h
theorem zOT {a:Addr} {Z':St} {L:Loc} (h:yZ Z a vs=some Z') (hr:Rep V Z w) (hl:V.loc a.block (zZ a)=some L) (hlo:L.lo<=a.off):∀ j,w.frozen? ⟨L.c,j,none⟩=false:=by
 unfold yZ at h;split at h
 ·rename_i bc esz log nx ro hb;split at h
  ·rename_i s e rest;cases hcond:Nat.beq s (zZ a) && Nat.ble (a.off+vs.length) e && !ro && vs.all cellB with
   | false=>rw [hcond,cond_false] at h;cases h
   | true =>
    simp only [Bool.and_eq_true,Bool.not_eq_true'] at hcond;obtain ⟨⟨⟨c1,c2⟩,c3⟩,c4⟩:=hcond;have c1:=Nat.eq_of_beq_eq_true c1;subst c1;cases (hr.blk _ _ hb).2 with
    | cells rows sorted same fresh =>
     obtain ⟨_,_,M,hM⟩:=rows (zZ a) e (by simp);have hML:M=L:=by have:=hM.loc;rw [hl] at this;cases this;rfl
     subst hML;obtain ⟨arr,elem,fr,r1,_,r3,_,_⟩:=hM.row;have:=r3 c3;subst this;intro j;simp [World.frozen?,r1]
  ·cases h
 ·cases h
theorem xVX:VR V (.tuple ⟨[]⟩) (.tuple #[]):=.tuple rfl (fun i v v' h=>by simp at h)
def fill (F:Array Value):Nat->List Value->Array Value
 | _,[]=>F
 | s,v::r=>fill (F.setIfInBounds s v) (s+1) r
theorem zPC {c off:Nat}:∀ (vs:List Value) (s:Nat) (F:Array Value),s+vs.length<=F.size->(putRow id w c off F).setCells c (off+s) vs=putRow id w c off (fill F s vs)
 | [],_,_,_=>rfl
 | v::r,s,F,h=>by
  simp only [List.length_cons] at h;show ((putRow id w c off F).setCell ⟨c,off+s,none⟩ v).setCells c (off+s+1) r=_;have e:(putRow id w c off F).setCell ⟨c,off+s,none⟩ v=putRow id w c off (F.setIfInBounds s v):=putRow_set id w c off F s v (by omega);rw [e,Nat.add_assoc,zPC r (s+1) (F.setIfInBounds s v) (by simp;omega)];rfl
theorem yFS:∀ (vs:List Value) (s:Nat) (F:Array Value),s+vs.length<=F.size->(fill F s vs).toList=F.toList.take s++(vs++F.toList.drop (s+vs.length))
 | [],s,F,h=>by simp [fill]
 | v::r,s,F,h=>by
  simp only [List.length_cons] at h;show (fill (F.setIfInBounds s v) (s+1) r).toList=_;rw [yFS r (s+1) _ (by simp;omega),Array.toList_setIfInBounds,List.set_eq_take_append_cons_drop,if_pos (by simp;omega)];have hs:(F.toList.take s).length=s:=by simp;omega
  rw [List.take_append,List.drop_append,hs];simp only [show s+1-s=1 by omega,List.take_succ_cons,List.take_zero,List.length_cons];rw [List.take_of_length_le (by omega:(F.toList.take s).length<=s+1),List.drop_eq_nil_of_le (by omega:(F.toList.take s).length<=s+1+r.length),show s+1+r.length-s=r.length+1 by omega,List.drop_succ_cons,List.drop_drop,show s+(r.length+1)=s+1+r.length by omega];simp [Nat.add_comm,Nat.add_left_comm]
theorem yHP {c off:Nat} {F0:Array Value} (h:Holds id w c off F0) (hl:vs.length=F0.size):w.setCells c off vs=putRow id w c off vs.toArray:=by
 have h1:=zPC (w:=w) (c:=c) (off:=off) vs 0 F0 (by omega);rw [putRow_self id w c off F0 h,Nat.add_zero] at h1;rw [h1];congr 1;have h2:=yFS vs 0 F0 (by omega);rw [List.take_zero,List.nil_append,List.drop_eq_nil_of_le (by simp;omega),List.append_nil] at h2;exact Array.toList_inj.1 h2
theorem yKK (hrec:RecSound P rec) {f k:Nat} (hL:SortLaw P f k) {args args':List Value} {v:Value} {Z':St} (h:zWB rec k args Z=some (v,Z')) (hr:Rep V Z w) (ha:VRs V args args') :
  ∀ n,CallsIn (Fw none) n P f ⟨args'⟩ w (zDJ V Z w v Z'):=by
 intro n;refine callsIn_wide.2 ?_
 unfold zWB at h;split at h;rotate_left
 ·cases h
 rename_i p len cap g fa ca;cases ha with
 | cons hs t =>
 cases t with
 | cons hf t =>
 cases t
 cases hz:Nat.beq len 0 with
 | true =>
  rw [hz,cond_true] at h;cases h
  have h0:=Nat.eq_of_beq_eq_true hz;subst h0;have key:∀ (p':Option Addr) (cap':Nat) (fv':Value),Calls P f ⟨[.slice p' 0 cap',fv']⟩ w (zDJ V Z w (.tuple ⟨[]⟩) Z):=fun p' cap' fv' =>
   (hL.none p' cap' fv' w).mono fun e w' ⟨he,hw⟩=>by subst he hw;exact ⟨V,xVX,Good.refl hr⟩
  cases hs with
  | atom _=>exact key _ _ _
  | slice _ _ _ _ _=>exact key _ _ _
 | false =>
  rw [hz,cond_false] at h;have hpos:len≠0:=fun e=>by subst e;cases hz
  split at h;rotate_left
  ·cases h
  rename_i a;obtain ⟨hc,h⟩:=yT h;simp only [Bool.and_eq_true] at hc;obtain ⟨⟨hlen,hfa⟩,hca⟩:=hc;have hlen:=(zP _ _).1 hlen;have hfa:=Nat.eq_of_beq_eq_true hfa;have hca:=Nat.eq_of_beq_eq_true hca;split at h;rotate_left
  ·cases h
  rename_i cs hread;obtain ⟨hc,h⟩:=yT h;simp only [Bool.and_eq_true] at hc;obtain ⟨hint,hlaw⟩:=hc;split at h;rotate_left
  ·cases h
  rename_i Z1 hwrite;cases h
  cases hs with
  | atom h=>simp [uL] at h
  | @slice _ A L _ _ cap' hl hlo hA hcap hsz =>
  have hA:A=L.at a.off:=hA.resolve_right fun h=>hpos h.1
  subst hA;cases hf with
  | atom h=>simp [uL] at h
  | @func _ fn' _ f' _ c' hfn s1 h1 s2 h2 =>
  cases hfn
  have hf':f'=#[]:=Array.eq_empty_of_size_eq_zero (by omega);have hc':c'=#[]:=Array.eq_empty_of_size_eq_zero (by omega);subst hf' hc';obtain ⟨cs',hcl,hvs,hcell⟩:=uN hread hr hl hlo;rw [yXE hvs hint] at hcell;obtain ⟨hfl,hxl,hxk⟩:=yAA (k:=k) len cs hcl;obtain ⟨xs,hxs⟩:∃ xs,xs=zFW k len cs:=⟨_,rfl⟩;rw [<- hxs] at hfl hxl hxk hlaw hwrite;have hxi:∀ x∈xs,x.all zPV=true:=fun x hx=>List.all_eq_true.2 fun v hv=>List.all_eq_true.1 hint v (by rw [<- hfl];exact List.mem_flatten.2 ⟨x,hx,hv⟩)
  have law:∀ x∈xs,ltO rec g x x=false/\∀ y∈xs,(zVC rec g x y).isSome=true/\(ltO rec g x y=false->ltO rec g y x=false->x=y)/\∀ z∈xs,(ltO rec g x y=true->ltO rec g y z=true->ltO rec g x z=true)/\(ltO rec g x y=false->ltO rec g y z=false->ltO rec g x z=false):=by
   intro x hx;have q:=List.all_eq_true.1 hlaw x hx;simp only [Bool.and_eq_true,Bool.not_eq_true'] at q;refine ⟨q.1,fun y hy=>?_⟩
   have q2:=List.all_eq_true.1 q.2 y hy;simp only [Bool.and_eq_true,Bool.or_eq_true] at q2;refine ⟨q2.1.1,fun e1 e2=>?_,fun z hz=>?_⟩
   ·rcases q2.1.2 with (e | e) | e
    ·rw [e1] at e;cases e
    ·rw [e2] at e;cases e
    ·exact yAH e
   ·have q3:=List.all_eq_true.1 q2.2 z hz;simp only [Bool.and_eq_true,Bool.or_eq_true,Bool.not_eq_true'] at q3;refine ⟨fun e1 e2=>?_,fun e1 e2=>?_⟩
    ·rcases q3.1 with (e | e) | e
     ·rw [e1] at e;cases e
     ·rw [e2] at e;cases e
     ·exact e
    ·rcases q3.2 with (e | e) | e
     ·rw [e1] at e;cases e
     ·rw [e2] at e;cases e
     ·exact e
  have hne:∃ x,x∈xs:=by
   cases xs with
   | nil=>simp at hxl;omega
   | cons x _=>exact ⟨x,List.mem_cons_self⟩
  obtain ⟨x0,hx0⟩:=hne;let α:={x:List Value // x∈xs};letI:Inhabited α:=⟨⟨x0,hx0⟩⟩;let enc:α->List Value:=fun x=>x.1
  let cf:α->α->Int:=fun x y=>(zVC rec g x.1 y.1).getD 0
  have hcf:∀ x y:α,zVC rec g x.1 y.1=some (cf x y):=fun x y=>by
   obtain ⟨c,hc⟩:=Option.isSome_iff_exists.1 ((law x.1 x.2).2 y.1 y.2).1;show _=some ((zVC rec g x.1 y.1).getD 0);rw [hc];rfl
  have hlt:∀ x y:α,yG cf x y=ltO rec g x.1 y.1:=fun x y=>by
   unfold ltO yG;rw [hcf x y];show decide (cf x y<0)=ltI (cf x y) 0;rw [zSI]
  have hO:SWO (yG cf):=⟨fun x=>by rw [hlt];exact (law x.1 x.2).1,fun x y z=>by rw [hlt,hlt,hlt];exact (((law x.1 x.2).2 y.1 y.2).2.2 z.1 z.2).1,fun x y z=>by rw [hlt,hlt,hlt];exact (((law x.1 x.2).2 y.1 y.2).2.2 z.1 z.2).2⟩;have hT:∀ x y:α,(yG cf) x y=false->(yG cf) y x=false->x=y:=fun x y=>by
   rw [hlt,hlt];exact fun e1 e2=>Subtype.ext (((law x.1 x.2).2 y.1 y.2).2.1 e1 e2)
  have hall:(xs.attach.map enc)=xs:=List.attach_map_subtype_val xs;have hk:∀ x:α,(enc x).length=k:=fun x=>hxk x.1 x.2
  have hF:flatO enc xs.attach.toArray=cs.toArray:=by
   show (⟨(xs.attach.map enc).flatten⟩:Array Value)=_;rw [hall,hfl]
  have hcall:=fun (x y:α) (W:World)=>yVN hrec (hcf x y) (hxi x.1 x.2) (hxi y.1 y.2) W
  have hfz:=zOT hwrite hr hl hlo;have hH:Holds id w L.c (L.base+(a.off-L.lo)) (flatO enc xs.attach.toArray):=by
   rw [hF];intro j hj;have hj:j<cs.length:=by simpa using hj
   refine ⟨?_,hfz _⟩
   have:=hcell j cs[j] (List.getElem?_eq_getElem hj);rw [getElem!_pos cs.toArray j (by simpa using hj)];rw [yZV] at this;simpa using this
  have hds:xs.attach.toArray.size=len:=by simp [hxl]
  have eg:∀ args w,(callFunc g args).run P w=.ok (.enter g args) w:=fun args w=>by
   obtain ⟨fn,hfn,hb,hname⟩:=(hcall ⟨x0,hx0⟩ ⟨x0,hx0⟩ w).1;have hb:fn.body≠none:=by cases hb':fn.body <;> simp_all
   simp [callFunc,hfn,hb,hname]
  have hgood:=zEJ (P:=P) hwrite hr hl hlo (yMS (V:=V) (l:=(sortL (ltO rec g) xs).flatten) (List.all_eq_true.2 fun v hv=>by
   obtain ⟨x,hx,hv⟩:=List.mem_flatten.1 hv;exact List.all_eq_true.1 (hxi x ((sortL_perm xs).mem_iff.1 hx)) v hv))
  obtain ⟨w1,hrun,hgood⟩:=hgood;have hvl:(sortL (ltO rec g) xs).flatten.length=cs.length:=by
   rw [<- hfl];exact ((sortL_perm xs).flatten).length_eq
  have hH':Holds id w L.c (L.base+(a.off-L.lo)) cs.toArray:=by have:=hH;rwa [hF] at this
  have hw1:w1=putRow id w L.c (L.base+(a.off-L.lo)) ((sortL (ltO rec g) xs).flatten).toArray:=by
   rw [<- yHP hH' (by simpa using hvl)];have hrun2:=run_storeCells_cells (P:=P) L.c (L.base+(a.off-L.lo)) (sortL (ltO rec g) xs).flatten 0 w (fun j hj=>by
    rw [Nat.add_zero,(hH' j (by simpa using (by omega:j<cs.length))).1];rfl) (fun j _=>hfz _) (fun v hv=>by
    obtain ⟨x,hx,hv⟩:=List.mem_flatten.1 hv;have:=List.all_eq_true.1 (hxi x ((sortL_perm xs).mem_iff.1 hx)) v hv;cases v <;> simp [zPV] at this
    rfl)
   rw [Nat.add_zero] at hrun2;have e:(L.at a.off)=⟨L.c,L.base+(a.off-L.lo),none⟩:=rfl;rw [e,hrun2] at hrun;cases hrun;rfl
  have tot:=hL.total α enc hk (fun x v hv=>by
   have:=List.all_eq_true.1 (hxi x.1 x.2) v hv;cases v <;> simp [zPV] at this
   rfl) cf hO g L.c (L.base+(a.off-L.lo)) cap' xs.attach.toArray w eg (fun m os dk _ x y=>by
    rw [Array.append_empty];exact (hcall x y _).2) hH (hr.lt _ _ _ hl) (by rw [hds];omega) hT
  rw [hds] at tot;refine tot.mono fun e w' ⟨he,m,os,hw⟩=>?_
  subst he;refine ⟨V,xVX, ?_⟩
  have hD:xs.attach.toArray.toList.mergeSort (fun x y=>!(yG cf) y x)=sortL (yG cf) xs.attach:=by
   refine zWA hT ((List.mergeSort_perm _ _).trans (sortL_perm _).symm) ?_ (zDX hO.ntrans (fun x y e=>by
    cases e2:yG cf y x with
    | false=>rfl
    | true=>have:=hO.trans _ _ _ e e2;rw [hO.irrefl] at this;cases this) _)
   have:=List.pairwise_mergeSort (le:=fun x y=>!(yG cf) y x) (fun x y z e1 e2=>by
    simp only [Bool.not_eq_true'] at e1 e2 ⊢;exact hO.ntrans _ _ _ e2 e1) (fun x y=>by
    cases e1:yG cf y x with
    | false=>rfl
    | true =>
     cases e2:yG cf x y with
     | false=>rfl
     | true=>have:=hO.trans _ _ _ e1 e2;rw [hO.irrefl] at this;cases this) xs.attach.toArray.toList
   exact this.imp fun h=>by simpa using h
  have hmap:(sortL (yG cf) xs.attach).map enc=sortL (ltO rec g) xs:=by
   rw [<- yDJ (lt:=yG cf) (lt':=ltO rec g) (xs:=xs.attach) enc (fun x _ y _=>(hlt x y).symm),hall]
  have hsw:w'=Go.Sort.grow (Go.Sort.ahead w1 m) os:=by
   rw [hw];have hE:flatO enc (sortL (yG cf) xs.attach).toArray=((sortL (ltO rec g) xs).flatten).toArray:=by
    show (⟨((sortL (yG cf) xs.attach).map enc).flatten⟩:Array Value)=_;rw [hmap]
   unfold sortW;rw [hD,hE,putRow_ahead,hw1]
  rw [hsw];exact hgood.trans (xCN hgood.rep)
end
def orcT:List (Nat × Nat):=[(59,6),(72,4)]
def zEX (f:FuncId):Bool:=orcT.any fun e=>Nat.beq e.1 f
def zXJ (rec:Rec) (f:FuncId) (args:List Value) (Z:St):Option (Value × St) :=
 match orcT.find? fun e=>Nat.beq e.1 f with
 | some e=>zWB rec e.2 args Z
 | none=>none
def OrcOk (P : Program) : Prop := ∀ e ∈ orcT, SortLaw P e.1 e.2 ∧ ∃ fn, P.funcs[e.1]? = some fn ∧ fn.body.isSome = true ∧ fn.name ≠ "runtime.NumGoroutine"
theorem yTH {P:Program} {rec:Rec} {V:Inj} {Z:St} {w:World} (hO:OrcOk P) (hrec:RecSound P rec) {f:FuncId} {args args':List Value} {v:Value} {Z':St} (h:zXJ rec f args Z=some (v,Z')) (hr:Rep V Z w) (ha:VRs V args args') :
  (∃ fn, P.funcs[f]? = some fn ∧ fn.body.isSome = true ∧ fn.name ≠ "runtime.NumGoroutine") ∧ ∀ n, CallsIn (Fw none) n P f ⟨args'⟩ w (zDJ V Z w v Z') := by
 unfold zXJ at h;split at h
 ·rename_i e he;have hm:=List.mem_of_find?_eq_some he;have hp:Nat.beq e.1 f=true:=List.find?_some (p:=fun e:Nat × Nat=>Nat.beq e.1 f) he;have hp:=Nat.eq_of_beq_eq_true hp;obtain ⟨h1,h2⟩:=hO e hm;rw [hp] at h1 h2;exact ⟨h2,yKK hrec h1 h hr ha⟩
 ·cases h
end Go.Lay

namespace Go.Lay
open Go
variable {o:Oper} {v:Value} {Z':St} {a:Act} {ev:Operand->Value}
section
variable {P:Program} {V:Inj} {Z:St} {w:World} {rec:Rec}

theorem zCF {o:Option Value} (h:zME Z o=some (v,Z')):o=some v/\Z'=Z:=by
 cases o with
 | none=>simp [zME] at h
 | some x=>simp [zME] at h;exact ⟨by rw [h.1],h.2.symm⟩

theorem yCV (hrec:RecSound P rec) {o:Oper} {ev:Operand->Value} {a:Act} {c:Call} {fx:Operand} {v:Value} {Z':St} {rd:Option Nat} {n:Nat} {next:Act->World->Prop} {Q:Exit->Act->World->Prop} {r:FnRef} {as:List Value}
  (ho:o.op=.call c) (hc:c.callee=.value fx) (href:zCB (ev fx) (c.args.toList.map ev)=some (r,as)) (h:uE rec r as Z=some (v,Z')) (hr:Rep V Z w) (hev:∀ x∈o.op.operands,VR V (ev x) (a.eval x))
  (hn:∀ v' w' V',VR V' v v'->Good V Z w V' Z' w'->next (a.put o.dst v') w'):o.wpIn (Fw rd) n P a w next Q:=by
 have hf:=hev fx (by simp [ho,Op.operands,Call.operands,hc]);have hargs:=zCY c.args.toList (ev:=ev) (ev':=a.eval) (fun x hx=>hev x (by simp [ho,Op.operands,Call.operands,hc] at hx ⊢;exact .inr hx));have eargs:c.args.map a.eval=(⟨c.args.toList.map a.eval⟩:Array Value):=by apply Array.ext';simp
 obtain ⟨as',has,hcase⟩:=zKR (P:=P) href hf hargs;have hd:∀ c',o.op≠.defer c':=fun c'=>by rw [ho];simp
 refine ⟨fun f _=>zRE rd f, ?_⟩
 rw [Oper.semAt_eq _ _ _ hd];have hsem:∀ {d:Deferred},(∀ w,(Deferred.ofValue (a.eval fx) ⟨c.args.toList.map a.eval⟩).run P w=.ok d w)->(execOp a.eval o).run P w=(invoke d.target d.args).run P w:=by
  intro d hd;simp only [execOp,ho,resolve,hc,eargs,Sem.run_bind,hd,Result.andThen_ok]
 rcases hcase with ⟨f,cap,rfl,d,hd1,hd2,hd3⟩ | ⟨l,L,cap,rfl,hl,d,hd1,hd2,hd3⟩
 ·obtain ⟨⟨fn,hfn,hbody,hname⟩,hcall⟩:=yAJ hrec h hr has;have hrun:(execOp a.eval o).run P w=.ok (.enter f ⟨as'⟩) w:=by
   rw [hsem hd1,hd2];have hb:fn.body≠none:=by cases hb:fn.body <;> simp_all
   simp [invoke,callFunc,hfn,hb,hname,hd3]
  rw [hrun,Oper.uponIn_enter];exact ⟨fun hs=>zLC rd hs n,CallsIn.mono (hcall rd _) (fun e w' hR=>by
   cases e with
   | returned v'=>obtain ⟨V',h1,h2⟩:=hR;exact hn v' w' V' h1 h2
   | panicked _=>exact hR.elim
   | outgrown=>exact hR.elim)⟩
 ·obtain ⟨fn,tmps,as₁,bo,hy,hround⟩:=yPQ hrec h hr has hl rd (n-1);have hrun:(execOp a.eval o).run P w=.ok (.round L.c fn tmps as₁ bo) w:=by
   rw [hsem hd1,hd2];simp only [invoke,hd3];exact hy
  rw [hrun,Oper.uponIn_round];exact ⟨fun hs=>zLC rd hs n,RoundIn.mono hround (fun e w' hR=>by
   cases e with
   | returned v'=>obtain ⟨V',h1,h2⟩:=hR;exact hn v' w' V' h1 h2
   | panicked _=>exact hR.elim
   | outgrown=>exact hR.elim)⟩

theorem yBU.wp {rd:Option Nat} {n:Nat} {next:Act->World->Prop} {Q:Exit->Act->World->Prop} (hd:∀ c,o.op≠.defer c) (h:yBU P V Z w v Z' (execOp a.eval o))
  (hn:∀ v' w' V',VR V' v v'->Good V Z w V' Z' w'->next (a.put o.dst v') w'):o.wpIn (Fw rd) n P a w next Q:=by
 obtain ⟨nx,v',w',V',h1,h2,h3,h4⟩:=h;exact zLG hd h1 h2 (hn v' w' V' h3 h4)

theorem zOX (hz:vR P) {o:Oper} {ev:Operand->Value} {a:Act} {v:Value} {rd:Option Nat} {n:Nat} {next:Act->World->Prop} {Q:Exit->Act->World->Prop} (h:xY P ev o.op=some v) (hev:∀ x∈o.op.operands,VR V (ev x) (a.eval x))
  (hn:∀ v',VR V v v'->next (a.put o.dst v') w):o.wpIn (Fw rd) n P a w next Q:=by
 obtain ⟨v',h1,h2⟩:=zTQ hz h hev;refine zLG (fun c hc=>?_) (h1 w) (.value _) (hn v' h2);rw [hc] at h;simp [xY] at h
theorem xBS (hz:vR P) {o:Oper} {ev:Operand->Value} {a:Act} {v:Value} {rd:Option Nat} {n:Nat} {next:Act->World->Prop} {Q:Exit->Act->World->Prop} (h:xV P ev Z o.op=some v) (hr:Rep V Z w) (hev:∀ x∈o.op.operands,VR V (ev x) (a.eval x))
  (hn:∀ v',VR V v v'->next (a.put o.dst v') w):o.wpIn (Fw rd) n P a w next Q:=by
 obtain ⟨v',h1,h2⟩:=yIP hz h hr hev;refine zLG (fun c hc=>?_) h1 (.value _) (hn v' h2);rw [hc] at h;simp [xV] at h

theorem yKN (hz:vR P) {o:Oper} {ev:Operand->Value} {a:Act} {v:Value} {rd:Option Nat} {n:Nat} {next:Act->World->Prop} {Q:Exit->Act->World->Prop} (h:xJ P ev Z o.op=some v) (hr:Rep V Z w) (hev:∀ x∈o.op.operands,VR V (ev x) (a.eval x))
  (hn:∀ v',VR V v v'->next (a.put o.dst v') w):o.wpIn (Fw rd) n P a w next Q:=by
 unfold xJ at h;split at h
 ·rename_i v0 hv;cases h;exact zOX hz hv hev hn
 ·exact xBS hz h hr hev hn

theorem zJQ {o:Op} (h:opA P rec ev Z o=some (v,Z')) :
  (xX o=true/\((∃ c fx r as,o=.call c/\c.callee=.value fx/\zCB (ev fx) (c.args.toList.map ev)=some (r,as)/\uE rec r as Z=some (v,Z'))\/zN P ev Z o=some (v,Z')\/(xY P ev o=some v/\Z'=Z))) \/
  (xX o=false/\zCL o=true/\xJ P ev Z o=some v/\Z'=Z)\/(xX o=false/\zCL o=false/\xY P ev o=some v/\Z'=Z):=by
 unfold opA at h;split at h
 ·rename_i c;unfold zKS at h;split at h
  ·rename_i fx hc;split at h
   ·rename_i r as href;split at h
    ·rename_i v0 hx;refine .inl ⟨by simp [xX,hc],.inr (.inl ?_)⟩;simp only [zN,hc,href,hx,Option.map_some];exact h
    ·refine .inl ⟨by simp [xX,hc],.inl ⟨c,fx,r,as,rfl,hc,href,h⟩⟩
   ·cases h
  ·rename_i hc;exact .inl ⟨by simp [xX,hc],.inr (.inl h)⟩
  ·rename_i hc;exact .inl ⟨by simp [xX,hc],.inr (.inl h)⟩
  ·rename_i hc;exact .inl ⟨by simp [xX,hc],.inr (.inl h)⟩
  ·rename_i hc;refine .inr (.inl ⟨by simp [xX,hc],by simp [zCL,hc], ?_⟩);split at h
   ·rename_i v0 hv;simp at h;obtain ⟨rfl,rfl⟩:=h;exact ⟨by simp [xJ,hv],rfl⟩
   ·rename_i hv;obtain ⟨h1,h2⟩:=zCF h;exact ⟨by simp [xJ,hv,h1],h2⟩
  ·rename_i b _ _ _ hlen hc;obtain ⟨h1,h2⟩:=zCF h;cases hb:xX (.call c) with
   | true=>exact .inl ⟨rfl,.inr (.inr ⟨h1,h2⟩)⟩
   | false =>
    refine .inr (.inr ⟨rfl, ?_,h1,h2⟩);simp only [zCL,hc];cases b <;> first | rfl | exact absurd rfl hlen
  ·cases h
 ·obtain ⟨h1,h2⟩:=zCF h;exact .inr (.inl ⟨rfl,rfl,by simp [xJ,xY,h1],h2⟩)
 ·obtain ⟨h1,h2⟩:=zCF h;exact .inr (.inl ⟨rfl,rfl,by simp [xJ,xY,h1],h2⟩)
 ·obtain ⟨h1,h2⟩:=zCF h;exact .inr (.inl ⟨rfl,rfl,by simp [xJ,xY,h1],h2⟩)
 ·split at h
  ·rename_i v0 hv;simp at h;obtain ⟨rfl,rfl⟩:=h;exact .inr (.inl ⟨rfl,rfl,by simp [xJ,hv],rfl⟩)
  ·rename_i hv;obtain ⟨h1,h2⟩:=zCF h;exact .inr (.inl ⟨rfl,rfl,by simp [xJ,hv,h1],h2⟩)
 ·rename_i hn1 hn2 hn3 hn4 hn5;rcases vB h with ⟨he,h⟩ | ⟨he,h⟩
  ·refine .inl ⟨?_,.inr (.inl h)⟩;cases o <;> first | exact he | exact absurd rfl (hn1 _)
  ·obtain ⟨h1,h2⟩:=zCF h;refine .inr (.inr ⟨?_, ?_,h1,h2⟩)
   ·cases o <;> first | exact he | exact absurd rfl (hn1 _)
   ·cases o <;> first | rfl | exact absurd rfl (hn1 _) | exact absurd rfl (hn2 _ _) | exact absurd rfl (hn3 _ _ _ _) | exact absurd rfl (hn4 _ _ _ _ _) | exact absurd rfl (hn5 _ _ _)

theorem zRW (hz:vR P) (hrec:RecSound P rec) {o:Oper} {ev:Operand->Value} {a:Act} {v:Value} {Z':St} {rd:Option Nat} {n:Nat} {next:Act->World->Prop} {Q:Exit->Act->World->Prop}
  (h:opA P rec ev Z o.op=some (v,Z')) (hr:Rep V Z w) (hev:∀ x∈o.op.operands,VR V (ev x) (a.eval x))
  (hn:∀ v' w' V',VR V' v v'->Good V Z w V' Z' w'->next (a.put o.dst v') w'):o.wpIn (Fw rd) n P a w next Q:=by
 rcases zJQ h with ⟨ha,⟨c,fx,r,as,ho,hc,href,hcall⟩ | heff | ⟨hval,rfl⟩⟩ | ⟨_,_,hsee,rfl⟩ | ⟨_,_,hval,rfl⟩
 ·exact yCV hrec ho hc href hcall hr hev hn
 ·refine yBU.wp (fun c hc=>?_) (yNU hz heff hr (hr.free _) hev) hn;rw [hc] at heff;simp [zN] at heff
 ·exact zOX hz hval hev (fun v' hv=>hn v' w V hv (.refl hr))
 ·exact yKN hz hsee hr hev (fun v' hv=>hn v' w V hv (.refl hr))
 ·exact zOX hz hval hev (fun v' hv=>hn v' w V hv (.refl hr))

theorem xIU {o:Op} (h:opA P rec ev Z o=some (v,Z')):Z.y<=Z'.y:=by
 rcases zJQ h with ⟨ha,⟨c,fx,r,as,ho,hc,href,hcall⟩ | heff | ⟨hval,rfl⟩⟩ | ⟨_,_,hsee,rfl⟩ | ⟨_,_,hval,rfl⟩
 ·exact yVU hcall
 ·exact yVH heff
 ·exact Nat.le_refl _
 ·exact Nat.le_refl _
 ·exact Nat.le_refl _

theorem zAK {ops:Array Oper} {f:Tm} {b:Bool} (h:uI ops f o=some b) (hf:∀ j want d,o.guard=some (j,want)->(ops[j]?).bind (·.dst)=some d->VR V (f.nth d) (a.tmps.getD d undef)) :
  Region.wanted o (yielded ops a.tmps)=b:=by
 unfold uI at h;unfold Region.wanted;split at h
 ·rename_i hg;simp at h;subst h;simp [hg]
 ·rename_i j want hg;simp only [hg];split at h
  ·rename_i d hd;have hv:=hf j want d hg hd;split at h
   ·rename_i b0 hb0;simp at h;subst h;rw [hb0] at hv;have:=hv.bool_inv;unfold yielded;simp only [hd,Option.bind_some];cases ht:a.tmps[d]? with
    | none=>simp [Array.getD,undef] at this;rw [Array.getElem?_eq_none_iff] at ht;split at this <;> simp_all;omega
    | some x =>
     have hx:a.tmps.getD d undef=x:=by simp [ht]
     rw [hx] at this;subst this;simp
   ·rename_i c hc;simp at h;subst h;rw [hc] at hv;obtain ⟨c',e,_⟩:=hv.tuple_inv;unfold yielded;simp only [hd,Option.bind_some];cases ht:a.tmps[d]? with
    | none=>rfl
    | some x =>
     have hx:a.tmps.getD d undef=x:=by simp [ht]
     rw [hx] at e;subst e;rfl
   ·cases h
  ·cases h
end
end Go.Lay

namespace Go.Lay
open Go
variable {o:Oper} {i j:Nat} {ops:Array Oper}

theorem zQC (look:Nat->Nat) (i:Nat):∀ (l:List Edge) (s:Nat),(l.foldl (fun s e=>if Region.binds .any e then s ||| 2 ^ e.on ||| look e.on else s) s).testBit i=true ->
  s.testBit i=true\/∃ e∈l,Region.binds .any e=true/\(e.on=i\/(look e.on).testBit i=true)
 | [],s,h=>.inl h
 | e::l,s,h=>by
  rw [List.foldl_cons] at h;rcases zQC look i l _ h with h | ⟨e',h1,h2⟩
  ·by_cases hb:Region.binds .any e=true
   ·rw [if_pos hb] at h;simp only [Nat.testBit_or,Bool.or_eq_true,Nat.testBit_two_pow,decide_eq_true_eq] at h;rcases h with (h | h) | h
    ·exact .inl h
    ·exact .inr ⟨e,by simp,hb,.inl h⟩
    ·exact .inr ⟨e,by simp,hb,.inr h⟩
   ·rw [if_neg hb] at h;exact .inl h
  ·exact .inr ⟨e',by simp [h1],h2⟩
theorem yLO {look:Nat->Nat} (h:(CheckFast.one look o).testBit i=true):∃ e∈o.after.toList,Region.binds .any e=true/\(e.on=i\/(look e.on).testBit i=true):=by
 unfold CheckFast.one at h;rw [<- Array.foldl_toList] at h;rcases zQC look i o.after.toList 0 h with h | h
 ·simp at h
 ·exact h

theorem xSX:∀ (l:List Oper) (A:Array Nat),(l.foldl (fun acc o=>acc.push (CheckFast.one (fun i=>acc.getD i 0) o)) A).size=A.size+l.length /\
  (∀ k,k<A.size->(l.foldl (fun acc o=>acc.push (CheckFast.one (fun i=>acc.getD i 0) o)) A)[k]?=A[k]?) /\
  ∀ k o,l[k]?=some o->∃ C:Array Nat,(∀ m,m<A.size+k->C[m]?=(l.foldl (fun acc o=>acc.push (CheckFast.one (fun i=>acc.getD i 0) o)) A)[m]?) /\
   (l.foldl (fun acc o=>acc.push (CheckFast.one (fun i=>acc.getD i 0) o)) A)[A.size+k]?=some (CheckFast.one (fun i=>C.getD i 0) o)
 | [],A=>⟨by simp,fun _ _=>rfl,fun k o h=>by simp at h⟩
 | x::l,A=>by
  have ih:=xSX l (A.push (CheckFast.one (fun i=>A.getD i 0) x));simp only [List.foldl_cons];obtain ⟨h1,h2,h3⟩:=ih;simp only [Array.size_push] at h1 h2 h3;refine ⟨by rw [h1];simp;omega,fun k hk=>by rw [h2 k (by omega),Array.getElem?_push,if_neg (by omega)],fun k o hk=>?_⟩
  cases k with
  | zero =>
   simp at hk;subst hk;refine ⟨A,fun m hm=>by rw [h2 m (by omega),Array.getElem?_push,if_neg (by omega)], ?_⟩
   rw [Nat.add_zero,h2 _ (by omega),Array.getElem?_push,if_pos rfl]
  | succ k =>
   simp only [List.getElem?_cons_succ] at hk;obtain ⟨C,c1,c2⟩:=h3 k o hk;exact ⟨C,fun m hm=>c1 m (by omega),by rw [show A.size+(k+1)=A.size+1+k by omega];exact c2⟩

theorem yLA (ho:ops[j]?=some o) (hb:∀ e∈o.after.toList,Region.binds .any e=true->e.on<j) (h:pre (CheckFast.beforeF ops) i j=true) :
  ∃ e∈o.after.toList,Region.binds .any e=true/\(e.on=i\/pre (CheckFast.beforeF ops) i e.on=true):=by
 rw [CheckFast.beforeF_eq] at h ⊢;have hB:Region.before ops=ops.toList.foldl (fun acc o=>acc.push (CheckFast.one (fun i=>acc.getD i 0) o)) #[]:=by
  unfold Region.before;rw [<- Array.foldl_toList];rfl
 obtain ⟨_,_,h3⟩:=xSX ops.toList #[];obtain ⟨C,c1,c2⟩:=h3 j o (by simpa using ho);rw [<- hB] at c1 c2;simp only [Array.size_empty,Nat.zero_add] at c1 c2;unfold pre at h;have hg:(Region.before ops).getD j 0=CheckFast.one (fun i=>C.getD i 0) o:=by simp [c2]
 rw [hg] at h;obtain ⟨e,h1,h2,h3⟩:=yLO h;refine ⟨e,h1,h2,h3.imp id (fun h=>?_)⟩
 unfold pre;have:=c1 e.on (hb e h1 h2);simpa [this] using h

structure DrawOk (ops:Array Oper):Prop where
 back:∀ (j:Nat) (o:Oper),ops[j]?=some o->∀ e∈o.after.toList,Region.binds .any e=true->e.on<j
 guard:∀ (j:Nat) (o:Oper),ops[j]?=some o->∀ g want,o.guard=some (g,want)->∃ e∈o.after.toList,Region.binds .any e=true/\e.on=g
 sel:∀ (j:Nat) (o:Oper),ops[j]?=some o->∀ cs b,o.op≠.select cs b
 acts:∀ (i j:Nat) (oi oj:Oper),ops[i]?=some oi->ops[j]?=some oj->i<j->xX oi.op=true->xX oj.op=true->uB oj.op=false->pre (CheckFast.beforeF ops) i j=true
 apart:∀ (i j:Nat) (oi oj:Oper),ops[i]?=some oi->ops[j]?=some oj->i≠j->pre (CheckFast.beforeF ops) i j=false->pre (CheckFast.beforeF ops) j i=false->Oper.apart ops oi oj=true

theorem yX (h:ops[j]?=some o):ops.getD j default=o/\j<ops.size:=⟨by simp [h],(Array.getElem?_eq_some_iff.1 h).1⟩

theorem yNW (h:yJD ops (CheckFast.beforeF ops)=true):DrawOk ops:=by
 unfold yJD at h;have key:∀ (j:Nat) (o:Oper),ops[j]?=some o->_:=fun j o ho=>List.all_eq_true.1 h j (List.mem_range.2 (yX ho).2)
 refine ⟨fun j o ho e he hb=>?_,fun j o ho g want hg=>?_,fun j o ho cs b hs=>?_,fun i j oi oj hi hj hlt ha hb hm=>?_,fun i j oi oj hi hj hne h1 h2=>?_⟩
 ·have:=key j o ho;simp only [(yX ho).1,Bool.and_eq_true] at this;have h1:=List.all_eq_true.1 this.1.1.1 e he;rw [hb] at h1;simpa using h1
 ·have:=key j o ho;simp only [(yX ho).1,Bool.and_eq_true,hg] at this;obtain ⟨e,h1,h2⟩:=List.any_eq_true.1 this.1.1.2;simp only [Bool.and_eq_true] at h2;exact ⟨e,h1,h2.1,Nat.eq_of_beq_eq_true h2.2⟩
 ·have:=key j o ho;simp only [(yX ho).1,Bool.and_eq_true,hs] at this;simp at this
 ·have:=key j oj hj;simp only [(yX hj).1,Bool.and_eq_true] at this;have h1:=List.all_eq_true.1 this.2 i (List.mem_range.2 (yX hi).2);simp only [(yX hi).1,Bool.and_eq_true,ha,hb,hm] at h1;have hl:Nat.blt i j=true:=(zP _ _).2 hlt;simpa [hl] using h1.1
 ·have:=key j oj hj;simp only [(yX hj).1,Bool.and_eq_true] at this;have h3:=List.all_eq_true.1 this.2 i (List.mem_range.2 (yX hi).2);simp only [(yX hi).1,Bool.and_eq_true] at h3;have hb:Nat.beq i j=false:=by rw [Bool.eq_false_iff];intro e;exact hne (Nat.eq_of_beq_eq_true e)
  simpa [hb,yJL,h1,h2] using h3.2

section
variable {ops:Array Oper} (D:DrawOk ops)
include D
def zOS (ops:Array Oper) (X:Nat->Prop):Prop:=∀ (j:Nat) (o:Oper),X j->ops[j]?=some o->∀ e∈o.after.toList,Region.binds .any e=true->X e.on
theorem yIA {X:Nat->Prop} (hX:zOS ops X):∀ (j:Nat) (o:Oper),ops[j]?=some o->(∀ e∈o.after.toList,Region.binds .any e=true->X e.on)->∀ i,pre (CheckFast.beforeF ops) i j=true->X i:=by
 intro j;induction j using Nat.strongRecOn with
 | _ j ih =>
  intro o ho hdep i hp;obtain ⟨e,h1,h2,h3⟩:=yLA ho (D.back j o ho) hp;have hx:=hdep e h1 h2;rcases h3 with rfl | h3
  ·exact hx
  ·have hlt:=D.back j o ho e h1 h2;have hlt2:j<ops.size:=(yX ho).2;have ho2:ops[e.on]?=some ops[e.on]:=by simp
   exact ih e.on hlt _ ho2 (fun e' he' hb'=>hX e.on _ hx ho2 e' he' hb') i h3
theorem yHZ (i j:Nat) (hj:j<ops.size) (hp:pre (CheckFast.beforeF ops) i j=true):i<j:=by
 have ho:ops[j]?=some ops[j]:=by simp [hj]
 have:=yIA D (X:=fun i=>i<j) (fun k o hk ho e he hb=>Nat.lt_trans (D.back k o ho e he hb) hk) j _ ho (fun e he hb=>D.back j _ ho e he hb) i hp;exact this
end

def zCI (f:Tm) (dst:Option Tmp) (v:Value):Tm:=match dst with | some d=>f.set d v | none=>f
theorem xH {β:Type} (f:Tm) (dst:Option Tmp) (v:Value) (k:Tm->β):yCE f dst v k=k (zCI f dst v):=by
 cases dst with
 | none=>rfl
 | some d=>exact Tm.put_eq f d v k

def frL (l:List Seen) (t:Tm) (i:Nat):Tm:=match l[i]? with | some s=>s.f | none=>t
def stL (l:List Seen) (U:St) (i:Nat):St:=match l[i]? with | some s=>s.before | none=>U

structure SeqD (P:Program) (rec:Rec) (ops:Array Oper) (rest:List Oper) (l:List Seen) (t:Tm) (U:St):Prop where
 len:l.length=rest.length
 step:∀ (i:Nat) (o:Oper),rest[i]?=some o->∃ s,l[i]?=some s/\s.f=frL l t i/\s.before=stL l U i/\s.after=stL l U (i+1)/\frL l t (i+1)=zCI (frL l t i) o.dst s.v/\uI ops (frL l t i) o=some s.want /\
  (s.want=true->opA P rec (yC (frL l t i)) (stL l U i) o.op=some (s.v,stL l U (i+1)))/\(s.want=false->s.v=undef/\stL l U (i+1)=stL l U i)

theorem zNA {P:Program} {rec:Rec} {ops:Array Oper}:∀ (rest:List Oper) (f:Tm) (Z:St) (l:List Seen) (t:Tm) (U:St),zBN P rec ops rest f Z=some (l,t,U) ->
  frL l t 0=f/\stL l U 0=Z/\SeqD P rec ops rest l t U
 | [],f,Z,l,t,U,h=>by
  simp [zBN] at h;obtain ⟨rfl,rfl,rfl⟩:=h;exact ⟨rfl,rfl,rfl,fun i o h=>by simp at h⟩
 | o::rest,f,Z,l,t,U,h=>by
  have fin:∀ (v:Value) (want:Bool) (Z':St) (l':List Seen),uI ops f o=some want->(want=true->opA P rec (yC f) Z o.op=some (v,Z'))->(want=false->v=undef/\Z'=Z) ->
    zBN P rec ops rest (zCI f o.dst v) Z'=some (l',t,U)->l=⟨f,v,want,Z,Z'⟩::l'->frL l t 0=f/\stL l U 0=Z/\SeqD P rec ops (o::rest) l t U:=by
   intro v want Z' l' hg h1 h2 hrec hl
   obtain ⟨e1,e2,e3⟩:=zNA rest _ _ _ _ _ hrec
   subst hl
   refine ⟨rfl,rfl,by simp [e3.len],fun i o' ho'=>?_⟩
   cases i with
   | zero =>
    simp at ho';subst ho';have f1:frL (⟨f,v,want,Z,Z'⟩::l') t (0+1)=zCI f o.dst v:=e1;have s1:stL (⟨f,v,want,Z,Z'⟩::l') U (0+1)=Z':=e2;rw [f1,s1];exact ⟨_,rfl,rfl,rfl,rfl,rfl,hg,h1,h2⟩
   | succ i =>
    exact e3.step i o' (by simpa using ho')
  unfold zBN at h;split at h
  ·rename_i hg;split at h
   ·rename_i v Z' hop;rw [zGX,xH] at h;split at h
    ·rename_i l' t' U' hs;simp at h;obtain ⟨rfl,rfl,rfl⟩:=h;exact fin v true Z' l' hg (fun _=>hop) (fun h=>by cases h) hs rfl
    ·cases h
   ·cases h
  ·rename_i hg;rw [xH] at h;split at h
   ·rename_i l' t' U' hs;simp at h;obtain ⟨rfl,rfl,rfl⟩:=h;exact fin undef false Z l' hg (fun h=>by cases h) (fun _=>⟨rfl,rfl⟩) hs rfl
   ·cases h
  ·cases h

theorem zRV {P:Program} {rec:Rec} {ops:Array Oper}:∀ (rest:List Oper) (f:Tm) (Z:St) (t:Tm) (U:St),zAX P rec ops rest f Z=some (t,U)->∃ l,zBN P rec ops rest f Z=some (l,t,U)
 | [],f,Z,t,U,h=>by simp [zAX] at h;obtain ⟨rfl,rfl⟩:=h;exact ⟨[],rfl⟩
 | o::rest,f,Z,t,U,h=>by
  unfold zAX at h;split at h
  ·rename_i hg;split at h
   ·rename_i v Z' hop;rw [xH] at h;obtain ⟨l,hl⟩:=zRV rest _ _ _ _ h;exact ⟨⟨f,v,true,Z,Z'⟩::l,by simp [zBN,hg,hop,zGX,xH,hl]⟩
   ·cases h
  ·rename_i hg;rw [xH] at h;obtain ⟨l,hl⟩:=zRV rest _ _ _ _ h;exact ⟨⟨f,undef,false,Z,Z⟩::l,by simp [zBN,hg,xH,hl]⟩
  ·cases h

theorem xTM (f:Tm) (d:Option Tmp) (v:Value):(zCI f d v).n=f.n:=by cases d <;> simp [zCI]
theorem zWI (f:Tm) (d:Option Tmp) (v:Value) (t:Nat):(zCI f d v).nth t=if d=some t/\t<f.n then v else f.nth t:=by
 cases d with
 | none=>simp [zCI]
 | some i =>
  simp only [zCI,Tm.nth_set];by_cases h:t=i
  ·subst h;simp
  ·rw [if_neg (fun x=>h x.1),if_neg (fun x=>h (by simpa using x.1.symm))]

section
variable {P:Program} {rec:Rec} {ops:Array Oper} {l:List Seen} {t:Tm} {U:St} (S:SeqD P rec ops ops.toList l t U)
include S
theorem SeqD.at (ho:ops[i]?=some o):∃ s,l[i]?=some s/\s.f=frL l t i/\s.before=stL l U i/\s.after=stL l U (i+1)/\frL l t (i+1)=zCI (frL l t i) o.dst s.v/\uI ops (frL l t i) o=some s.want /\
  (s.want=true->opA P rec (yC (frL l t i)) (stL l U i) o.op=some (s.v,stL l U (i+1)))/\(s.want=false->s.v=undef/\stL l U (i+1)=stL l U i):=S.step i o (by simpa using ho)
theorem SeqD.frn:∀ i,i<=ops.size->(frL l t i).n=(frL l t 0).n
 | 0,_=>rfl
 | i+1,h=>by
  obtain ⟨s,_,_,_,_,hf,_⟩:=S.at (i:=i) (o:=ops[i]) (by simp)
  rw [hf,xTM,SeqD.frn i (by omega)]
theorem SeqD.mono:∀ (i j:Nat),i<=j->j<=ops.size->(stL l U i).y<=(stL l U j).y:=by
 intro i j hij;induction hij with
 | refl=>intro _;exact Nat.le_refl _
 | step h ih =>
  rename_i m;intro hm;have hm':m+1<=ops.size:=hm;refine Nat.le_trans (ih (by omega)) ?_
  obtain ⟨s,_,_,_,_,_,_,h1,h2⟩:=S.at (i:=m) (o:=ops[m]) (by simp)
  cases hw:s.want with
  | true=>exact xIU (h1 hw)
  | false=>rw [(h2 hw).2];exact Nat.le_refl _
theorem SeqD.last (t0:Nat) (h0:t0<(frL l t 0).n):∀ j,j<=ops.size ->
  (∃ i s,i<j/\(ops[i]?).bind (·.dst)=some t0/\l[i]?=some s/\(frL l t j).nth t0=s.v/\∀ i',i<i'->i' < j->(ops[i']?).bind (·.dst)≠some t0) \/
  ((∀ i,i<j->(ops[i]?).bind (·.dst)≠some t0)/\(frL l t j).nth t0=(frL l t 0).nth t0)
 | 0,_=>.inr ⟨fun i h=>absurd h (Nat.not_lt_zero _),rfl⟩
 | j+1,hj=>by
  have ho:ops[j]?=some ops[j]:=by simp
  obtain ⟨s,hs,_,_,_,hf,_⟩:=S.at ho;have hn:=S.frn j (by omega);rw [hf];by_cases hd:ops[j].dst=some t0
  ·refine .inl ⟨j,s,by omega,by rw [ho];exact hd,hs, ?_,fun i' h1 h2=>by omega⟩;rw [zWI,if_pos ⟨hd,by omega⟩]
  ·rw [zWI,if_neg (fun x=>hd x.1)];rcases SeqD.last t0 h0 j (by omega) with ⟨i,s',h1,h2,h3,h4,h5⟩ | ⟨h1,h2⟩
   ·refine .inl ⟨i,s',by omega,h2,h3,h4,fun i' h6 h7=>?_⟩;by_cases he:i'=j
    ·subst he;rw [ho];exact hd
    ·exact h5 i' h6 (by omega)
   ·refine .inr ⟨fun i hi=>?_,h2⟩;by_cases he:i=j
    ·subst he;rw [ho];exact hd
    ·exact h1 i (by omega)
end
end Go.Lay

namespace Go.Lay
open Go
variable {P:Program}

theorem zVV:∀ (n:Nat) (a b:Value),veq n a b=true->a=b:=by
 intro n;induction n with
 | zero=>intro a b h;simp [veq] at h
 | succ n ih =>
  have lists:∀ (l l':List Value),veq.veqs n l l'=true->l=l':=by
   intro l;induction l with
   | nil=>intro l' h;cases l' with | nil=>rfl | cons _ _=>simp [veq.veqs] at h
   | cons x l ihl =>
    intro l' h;cases l' with
    | nil=>simp [veq.veqs] at h
    | cons y l' =>
     simp only [veq.veqs,Bool.and_eq_true] at h;rw [ih x y h.1,ihl l' h.2]
  intro a b h;unfold veq at h;split at h;all_goals first | (rename_i hq;cases hq) | skip
  ·have:=eq_of_beq h;rw [this]
  ·simp only [Bool.and_eq_true] at h;have h1:=zTT h.1;have h2:=h.2;rw [zTC] at h2;have h3:=eq_of_beq h2;rw [h1,h3]
  ·rename_i a b;have:=of_decide_eq_true h;have:a=b:=by apply ByteArray.ext;apply Array.ext';exact this
   rw [this]
  ·rw [of_decide_eq_true h]
  ·simp only [Bool.and_eq_true] at h;rw [of_decide_eq_true h.1.1,Nat.eq_of_beq_eq_true h.1.2,Nat.eq_of_beq_eq_true h.2]
  ·rw [of_decide_eq_true h]
  ·rfl
  ·rfl
  ·have h1:=lists _ _ h;congr 1;apply Array.ext';exact h1
  ·have h1:=lists _ _ h;congr 1;apply Array.ext';exact h1
  ·simp only [Bool.and_eq_true] at h;have h1:=lists _ _ h.1.2;have h2:=lists _ _ h.2;have h3:=Nat.eq_of_beq_eq_true h.1.1;rw [h3];congr 1 <;> (apply Array.ext';assumption)
  ·simp only [Bool.and_eq_true] at h;have h3:=Nat.eq_of_beq_eq_true h.1;rw [h3,ih _ _ h.2]
  all_goals cases h

theorem zAQ (a b:Nat):Nat.blt a b=true↔a<b:=zP (a+1) b

theorem VR.lower {E E':Inj} {m:Nat} (hloc:∀ b s L,b<m->E.loc b s=some L->E'.loc b s=some L) (hsz:∀ b s L,E.loc b s=some L->E'.csz L.c=E.csz L.c) :
  ∀ (d:Nat) {v v':Value},xL d m v=true->VR E v v'->VR E' v v':=by
 intro d;induction d with
 | zero=>intro v v' h;simp [xL] at h
 | succ d ih =>
  intro v v' hb h;have arr:∀ {c c':Array Value},(∀ (i:Nat) (v v':Value),c[i]?=some v->c'[i]?=some v'->VR E v v')->c.toList.all (xL d m)=true->(∀ (i:Nat) (v v':Value),c[i]?=some v->c'[i]?=some v'->VR E' v v'):=by
   intro c c' hh hall i v v' h1 h2;exact ih (List.all_eq_true.1 hall _ (by simp [Array.mem_of_getElem? h1])) (hh i v v' h1 h2)
  cases h with
  | any h=>exact .any h
  | atom h=>exact .atom h
  | ptr h hlo=>exact .ptr (hloc _ _ _ ((zAQ _ _).1 (by simpa [xL] using hb)) h) hlo
  | slice h hlo hA hc hs=>exact .slice (hloc _ _ _ ((zAQ _ _).1 (by simpa [xL] using hb)) h) hlo hA hc (by rw [hsz _ _ _ h];exact hs)
  | map h=>exact .map (hloc _ _ _ ((zAQ _ _).1 (by simpa [xL] using hb)) h)
  | func hf s1 h1 s2 h2 =>
   cases hf with
   | func f =>
    simp only [xL,Bool.and_eq_true] at hb;exact .func (.func f) s1 (arr h1 hb.1.2) s2 (arr h2 hb.2)
   | yield hl =>
    simp only [xL,Bool.and_eq_true] at hb;exact .func (.yield (hloc _ _ _ ((zAQ _ _).1 hb.1.1) hl)) s1 (arr h1 hb.1.2) s2 (arr h2 hb.2)
  | iface h=>simp only [xL] at hb;exact .iface (ih hb h)
  | agg s h=>simp only [xL] at hb;exact .agg s (arr h hb)
  | tuple s h=>simp only [xL] at hb;exact .tuple s (arr h hb)

def Inj.plus (V:Inj) (pend:Nat->Option Loc):Inj :=
 {V with loc:=fun b s=>if s=0 then (match pend b with | some L=>some L | none=>V.loc b 0) else V.loc b s }
def cut (pend:Nat->Option Loc) (n:Nat):Nat->Option Loc:=fun b=>if b<n then pend b else none
def Inj.owned (V:Inj) (c b:Nat):Inj:={ V with own:=fun c'=>if c'=c then some b else V.own c' }
def Inj.commit (V:Inj) (b:Nat) (L:Loc):Inj :=
 {V with loc:=fun b' s=>if b'=b/\s=0 then some L else V.loc b' s,own:=fun c'=>if c'=L.c then some b else V.own c' }

theorem zGM {V V':Inj} {pend pend':Nat->Option Loc} (h:Sub V V') (hp:∀ b L,pend b=some L->pend' b=some L) (hn:∀ b L L',pend b=none->pend' b=some L->V.loc b 0=some L'->L'=L)
  (hs:∀ b L,pend b=some L->V'.csz L.c=V.csz L.c):Sub (V.plus pend) (V'.plus pend'):=by
 refine ⟨fun b s L hL=>?_,fun b s L hL=>?_⟩
 ·simp only [Inj.plus] at hL ⊢;by_cases h0:s=0
  ·subst h0;rw [if_pos rfl] at hL ⊢;cases hb:pend b with
   | some L1=>rw [hb] at hL;simp only [hp b L1 hb];exact hL
   | none =>
    rw [hb] at hL;cases hb':pend' b with
    | some L1=>simp only;rw [hn b L1 L hb hb' hL]
    | none=>exact h.loc _ _ _ hL
  ·rw [if_neg h0] at hL ⊢;exact h.loc _ _ _ hL
 ·simp only [Inj.plus] at hL;by_cases h0:s=0
  ·subst h0;rw [if_pos rfl] at hL;cases hb:pend b with
   | some L1=>rw [hb] at hL;cases hL;exact hs b L hb
   | none=>rw [hb] at hL;exact h.sz _ _ _ hL
  ·rw [if_neg h0] at hL;exact h.sz _ _ _ hL

section
variable (ops:Array Oper) (l:List Seen) (f0:Tm)
structure FrOk (X:Nat->Prop) (E:Inj) (tmps:Array Value):Prop where
 size:f0.n=tmps.size
 val:∀ t0,t0<f0.n ->
  (∃ i s,X i/\(ops[i]?).bind (·.dst)=some t0/\l[i]?=some s/\(∀ i',X i'->(ops[i']?).bind (·.dst)=some t0->i'<=i)/\VR E s.v (tmps.getD t0 undef)) \/
  ((∀ i,X i->(ops[i]?).bind (·.dst)≠some t0)/\VR E (f0.nth t0) (tmps.getD t0 undef))
 out:∀ t0,¬ t0<f0.n->VR E (f0.nth t0) undef
variable {ops l f0}
theorem FrOk.sub {X:Nat->Prop} {E E':Inj} {tmps:Array Value} (h:FrOk ops l f0 X E tmps) (e:Sub E E'):FrOk ops l f0 X E' tmps :=
 ⟨h.size,fun t0 h0=>(h.val t0 h0).imp (fun ⟨i,s,a,b,c,d,v⟩=>⟨i,s,a,b,c,d,v.sub e⟩) (fun ⟨a,v⟩=>⟨a,v.sub e⟩),fun t0 h0=>(h.out t0 h0).sub e⟩
theorem FrOk.put {X:Nat->Prop} {E:Inj} {a:Act} (h:FrOk ops l f0 X E a.tmps) {j:Nat} {o:Oper} {s:Seen} {v':Value} (ho:ops[j]?=some o) (hs:l[j]?=some s)
  (hmax:∀ i t0,X i->o.dst=some t0->(ops[i]?).bind (·.dst)=some t0->i<j) (hv:VR E s.v v'):FrOk ops l f0 (fun i=>X i\/i=j) E (a.put o.dst v').tmps:=by
 refine ⟨?_,fun t0 h0=>?_,h.out⟩
 ·rw [h.size];unfold Act.put;split <;> simp
 ·by_cases hd:o.dst=some t0
  ·refine .inl ⟨j,s,.inr rfl,by rw [ho];exact hd,hs,fun i' hi' hd'=>?_, ?_⟩
   ·rcases hi' with hi' | rfl
    ·exact Nat.le_of_lt (hmax i' t0 hi' hd hd')
    ·exact Nat.le_refl _
   ·have hlt:t0<a.tmps.size:=by rw [<- h.size];exact h0
    simp only [Act.put,hd];simpa [Array.getD,hlt] using hv
  ·have hsame:(a.put o.dst v').tmps.getD t0 undef=a.tmps.getD t0 undef:=by
    unfold Act.put;split
    ·rename_i d hdd;have hne:d≠t0:=fun e=>hd (by rw [hdd,e])
     simp [Array.getElem?_setIfInBounds_ne hne]
    ·rfl
   rw [hsame];rcases h.val t0 h0 with ⟨i,s',a1,a2,a3,a4,a5⟩ | ⟨a1,a2⟩
   ·refine .inl ⟨i,s',.inl a1,a2,a3,fun i' hi' hd'=>?_,a5⟩;rcases hi' with hi' | rfl
    ·exact a4 i' hi' hd'
    ·rw [ho] at hd';exact absurd hd' hd
   ·refine .inr ⟨fun i hi=>?_,a2⟩;rcases hi with hi | rfl
    ·exact a1 i hi
    ·rw [ho];exact hd
theorem FrOk.match {rec:Rec} {t:Tm} {U:St} (S:SeqD P rec ops ops.toList l t U) {X:Nat->Prop} {E:Inj} {tmps:Array Value} (h:FrOk ops l (frL l t 0) X E tmps) {j:Nat} (hj:j<=ops.size) {t0:Nat}
  (hX:∀ i,(ops[i]?).bind (·.dst)=some t0->(X i↔i<j)):VR E ((frL l t j).nth t0) (tmps.getD t0 undef):=by
 by_cases h0:t0<(frL l t 0).n
 ·rcases S.last t0 h0 j hj with ⟨i,s,a1,a2,a3,a4,a5⟩ | ⟨a1,a2⟩
  ·rcases h.val t0 h0 with ⟨i',s',b1,b2,b3,b4,b5⟩ | ⟨b1,_⟩
   ·have hi:i=i':=by
     have h1:=b4 i ((hX i a2).2 a1) a2;have h2:=(hX i' b2).1 b1;by_cases he:i=i'
     ·exact he
     ·exact absurd b2 (a5 i' (by omega) h2)
    subst hi;rw [a3] at b3;cases b3;rw [a4];exact b5
   ·exact absurd a2 (b1 i ((hX i a2).2 a1))
  ·rcases h.val t0 h0 with ⟨i',s',b1,b2,b3,b4,b5⟩ | ⟨_,b2⟩
   ·exact absurd b2 (a1 i' ((hX i' b2).1 b1))
   ·rw [a2];exact b2
 ·have hn:(frL l t j).nth t0=(frL l t 0).nth t0:=by
   have hle:(frL l t 0).n<=t0:=Nat.le_of_not_lt h0;clear hX h;induction j with
   | zero=>rfl
   | succ j ih =>
    obtain ⟨s,_,_,_,_,hf,_⟩:=S.at (i:=j) (o:=ops[j]) (by simp)
    have:=S.frn j (by omega);rw [hf,zWI,if_neg (by omega),ih (by omega)]
  have hsz:¬ t0<tmps.size:=by rw [<- h.size];exact h0
  rw [hn];have:tmps.getD t0 undef=undef:=by simp [Array.getD,hsz]
  rw [this];exact h.out t0 h0
end

theorem xJM {o:Op} {ev:Operand->Value} {Z Z':St} {v:Value} (hm:uB o=true) (h:zN P ev Z o=some (v,Z')) :
  ∃ y,Z'=Z.add y/\∀ Z₂:St,Z₂.y=Z.y->zN P ev Z₂ o=some (v,Z₂.add y):=by
 unfold zN at h;split at h
 ·split at h
  ·rename_i z hz;rw [wL,yO] at h;simp at h;obtain ⟨rfl,rfl⟩:=h;exact ⟨_,rfl,fun Z₂ h2=>by unfold zN;simp only [hz,wL,yO,h2];simp⟩
  ·cases h
 ·rw [wL,yO] at h;simp at h;obtain ⟨rfl,rfl⟩:=h;exact ⟨_,rfl,fun Z₂ h2=>by unfold zN;simp only [wL,yO,h2];simp⟩
 ·split at h
  ·rename_i e n hes;split at h
   ·rename_i z hz;obtain ⟨hc,h⟩:=yT h;split at h
    ·rename_i cs hf;rw [yO] at h;simp at h;obtain ⟨rfl,rfl⟩:=h;exact ⟨_,rfl,fun Z₂ h2=>by unfold zN;simp only [hes,hz,hc,cond_true,hf,yO,h2]⟩
    ·cases h
   ·cases h
  ·cases h
 ·split at h
  ·split at h
   ·rename_i ke hmo;rw [St.new_eq] at h;simp at h;obtain ⟨rfl,rfl⟩:=h;exact ⟨_,rfl,fun Z₂ h2=>by unfold zN;simp only [hmo,St.new_eq,h2]⟩
   ·cases h
  ·split at h
   ·rename_i hmo hx;rw [St.new_eq] at h;simp at h;obtain ⟨rfl,rfl⟩:=h;exact ⟨_,rfl,fun Z₂ h2=>by unfold zN;simp only [hmo,hx,St.new_eq,h2]⟩
   ·cases h
 ·split at h
  ·rename_i hes hl hc;split at h
   ·rename_i hz hi;obtain ⟨hcond,h⟩:=yT h;rw [yO] at h;simp at h;obtain ⟨rfl,rfl⟩:=h;exact ⟨_,rfl,fun Z₂ h2=>by unfold zN;simp only [hes,hl,hc,hz,hi,hcond,cond_true,yO,h2]⟩
   ·cases h
  ·cases h
 all_goals (exfalso;simp_all [uB])
end Go.Lay

namespace Go.Lay
open Go
variable {pend:Nat->Option Loc} {n b:Nat} {L:Loc} {V:Inj}

abbrev BF (ops:Array Oper):Array Nat:=CheckFast.beforeF ops

structure Pend (V:Inj) (pend:Nat->Option Loc) (N0:Nat) (w:World) (n:Nat) (y:Blk) (L:Loc):Prop where
 get:pend n=some L
 ge:N0<=L.c
 lt:L.c<w.heap.size
 own:V.own L.c=none
 off:∀ b s L',V.loc b s=some L'->L'.c≠L.c
 blk:BlkR ((V.plus (cut pend (n+1))).owned L.c n) w n y

structure Inv (ops:Array Oper) (l:List Seen) (t:Tm) (U:St) (V0:Inj) (w0:World) (ds:List Deferred) (X:Nat->Prop) (a:Act) (w:World) (q:Nat) (V:Inj) (pend:Nat->Option Loc):Prop where
 hq:q<=ops.size
 ahead:∀ (j:Nat) (o:Oper),ops[j]?=some o->xX o.op=true->j<q->X j
 beyond:∀ (j:Nat) (o:Oper),ops[j]?=some o->xX o.op=true->q<=j->X j->zBB ops (BF ops) j=true
 good:Good V0 (stL l U 0) w0 V (stL l U q) w
 keys:∀ b L,pend b=some L->(b<(stL l U q).y/\V.loc b 0=some L)\/(∃ j o s,q<=j/\X j/\ops[j]?=some o/\l[j]?=some s/\s.want=true/\zBB ops (BF ops) j=true/\b=(stL l U j).y)
 pok:∀ (j:Nat) (o:Oper) (s:Seen),q<=j->X j->ops[j]?=some o->xX o.op=true->l[j]?=some s->s.want=true->∃ y L,stL l U (j+1)=(stL l U j).add y/\Pend V pend w0.heap.size w (stL l U j).y y L
 inj:∀ b b' L L',pend b=some L->pend b'=some L'->L.c=L'.c->b=b'
 fr:FrOk ops l (frL l t 0) X (V.plus pend) a.tmps
 ds:a.defers=ds
 fast:(∀ j,zBB ops (BF ops) j=false)->∀ b,pend b=none

theorem zNG {o:Op} (h:uB o=true):xX o=true:=by cases o <;> first | rfl | (simp [uB] at h)
theorem zIJ {ops:Array Oper} {B:Array Nat} {j:Nat} {o:Oper} (ho:ops[j]?=some o) (h:zBB ops B j=true):uB o.op=true:=by
 unfold zBB at h;rw [(yX ho).1,Bool.and_eq_true] at h;exact h.1

theorem zKI (h:cut pend n b=some L):b<n/\pend b=some L:=by
 unfold cut at h;split at h
 ·rename_i hlt;exact ⟨hlt,h⟩
 ·cases h
theorem wP (h:pend b=some L):(V.plus pend).loc b 0=some L:=by simp [Inj.plus,h]
theorem wQ {s:Nat} (h:s≠0):(V.plus pend).loc b s=V.loc b s:=by simp [Inj.plus,h]
theorem wZ (s:Nat) (h:pend b=none):(V.plus pend).loc b s=V.loc b s:=by
 simp only [Inj.plus,h];split
 ·rename_i h0;rw [h0]
 ·rfl

section
variable {P:Program} {rec:Rec} {ops:Array Oper} {l:List Seen} {t:Tm} {U:St} {V0:Inj} {w0:World} {ds:List Deferred} {X:Nat->Prop} {a:Act} {w:World} {q:Nat} {V:Inj} {pend:Nat->Option Loc}

theorem Inv.lt_size (I:Inv ops l t U V0 w0 ds X a w q V pend) {b:Nat} {L:Loc} (h:pend b=some L):L.c<w.heap.size:=by
 rcases I.keys b L h with ⟨_,h1⟩ | ⟨j,o,s,h1,h2,h3,h4,h5,h6,rfl⟩
 ·exact I.good.rep.lt _ _ _ h1
 ·obtain ⟨y,L',_,hp⟩:=I.pok j o s h1 h2 h3 (zNG (zIJ h3 h6)) h4 h5;rw [hp.get] at h;cases h;exact hp.lt

theorem Inv.sub_plus (S:SeqD P rec ops ops.toList l t U) (I:Inv ops l t U V0 w0 ds X a w q V pend) (hX:∀ j,X j->j<ops.size):Sub V (V.plus pend):=by
 refine ⟨fun b s L h=>?_,fun _ _ _ _=>rfl⟩
 by_cases h0:s=0
 ·subst h0;cases hp:pend b with
  | none=>rw [wZ _ hp];exact h
  | some L1 =>
   rw [wP hp];rcases I.keys b L1 hp with ⟨_,h1⟩ | ⟨j,o,s,h1,h2,h3,h4,h5,h6,rfl⟩
   ·rw [h] at h1;exact h1.symm
   ·have:=S.mono q j h1 (Nat.le_of_lt (hX j h2));rw [I.good.rep.fresh _ _ this] at h;cases h
 ·rw [wQ h0];exact h

theorem Inv.lower (S:SeqD P rec ops ops.toList l t U) (I:Inv ops l t U V0 w0 ds X a w q V pend) (hX:∀ j,X j->j<ops.size) {f:Tm} {o:Oper} (hb:(∀ j,zBB ops (BF ops) j=false)\/zDH (stL l U q).y f o=true) {x:Operand} (hx:x∈o.op.operands) {v':Value}
  (h:VR (V.plus pend) (yC f x) v'):VR V (yC f x) v':=by
 rcases hb with hb | hb
 ·refine VR.sub (V:=V.plus pend) (V':=V) ⟨fun b s L hL=>?_,fun _ _ _ _=>rfl⟩ h;rw [wZ _ (I.fast hb b)] at hL;exact hL
 ·refine VR.lower (E:=V.plus pend) (E':=V) (m:=(stL l U q).y) (fun b s L hlt hL=>?_) (fun _ _ _ _=>rfl) RD (List.all_eq_true.1 hb x (by simpa using hx)) h;by_cases h0:s=0
  ·subst h0;cases hp:pend b with
   | none=>rw [wZ _ hp] at hL;exact hL
   | some L1 =>
    rw [wP hp] at hL;cases hL;rcases I.keys b L hp with ⟨_,h1⟩ | ⟨j,o',s,h1,h2,_,_,_,_,rfl⟩
    ·exact h1
    ·have:=S.mono q j h1 (Nat.le_of_lt (hX j h2));omega
  ·rw [wQ h0] at hL;exact hL

theorem Pend.keep {V':Inj} {pend':Nat->Option Loc} {w':World} {N0:Nat} {y:Blk} (h:Pend V pend N0 w n y L) (hget:pend' n=some L) (hlt:w.heap.size<=w'.heap.size) (hown:V'.own L.c=none)
  (hoff:∀ b s L',V'.loc b s=some L'->L'.c≠L.c) (hs:Sub (V.plus (cut pend (n+1))) (V'.plus (cut pend' (n+1)))) (hfr:∀ s,s≠0->V.loc n s=none/\V'.loc n s=none) (hw:w'.heap[L.c]?=w.heap[L.c]?) :
  Pend V' pend' N0 w' n y L:=by
 refine ⟨hget,h.ge,Nat.lt_of_lt_of_le h.lt hlt,hown,hoff, ?_⟩
 have hl:∀ s L1,((V.plus (cut pend (n+1))).owned L.c n).loc n s=some L1->L1=L:=fun s L1 hL=>by
  by_cases h0:s=0
  ·subst h0;have:(V.plus (cut pend (n+1))).loc n 0=some L:=wP (by simp [cut,h.get]);rw [show ((V.plus (cut pend (n+1))).owned L.c n).loc n 0=(V.plus (cut pend (n+1))).loc n 0 from rfl,this] at hL;cases hL;rfl
  ·rw [show ((V.plus (cut pend (n+1))).owned L.c n).loc n s=(V.plus (cut pend (n+1))).loc n s from rfl,wQ h0,(hfr s h0).1] at hL;cases hL
 refine h.blk.keepS ⟨hs.loc,hs.sz⟩ (fun s L1 hL=>?_) (fun s L1 hL _=>?_) (fun cs esz log next ro hy s hs'=>?_)
 ·rw [hl s L1 hL];simp [Inj.owned]
 ·rw [hl s L1 hL];exact hw
 ·have hb:=h.blk;subst hy;cases hb with
  | cells _ _ _ fresh =>
   have:=fresh s hs';by_cases h0:s=0
   ·subst h0;have h2:(V.plus (cut pend (n+1))).loc n 0=some L:=wP (by simp [cut,h.get]);rw [show ((V.plus (cut pend (n+1))).owned L.c n).loc n 0=(V.plus (cut pend (n+1))).loc n 0 from rfl,h2] at this;cases this
   ·rw [show ((V'.plus (cut pend' (n+1))).owned L.c n).loc n s=(V'.plus (cut pend' (n+1))).loc n s from rfl,wQ h0];exact (hfr s h0).2

theorem Inv.advance1 (S:SeqD P rec ops ops.toList l t U) (I:Inv ops l t U V0 w0 ds X a w q V pend) (hX:∀ j,X j->j<ops.size) {o:Oper} (ho:ops[q]?=some o) (hact:xX o.op=true->X q) :
    ∃ V',Inv ops l t U V0 w0 ds X a w (q+1) V' pend:=by
  obtain ⟨s,hs,_,_,_,_,hg,h1,h2⟩:=S.at ho;have hq1:q+1<=ops.size:=(yX ho).2;have stay:stL l U (q+1)=stL l U q->(∀ (sx:Seen),l[q]?=some sx->sx.want=true->zBB ops (BF ops) q=true->False)->∃ V',Inv ops l t U V0 w0 ds X a w (q+1) V' pend:=fun hst hno =>
    ⟨V, hq1,fun j o' hj ha hlt=>by
        by_cases he:j=q
        · subst he;rw [ho] at hj;cases hj;exact hact ha
        · exact I.ahead j o' hj ha (by omega),
      fun j o' hj ha hle hx=>I.beyond j o' hj ha (by omega) hx,by rw [hst];exact I.good,
      fun b L hp=>by
        rw [hst];refine (I.keys b L hp).imp id (fun ⟨j,o',s',x1,x2,x3,x4,x5,x6,x7⟩=>⟨j,o',s', ?_,x2,x3,x4,x5,x6,x7⟩);by_cases he:j=q
        · subst he;exact (hno s' x4 x5 x6).elim
        · omega,
      fun j o' s' hle hx hj ha hs' hw=>I.pok j o' s' (by omega) hx hj ha hs' hw,I.inj,I.fr,I.ds,I.fast⟩
  cases hact':xX o.op with
  | false =>
    refine stay ?_ (fun sx _ _ hfree=>?_)
    · cases hw:s.want with
      | false=>exact (h2 hw).2
      | true => rcases zJQ (h1 hw) with ⟨ha,_⟩ | ⟨_,_,_,he⟩ | ⟨_,_,_,he⟩
                · rw [hact'] at ha;cases ha
                · exact he
                · exact he
    · have:=zNG (zIJ ho hfree);rw [hact'] at this;cases this
  | true =>
    have hXq:=hact hact';cases hw:s.want with
    | false=>exact stay (h2 hw).2 (fun sx hsx hwx _=>by rw [hs] at hsx;cases hsx;rw [hw] at hwx;cases hwx)
    | true =>
      obtain ⟨y,L,hst,hp⟩:=I.pok q o s (Nat.le_refl _) hXq ho hact' hs hw;have hfree:=I.beyond q o ho hact' (Nat.le_refl _) hXq;have hfrn:=I.good.rep.fresh (stL l U q).y;have hnone:∀ s,V.loc (stL l U q).y s=none:=fun s=>hfrn s (Nat.le_refl _)
      have hbig:∀ j,q+1<=j->j<=ops.size->(stL l U q).y+1<=(stL l U j).y:=fun j hj hj2=>by
        have:=S.mono (q+1) j hj hj2;rw [hst,St.add_next] at this;exact this
      have hsub:Sub V (V.commit (stL l U q).y L):=by
        refine ⟨fun b s0 L0 h0=>?_,fun _ _ _ _=>rfl⟩
        simp only [Inj.commit];rw [if_neg];exact h0;rintro ⟨rfl,rfl⟩;rw [hnone 0] at h0;cases h0
      have hgood:=I.good;have rep:Rep (V.commit (stL l U q).y L) ((stL l U q).add y) w:=by
        refine ⟨fun b y' hb=>?_,fun b s0 L0 h0=>?_,fun c b h0=>?_,fun b s0 h0=>?_⟩
        · rw [St.add_get] at hb;by_cases hbn:b=(stL l U q).y
          · rw [if_pos hbn] at hb;cases hb;subst hbn;refine ⟨by simp,hp.blk.keepS ⟨fun b s0 L0 h0=>?_,fun _ _ _ _=>rfl⟩ (fun _ _ _=>rfl) (fun _ _ _ _=>rfl) (fun cs esz log next ro hy s0 hs0=>?_)⟩
            · have h0:(V.plus (cut pend ((stL l U q).y+1))).loc b s0=some L0:=h0;by_cases hz:s0=0
              · subst hz;cases hc:cut pend ((stL l U q).y+1) b with
                | none=>rw [wZ _ hc] at h0;exact hsub.loc _ _ _ h0
                | some L1 =>
                  rw [wP hc] at h0;cases h0;obtain ⟨hlt,hpb⟩:=zKI hc;by_cases hbe:b=(stL l U q).y
                  · subst hbe;rw [hp.get] at hpb;cases hpb;simp [Inj.commit]
                  · rcases I.keys b L0 hpb with ⟨_,x⟩ | ⟨j,_,_,x1,x2,_,_,_,_,x7⟩
                    · exact hsub.loc _ _ _ x
                    · have:=S.mono q j x1 (Nat.le_of_lt (hX j x2));omega
              · rw [wQ hz] at h0;exact hsub.loc _ _ _ h0
            · have hb:=hp.blk;subst hy;cases hb with
              | cells _ _ _ fresh =>
                have hh:=fresh s0 hs0;by_cases hz:s0=0
                · subst hz;have h2:(V.plus (cut pend ((stL l U q).y+1))).loc (stL l U q).y 0=some L:=wP (by simp [cut,hp.get]);rw [show ((V.plus (cut pend ((stL l U q).y+1))).owned L.c (stL l U q).y).loc (stL l U q).y 0=(V.plus (cut pend ((stL l U q).y+1))).loc (stL l U q).y 0 from rfl,h2] at hh;cases hh
                · simp only [Inj.commit];rw [if_neg (fun x=>hz x.2)];exact hnone s0
          · rw [if_neg hbn] at hb;have h:=hgood.rep.blk b y' hb;refine ⟨by simp;omega,h.2.keepS hsub (fun s0 L0 h0=>?_) (fun _ _ _ _=>rfl) (fun cs esz log next ro hy s0 hs0=>?_)⟩
            · simp only [Inj.commit];rw [if_neg (hp.off _ _ _ h0)]
            · subst hy;simp only [Inj.commit];rw [if_neg (fun x=>hbn x.1)];cases h.2 with | cells _ _ _ fresh=>exact fresh s0 hs0
        · simp only [Inj.commit] at h0;split at h0
          · cases h0;exact hp.lt
          · exact hgood.rep.lt _ _ _ h0
        · simp only [Inj.commit] at h0;split at h0
          · rename_i hc;cases h0;rw [hc];exact ⟨hp.lt,by simp⟩
          · have:=hgood.rep.ownlt _ _ h0;exact ⟨this.1,by simp;omega⟩
        · simp at h0;simp only [Inj.commit];rw [if_neg (by omega)];exact hgood.rep.fresh b s0 (by omega)
      have good:Good V0 (stL l U 0) w0 (V.commit (stL l U q).y L) (stL l U (q+1)) w:=by
        rw [hst];refine ⟨⟨fun b s0 L0 h0=>hsub.loc _ _ _ (hgood.ext.loc _ _ _ h0),hgood.ext.sz,fun b s0 h0 hb=>?_,fun c hc=>?_,hgood.ext.csz,fun b s0 L0 h0 hc=>?_⟩,rep,hgood.pres,hgood.low,Nat.le_trans hgood.y (by simp)⟩
        · simp at hb;simp only [Inj.commit];rw [if_neg (by omega)];exact hgood.ext.fresh b s0 h0 (by omega)
        · simp only [Inj.commit];rw [if_neg (by have:=hp.ge;omega)];exact hgood.ext.own c hc
        · simp only [Inj.commit] at h0;split at h0
          · cases h0;have:=hp.ge;omega
          · exact hgood.ext.old _ _ _ h0 hc
      have hps:∀ m,Sub (V.plus (cut pend m)) ((V.commit (stL l U q).y L).plus (cut pend m)):=fun m =>
        zGM hsub (fun _ _ h=>h) (fun b L1 L2 h1 h2=>by rw [h1] at h2;cases h2) (fun _ _ _=>rfl)
      refine ⟨V.commit (stL l U q).y L,hq1,fun j o' hj ha hlt=>?_,fun j o' hj ha hle hx=>I.beyond j o' hj ha (by omega) hx,good,fun b L1 hpb=>?_,fun j o' s' hle hx hj ha hs' hw'=>?_,I.inj, ?_,I.ds,I.fast⟩
      · by_cases he:j=q
        · subst he;exact hXq
        · exact I.ahead j o' hj ha (by omega)
      · rw [hst];rcases I.keys b L1 hpb with ⟨x1,x2⟩ | ⟨j,o',s',x1,x2,x3,x4,x5,x6,x7⟩
        · exact .inl ⟨by simp;omega,hsub.loc _ _ _ x2⟩
        · by_cases he:j=q
          · subst he;subst x7;rw [hp.get] at hpb;cases hpb;exact .inl ⟨by simp,by simp [Inj.commit]⟩
          · exact .inr ⟨j,o',s',by omega,x2,x3,x4,x5,x6,x7⟩
      · obtain ⟨y',L',e1,hp'⟩:=I.pok j o' s' (by omega) hx hj ha hs' hw';have hb:=hbig j hle (Nat.le_of_lt (yX hj).2);have hne:L'.c≠L.c:=fun e=>by
          have:=I.inj _ _ _ _ hp'.get hp.get e;omega
        refine ⟨y',L',e1,hp'.keep hp'.get (Nat.le_refl _) ?_ (fun b s0 L0 h0=>?_) (hps _) (fun s0 hs0=>?_) rfl⟩
        · simp only [Inj.commit];rw [if_neg hne];exact hp'.own
        · simp only [Inj.commit] at h0;split at h0
          · cases h0;exact fun e=>hne e.symm
          · exact hp'.off _ _ _ h0
        · have hn:=hgood.rep.fresh (stL l U j).y s0 (by omega);exact ⟨hn,by simp only [Inj.commit];rw [if_neg (fun x=>hs0 x.2)];exact hn⟩
      · refine I.fr.sub (zGM hsub (fun _ _ h=>h) (fun b L1 L2 h1 h2=>by rw [h1] at h2;cases h2) (fun _ _ _=>rfl))
end
end Go.Lay

namespace Go.Lay
open Go
variable {k t0:Nat}

section
variable {P:Program} {rec:Rec} {ops:Array Oper} {l:List Seen} {t:Tm} {U:St} {V0:Inj} {w0:World} {ds:List Deferred} {X:Nat->Prop} {a:Act} {w:World} {q:Nat} {V:Inj} {pend:Nat->Option Loc}

theorem Inv.advance (S:SeqD P rec ops ops.toList l t U) (hX:∀ j,X j->j<ops.size):∀ (n:Nat) {q:Nat} {V:Inj},Inv ops l t U V0 w0 ds X a w q V pend->q+n<=ops.size->(∀ (j:Nat) (o:Oper),ops[j]?=some o->q<=j->j<q+n->xX o.op=true->X j) ->
  ∃ V',Inv ops l t U V0 w0 ds X a w (q+n) V' pend
 | 0,q,V,I,_,_=>⟨V,I⟩
 | n+1,q,V,I,hn,hall=>by
  have ho:ops[q]?=some ops[q]:=by simp
  obtain ⟨V₁,I₁⟩:=I.advance1 S hX ho (fun ha=>hall q _ ho (Nat.le_refl _) (by omega) ha);obtain ⟨V₂,I₂⟩:=Inv.advance S hX n I₁ (by omega) (fun j o hj h1 h2 ha=>hall j o hj (by omega) (by omega) ha);exact ⟨V₂,by rw [show q+(n+1)=q+1+n by omega];exact I₂⟩
theorem Inv.advanceTo (S:SeqD P rec ops ops.toList l t U) (hX:∀ j,X j->j<ops.size) (I:Inv ops l t U V0 w0 ds X a w q V pend) {m:Nat} (hqm:q<=m) (hm:m<=ops.size)
  (hall:∀ (j:Nat) (o:Oper),ops[j]?=some o->j<m->xX o.op=true->X j):∃ V',Inv ops l t U V0 w0 ds X a w m V' pend:=by
 obtain ⟨V',I'⟩:=I.advance S hX (m-q) (by omega) (fun j o hj _ h2 ha=>hall j o hj (by omega) ha);exact ⟨V',by rw [show m=q+(m-q) by omega];exact I'⟩

structure Rdy (ops:Array Oper) (X:Nat->Prop) (i:Nat) (o:Oper):Prop where
 op:ops[i]?=some o
 not:¬ X i
 dep:∀ e∈o.after.toList,Region.binds .any e=true->X e.on

section
variable (D:DrawOk ops) (hC:zOS ops X) {i:Nat} {o:Oper} (R:Rdy ops X i o)
include D hC R
theorem Rdy.pre {k:Nat} (h:pre (BF ops) k i=true):X k:=yIA D hC i o R.op R.dep k h
theorem Rdy.apart {k:Nat} {ok:Oper} (hk:ops[k]?=some ok) (hne:k≠i) (hx:¬ (X k/\k<i)) (hx2:¬ (¬ X k/\i<k)):Oper.apart ops ok o=true/\Oper.apart ops o ok=true:=by
 have h1:Go.Lay.pre (BF ops) k i=false:=by
  rw [Bool.eq_false_iff];intro h;exact hx ⟨R.pre D hC h,yHZ D k i (yX R.op).2 h⟩
 have h2:Go.Lay.pre (BF ops) i k=false:=by
  rw [Bool.eq_false_iff];intro h;have hlt:=yHZ D i k (yX hk).2 h;refine hx2 ⟨fun hxk=>?_,hlt⟩;exact R.not (yIA D hC k ok hk (fun e he hb=>hC k ok hxk hk e he hb) i h)
 exact ⟨D.apart k i ok o hk R.op hne h1 h2,D.apart i k o ok R.op hk (Ne.symm hne) h2 h1⟩
theorem Rdy.writer (ht:t0∈o.looksAt ops) (hk:(ops[k]?).bind (·.dst)=some t0):X k↔k<i:=by
 cases hok:ops[k]? with
 | none=>rw [hok] at hk;simp at hk
 | some ok =>
  rw [hok] at hk;simp at hk;by_cases hne:k=i
  ·subst hne;exact ⟨fun h=>absurd h R.not,fun h=>absurd h (Nat.lt_irrefl _)⟩
  ·have no:¬ (Oper.apart ops ok o=true):=fun h=>(Oper.apart_spec h).1 t0 hk ht
   by_cases hx:X k
   ·refine ⟨fun _=>?_,fun _=>hx⟩
    by_cases hlt:k<i
    ·exact hlt
    ·exact absurd (R.apart D hC hok hne (fun h=>hlt h.2) (fun h=>h.1 hx)).1 no
   ·refine ⟨fun h=>absurd h hx,fun hlt=>?_⟩
    exact absurd (R.apart D hC hok hne (fun h=>hx h.1) (fun h=>by omega)).1 no
theorem Rdy.max (hx:X k) (ht:o.dst=some t0) (hk:(ops[k]?).bind (·.dst)=some t0):k<i:=by
 cases hok:ops[k]? with
 | none=>rw [hok] at hk;simp at hk
 | some ok =>
  rw [hok] at hk;simp at hk;have hne:k≠i:=fun e=>R.not (e ▸ hx)
  by_cases hlt:k<i
  ·exact hlt
  ·exact absurd ht ((Oper.apart_spec (R.apart D hC hok hne (fun h=>hlt h.2) (fun h=>h.1 hx)).1).2.1 t0 hk)

theorem Rdy.operand (S:SeqD P rec ops ops.toList l t U) (I:Inv ops l t U V0 w0 ds X a w q V pend) (hok:zCK o=true) {x:Operand} (hx:x∈o.op.operands):VR (V.plus pend) (yC (frL l t i) x) (a.eval x):=by
 cases x with
 | tmp t0 =>
  have hl:t0∈o.looksAt ops:=List.mem_append_left _ (List.mem_filterMap.2 ⟨.tmp t0,by simpa using hx,rfl⟩);exact I.fr.match S (Nat.le_of_lt (yX R.op).2) (fun k hk=>R.writer D hC hl hk)
 | const v=>exact .refl_rigid _ (yLL hok hx)
 | global g=>exact .any rfl
 | func g=>exact .func (.func g) rfl (fun i v v' h=>by simp at h) rfl (fun i v v' h=>by simp at h)
theorem Rdy.guard (S:SeqD P rec ops ops.toList l t U) (I:Inv ops l t U V0 w0 ds X a w q V pend) {b:Bool} (hg:uI ops (frL l t i) o=some b):Region.wanted o (yielded ops a.tmps)=b:=by
 refine zAK (V:=V.plus pend) hg (fun j want d hgd hd=>?_);have hl:d∈o.looksAt ops:=List.mem_append_right _ (by simp [hgd,hd]);exact I.fr.match S (Nat.le_of_lt (yX R.op).2) (fun k hk=>R.writer D hC hl hk)
end

structure Ask (P:Program) (ops:Array Oper) (l:List Seen) (t:Tm) (U:St):Prop where
 low:∀ (i:Nat) (o:Oper) (s:Seen),ops[i]?=some o->l[i]?=some s->s.want=true->(xX o.op || zCL o.op)=true->(∀ j,zBB ops (BF ops) j=false)\/zDH (stL l U i).y (frL l t i) o=true
 steady:∀ (i k:Nat) (oi ok:Oper) (si:Seen),ops[i]?=some oi->ops[k]?=some ok->i≠k->l[i]?=some si->si.want=true->zCL oi.op=true->xX ok.op=true->pre (BF ops) i k=false->pre (BF ops) k i=false ->
  (xJ P (yC (frL l t i)) (stL l U k) oi.op=some si.v/\zDH (stL l U k).y (frL l t i) oi=true)/\(xJ P (yC (frL l t i)) (stL l U (k+1)) oi.op=some si.v/\zDH (stL l U (k+1)).y (frL l t i) oi=true)

section
variable (hz:vR P) (hrec:RecSound P rec) (D:DrawOk ops) (S:SeqD P rec ops ops.toList l t U) (A:Ask P ops l t U) (hC:zOS ops X) (hX:∀ j,X j->j<ops.size) (hok:∀ (j:Nat) (o:Oper),ops[j]?=some o->zCK o=true)
variable {i:Nat} {o:Oper} (R:Rdy ops X i o) {rd:Option Nat} {n:Nat} {Q:Exit->Act->World->Prop}

theorem Inv.stepWith (I:Inv ops l t U V0 w0 ds X a w q V pend) {s:Seen} (hs:l[i]?=some s) (ho:ops[i]?=some o) (hnx:¬ X i) (hmax:∀ k t0,X k->o.dst=some t0->(ops[k]?).bind (·.dst)=some t0->k<i)
  (hact:xX o.op=false) {v':Value} (hv:VR (V.plus pend) s.v v'):Inv ops l t U V0 w0 ds (fun j=>X j\/j=i) (a.put o.dst v') w q V pend:=by
 have hi:∀ {j:Nat} {o':Oper},ops[j]?=some o'->xX o'.op=true->j≠i:=fun hj ha e=>by subst e;rw [ho] at hj;cases hj;rw [hact] at ha;cases ha
 refine ⟨I.hq,fun j o' hj ha hlt=>.inl (I.ahead j o' hj ha hlt),fun j o' hj ha hle hx=>I.beyond j o' hj ha hle (hx.resolve_right (hi hj ha)),I.good,fun b L hp=>?_,
  fun j o' s' hle hx hj ha hs' hw=>I.pok j o' s' hle (hx.resolve_right (hi hj ha)) hj ha hs' hw,I.inj,I.fr.put ho hs hmax hv, ?_,I.fast⟩
 ·exact (I.keys b L hp).imp id (fun ⟨j,o',s',x1,x2,x3⟩=>⟨j,o',s',x1,.inl x2,x3⟩)
 ·rw [<- I.ds];unfold Act.put;split <;> rfl

include S in
theorem Inv.stepIdle (I:Inv ops l t U V0 w0 ds X a w q V pend) {s:Seen} (hs:l[i]?=some s) (ho:ops[i]?=some o) (hnx:¬ X i) (hmax:∀ k t0,X k->o.dst=some t0->(ops[k]?).bind (·.dst)=some t0->k<i)
  (hw:s.want=false) (hqi:q=i\/zBB ops (BF ops) i=true):∃ q',Inv ops l t U V0 w0 ds (fun j=>X j\/j=i) (a.put o.dst undef) w q' V pend:=by
 obtain ⟨s0,hs0,_,_,_,_,_,_,h2⟩:=S.at ho;rw [hs] at hs0;cases hs0;obtain ⟨hv,hst⟩:=h2 hw;have hfr:FrOk ops l (frL l t 0) (fun j=>X j\/j=i) (V.plus pend) (a.put o.dst undef).tmps:=I.fr.put ho hs hmax (by rw [hv];exact .undef);have hds:(a.put o.dst undef).defers=ds:=by rw [<- I.ds];unfold Act.put;split <;> rfl
 by_cases hf:zBB ops (BF ops) i=true
 ·refine ⟨q,I.hq,fun j o' hj ha hlt=>.inl (I.ahead j o' hj ha hlt),fun j o' hj ha hle hx=>?_,I.good,fun b L hp=>?_,fun j o' s' hle hx hj ha hs' hw'=>?_,I.inj,hfr,hds,I.fast⟩
  ·rcases hx with hx | rfl
   ·exact I.beyond j o' hj ha hle hx
   ·exact hf
  ·exact (I.keys b L hp).imp id (fun ⟨j,o',s',x1,x2,x3⟩=>⟨j,o',s',x1,.inl x2,x3⟩)
  ·rcases hx with hx | rfl
   ·exact I.pok j o' s' hle hx hj ha hs' hw'
   ·rw [hs] at hs';cases hs';rw [hw] at hw';cases hw'
 ·have hqi:q=i:=hqi.resolve_right hf;subst hqi;refine ⟨q+1,(yX ho).2,fun j o' hj ha hlt=>?_,fun j o' hj ha hle hx=>?_,by rw [hst];exact I.good,fun b L hp=>?_,fun j o' s' hle hx hj ha hs' hw'=>?_,I.inj,hfr,hds,I.fast⟩
  ·by_cases he:j=q
   ·exact .inr he
   ·exact .inl (I.ahead j o' hj ha (by omega))
  ·exact I.beyond j o' hj ha (by omega) (hx.resolve_right (by omega))
  ·rw [hst];refine (I.keys b L hp).imp id (fun ⟨j,o',s',x1,x2,x3⟩=>⟨j,o',s', ?_,.inl x2,x3⟩);have:j≠q:=fun e=>hnx (e ▸ x2)
   omega
  ·exact I.pok j o' s' (by omega) (hx.resolve_right (by omega)) hj ha hs' hw'

include S in
theorem Inv.stepAct (I:Inv ops l t U V0 w0 ds X a w i V pend) {s:Seen} (hs:l[i]?=some s) (ho:ops[i]?=some o) (hnx:¬ X i) (hmax:∀ k t0,X k->o.dst=some t0->(ops[k]?).bind (·.dst)=some t0->k<i)
  {v':Value} {w':World} {V':Inj} (hv:VR V' s.v v') (hg:Good V (stL l U i) w V' (stL l U (i+1)) w'):Inv ops l t U V0 w0 ds (fun j=>X j\/j=i) (a.put o.dst v') w' (i+1) V' pend:=by
 have hmono:=S.mono i (i+1) (by omega) (yX ho).2;have hps:∀ m,Sub (V.plus (cut pend m)) (V'.plus (cut pend m)):=fun m =>
  zGM hg.ext.sub (fun _ _ h=>h) (fun b L1 L2 h1 h2=>by rw [h1] at h2;cases h2) (fun b L h=>hg.ext.csz _ (I.lt_size (zKI h).2))
 have keys:∀ b L,pend b=some L->(b<(stL l U (i+1)).y/\V'.loc b 0=some L)\/(∃ j o s,i+1<=j/\(X j\/j=i)/\ops[j]?=some o/\l[j]?=some s/\s.want=true/\zBB ops (BF ops) j=true/\b=(stL l U j).y):=by
  intro b L hp;rcases I.keys b L hp with ⟨x1,x2⟩ | ⟨j,o',s',x1,x2,x3⟩
  ·exact .inl ⟨by omega,hg.ext.loc _ _ _ x2⟩
  ·refine .inr ⟨j,o',s', ?_,.inl x2,x3⟩;have:j≠i:=fun e=>hnx (e ▸ x2)
   omega
 refine ⟨(yX ho).2,fun j o' hj ha hlt=>?_,fun j o' hj ha hle hx=>I.beyond j o' hj ha (by omega) (hx.resolve_right (by omega)),I.good.trans hg,keys,fun j o' s' hle hx hj ha hs' hw'=>?_,I.inj, ?_, ?_,I.fast⟩
 ·by_cases he:j=i
  ·exact .inr he
  ·exact .inl (I.ahead j o' hj ha (by omega))
 ·obtain ⟨y,L,e1,hp⟩:=I.pok j o' s' (by omega) (hx.resolve_right (by omega)) hj ha hs' hw';have hnj:=S.mono (i+1) j hle (Nat.le_of_lt (yX hj).2);refine ⟨y,L,e1,hp.keep hp.get hg.pres.size (by rw [hg.ext.own _ hp.lt];exact hp.own) (fun b s0 L0 h0 e=>?_) (hps _) (fun s0 hs0=>?_) (hg.pres.same _ hp.lt (fun b hb=>by rw [hp.own] at hb;cases hb))⟩
  ·obtain ⟨b',s',L',g1,g2⟩:=hg.ext.old _ _ _ h0 (by rw [e];exact hp.lt);exact hp.off _ _ _ g1 (g2.trans e)
  ·have hn:=I.good.rep.fresh (stL l U j).y s0 (by omega);exact ⟨hn,hg.ext.fresh _ _ hn (by omega)⟩
 ·have h1:Sub (V.plus pend) (V'.plus pend):=zGM hg.ext.sub (fun _ _ h=>h) (fun b L1 L2 h1 h2=>by rw [h1] at h2;cases h2) (fun b L h=>hg.ext.csz _ (I.lt_size h));refine (I.fr.sub h1).put ho hs hmax (VR.sub (V:=V') (V':=V'.plus pend) ⟨fun b s0 L0 h0=>?_,fun _ _ _ _=>rfl⟩ hv);by_cases hz0:s0=0
  ·subst hz0;cases hp:pend b with
   | none=>rw [wZ _ hp];exact h0
   | some L1 =>
    rw [wP hp];rcases keys b L1 hp with ⟨_,x⟩ | ⟨j,o',s',x1,x2,x3,x4,x5,x6,rfl⟩
    ·rw [h0] at x;exact x.symm
    ·have hnj:=S.mono (i+1) j x1 (Nat.le_of_lt (yX x3).2);rw [hg.rep.fresh _ _ hnj] at h0;cases h0
  ·rw [wQ hz0];exact h0
 ·rw [<- I.ds];unfold Act.put;split <;> rfl

include hz hrec D S A hC hX hok R in
theorem Inv.step (I:Inv ops l t U V0 w0 ds X a w q V pend) :
    wpOpIn (Fw rd) n P ops Q i (fun a' w'=>∃ q' V' pend',Inv ops l t U V0 w0 ds (fun j=>X j\/j=i) a' w' q' V' pend') a w:=by
  obtain ⟨s,hs,_,_,_,_,hg,h1,h2⟩:=S.at R.op;have ho:=R.op;have hlti:=(yX ho).2;have hmax:∀ k t0,X k->o.dst=some t0->(ops[k]?).bind (·.dst)=some t0->k<i:=fun k t0 hx hd hk=>R.max D hC hx hd hk
  have hoi:=hok i o ho;unfold wpOpIn;rw [ho];simp only;rw [R.guard D hC S I hg];have front:xX o.op=true->zBB ops (BF ops) i=false->∃ V',Inv ops l t U V0 w0 ds X a w i V' pend:=by
    intro ha hf;have hall:∀ (j:Nat) (o':Oper),ops[j]?=some o'->j<i->xX o'.op=true->X j:=by
      intro j o' hj hlt haj;refine R.pre D hC ?_
      cases hm:uB o.op with
      | false=>exact D.acts j i o' o hj ho hlt haj ha hm
      | true =>
        unfold zBB at hf;rw [(yX ho).1,hm,Bool.true_and] at hf;have hf:=List.any_eq_false.1 hf j (List.mem_range.2 hlt);rw [(yX hj).1,haj] at hf;simpa using hf
    have hqi:q<=i:=by
      refine Nat.le_of_not_lt (fun h=>R.not (I.ahead i o ho ha h))
    exact I.advanceTo S hX hqi (Nat.le_of_lt hlti) hall
  cases hw:s.want with
  | false =>
    rw [if_neg (by simp)];refine ⟨fun f _=>zRE rd f, ?_⟩
    cases ha:xX o.op with
    | false=>exact ⟨q,V,pend,I.stepWith hs ho R.not hmax ha (by rw [(h2 hw).1];exact .undef)⟩
    | true =>
      cases hf:zBB ops (BF ops) i with
      | true =>
        obtain ⟨q',h⟩:=I.stepIdle S hs ho R.not hmax hw (.inr hf);exact ⟨q',V,pend,h⟩
      | false =>
        obtain ⟨V',I'⟩:=front ha hf;obtain ⟨q',h⟩:=I'.stepIdle S hs ho R.not hmax hw (.inl rfl);exact ⟨q',V',pend,h⟩
  | true =>
    rw [if_pos rfl];have hop:=h1 hw;rcases zJQ hop with ⟨ha,hcase⟩ | ⟨ha,hlk,hsee,_⟩ | ⟨ha,_,hval,_⟩
    · cases hf:zBB ops (BF ops) i with
      | false =>
        obtain ⟨V₁,I₁⟩:=front ha hf;refine zRW hz hrec hop I₁.good.rep (fun x hx=>?_) (fun v' w' V' hv hgd=>⟨i+1,V',pend,I₁.stepAct S hs ho R.not hmax hv hgd⟩);exact I₁.lower S hX (A.low i o s ho hs hw (by rw [ha];rfl)) hx (R.operand D hC S I₁ hoi hx)
      | true =>
        have hm:=zIJ ho hf;have hqi:q<=i:=Nat.le_of_not_lt (fun h=>R.not (I.ahead i o ho ha h));have heff:zN P (yC (frL l t i)) (stL l U i) o.op=some (s.v,stL l U (i+1)):=by
          rcases hcase with ⟨c,_,_,_,hc,_⟩ | h | ⟨h,_⟩
          · rw [hc] at hm;simp [uB] at hm
          · exact h
          · exfalso;cases hoo:o.op <;> rw [hoo] at hm h <;> first | (simp [uB] at hm;done) | (simp [xY] at h;done)
        obtain ⟨y,hst,hany⟩:=xJM hm heff;have hbel:zDH (stL l U i).y (frL l t i) o=true:=by
          rcases A.low i o s ho hs hw (by rw [ha];rfl) with h | h
          · rw [h i] at hf;cases hf
          · exact h
        have hqn:=S.mono q i hqi (Nat.le_of_lt hlti);have hpn:pend (stL l U i).y=none:=by
          cases hp:pend (stL l U i).y with
          | none=>rfl
          | some L =>
            exfalso;rcases I.keys _ L hp with ⟨x,_⟩ | ⟨j,o',s',x1,x2,x3,x4,x5,x6,x7⟩
            · omega
            · have hji:j≠i:=fun e=>R.not (e ▸ x2)
              obtain ⟨yj,_,ej,_⟩:=I.pok j o' s' x1 x2 x3 (zNG (zIJ x3 x6)) x4 x5;rcases Nat.lt_or_ge j i with hlt | hge
              · have:=S.mono (j+1) i hlt (Nat.le_of_lt hlti);rw [ej,St.add_next] at this;omega
              · have:=S.mono (i+1) j (by omega) (Nat.le_of_lt (hX j x2));rw [hst,St.add_next] at this;omega
        have hlocn:∀ s,V.loc (stL l U i).y s=none:=fun s=>I.good.rep.fresh _ _ hqn
        let N:=(stL l U i).y;let E:=V.plus (cut pend N);let Z₂:St:=⟨.leaf,N,N⟩;have hlt2:∀ b s L,E.loc b s=some L->L.c<w.heap.size:=fun b s0 L h0=>by
          by_cases hz0:s0=0
          · subst hz0;cases hc:cut pend N b with
            | none=>rw [show E.loc b 0=V.loc b 0 from wZ _ hc] at h0;exact I.good.rep.lt _ _ _ h0
            | some L1=>rw [show E.loc b 0=some L1 from wP hc] at h0;cases h0;exact I.lt_size (zKI hc).2
          · rw [show E.loc b s0=V.loc b s0 from wQ hz0] at h0;exact I.good.rep.lt _ _ _ h0
        have hrep:Rep E Z₂ w:=by
          refine ⟨fun b y0 hb=>?_,hlt2,fun c b hcb=>⟨(I.good.rep.ownlt c b hcb).1,Nat.lt_of_lt_of_le (I.good.rep.ownlt c b hcb).2 hqn⟩,fun b s0 hb=>?_⟩
          · simp [Z₂,yD,Tr.getP_leaf] at hb
          · have hb:N<=b:=hb;have hc:cut pend N b=none:=by unfold cut;rw [if_neg (by omega)]
            rw [show E.loc b s0=V.loc b s0 from wZ _ hc];exact I.good.rep.fresh _ _ (Nat.le_trans hqn hb)
        have hevE:∀ x∈o.op.operands,VR E (yC (frL l t i) x) (a.eval x):=fun x hx=>by
          refine VR.lower (E:=V.plus pend) (E':=E) (m:=N) (fun b s0 L hlt hL=>?_) (fun _ _ _ _=>rfl) RD (List.all_eq_true.1 hbel x (by simpa using hx)) (R.operand D hC S I hoi hx);have hcb:cut pend N b=pend b:=by unfold cut;rw [if_pos hlt]
          by_cases hz0:s0=0
          · subst hz0;cases hp:pend b with
            | none=>rw [show E.loc b 0=V.loc b 0 from wZ _ (hcb.trans hp)];rw [wZ _ hp] at hL;exact hL
            | some L1=>rw [show E.loc b 0=some L1 from wP (hcb.trans hp)];rw [wP hp] at hL;exact hL
          · rw [show E.loc b s0=V.loc b s0 from wQ hz0];rw [wQ hz0] at hL;exact hL
        obtain ⟨nx,v',obj,y2,m,z,hrun,hnv,hv,hy2,hgd⟩:=zXR hz hm (hany Z₂ rfl) hrep hevE;have hyy:yD (Z₂.add y).heap N=some y:=by rw [St.add_get,if_pos rfl]
        have hblk:=(hgd.rep.blk N y hyy).2;have hd:∀ c,o.op≠.defer c:=fun c hc=>by rw [hc] at hm;simp [uB] at hm
        refine zLG hd hrun hnv ?_
        let V₁:Inj:={ V with csz:=fun c=>if c=w.heap.size then m else V.csz c };let pend₁:Nat->Option Loc:=fun b=>if b=N then some ⟨w.heap.size,0,0,z⟩ else pend b
        have hV₁:Sub V V₁:=⟨fun _ _ _ h=>h,fun b s0 L h=>by
          have:=I.good.rep.lt _ _ _ h;have hne:L.c≠w.heap.size:=by omega
          simp [V₁,hne]⟩
        have hpp:∀ b L,pend b=some L->pend₁ b=some L:=fun b L h=>by
          have:b≠N:=fun e=>by subst e;rw [hpn] at h;cases h
          simp [pend₁,this,h]
        have hnew:∀ b L L',pend b=none->pend₁ b=some L->V.loc b 0=some L'->L'=L:=fun b L L' h1 h2 h3=>by
          by_cases e:b=N
          · subst e;rw [hlocn 0] at h3;cases h3
          · simp [pend₁,e,h1] at h2
        have hszp:∀ b L,pend b=some L->V₁.csz L.c=V.csz L.c:=fun b L h=>by
          have:=I.lt_size h;have hne:L.c≠w.heap.size:=by omega
          simp [V₁,hne]
        have hsubA:Sub (V.plus pend) (V₁.plus pend₁):=zGM hV₁ hpp hnew hszp;have hsubC:∀ k,Sub (V.plus (cut pend k)) (V₁.plus (cut pend₁ k)):=fun k =>
          zGM hV₁ (fun b L h=>by obtain ⟨h1,h2⟩:=zKI h;unfold cut;rw [if_pos h1];exact hpp b L h2)
            (fun b L L' h1 h2 h3=>by
              obtain ⟨g1,g2⟩:=zKI h2;refine hnew b L L' ?_ g2 h3;unfold cut at h1;rw [if_pos g1] at h1;exact h1)
            (fun b L h=>hszp b L (zKI h).2)
        have hadd : ∀ (pd:Nat->Option Loc),(∀ b L,cut pend N b=some L->pd b=some L)->(∀ b,b<N->pend b=none->pd b=none)->pd N=some ⟨w.heap.size,0,0,z⟩->Sub (E.add N w.heap.size m z) (V₁.plus pd):=by
          intro pd hp1 hp2 hp3;refine ⟨fun b s0 L h0=>?_,fun b s0 L _=>rfl⟩
          simp only [Inj.add] at h0;split at h0
          · rename_i hc;obtain ⟨rfl,rfl⟩:=hc;cases h0;exact wP hp3
          · rename_i hc;by_cases hz0:s0=0
            · subst hz0;have hbn:b≠N:=fun e=>hc ⟨e,rfl⟩
              cases hcp:cut pend N b with
              | some L1 =>
                rw [show E.loc b 0=some L1 from wP hcp] at h0;cases h0;exact wP (hp1 b L hcp)
              | none =>
                rw [show E.loc b 0=V.loc b 0 from wZ _ hcp] at h0;have hblt:b<N:=by
                  rcases Nat.lt_or_ge b N with h | h
                  · exact h
                  · rw [I.good.rep.fresh _ _ (Nat.le_trans hqn h)] at h0;cases h0
                have hpb:pend b=none:=by unfold cut at hcp;rw [if_pos hblt] at hcp;exact hcp
                rw [wZ _ (hp2 b hblt hpb)];exact h0
            · rw [show E.loc b s0=V.loc b s0 from wQ hz0] at h0;rw [wQ hz0];exact h0
        have hkn:∀ s0,s0≠0->E.loc N s0=none:=fun s0 hs0=>by rw [show E.loc N s0=V.loc N s0 from wQ hs0];exact hlocn s0
        refine ⟨q,V₁,pend₁,I.hq,fun j o' hj ha' hlt=>.inl (I.ahead j o' hj ha' hlt),fun j o' hj ha' hle hx=>?_, ?_,fun b L hp=>?_,fun j o' s' hle hx hj ha' hs' hw'=>?_,fun b b' L L' hb hb' he=>?_, ?_, ?_,fun hno=>?_⟩
        · rcases hx with hx | rfl
          · exact I.beyond j o' hj ha' hle hx
          · exact hf
        · have hgo:=I.good;refine ⟨⟨hgo.ext.loc,fun b s0 L h0=>?_,hgo.ext.fresh,hgo.ext.own,fun c hc=>?_,hgo.ext.old⟩,⟨fun b y' hb=>?_,fun b s0 L h0=>?_,fun c b hc=>?_,hgo.rep.fresh⟩,⟨?_,fun c hc hown=>?_,hgo.pres.tape,hgo.pres.os,hgo.pres.output,hgo.pres.fr.trans hgo.pres.size hgd.pres.fr,hgo.pres.drawn⟩,hgo.low,hgo.y⟩
          · have e1:=hgo.ext.sz _ _ _ h0;have:=hgo.rep.lt _ _ _ (hgo.ext.loc _ _ _ h0);have hne:L.c≠w.heap.size:=by omega
            simpa [V₁,hne] using e1
          · have e1:=hgo.ext.csz c hc;have:=hgo.pres.size;have hne:c≠w.heap.size:=by omega
            simpa [V₁,hne] using e1
          · have hb:=hgo.rep.blk b y' hb;refine ⟨hb.1,hb.2.keepS hV₁ (fun _ _ _=>rfl) (fun s0 L h0 _=>World.push_old w obj (hgo.rep.lt _ _ _ h0)) (fun cs esz log next ro hy s0 hs0=>?_)⟩
            have hb2:=hb.2;subst hy;cases hb2 with | cells _ _ _ fresh=>exact fresh s0 hs0
          · have:=hgo.rep.lt b s0 L h0;simp;omega
          · have:=hgo.rep.ownlt c b hc;exact ⟨by simp;omega,this.2⟩
          · have:=hgo.pres.size;simp;omega
          · rw [World.push_old w obj (Nat.lt_of_lt_of_le hc hgo.pres.size)];exact hgo.pres.same c hc hown
        · by_cases hbn:b=N
          · subst hbn;exact .inr ⟨i,o,s,hqi,.inr rfl,ho,hs,hw,hf,rfl⟩
          · have hp':pend b=some L:=by simpa [pend₁,hbn] using hp
            exact (I.keys b L hp').imp id (fun ⟨j,o',s',x1,x2,x3⟩=>⟨j,o',s',x1,.inl x2,x3⟩)
        · by_cases hji:j=i
          · subst hji;refine ⟨y,⟨w.heap.size,0,0,z⟩,hst,by simp [pend₁,N],I.good.pres.size,by simp, ?_,fun b s0 L h0 e=>?_, ?_⟩
            · show V.own w.heap.size=none;cases hown:V.own w.heap.size with
              | none=>rfl
              | some b=>have:=(I.good.rep.ownlt _ _ hown).1;omega
            · have:=I.good.rep.lt b s0 L h0;simp at e;omega
            · have hs1:=hadd (cut pend₁ (N+1)) (fun b L h=>by obtain ⟨h1,h2⟩:=zKI h;unfold cut;rw [if_pos (by omega)];exact hpp b L h2)
                (fun b h1 h2 => by unfold cut;rw [if_pos (by omega)];have:b≠N:=by omega
                                   simp [pend₁,this,h2]) (by unfold cut;rw [if_pos (by omega)];simp [pend₁])
              refine hblk.keepS (V':=(V₁.plus (cut pend₁ (N+1))).owned w.heap.size N) ⟨hs1.loc,hs1.sz⟩ (fun s0 L h0=>?_) (fun _ _ _ _=>rfl) (fun cs esz log next ro hy s0 hs0=>?_)
              · have:L.c=w.heap.size:=by
                  simp only [Inj.add] at h0;split at h0
                  · cases h0;rfl
                  · rename_i hc;rw [hkn s0 (fun e=>hc ⟨rfl,e⟩)] at h0;cases h0
                rw [this];simp [Inj.owned,Inj.add,Z₂]
              · have hb2:=hblk;subst hy;cases hb2 with
                | cells _ _ _ fresh =>
                  have:=fresh s0 hs0;by_cases hz0:s0=0
                  · subst hz0;simp [Inj.add,Z₂] at this
                  · rw [show ((V₁.plus (cut pend₁ (N+1))).owned w.heap.size N).loc N s0=V.loc N s0 from wQ (V:=V₁) hz0];exact hlocn s0
          · have hxj:=hx.resolve_right hji;obtain ⟨yj,Lj,ej,hp⟩:=I.pok j o' s' hle hxj hj ha' hs' hw';refine ⟨yj,Lj,ej,hp.keep (hpp _ _ hp.get) (by simp) hp.own hp.off (hsubC _) (fun s0 _=>?_) (World.push_old w obj hp.lt)⟩
            have hn:=I.good.rep.fresh (stL l U j).y s0 (S.mono q j hle (Nat.le_of_lt (hX j hxj)));exact ⟨hn,hn⟩
        · by_cases hbn:b=N
          · by_cases hbn':b'=N
            · rw [hbn,hbn']
            · exfalso;have h1:L=⟨w.heap.size,0,0,z⟩:=by simpa [pend₁,hbn] using hb.symm
              have h2:pend b'=some L':=by simpa [pend₁,hbn'] using hb'
              have:=I.lt_size h2;rw [<- he,h1] at this;simp at this
          · have h1:pend b=some L:=by simpa [pend₁,hbn] using hb
            by_cases hbn':b'=N
            · exfalso;have h2:L'=⟨w.heap.size,0,0,z⟩:=by simpa [pend₁,hbn'] using hb'.symm
              have:=I.lt_size h1;rw [he,h2] at this;simp at this
            · exact I.inj b b' L L' h1 (by simpa [pend₁,hbn'] using hb') he
        · refine (I.fr.sub hsubA).put ho hs hmax (hv.sub (hadd pend₁ (fun b L h=>hpp b L (zKI h).2) (fun b h1 h2=>?_) (by simp [pend₁])));have:b≠N:=by omega
          simp [pend₁,this,h2]
        · rw [<- I.ds];unfold Act.put;split <;> rfl
        · rw [hno i] at hf;cases hf
    ·
      obtain ⟨m,hqm,hm,hall,hend⟩:∃ m,q<=m/\m<=ops.size/\(∀ (j:Nat) (o':Oper),ops[j]?=some o'->j<m->xX o'.op=true->X j)/\(m=ops.size\/∃ om,ops[m]?=some om/\xX om.op=true/\¬ X m):=by
        have key:∀ (k q:Nat),q+k=ops.size->(∀ (j:Nat) (o':Oper),ops[j]?=some o'->j<q->xX o'.op=true->X j) ->
            ∃ m,q<=m/\m<=ops.size/\(∀ (j:Nat) (o':Oper),ops[j]?=some o'->j<m->xX o'.op=true->X j)/\(m=ops.size\/∃ om,ops[m]?=some om/\xX om.op=true/\¬ X m):=by
          intro k
          induction k with
          | zero=>intro q hq hall;exact ⟨q,Nat.le_refl _,by omega,hall,.inl (by omega)⟩
          | succ k ih =>
            intro q hq hall;have hoq:ops[q]?=some ops[q]:=by simp
            by_cases hbad:xX ops[q].op=true/\¬ X q
            · exact ⟨q,Nat.le_refl _,by omega,hall,.inr ⟨_,hoq,hbad.1,hbad.2⟩⟩
            · obtain ⟨m,m1,m2,m3,m4⟩:=ih (q+1) (by omega) (fun j o' hj hlt ha'=>by
                by_cases he:j=q
                · subst he;rw [hoq] at hj;cases hj;exact Classical.byContradiction fun hx=>hbad ⟨ha',hx⟩
                · exact hall j o' hj (by omega) ha')
              exact ⟨m,by omega,m2,m3,m4⟩
        obtain ⟨m,m1,m2,m3,m4⟩:=key (ops.size-q) q (by have:=I.hq;omega) (fun j o' hj hlt haj=>I.ahead j o' hj haj hlt);exact ⟨m,m1,m2,m3,m4⟩
      obtain ⟨V₁,I₁⟩:=I.advanceTo S hX hqm hm hall;have hlow:=A.low i o s ho hs hw (by rw [ha,hlk];rfl);have climb:∀ k,i+k<=m->xJ P (yC (frL l t i)) (stL l U (i+k)) o.op=some s.v/\((∀ j,zBB ops (BF ops) j=false)\/zDH (stL l U (i+k)).y (frL l t i) o=true):=by
        intro k;induction k with
        | zero=>intro _;exact ⟨hsee,hlow⟩
        | succ k ih =>
          intro hk;obtain ⟨g1,g2⟩:=ih (by omega);have hok':ops[i+k]?=some ops[i+k]:=by simp
          obtain ⟨sk,hsk,_,_,_,_,_,k1,k2⟩:=S.at hok';have same:stL l U (i+k+1)=stL l U (i+k)->xJ P (yC (frL l t i)) (stL l U (i+(k+1))) o.op=some s.v/\((∀ j,zBB ops (BF ops) j=false)\/zDH (stL l U (i+(k+1))).y (frL l t i) o=true):=fun e=>by
            rw [show i+(k+1)=i+k+1 by omega,e];exact ⟨g1,g2⟩
          cases hak:xX ops[i+k].op with
          | false =>
            refine same ?_
            cases hwk:sk.want with
            | false=>exact (k2 hwk).2
            | true =>
              rcases zJQ (k1 hwk) with ⟨h,_⟩ | ⟨_,_,_,h⟩ | ⟨_,_,_,h⟩
              · rw [hak] at h;cases h
              · exact h
              · exact h
          | true =>
            have hk0:k≠0:=fun e=>by
              have h5:ops[i+k]?=some o:=by rw [e,Nat.add_zero];exact ho
              rw [hok'] at h5;rw [Option.some.inj h5,ha] at hak;cases hak
            have hxk:=hall (i+k) _ hok' (by omega) hak;have p1:pre (BF ops) i (i+k)=false:=by
              rw [Bool.eq_false_iff];intro h;exact R.not (yIA D hC (i+k) _ hok' (fun e he hb=>hC _ _ hxk hok' e he hb) i h)
            have p2:pre (BF ops) (i+k) i=false:=by
              rw [Bool.eq_false_iff];intro h;have:=yHZ D (i+k) i hlti h;omega
            obtain ⟨_,h3,h4⟩:=A.steady i (i+k) o _ s ho hok' (by omega) hs hw hlk hak p1 p2;exact ⟨by rw [show i+(k+1)=i+k+1 by omega];exact h3,.inr (by rw [show i+(k+1)=i+k+1 by omega];exact h4)⟩
      have hsm:xJ P (yC (frL l t i)) (stL l U m) o.op=some s.v/\((∀ j,zBB ops (BF ops) j=false)\/zDH (stL l U m).y (frL l t i) o=true):=by
        rcases Nat.lt_or_ge m i with hmi | hmi
        · rcases hend with he | ⟨om,hom,ham,hxm⟩
          · omega
          · have p1:pre (BF ops) i m=false:=by
              rw [Bool.eq_false_iff];intro h;have:=yHZ D i m (yX hom).2 h;omega
            have p2:pre (BF ops) m i=false:=by
              rw [Bool.eq_false_iff];intro h;exact hxm (R.pre D hC h)
            obtain ⟨⟨h3,h4⟩,_⟩:=A.steady i m o om s ho hom (by omega) hs hw hlk ham p1 p2;exact ⟨h3,.inr h4⟩
        · have:=climb (m-i) (by omega);rwa [show i+(m-i)=m by omega] at this
      refine yKN hz hsm.1 I₁.good.rep (fun x hx=>I₁.lower S hX hsm.2 hx (R.operand D hC S I₁ hoi hx)) (fun v' hv=>?_);exact ⟨m,V₁,pend,I₁.stepWith hs ho R.not hmax ha (hv.sub (I₁.sub_plus S hX))⟩
    · exact zOX hz hval (fun x hx=>R.operand D hC S I hoi hx) (fun v' hv=>⟨q,V,pend,I.stepWith hs ho R.not hmax ha hv⟩)
end
end
end Go.Lay

namespace Go.Lay
open Go
variable {ops:Array Oper} {B:Array Nat}

theorem yFR:∀ (l:List Nat) (p p':Nat->Bool),(∀ x∈l,p' x=true->p x=true)->(∃ x,x∈l/\p x=true/\p' x=false)->(l.filter p').length<(l.filter p).length
 | [],_,_,_,h=>by obtain ⟨x,h,_⟩:=h;cases h
 | y::l,p,p',h1,h2=>by
  have le:∀ (l:List Nat),(∀ x∈l,p' x=true->p x=true)->(l.filter p').length<=(l.filter p).length:=by
   intro l;induction l with
   | nil=>intro _;simp
   | cons z l ih =>
    intro h;have:=ih (fun x hx=>h x (by simp [hx]));have hz:=h z (by simp);simp only [List.filter_cons];cases hp':p' z with
    | true=>rw [hz hp',if_pos rfl,if_pos rfl];simp;omega
    | false=>rw [if_neg (by simp)];split <;> simp <;> omega
  have hl:=le l (fun x hx=>h1 x (by simp [hx]));obtain ⟨x,hx,a,b⟩:=h2;simp only [List.filter_cons];rcases List.mem_cons.1 hx with rfl | hx
  ·rw [a,b,if_neg (by simp),if_pos rfl];simp;omega
  ·have:=yFR l p p' (fun x hx=>h1 x (by simp [hx])) ⟨x,hx,a,b⟩;have hy:=h1 y (by simp);cases hp':p' y with
   | true=>rw [hy hp',if_pos rfl,if_pos rfl];simp;omega
   | false=>rw [if_neg (by simp)];split <;> simp <;> omega

theorem xLG {j:Nat} (h:ops.size<=j):zBB ops B j=false:=by
 have h1:ops.getD j default=default:=by simp [Array.getD,Nat.not_lt.2 h]
 unfold zBB;rw [h1];rfl

theorem zMS:∀ (os:List Oper) (ss:List Seen),zHB os ss=true->∀ (i:Nat) (o:Oper) (s:Seen),os[i]?=some o->ss[i]?=some s->s.want=true->(xX o.op || zCL o.op)=true->zDH s.before.y s.f o=true
 | [],_,_,i,o,s,h,_,_,_=>by simp at h
 | _::_,[],_,i,o,s,_,h,_,_=>by simp at h
 | o0::os,s0::ss,h,i,o,s,ho,hs,hw,hal=>by
  simp only [zHB,Bool.and_eq_true] at h;cases i with
  | zero =>
   simp at ho hs;subst ho;subst hs;have:=h.1;rw [hw,hal] at this;simpa using this
  | succ i=>exact zMS os ss h.2 i o s (by simpa using ho) (by simpa using hs) hw hal

theorem yEV {i k:Nat} {oi ok:Oper} (hi:ops[i]?=some oi) (hk:ops[k]?=some ok) (hne:i≠k) (hl:zCL oi.op=true) (ha:xX ok.op=true) (h1:pre B i k=false) (h2:pre B k i=false) :
  (i,k)∈zXH ops B:=by
 unfold zXH;refine List.mem_flatMap.2 ⟨i,List.mem_range.2 (yX hi).2, ?_⟩;rw [(yX hi).1,if_pos hl];refine List.mem_map.2 ⟨k,List.mem_filter.2 ⟨List.mem_range.2 (yX hk).2, ?_⟩,rfl⟩;have hb:Nat.beq i k=false:=by rw [Bool.eq_false_iff];intro e;exact hne (Nat.eq_of_beq_eq_true e)
 rw [(yX hk).1,ha,yJL,h1,h2,hb];rfl

section
variable {P:Program} {rec:Rec} {ops:Array Oper} {V:Inj} {Z:St} {w:World}

theorem zIK {f t:Tm} {U:St} (h:zFU P rec ops f Z=some (t,U)):DrawOk ops/\∃ l,zBN P rec ops ops.toList f Z=some (l,t,U)/\Ask P ops l t U:=by
 unfold zFU at h;obtain ⟨hd,h⟩:=yT h;refine ⟨yNW hd, ?_⟩
 split at h
 ·rename_i hp hf;obtain ⟨l,hl⟩:=zRV _ _ _ _ _ h;refine ⟨l,hl,fun i o s _ _ _ _=>.inl (fun j=>?_),fun i k oi ok si hi hk hne _ _ hlk hak h1 h2=>?_⟩
  ·rcases Nat.lt_or_ge j ops.size with hj | hj
   ·have:=List.any_eq_false.1 hf j (List.mem_range.2 hj);simpa using this
   ·exact xLG hj
  ·have:=yEV hi hk hne hlk hak h1 h2;rw [hp] at this;cases this
 ·rename_i ps _ _;split at h
  ·rename_i l t' U' hl;obtain ⟨hc,h⟩:=yT h;simp at h;obtain ⟨rfl,rfl⟩:=h;simp only [Bool.and_eq_true] at hc;obtain ⟨_,_,S⟩:=zNA _ _ _ _ _ _ hl;refine ⟨l,hl,fun i o s ho hs hw hal=>.inr ?_,fun i k oi ok si hi hk hne hsi hw hlk hak h1 h2=>?_⟩
   ·have:=zMS _ _ hc.1 i o s (by simpa using ho) hs hw hal;obtain ⟨s',hs',e1,e2,_⟩:=S.at ho;rw [hs] at hs';cases hs';rw [<- e1,<- e2];exact this
   ·have hm:=yEV hi hk hne hlk hak h1 h2;have:=List.all_eq_true.1 hc.2 _ hm;obtain ⟨sk,hsk,_,k2,k3,_⟩:=S.at hk;obtain ⟨si',hsi',i1,_⟩:=S.at hi;rw [hsi] at hsi';cases hsi';simp only [yIB,hi,hsi,hsk,Bool.and_eq_true] at this;rw [k2,k3] at this;have one:∀ Z,steady P oi si Z=true->xJ P (yC (frL l t' i)) Z oi.op=some si.v/\zDH Z.y (frL l t' i) oi=true:=by
     intro Z hs;unfold steady at hs;rw [hw,cond_true,Bool.and_eq_true] at hs;obtain ⟨hs1,hs2⟩:=hs;rw [i1] at hs1 hs2;refine ⟨?_,hs1⟩
     split at hs2
     ·rename_i v hv;have:=zVV _ _ _ hs2;subst this;exact hv
     ·cases hs2
    exact ⟨one _ this.1,one _ this.2⟩
  ·cases h

theorem zWP (hz:vR P) (hrec:RecSound P rec) {f t:Tm} {U:St} {rd:Option Nat} {n:Nat} {Q:Exit->Act->World->Prop} {a:Act} (hok:ops.toList.all zCK=true)
  (h:zFU P rec ops f Z=some (t,U)) (hr:Rep V Z w) (hf:TmR V f a.tmps)
  (hQ:∀ V' a' w',Good V Z w V' U w'->TmR V' t a'.tmps->a'.defers=a.defers->Q .normal a' w'):wpAnyIn (Fw rd) n P .any ops Q ops.size (Array.replicate ops.size false) a { w with drawn:=w.drawn+1 }:=by
 obtain ⟨D,l,hl,A⟩:=zIK h;obtain ⟨e1,e2,S⟩:=zNA _ _ _ _ _ _ hl;have hoks:∀ (j:Nat) (o:Oper),ops[j]?=some o->zCK o=true:=fun j o ho=>List.all_eq_true.1 hok o (by
  have:ops.toList[j]?=some o:=by simpa using ho
  exact List.mem_of_getElem? this)
 have hS:=S;have fin:∀ (X:Nat->Prop) (a':Act) (w':World),(∀ j,X j->j<ops.size)->(∀ j,j<ops.size->X j)->(∃ q V' pend,Inv ops l t U V w a.defers X a' w' q V' pend)->Q .normal a' w':=by
  intro X a' w' hX hall ⟨q,V',pend,I⟩;obtain ⟨V₁,I₁⟩:=I.advanceTo S hX I.hq (Nat.le_refl _) (fun j o hj _ _=>hall j (yX hj).2);have hlen:l.length=ops.size:=by rw [S.len];simp
  have hend:stL l U ops.size=U:=by simp [stL,hlen]
  have hfend:frL l t ops.size=t:=by simp [frL,hlen]
  have hg:=I₁.good;rw [e2,hend] at hg;have hsub:Sub (V₁.plus pend) V₁:=by
   refine ⟨fun b s L hL=>?_,fun _ _ _ _=>rfl⟩
   by_cases h0:s=0
   ·subst h0;cases hp:pend b with
    | none=>rw [wZ _ hp] at hL;exact hL
    | some L1 =>
     rw [wP hp] at hL;cases hL;rcases I₁.keys b L hp with ⟨_,x⟩ | ⟨j,_,_,x1,x2,_⟩
     ·exact x
     ·have:=hX j x2;omega
   ·rw [wQ h0] at hL;exact hL
  refine hQ V₁ a' w' hg ⟨?_,fun t0=>?_⟩ I₁.ds
  ·have:=S.frn ops.size (Nat.le_refl _);rw [hfend] at this;rw [this];exact I₁.fr.size
  ·have:=I₁.fr.match S (Nat.le_refl _) (t0:=t0) (fun i _=>⟨fun h=>hX i h,fun h=>hall i h⟩);rw [hfend] at this;exact this.sub hsub
 have key:∀ (fuel:Nat) (listed:Array Bool) (a':Act) (w':World),listed.size=ops.size->zOS ops (fun j=>listed.getD j false=true)->((List.range ops.size).filter fun j=>!listed.getD j false).length<=fuel ->
   (∃ q V' pend,Inv ops l t U V w a.defers (fun j=>listed.getD j false=true) a' w' q V' pend)->wpAnyIn (Fw rd) n P .any ops Q fuel listed a' w':=by
  intro fuel
  induction fuel with
  | zero =>
   intro listed a' w' hsz hC hcnt hI;have hall:∀ j,j<ops.size->listed.getD j false=true:=by
    intro j hj;cases hlj:listed.getD j false with
    | true=>rfl
    | false =>
     have:j∈(List.range ops.size).filter fun j=>!listed.getD j false:=List.mem_filter.2 ⟨List.mem_range.2 hj,by rw [hlj];rfl⟩
     have h0:=List.eq_nil_of_length_eq_zero (Nat.le_zero.1 hcnt);rw [h0] at this;cases this
   refine ⟨?_,fin _ a' w' (fun j hj=>?_) hall hI⟩
   ·refine List.eq_nil_iff_forall_not_mem.2 (fun j hj=>?_);obtain ⟨h0,o,ho,_⟩:=mem_ready.1 hj;have hlt:=(yX ho).2;have:=hall j hlt;simp [Array.getD,hsz,hlt] at this h0;rw [this] at h0;cases h0
   ·rcases Nat.lt_or_ge j ops.size with hlt | hge
    ·exact hlt
    ·simp [Array.getD,hsz,Nat.not_lt.2 hge] at hj
  | succ fuel ih =>
   intro listed a' w' hsz hC hcnt hI;have hX:∀ j,listed.getD j false=true->j<ops.size:=fun j hj=>by
    rcases Nat.lt_or_ge j ops.size with hlt | hge
    ·exact hlt
    ·simp [Array.getD,hsz,Nat.not_lt.2 hge] at hj
   refine ⟨fun hnil=>fin _ a' w' hX (fun j=>?_) hI,fun i hi=>?_⟩
   ·induction j using Nat.strongRecOn with
    | _ j ihj =>
     intro hj;cases hlj:listed.getD j false with
     | true=>rfl
     | false =>
      have ho:ops[j]?=some ops[j]:=by simp [hj]
      have:j∈Region.ready .any ops listed:=by
       refine mem_ready.2 ⟨by simpa [Array.getD,hsz,hj] using hlj,_,ho,fun e he hb=>?_⟩;have hlt:=D.back j _ ho e (by simpa using he) hb;exact ihj e.on hlt (by omega)
      rw [hnil] at this;cases this
   ·obtain ⟨h0,o,ho,hdep⟩:=mem_ready.1 hi;have hlt:=(yX ho).2;have hn:listed.getD i false=false:=by simpa [Array.getD,hsz,hlt] using h0
    have hset:∀ j,((listed.setIfInBounds i true).getD j false=true)↔(listed.getD j false=true\/j=i):=by
     intro j;by_cases hji:j=i
     ·subst hji;simp [Array.getD,hsz,hlt]
     ·have:=getD_set_ne (listed:=listed) false (Ne.symm hji);rw [this];simp [hji]
    obtain ⟨q,V',pend,I⟩:=hI;have R:Rdy ops (fun j=>listed.getD j false=true) i o:=⟨ho,by rw [hn];simp,fun e he hb=>hdep e (by simpa using he) hb⟩;refine wpOpIn_mono (fun a₂ w₂ hI₂=>ih _ a₂ w₂ (by simpa using hsz) ?_ ?_ ?_) (I.step hz hrec D hS A hC hX hoks R)
    ·intro j o' hj ho' e he hb;rw [hset] at hj ⊢;rcases hj with hj | rfl
     ·exact .inl (hC j o' hj ho' e he hb)
     ·rw [ho] at ho';cases ho';exact .inl (hdep e (by simpa using he) hb)
    ·have:=yFR (List.range ops.size) (fun j=>!listed.getD j false) (fun j=>!(listed.setIfInBounds i true).getD j false) (fun x _ hx=>?_) ⟨i,List.mem_range.2 hlt,by rw [hn];rfl, ?_⟩
     ·omega
     ·cases hlx:listed.getD x false with
      | false=>rfl
      | true=>rw [(hset x).2 (.inl hlx)] at hx;cases hx
     ·rw [(hset i).2 (.inr rfl)];rfl
    ·obtain ⟨q',V₂,pend₂,I₂⟩:=hI₂;refine ⟨q',V₂,pend₂, ?_⟩
     have:(fun j=>(listed.setIfInBounds i true).getD j false=true)=(fun j=>listed.getD j false=true\/j=i):=funext fun j=>propext (hset j)
     rw [this];exact I₂
 have hno:∀ j,¬ (Array.replicate ops.size false).getD j false=true:=fun j=>by
  by_cases hj:j<ops.size <;> simp [Array.getD,hj]
 refine key ops.size _ a (drew w) (by simp) (fun j o hj=>absurd hj (hno j)) ?_ ⟨0,V,fun _=>none, ?_⟩
 ·exact Nat.le_trans (List.length_filter_le _ _) (by simp)
 ·have hpl:Sub V (V.plus fun _=>none):=⟨fun b s L hL=>by rw [wZ _ rfl];exact hL,fun _ _ _ _=>rfl⟩;refine ⟨Nat.zero_le _,fun j o _ _ h=>absurd h (Nat.not_lt_zero _),fun j o _ _ _ hx=>absurd hx (hno j),by rw [e2];exact Good.drew hr,fun b L h=>by simp at h,fun j o s _ hx=>absurd hx (hno j),fun b b' L L' h=>by simp at h, ?_,rfl,fun _ _=>rfl⟩
  rw [e1];refine ⟨hf.1,fun t0 _=>.inr ⟨fun i hi=>absurd hi (hno i),(hf.2 t0).sub hpl⟩,fun t0 h0=>?_⟩
  have:=(hf.2 t0).sub hpl;have hlt:¬ t0<a.tmps.size:=by rw [<- hf.1];exact h0
  simpa [Array.getD,hlt] using this
theorem zTU (hm:P.follows .mixedOrders=true) (hz:vR P) (hrec:RecSound P rec) {f t:Tm} {U:St} {id:Nat} {rd:Option Nat} {n:Nat} {Q:Exit->Act->World->Prop} {a:Act} (hok:ops.toList.all zCK=true)
  (h:zFU P rec ops f Z=some (t,U)) (hr:Rep V Z w) (hf:TmR V f a.tmps)
  (hQ:∀ V' a' w',Good V Z w V' U w'->TmR V' t a'.tmps->a'.defers=a.defers->Q .normal a' w'):(Code.region id ops true).wpIn (Fw rd) n P Q a w:=wpIn_region_any hm (zWP hz hrec hok h hr hf hQ)

theorem yYN (hz:vR P) (hrec:RecSound P rec) {V0:Inj} {Z0:St} {w0:World} {rd:Option Nat} {n:Nat} {Q:Exit->Act->World->Prop} {ds:List Deferred} :
  ∀ (rest:List Oper) (k:Nat) {f t:Tm} {Z U:St} {V:Inj} {w:World} {a:Act},zAX P rec ops rest f Z=some (t,U)->(∀ i,i<rest.length->ops[k+i]?=rest[i]?)->k+rest.length=ops.size->rest.all zCK=true ->
  Good V0 Z0 w0 V Z w->TmR V f a.tmps->a.defers=ds->(∀ V' a' w',Good V0 Z0 w0 V' U w'->TmR V' t a'.tmps->a'.defers=ds->Q .normal a' w')->wpOpsIn (Fw rd) n P ops Q ((List.range rest.length).map (k+·)) a w
 | [],k,f,t,Z,U,V,w,a,h,_,_,_,hg,hf,hd,hQ=>by
  simp [zAX] at h;obtain ⟨rfl,rfl⟩:=h;exact hQ V a w hg hf hd
 | o::rest,k,f,t,Z,U,V,w,a,h,hget,hk,hok,hg,hf,hd,hQ=>by
  simp only [List.all_cons,Bool.and_eq_true] at hok;have hl:(List.range (o::rest).length).map (k+·)=k::(List.range rest.length).map (k+1+·):=by
   rw [List.length_cons,List.range_succ_eq_map,List.map_cons,List.map_map];congr 1;refine List.map_congr_left (fun i _=>?_);simp;omega
  rw [hl];have ho:ops[k]?=some o:=by have:=hget 0 (by simp);simpa using this
  have go:∀ (v v':Value) (Z':St) (V':Inj) (w':World),zAX P rec ops rest (zCI f o.dst v) Z'=some (t,U)->VR V' v v'->Good V Z w V' Z' w'->wpOpsIn (Fw rd) n P ops Q ((List.range rest.length).map (k+1+·)) (a.put o.dst v') w':=by
   intro v v' Z' V' w' h' hv hg';refine yYN hz hrec rest (k+1) h' (fun i hi=>?_) (by simp at hk;omega) hok.2 (hg.trans hg') ?_ ?_ hQ
   ·have:=hget (i+1) (by simp;omega);simpa [Nat.add_assoc,Nat.add_comm 1 i] using this
   ·unfold zCI Act.put;cases o.dst with
    | none=>exact hf.ext hg'.ext
    | some d=>exact (hf.ext hg'.ext).set d hv
   ·rw [<- hd];unfold Act.put;split <;> rfl
  simp only [wpOpsIn,ho];unfold zAX at h;split at h
  ·rename_i hgd;rw [zAK hgd (fun j want d _ _=>hf.2 d),if_pos rfl];split at h
   ·rename_i v Z' hop;rw [xH] at h;exact zRW hz hrec hop hg.rep (fun x hx=>zAA hf (yLL hok.1 hx)) (fun v' w' V' hv hg'=>go v v' Z' V' w' h hv hg')
   ·cases h
  ·rename_i hgd;rw [zAK hgd (fun j want d _ _=>hf.2 d),if_neg (by simp)];rw [xH] at h;exact ⟨fun f _=>zRE rd f,go undef undef Z V w h .undef (.refl hg.rep)⟩
  ·cases h

theorem yKR (hz:vR P) (hrec:RecSound P rec) {f t:Tm} {U:St} {id:Nat} {rd:Option Nat} {n:Nat} {Q:Exit->Act->World->Prop} {a:Act} (hok:ops.toList.all zCK=true)
  (h:zAX P rec ops ops.toList f Z=some (t,U)) (hr:Rep V Z w) (hf:TmR V f a.tmps)
  (hQ:∀ V' a' w',Good V Z w V' U w'->TmR V' t a'.tmps->a'.defers=a.defers->Q .normal a' w'):(Code.region id ops false).wpIn (Fw rd) n P Q a w:=by
 refine wpIn_region ?_
 have:=yYN (rd:=rd) (n:=n) (Q:=Q) hz hrec ops.toList 0 h (fun i _=>by simp) (by simp) hok (.refl hr) hf rfl hQ;simpa using this
end
end Go.Lay

namespace Go.Lay
open Go
variable {b:Frame} {k:List Item} {cs:List Frame} {c:Code} {V V':Inj} {l:Nat} {fr fr':Fr} {e:Exit} {Z':St}

section
variable {F:Fence} {n:Nat} {P:Program} {Q:Exit->Act->World->Prop} {a:Act} {w:World}
theorem zBM:step P (lone (b.atR a (.code (.scope c)::k)) cs w)=.next (lone (b.atR a (.code c::.inScope c::k)) cs w) :=
 step_lone_go (by simp [stepG,stepG.exec,Frame.atR])
theorem yBX:step P (lone (b.atR a (.inScope c::k)) cs w)=.next (lone (b.atR a k) cs w) :=
 step_lone_go (by simp [stepG,stepG.exec,Frame.atR])
theorem zTO (h:c.wpIn F n P (fun e a w=>(∀ l,e≠.goto l)/\Q e a w) a w):(Code.scope c).wpIn F n P Q a w:=by
 intro b k cs hro hb hr;have h0:(lone (b.atR a (.code (.scope c)::k)) cs w).fenced P F:=fenced_calm hb hr rfl;obtain ⟨e,a₁,w₁,⟨hg,hq⟩,harr⟩:=h b (.inScope c::k) cs hro hb hr;cases e with
 | normal=>exact ⟨.normal,a₁,w₁,hq,.head h0 zBM (StepsIn.trans harr (.one (fenced_calm hb hr rfl) yBX))⟩
 | exit id =>
  exact ⟨.exit id,a₁,w₁,hq,fun k' hk=>.head h0 zBM (harr.1 k' hk),fun hr' hk=>let ⟨k₁,h1,h2⟩:=harr.2 hr' hk;⟨k₁,h1,.head h0 zBM h2⟩⟩
 | goto l=>exact absurd rfl (hg l)
 | ret=>exact ⟨_,a₁,w₁,hq,.of_steps (.one h0 zBM) harr⟩
 | panic ch=>exact ⟨_,a₁,w₁,hq,.of_steps (.one h0 zBM) harr⟩
 | outgrown=>exact ⟨_,a₁,w₁,hq,.of_steps (.one h0 zBM) harr⟩
theorem zVU (J:Nat->Act->World->Prop) {N:Nat} (h₀:J N a w)
  (round:∀ m a w,J m a w->c.wpIn F n P (Exit.then (fun a' w'=>∃ m',m' < m/\J m' a' w') Q) a w):(Code.loop c).wpIn F n P Q a w:=by
 intro b k cs hro hb hr;have key:∀ j a w,J j a w->∃ e a' w',Q e a' w'/\ArrivesIn (Machine.fenced P F) P (lone (b.atR a (.code c::.inLoop c::k)) cs w) b k cs e a' w':=by
  intro j;induction j using Nat.strongRecOn with
  | _ j ih =>
   intro a w hJ;obtain ⟨e,a₁,w₁,hq,harr⟩:=round j a w hJ b (.inLoop c::k) cs hro hb hr;cases e with
   | normal =>
    obtain ⟨m',hlt,hJ'⟩:=hq;obtain ⟨e₂,a₂,w₂,hq₂,harr₂⟩:=ih m' hlt a₁ w₁ hJ';exact ⟨e₂,a₂,w₂,hq₂,.of_steps (StepsIn.trans harr (.one (fenced_calm hb hr rfl) stepR_inLoop)) harr₂⟩
   | exit id=>exact ⟨_,a₁,w₁,hq,.pass (x:=.inLoop c) rfl (fun _ _=>.inl (by simp)) harr⟩
   | goto l=>exact ⟨_,a₁,w₁,hq,.pass (x:=.inLoop c) rfl (fun _ _=>.inl (by simp)) harr⟩
   | ret=>exact ⟨_,a₁,w₁,hq,.pass (x:=.inLoop c) rfl (fun _ _=>.inl (by simp)) harr⟩
   | panic ch=>exact ⟨_,a₁,w₁,hq,.pass (x:=.inLoop c) rfl (fun _ _=>.inl (by simp)) harr⟩
   | outgrown=>exact ⟨_,a₁,w₁,hq,.pass (x:=.inLoop c) rfl (fun _ _=>.inl (by simp)) harr⟩
 obtain ⟨e,a',w',hq,harr⟩:=key N a w h₀;exact ⟨e,a',w',hq,.of_steps (.one (fenced_calm hb hr rfl) stepR_loop) harr⟩
end

def yUD (c:Nat):Deferred:={ target:=.collected c,args:=#[] }
inductive DefR (V:Inj):List Nat->List Deferred->Prop
 | nil:DefR V [] []
 | cons {m:Nat} {L:Loc} {ms:List Nat} {ds:List Deferred} (h:V.loc m 0=some L) (t:DefR V ms ds):DefR V (m::ms) (yUD L.c::ds)
theorem DefR.sub (e:Sub V V') {ms:List Nat} {ds:List Deferred} (h:DefR V ms ds):DefR V' ms ds:=by
 induction h with
 | nil=>exact .nil
 | cons h _ ih=>exact .cons (e.loc _ _ _ h) ih
structure FrR (V:Inj) (fr:Fr) (a:Act):Prop where
 tms:TmR V fr.f a.tmps
 defs:DefR V fr.marks a.defers
theorem FrR.sub {V V':Inj} (e:Sub V V') {fr:Fr} {a:Act} (h:FrR V fr a):FrR V' fr a:=⟨h.tms.sub e,h.defs.sub e⟩
inductive RdR (V:Inj):Option Nat->Option Nat->Prop
 | none:RdR V none none
 | some {r:Nat} {L:Loc} (h:V.loc r 0=some L):RdR V (some r) (some L.c)
theorem RdR.sub (e:Sub V V') {rd rd':Option Nat} (h:RdR V rd rd'):RdR V' rd rd':=by
 cases h with
 | none=>exact .none
 | some h=>exact .some (e.loc _ _ _ h)

section
variable {P:Program} {rec:Rec} {V:Inj} {Z:St} {w:World}

theorem zGT {tm:Tm} {ps:List Tmp} {as bo:Code} {st st':LoopState} {pend pend':Option Code} {db:Nat} (hr:Rep V Z w) (hb:yD Z.heap l=some (.loop tm ps as bo st pend db)) :
  ∃ L r,V.loc l 0=some L/\w.heap[L.c]?=some (.loop r)/\r.state=st/\r.pending=pend/\TmR V tm r.tmps/\r.params=ps.toArray/\r.assign=as/\r.body=bo/\wE as=true/\wE bo=true/\(∃ Ld,V.loc db 0=some Ld/\r.defers=Ld.c) /\
   Good V Z w V (Z.put l (.loop tm ps as bo st' pend' db)) (w.putObj L.c (.loop { r with state:=st',pending:=pend' })):=by
 cases (hr.blk _ _ hb).2 with
 | loop loc own locd row tms oka okb =>
  rename_i fn L Ld;have hlt:=hr.lt _ _ _ loc;refine ⟨L,_,loc,row,rfl,rfl,tms,rfl,rfl,rfl,oka,okb,⟨Ld,locd,rfl⟩, ?_⟩
  refine Good.putBlk hr hb (Ext.refl _ _ _) (fun _ _ _=>rfl) (fun b s L h=>by simpa using hr.lt b s L h) (fun c b h=>by simpa using hr.ownlt c b h) (by simp)
   (fun c _ hc=>World.putObj_heap_other (fun e=>hc (by rw [e];exact own))) ⟨rfl,rfl,rfl,Nat.le_refl _⟩ (.one L.c (fun c hc=>World.putObj_heap_other hc) (fun _ _ _ h=>by rw [World.putObj_heap_same hlt] at h;cases h)) ?_
  exact .loop loc own locd (World.putObj_heap_same hlt) tms oka okb

theorem xAR {d:Nat} (hr:Rep V Z w) (hb:yD Z.heap d=some .defd):∃ L,V.loc d 0=some L/\w.heap[L.c]?=some (.deferred (some []))/\Good V Z w V (Z.shut d) (w.putObj L.c (.deferred none)):=by
 have hbd:=hr.blk _ _ hb;cases hbd.2 with
 | defd loc own row =>
  rename_i L;refine ⟨L,loc,row,Ext.refl _ _ _,⟨fun b y hby=>?_,fun b s L h=>by simpa using hr.lt b s L h,fun c b h=>by simpa using hr.ownlt c b h,hr.fresh⟩,⟨by simp,fun c hc ho=>?_,rfl,rfl,rfl,.one L.c (fun c hc=>World.putObj_heap_other hc) (fun _ _ _ h=>by rw [World.putObj_heap_same (hr.lt _ _ _ loc)] at h;cases h),Nat.le_refl _⟩,by simp;omega,by simp⟩
  ·rw [St.shut_get] at hby;by_cases hbe:b=d
   ·rw [if_pos hbe] at hby;cases hby
   ·rw [if_neg hbe] at hby;have h:=hr.blk b y hby;refine ⟨h.1,h.2.keep (Ext.refl V w.heap.size 0) hr.lt (fun c hc ho=>World.putObj_heap_other (fun e=>?_)) (fun cs esz log next ro hy s hs=>?_)⟩
    ·subst e;rcases ho with ho | ho
     ·rw [own] at ho;cases ho;exact hbe rfl
     ·rw [own] at ho;cases ho
    ·have h2:=h.2;subst hy;cases h2 with | cells _ _ _ fresh=>exact fresh s hs
  ·refine World.putObj_heap_other (fun e=>?_);subst e;have:=ho d own;simp at this;omega

theorem yHT (h:zEU l fr Z=some (e,fr',Z')):∃ tm ps as bo st pend db,yD Z.heap l=some (.loop tm ps as bo st pend db)/\st≠.busy/\fr'=fr /\
  Z'=Z.put l (.loop tm ps as bo .exhausted pend db)/\((pend=none/\e=.normal)\/(pend=some .ret/\e=.ret)\/∃ id,pend=some (.exit id)/\e=.exit id):=by
 unfold zEU at h;split at h
 ·rename_i tm ps as bo st pend db hb;refine ⟨tm,ps,as,bo,st,pend,db,hb, ?_⟩
  split at h
  ·cases h
  ·rename_i hst;rw [St.write_eq] at h;refine ⟨fun e=>hst e, ?_⟩
   split at h
   ·simp at h;obtain ⟨rfl,rfl,rfl⟩:=h;exact ⟨rfl,rfl,.inl ⟨rfl,rfl⟩⟩
   ·simp at h;obtain ⟨rfl,rfl,rfl⟩:=h;exact ⟨rfl,rfl,.inr (.inl ⟨rfl,rfl⟩)⟩
   ·simp at h;obtain ⟨rfl,rfl,rfl⟩:=h;exact ⟨rfl,rfl,.inr (.inr ⟨_,rfl,rfl⟩)⟩
   ·cases h
 ·cases h

theorem zWT (h:zEU l fr Z=some (e,fr',Z')) (hr:Rep V Z w) {a:Act} {rd:Option Nat} {n:Nat} {Q:Exit->Act->World->Prop} {L:Loc} (hl:V.loc l 0=some L)
  (hQ:∀ w',Good V Z w V Z' w'->fr'=fr->Q e a w'):∃ jump w₄,(Instr.endLoop L.c).run P w=.ok jump w₄/\(match jump with | none=>Q .normal a w₄ | some c=>c.wpIn (Fw rd) n P Q a w₄):=by
 obtain ⟨tm,ps,as,bo,st,pend,db,hb,hst,rfl,rfl,hcase⟩:=yHT h;obtain ⟨L',r,h1,h2,h3,h4,_,_,_,_,_,_,_,hg⟩:=zGT (st':=.exhausted) (pend':=pend) hr hb;rw [hl] at h1;cases h1;have hq:=hQ _ hg rfl;refine ⟨r.pending,_,run_endLoop h2 (by rw [h3];exact hst), ?_⟩
 have hr2:(w.putObj L.c (.loop { r with state:=.exhausted }))=(w.putObj L.c (.loop { r with state:=.exhausted,pending:=pend })):=by rw [<- h4]
 rw [hr2,h4];rcases hcase with ⟨hp,he⟩ | ⟨hp,he⟩ | ⟨id,hp,he⟩
 ·rw [hp] at hq ⊢;rw [he] at hq;exact hq
 ·rw [hp] at hq ⊢;rw [he] at hq;exact wpIn_ret hq
 ·rw [hp] at hq ⊢;rw [he] at hq;exact wpIn_exit hq

theorem zMI (hrec:RecSound P rec) {g:Operand} {ps:Array Tmp} {as bo:Code} {db:Nat} {fr fr':Fr} {e:Exit} {Z':St} (h:zHR rec g ps as bo db fr Z=some (e,fr',Z')) (hr:Rep V Z w) {a:Act} (hf:FrR V fr a)
  (hgk:zIM g=true) (ha:wE as=true) (hb:wE bo=true) {Ld:Loc} (hd:V.loc db 0=some Ld) (fn:FuncId) {rd:Option Nat} {n:Nat} {Q:Exit->Act->World->Prop}
  (hQ:∀ V' w',Good V Z w V' Z' w'->FrR V' fr' a->Q e a w') :
  let w₁:=w.alloc (.loop { state:=.ready,pending:=none,fn,tmps:=a.tmps,params:=ps,assign:=as,body:=bo,defers:=Ld.c })
  ∃ d f args,(resolve a.eval (rangeCall g w.heap.size) 0).run P w₁=.ok d w₁/\(invoke d.target d.args).run P w₁=.ok (.enter f args) w₁/\CallsIn (Fw rd) (n-1) P f args w₁ (rangePost (Fw rd) n P w.heap.size Q a):=by
 intro w₁;unfold zHR at h;rw [St.new_eq] at h;have e0:=Inj.add_ext (n:=0) (z:=0) hr (hr.free _);have hg1:Good V Z w (V.add Z.y w.heap.size 0 0) (Z.add (.loop fr.f ps.toList as bo .ready none db)) w₁ :=
  Good.addBlk hr (hr.free _) (fun _ _ _ h=>by cases h) (.loop (fn:=fn) (Inj.add_loc _ _ _ _) (by simp [Inj.add]) (e0.loc _ _ _ hd) (by rw [World.push_new]) (hf.tms.ext e0) ha hb)
 split at h
 ·rename_i hh args href;have hev:VR (V.add Z.y w.heap.size 0 0) (yC fr.f g) (a.eval g):=(zAA hf.tms hgk).ext hg1.ext;have harg:VRs (V.add Z.y w.heap.size 0 0) [.func (.yield Z.y) #[] #[]] [.func (.yield w.heap.size) #[] #[]] :=
   .cons (.func (.yield (L:=⟨w.heap.size,0,0,0⟩) (Inj.add_loc _ _ _ _)) rfl (fun i v v' h=>by simp at h) rfl (fun i v v' h=>by simp at h)) .nil
  obtain ⟨as',hvs,hcase⟩:=zKR (P:=P) href hev harg;rcases hcase with ⟨f,cap,hfe,d,hd1,hd2,hd3⟩ | ⟨l0,_,_,hfe,_⟩
  ·cases hfe
   split at h
   ·rename_i v₃ Z₃ hc;obtain ⟨⟨fn',hfn,hbody,hname⟩,hcall⟩:=yAJ hrec hc hg1.rep hvs;refine ⟨d,hh,⟨as'⟩, ?_, ?_,CallsIn.mono (hcall rd _) (fun e' w₃ hR=>?_)⟩
    ·have:=hd1 w₁;simpa [resolve,Act.eval] using this
    ·have hb:fn'.body≠none:=by cases hb:fn'.body <;> simp_all
     rw [hd2];simp [invoke,callFunc,hfn,hb,hname,hd3]
    ·cases e' with
     | returned v' =>
      obtain ⟨V₃,_,hg3⟩:=hR;have hl3:V₃.loc Z.y 0=some ⟨w.heap.size,0,0,0⟩:=hg3.ext.loc _ _ _ (Inj.add_loc _ _ _ _);obtain ⟨jump,w₄,h1,h2⟩:=zWT (P:=P) (rd:=rd) (n:=n) (Q:=Q) (a:=a) h hg3.rep hl3 (fun w' hg4 hfr=>hQ V₃ w' ((hg1.trans hg3).trans hg4) (by rw [hfr];exact (hf.sub hg1.ext.sub).sub hg3.ext.sub));exact ⟨jump,w₄,h1,h2⟩
     | panicked _=>exact hR.elim
     | outgrown=>exact hR.elim
   ·cases h
  ·cases hfe
 ·cases h

theorem yHU (hrec:RecSound P rec) {g:Operand} {ps:Array Tmp} {as bo:Code} {fr fr':Fr} {e:Exit} {Z':St} {r:Option Nat} (h:zND rec r g ps as bo fr Z=some (e,fr',Z')) (hr:Rep V Z w) {a:Act} (hf:FrR V fr a)
  {rd:Option Nat} (hrd:RdR V r rd) (hgk:zIM g=true) (ha:wE as=true) (hb:wE bo=true) {n:Nat} {Q:Exit->Act->World->Prop}
  (hQ:∀ V' a' w',Good V Z w V' Z' w'->FrR V' fr' a'->Q e a' w'):(Code.rangeFunc g ps as bo).wpIn (Fw rd) n P Q a w:=by
 refine wpIn_rangeFunc (fun fn _=>?_);unfold zND at h;cases hrd with
 | none =>
  simp only [St.new_eq] at h;have hg1:Good V Z w (V.add Z.y w.heap.size 0 0) (Z.add .defd) (w.alloc (.deferred (some []))) :=
   Good.addBlk hr (hr.free _) (fun _ _ _ h=>by cases h) (.defd (Inj.add_loc _ _ _ _) (by simp [Inj.add]) (World.push_new _ _))
  have hf1:FrR (V.add Z.y w.heap.size 0 0) ⟨fr.f,Z.y::fr.marks⟩ { a with defers:=yUD w.heap.size::a.defers } :=
   ⟨hf.tms.ext hg1.ext,.cons (L:=⟨w.heap.size,0,0,0⟩) (Inj.add_loc _ _ _ _) (hf.defs.sub hg1.ext.sub)⟩
  obtain ⟨d,f,args,h1,h2,h3⟩:=zMI hrec h hg1.rep hf1 hgk ha hb (Ld:=⟨w.heap.size,0,0,0⟩) (Inj.add_loc _ _ _ _) fn (rd:=none) (n:=n) (Q:=Q) (fun V' w' hg hf'=>hQ V' _ w' (hg1.trans hg) hf');have e1:(w.alloc (.deferred (some []))).heap.size=w.heap.size+1:=World.push_size w _;rw [e1] at h1 h3;exact ⟨_,[yUD w.heap.size],_,d,_,f,args,_,run_enterLoop_outer fn a.tmps ps as bo,h1,fun _ _=>zRE none _,h2,fun hs=>zLC none hs n,h3⟩
 | @some r0 L hl =>
  simp only at h;split at h
  ·rename_i hbk;obtain ⟨L',rr,k1,k2,_,_,_,_,_,_,_,_,⟨Ld,k3,k4⟩,_⟩:=zGT (st':=.ready) (pend':=none) hr hbk;rw [hl] at k1;cases k1;obtain ⟨d,f,args,h1,h2,h3⟩:=zMI hrec h hr hf hgk ha hb k3 fn (rd:=some L.c) (n:=n) (Q:=Q) (fun V' w' hg hf'=>hQ V' _ w' hg hf');refine ⟨w.heap.size,[],_,d,_,f,args,_, ?_,h1,fun _ _=>zRE _ _,h2,fun hs=>zLC _ hs n,h3⟩
   show (Instr.enterLoop fn a.tmps ps as bo (some L.c)).run P w=_;simp only [Instr.enterLoop,Sem.run_bind,run_getLoop k2,Result.andThen_ok,Sem.run_pure,run_newObj_alloc,k4]
  ·cases h

theorem yJF (fuel:Nat) (rd:Option Nat):∀ (c:Code) (fr:Fr) (Z:St) (e:Exit) (fr':Fr) (Z':St),yK P rec fuel rd c fr Z=some (e,fr',Z')->∀ l,e≠.goto l:=by
 intro c;induction c with
 | skip=>intro fr Z e fr' Z' h l;simp [yK] at h;rw [<- h.1];simp
 | label _=>intro fr Z e fr' Z' h l;simp [yK] at h;rw [<- h.1];simp
 | ret=>intro fr Z e fr' Z' h l;simp [yK] at h;rw [<- h.1];simp
 | exit _=>intro fr Z e fr' Z' h l;simp [yK] at h;rw [<- h.1];simp
 | goto _=>intro fr Z e fr' Z' h;simp [yK] at h
 | refuse _=>intro fr Z e fr' Z' h;simp [yK] at h
 | seq x y ihx ihy =>
  intro fr Z e fr' Z' h;simp only [yK,xAT] at h;split at h
  ·exact ihy _ _ _ _ _ h
  ·exact ihx _ _ _ _ _ h
 | cond c x y ihx ihy =>
  intro fr Z e fr' Z' h;simp only [yK,yGC] at h;split at h
  ·split at h
   ·exact ihx _ _ _ _ _ h
   ·exact ihy _ _ _ _ _ h
  ·cases h
 | block id c ih =>
  intro fr Z e fr' Z' h l;simp only [yK,zOF] at h;split at h
  ·rcases vB h with ⟨_,h⟩ | ⟨_,h⟩ <;> (simp at h;rw [<- h.1];simp)
  ·exact ih _ _ _ _ _ h l
 | scope c ih=>intro fr Z e fr' Z' h;exact ih _ _ _ _ _ h
 | loop c ih =>
  intro fr Z e fr' Z' h;simp only [yK] at h;have key:∀ n fr Z,zCC (yK P rec fuel rd c) n fr Z=some (e,fr',Z')->∀ l,e≠.goto l:=by
   intro n;induction n with
   | zero=>intro fr Z h;simp [zCC] at h
   | succ n ihn =>
    intro fr Z h;simp only [zCC] at h;split at h
    ·exact ihn _ _ h
    ·exact ih _ _ _ _ _ h
  exact key _ _ _ h
 | region id ops draw =>
  intro fr Z e fr' Z' h l;simp only [yK,zBT] at h;split at h
  ·simp at h;rw [<- h.1];simp
  ·cases h
 | rangeFunc g ps as bo _ _ =>
  intro fr Z e fr' Z' h l;have endn:∀ (l0:Nat) (fr:Fr) (Z:St),zEU l0 fr Z=some (e,fr',Z')->e≠.goto l:=by
   intro l0 fr Z h;unfold zEU at h;split at h
   ·split at h
    ·cases h
    ·rw [St.write_eq] at h;split at h <;> first | (simp at h;rw [<- h.1];simp) | cases h
   ·cases h
  have gon:∀ (db:Nat) (fr:Fr) (Z:St),zHR rec g ps as bo db fr Z=some (e,fr',Z')->e≠.goto l:=by
   intro db fr Z h;unfold zHR at h;rw [St.new_eq] at h;split at h
   ·split at h
    ·exact endn _ _ _ h
    ·cases h
   ·cases h
  simp only [yK,zND] at h;split at h
  ·rw [St.new_eq] at h;exact gon _ _ _ h
  ·split at h
   ·exact gon _ _ _ h
   ·cases h

theorem uY (hm:P.follows .mixedOrders=true) (hz:vR P) (hrec:RecSound P rec) (fuel:Nat) (r:Option Nat):∀ (c:Code),wE c=true->∀ (fr:Fr) (Z:St) (e:Exit) (fr':Fr) (Z':St),yK P rec fuel r c fr Z=some (e,fr',Z') ->
  ∀ (V:Inj) (w:World) (a:Act) (rd:Option Nat) (n:Nat) (Q:Exit->Act->World->Prop),Rep V Z w->FrR V fr a->RdR V r rd->(∀ V' a' w',Good V Z w V' Z' w'->FrR V' fr' a'->Q e a' w')->c.wpIn (Fw rd) n P Q a w:=by
 intro c;induction c with
 | skip=>intro _ fr Z e fr' Z' h V w a rd n Q hr hf _ hQ;simp [yK] at h;obtain ⟨rfl,rfl,rfl⟩:=h;exact wpIn_skip (hQ V a w (.refl hr) hf)
 | label _=>intro _ fr Z e fr' Z' h V w a rd n Q hr hf _ hQ;simp [yK] at h;obtain ⟨rfl,rfl,rfl⟩:=h;exact wpIn_label (hQ V a w (.refl hr) hf)
 | ret=>intro _ fr Z e fr' Z' h V w a rd n Q hr hf _ hQ;simp [yK] at h;obtain ⟨rfl,rfl,rfl⟩:=h;exact wpIn_ret (hQ V a w (.refl hr) hf)
 | exit _=>intro _ fr Z e fr' Z' h V w a rd n Q hr hf _ hQ;simp [yK] at h;obtain ⟨rfl,rfl,rfl⟩:=h;exact wpIn_exit (hQ V a w (.refl hr) hf)
 | goto _=>intro _ fr Z e fr' Z' h;simp [yK] at h
 | refuse _=>intro _ fr Z e fr' Z' h;simp [yK] at h
 | seq x y ihx ihy =>
  intro hok fr Z e fr' Z' h V w a rd n Q hr hf hrd hQ;simp only [wE,Bool.and_eq_true] at hok;simp only [yK,xAT] at h;refine wpIn_seq ?_
  split at h
  ·rename_i fr₁ Z₁ h1;refine ihx hok.1 _ _ _ _ _ h1 V w a rd n _ hr hf hrd (fun V₁ a₁ w₁ hg1 hf1=>?_);exact ihy hok.2 _ _ _ _ _ h V₁ w₁ a₁ rd n Q hg1.rep hf1 (hrd.sub hg1.ext.sub) (fun V₂ a₂ w₂ hg2 hf2=>hQ V₂ a₂ w₂ (hg1.trans hg2) hf2)
  ·rename_i hno;refine ihx hok.1 _ _ _ _ _ h V w a rd n _ hr hf hrd (fun V₁ a₁ w₁ hg1 hf1=>?_);cases e with
   | normal=>exact absurd h (hno _ _)
   | _=>exact hQ V₁ a₁ w₁ hg1 hf1
 | cond c x y ihx ihy =>
  intro hok fr Z e fr' Z' h V w a rd n Q hr hf hrd hQ;simp only [wE,Bool.and_eq_true] at hok;simp only [yK,yGC] at h;have hc:=zAA hf.tms hok.1.1;split at h
  ·rename_i t ht;rw [ht] at hc;have hcb:=hc.bool_inv;cases t with
   | true=>exact wpIn_cond_true hcb (ihx hok.1.2 _ _ _ _ _ h V w a rd n Q hr hf hrd hQ)
   | false=>exact wpIn_cond_false hcb (ihy hok.2 _ _ _ _ _ h V w a rd n Q hr hf hrd hQ)
  ·cases h
 | block id c ih =>
  intro hok fr Z e fr' Z' h V w a rd n Q hr hf hrd hQ;simp only [yK,zOF] at h;refine wpIn_block ?_
  split at h
  ·rename_i i fr₁ Z₁ h1;refine ih hok _ _ _ _ _ h1 V w a rd n _ hr hf hrd (fun V₁ a₁ w₁ hg1 hf1=>?_);rcases vB h with ⟨hi,h⟩ | ⟨hi,h⟩
   ·simp at h;obtain ⟨rfl,rfl,rfl⟩:=h;simp only [Exit.inBlock];rw [if_pos (Nat.eq_of_beq_eq_true hi)];exact hQ V₁ a₁ w₁ hg1 hf1
   ·simp at h;obtain ⟨rfl,rfl,rfl⟩:=h;simp only [Exit.inBlock];rw [if_neg (fun e=>by rw [e,Nat.beq_refl] at hi;cases hi)];exact hQ V₁ a₁ w₁ hg1 hf1
  ·rename_i hno;refine ih hok _ _ _ _ _ h V w a rd n _ hr hf hrd (fun V₁ a₁ w₁ hg1 hf1=>?_);cases e with
   | exit i=>exact absurd h (hno _ _ _)
   | _=>exact hQ V₁ a₁ w₁ hg1 hf1
 | scope c ih =>
  intro hok fr Z e fr' Z' h V w a rd n Q hr hf hrd hQ;refine zTO (ih hok _ _ _ _ _ h V w a rd n _ hr hf hrd (fun V₁ a₁ w₁ hg1 hf1=>⟨yJF fuel r c _ _ _ _ _ h,hQ V₁ a₁ w₁ hg1 hf1⟩))
 | loop c ih =>
  intro hok fr Z e fr' Z' h V w a rd n Q hr hf hrd hQ;simp only [yK] at h;refine zVU (fun m a₁ w₁=>∃ fr₁ Z₁ V₁,zCC (yK P rec fuel r c) m fr₁ Z₁=some (e,fr',Z')/\Good V Z w V₁ Z₁ w₁/\FrR V₁ fr₁ a₁) ⟨fr,Z,V,h,.refl hr,hf⟩ (fun m a₁ w₁ ⟨fr₁,Z₁,V₁,hl,hg1,hf1⟩=>?_);cases m with
  | zero=>simp [zCC] at hl
  | succ m =>
   simp only [zCC] at hl;split at hl
   ·rename_i fr₂ Z₂ h2;exact ih hok _ _ _ _ _ h2 V₁ w₁ a₁ rd n _ hg1.rep hf1 (hrd.sub hg1.ext.sub) (fun V₂ a₂ w₂ hg2 hf2=>⟨m,by omega,fr₂,Z₂,V₂,hl,hg1.trans hg2,hf2⟩)
   ·rename_i hno;refine ih hok _ _ _ _ _ hl V₁ w₁ a₁ rd n _ hg1.rep hf1 (hrd.sub hg1.ext.sub) (fun V₂ a₂ w₂ hg2 hf2=>?_);cases e with
    | normal=>exact absurd hl (hno _ _)
    | _=>exact hQ V₂ a₂ w₂ (hg1.trans hg2) hf2
 | region id ops draw =>
  intro hok fr Z e fr' Z' h V w a rd n Q hr hf hrd hQ;simp only [wE] at hok;simp only [yK,zBT] at h;split at h
  ·rename_i f₁ Z₁ h1;simp at h;obtain ⟨rfl,rfl,rfl⟩:=h;have fin:∀ V' a' w',Good V Z w V' Z₁ w'->TmR V' f₁ a'.tmps->a'.defers=a.defers->Q .normal a' w':=fun V' a' w' hg ht hd=>hQ V' a' w' hg ⟨ht,by rw [hd];exact hf.defs.sub hg.ext.sub⟩
   cases draw with
   | true=>exact zTU hm hz hrec hok h1 hr hf.tms fin
   | false=>exact yKR hz hrec hok h1 hr hf.tms fin
  ·cases h
 | rangeFunc g ps as bo _ _ =>
  intro hok fr Z e fr' Z' h V w a rd n Q hr hf hrd hQ;simp only [wE,Bool.and_eq_true] at hok;exact yHU hrec h hr hf hrd hok.1.1 hok.1.2 hok.2 hQ
end
end Go.Lay

namespace Go.Lay
open Go
abbrev zHE:=FuncId->List Value->St->Option (Value × St)
def zKG (x:Value):Exit:=.panic [{ v:=x,recovered:=false }]
def yNM:Option Value->Exit
 | none=>.normal
 | some x=>zKG x
structure Fb where
 f:Tm
 ds:List Value
abbrev zMU:=Fb->St->Option (Exit × Fb × St)
def zHY (prec:zHE) (f:FuncId) (as:List Value) (Z:St):Option (Value × St) :=
 match prec f as ⟨Z.heap,Z.y,Z.y⟩ with
 | none=>none
 | some (x,Z')=>bif zQ RD x then vW Z x Z' else none
def zXG (prec:zHE) (ev:Operand->Value) (Z:St) (o:Op):Option (Value × St) :=
 match o with
 | .panic x=>match ev x with
  | .iface t v=>bif zQ RD (.iface t v) then some (.iface t v,Z) else none
  | _=>none
 | .call c=>match c.callee with
  | .value g=>match zCB (ev g) (c.args.toList.map ev) with
   | some (.func f,as)=>zHY prec f as Z
   | _=>none
  | _=>none
 | _=>none
def zTD (ev:Operand->Value) (o:Op):Option Value :=
 match o with
 | .defer c=>match c.callee with
  | .value g=>match c.args.toList with
   | []=>match zCB (ev g) [] with
    | some (.func _,_)=>some (ev g)
    | _=>none
   | _=>none
  | _=>none
 | _=>none
def zHZ (P:Program) (rec:Rec) (prec:zHE) (ops:Array Oper):List Oper->Fb->St->Option (Option Value × Fb × St)
 | [],fb,Z=>some (none,fb,Z)
 | o::rest,fb,Z =>
  match uI ops fb.f o with
  | some true =>
   match opA P rec (yC fb.f) Z o.op with
   | some (v,Z')=>yCE fb.f o.dst v fun f=>zHZ P rec prec ops rest ⟨f,fb.ds⟩ Z'
   | none=>match zTD (yC fb.f) o.op with
    | some d=>yCE fb.f o.dst undef fun f=>zHZ P rec prec ops rest ⟨f,d::fb.ds⟩ Z
    | none=>match zXG prec (yC fb.f) Z o.op with
     | some (x,Z')=>some (some x,fb,Z')
     | none=>none
  | some false=>yCE fb.f o.dst undef fun f=>zHZ P rec prec ops rest ⟨f,fb.ds⟩ Z
  | none=>none
def xXG (V:Inj) (Z:St) (w:World) (x:Value) (Z':St):Ending->World->Prop
 | .panicked ch,w'=>ch=[{ v:=x,recovered:=false }]/\∃ V',Good V Z w V' Z' w'
 | _,_=>False
structure PSound (P:Program) (prec:zHE):Prop where
 func:∀ f args Z x Z',prec f args Z=some (x,Z')->∀ (V:Inj) (w:World) (args':List Value),Rep V Z w->VRs V args args' ->
  (∃ fn, P.funcs[f]? = some fn ∧ fn.body.isSome = true ∧ fn.name ≠ "runtime.NumGoroutine") ∧ ∀ n, CallsIn (Fw none) n P f ⟨args'⟩ w (xXG V Z w x Z')
def DfR (V:Inj) (v:Value) (d:Deferred):Prop:=∃ f as as' cap,zCB v []=some (.func f,as)/\VRs V as as'/\d.target=.fn (.func f) cap/\d.args++cap=⟨as'⟩
inductive DfsR (V:Inj):List Value->List Deferred->Prop
 | nil:DfsR V [] []
 | cons {v d vs ds} (h:DfR V v d) (t:DfsR V vs ds):DfsR V (v::vs) (d::ds)
structure FbR (V:Inj) (fb:Fb) (a:Act):Prop where
 tms:TmR V fb.f a.tmps
 dfs:DfsR V fb.ds a.defers
section
variable {P:Program} {V:Inj} {Z:St} {w:World} {rec:Rec} {prec:zHE} {ops:Array Oper}
theorem DfsR.ext {V':Inj} {N n':Nat} (e:Ext V V' N n') {vs:List Value} {ds:List Deferred} (h:DfsR V vs ds):DfsR V' vs ds:=by
 induction h with
 | nil=>exact .nil
 | cons h _ ih =>
  obtain ⟨f,as,as',cap,h1,h2,h3,h4⟩:=h;exact .cons ⟨f,as,as',cap,h1,h2.ext e,h3,h4⟩ ih
theorem yCF (hp:PSound P prec) {f:FuncId} {args args':List Value} {x:Value} {Z':St} (h:zHY prec f args Z=some (x,Z')) (hr:Rep V Z w) (ha:VRs V args args') :
  (∃ fn, P.funcs[f]? = some fn ∧ fn.body.isSome = true ∧ fn.name ≠ "runtime.NumGoroutine") ∧ ∀ rd n, CallsIn (Fw rd) n P f ⟨args'⟩ w (xXG V Z w x Z') := by
 unfold zHY at h;split at h
 ·cases h
 ·rename_i x₁ Z₁ hc;obtain ⟨hrig,h⟩:=yT h;obtain ⟨h1,h2⟩:=hp.func _ _ _ _ _ hc V w args' (hr.relow _) ha;refine ⟨h1,fun rd n=>yAI (CallsIn.mono (h2 n) (fun e w' hR=>?_))⟩
  cases e with
  | panicked ch =>
   obtain ⟨rfl,V',hg⟩:=hR;obtain ⟨rfl,V'',_,hg'⟩:=yAO h hr (VR.refl_rigid _ hrig) hg;exact ⟨rfl,V'',hg'⟩
  | returned _=>exact hR.elim
  | outgrown=>exact hR.elim
theorem zTZ (hp:PSound P prec) {o:Oper} {ev:Operand->Value} {a:Act} {x:Value} {Z':St} {rd:Option Nat} {n:Nat} {next:Act->World->Prop} {Q:Exit->Act->World->Prop}
  (h:zXG prec ev Z o.op=some (x,Z')) (hr:Rep V Z w) (hev:∀ x∈o.op.operands,VR V (ev x) (a.eval x))
  (hn:∀ w' V',Good V Z w V' Z' w'->Q (zKG x) a w'):o.wpIn (Fw rd) n P a w next Q:=by
 have hd:∀ c',o.op≠.defer c':=fun c' e=>by rw [e] at h;cases h
 refine ⟨fun f _=>zRE rd f, ?_⟩
 rw [Oper.semAt_eq _ _ _ hd];unfold zXG at h;split at h
 ·rename_i y ho;split at h
  ·rename_i t v hv;obtain ⟨hrig,h⟩:=yT h;simp at h;obtain ⟨rfl,rfl⟩:=h;have hx:=hev y (by simp [ho,Op.operands]);rw [hv] at hx;have hx:=hx.rigid _ hrig;have hrun:(execOp a.eval o).run P w=.halt (.panic (.iface t v)) w:=by
    simp only [execOp,ho,<- hx];rfl
   rw [hrun];exact hn w V (.refl hr)
  ·cases h
 ·rename_i c ho;split at h
  ·rename_i g hc;split at h
   ·rename_i f as href;have hf:=hev g (by simp [ho,Op.operands,Call.operands,hc]);have hargs:=zCY c.args.toList (ev:=ev) (ev':=a.eval) (fun x hx=>hev x (by simp [ho,Op.operands,Call.operands,hc] at hx ⊢;exact .inr hx));have eargs:c.args.map a.eval=(⟨c.args.toList.map a.eval⟩:Array Value):=by apply Array.ext';simp
    obtain ⟨as',has,hcase⟩:=zKR (P:=P) href hf hargs;have hsem:∀ {d:Deferred},(∀ w,(Deferred.ofValue (a.eval g) ⟨c.args.toList.map a.eval⟩).run P w=.ok d w)->(execOp a.eval o).run P w=(invoke d.target d.args).run P w:=by
     intro d hd;simp only [execOp,ho,resolve,hc,eargs,Sem.run_bind,hd,Result.andThen_ok]
    rcases hcase with ⟨f',cap,e,d,hd1,hd2,hd3⟩ | ⟨l,L,cap,e,_⟩
    ·cases e
     obtain ⟨⟨fn,hfn,hbody,hname⟩,hcall⟩:=yCF hp h hr has;have hrun:(execOp a.eval o).run P w=.ok (.enter f ⟨as'⟩) w:=by
      rw [hsem hd1,hd2];have hb:fn.body≠none:=by cases hb:fn.body <;> simp_all
      simp [invoke,callFunc,hfn,hb,hname,hd3]
     rw [hrun,Oper.uponIn_enter];exact ⟨fun hs=>zLC rd hs n,CallsIn.mono (hcall rd _) (fun e w' hR=>by
      cases e with
      | panicked ch=>obtain ⟨rfl,V',h2⟩:=hR;exact hn w' V' h2
      | returned _=>exact hR.elim
      | outgrown=>exact hR.elim)⟩
    ·cases e
   ·cases h
  ·cases h
 ·cases h
theorem FbR.put {V':Inj} {fb:Fb} {a:Act} {Z':St} {w':World} {v v':Value} {o:Oper} (h:FbR V fb a) (hg:Good V Z w V' Z' w') (hv:VR V' v v'):FbR V' ⟨zCI fb.f o.dst v,fb.ds⟩ (a.put o.dst v'):=by
 refine ⟨?_, ?_⟩
 ·unfold zCI Act.put;cases o.dst with
  | none=>exact h.tms.ext hg.ext
  | some d=>exact (h.tms.ext hg.ext).set d hv
 ·have e:(a.put o.dst v').defers=a.defers:=by unfold Act.put;split <;> rfl
  rw [e];exact h.dfs.ext hg.ext
theorem yYM (hz:vR P) (hrec:RecSound P rec) (hp:PSound P prec) {V0:Inj} {Z0:St} {w0:World} {n:Nat} {Q:Exit->Act->World->Prop} :
  ∀ (rest:List Oper) (k:Nat) {fb fb':Fb} {r:Option Value} {Z U:St} {V:Inj} {w:World} {a:Act},zHZ P rec prec ops rest fb Z=some (r,fb',U)->(∀ i,i<rest.length->ops[k+i]?=rest[i]?)->k+rest.length=ops.size->rest.all zCK=true ->
  Good V0 Z0 w0 V Z w->FbR V fb a->(∀ V' a' w',Good V0 Z0 w0 V' U w'->FbR V' fb' a'->Q (yNM r) a' w')->wpOpsIn (Fw none) n P ops Q ((List.range rest.length).map (k+·)) a w
 | [],k,fb,fb',r,Z,U,V,w,a,h,_,_,_,hg,hf,hQ=>by
  simp [zHZ] at h;obtain ⟨rfl,rfl,rfl⟩:=h;exact hQ V a w hg hf
 | o::rest,k,fb,fb',r,Z,U,V,w,a,h,hget,hk,hok,hg,hf,hQ=>by
  simp only [List.all_cons,Bool.and_eq_true] at hok;have hl:(List.range (o::rest).length).map (k+·)=k::(List.range rest.length).map (k+1+·):=by
   rw [List.length_cons,List.range_succ_eq_map,List.map_cons,List.map_map];congr 1;refine List.map_congr_left (fun i _=>?_);simp;omega
  rw [hl];have ho:ops[k]?=some o:=by have:=hget 0 (by simp);simpa using this
  have go:∀ {fb₁:Fb} {Z':St} {V':Inj} {a':Act} {w':World},zHZ P rec prec ops rest fb₁ Z'=some (r,fb',U)->FbR V' fb₁ a'->Good V Z w V' Z' w'->wpOpsIn (Fw none) n P ops Q ((List.range rest.length).map (k+1+·)) a' w':=by
   intro fb₁ Z' V' a' w' h' hf' hg';refine yYM hz hrec hp rest (k+1) h' (fun i hi=>?_) (by simp at hk;omega) hok.2 (hg.trans hg') hf' hQ;have:=hget (i+1) (by simp;omega);simpa [Nat.add_assoc,Nat.add_comm 1 i] using this
  simp only [wpOpsIn,ho];unfold zHZ at h;split at h
  ·rename_i hgd;rw [zAK hgd (fun j want d _ _=>hf.tms.2 d),if_pos rfl];have hev:∀ x∈o.op.operands,VR V (yC fb.f x) (a.eval x):=fun x hx=>zAA hf.tms (yLL hok.1 hx)
   split at h
   ·rename_i v Z' hop;rw [xH] at h;exact zRW hz hrec hop hg.rep hev (fun v' w' V' hv hg'=>go h (hf.put hg' hv) hg')
   ·split at h
    ·rename_i d hdf;rw [xH] at h;unfold zTD at hdf;split at hdf
     ·rename_i c hc;split at hdf
      ·rename_i g hcg;split at hdf
       ·rename_i hnil;split at hdf
        ·rename_i f as href;simp at hdf;subst hdf;have hvg:=hev g (by simp [hc,Op.operands,Call.operands,hcg]);obtain ⟨as',has,hcase⟩:=zKR (P:=P) href hvg .nil;rcases hcase with ⟨f',cap,e,d,hd1,hd2,hd3⟩ | ⟨l,L,cap,e,_⟩
         ·cases e
          have eargs:c.args.map a.eval=(⟨[]⟩:Array Value):=by apply Array.ext';simp [hnil]
          have hrun:(Oper.semAt none a.eval o).run P w=.ok (.defer d) w:=by
           rw [Oper.semAt_none];simp only [execOp,hc,resolve,hcg,eargs,Sem.run_bind,hd1,Result.andThen_ok,Sem.run_pure]
          refine ⟨fun f _=>zRE none f, ?_⟩
          show o.uponIn (Fw none) n P a _ Q ((Oper.semAt none a.eval o).run P w);rw [hrun,Oper.uponIn_defer];refine go h ?_ (.refl hg.rep);have h0:=hf.put (o:=o) (.refl hg.rep) (VR.undef (V:=V));refine ⟨?_, ?_⟩
          ·have:=h0.tms;unfold Act.put at this ⊢;revert this;cases o.dst <;> exact fun h=>h
          ·have e2:(({ a with defers:=d::a.defers }:Act).put o.dst undef).defers=d::a.defers:=by unfold Act.put;split <;> rfl
           rw [e2];exact .cons ⟨_,_,as',cap,href,has,hd2,hd3⟩ hf.dfs
         ·cases e
        ·cases hdf
       ·cases hdf
      ·cases hdf
     ·cases hdf
    ·split at h
     ·rename_i x Z' hpan;simp at h;obtain ⟨rfl,rfl,rfl⟩:=h;exact zTZ hp hpan hg.rep hev (fun w' V' hg'=>hQ V' a w' (hg.trans hg') ⟨hf.tms.ext hg'.ext,hf.dfs.ext hg'.ext⟩)
     ·cases h
  ·rename_i hgd;rw [zAK hgd (fun j want d _ _=>hf.tms.2 d),if_neg (by simp)];rw [xH] at h;exact ⟨fun f _=>zRE none f,go h (hf.put (.refl hg.rep) .undef) (.refl hg.rep)⟩
  ·cases h
theorem yHQ (hz:vR P) (hrec:RecSound P rec) (hp:PSound P prec) {fb fb':Fb} {r:Option Value} {U:St} {id:Nat} {n:Nat} {Q:Exit->Act->World->Prop} {a:Act} (hok:ops.toList.all zCK=true)
  (h:zHZ P rec prec ops ops.toList fb Z=some (r,fb',U)) (hr:Rep V Z w) (hf:FbR V fb a)
  (hQ:∀ V' a' w',Good V Z w V' U w'->FbR V' fb' a'->Q (yNM r) a' w'):(Code.region id ops false).wpIn (Fw none) n P Q a w:=by
 refine wpIn_region ?_
 have:=yYM (n:=n) (Q:=Q) hz hrec hp ops.toList 0 h (fun i _=>by simp) (by simp) hok (.refl hr) hf hQ;simpa using this
end
end Go.Lay

namespace Go.Lay
open Go
variable {o:Oper} {listed:Array Bool}
section
variable {F:Fence} {n:Nat} {P:Program} {ops:Array Oper}
theorem yRP {Q Q' K:_} {a:Act} {w:World} (hp:∀ ch a w,Q (.panic ch) a w->Q' (.panic ch) a w) (ho:∀ a w,Q .outgrown a w->Q' .outgrown a w)
  (hh:o.wpIn F n P a w K Q):o.wpIn F n P a w K Q':=by
 unfold Oper.wpIn at *;refine ⟨hh.1, ?_⟩
 have hh:=hh.2;have hl:LetsOut Q->LetsOut Q':=fun ⟨a,w,h⟩=>⟨a,w,ho _ _ h⟩
 generalize (o.semAt F.round a.eval).run P w=r at *;cases r with
 | ok x w' =>
  cases x <;> simp only [Oper.uponIn] at hh ⊢ <;>
   first
    | exact hh
    | exact ⟨hh.1,CallsIn.mono hh.2 (fun e w'' he=>by cases e <;> first | exact he | exact hp _ _ _ he | exact hl he)⟩
    | exact ⟨hh.1,RoundIn.mono hh.2 (fun e w'' he=>by cases e <;> first | exact he | exact hp _ _ _ he | exact hl he)⟩
 | halt x w' =>
  cases x <;> simp only [Oper.uponIn] at hh ⊢ <;> first | exact hp _ _ _ hh | exact hh
theorem xAX (hback:∀ (j:Nat) (o:Oper),ops[j]?=some o->∀ e∈o.after,Region.binds .any e=true->e.on<j) (hsz:listed.size=ops.size) (h:Region.ready .any ops listed=[]):∀ j,j<ops.size->listed.getD j false=true:=by
 intro j;induction j using Nat.strongRecOn with
 | _ j ih =>
  intro hj;cases hl:listed.getD j false with
  | true=>rfl
  | false =>
   have ho:ops[j]?=some ops[j]:=by simp [hj]
   have:j∈Region.ready .any ops listed:=by
    refine mem_ready.2 ⟨by simpa [Array.getD,hsz,hj] using hl,_,ho,fun e he hb=>?_⟩;have hlt:=hback j _ ho e he hb;exact ih e.on hlt (by omega)
   rw [h] at this;cases this
theorem zGL {l:Array Bool} {j:Nat} {d:Bool} (hj:j<l.size):(l.push false).getD j d=l.getD j d:=by
 have:j<(l.push false).size:=by simp;omega
 simp [Array.getD,hj,Array.getElem_push,Nat.lt_succ_of_lt hj]
theorem zHW (hback:∀ (j:Nat) (o:Oper),ops[j]?=some o->∀ e∈o.after,Region.binds .any e=true->e.on<j) (hsz:listed.size=ops.size) {j:Nat} (hj:j<ops.size) :
  j∈Region.ready .any (ops.push o) (listed.push false)↔j∈Region.ready .any ops listed:=by
 rw [mem_ready,mem_ready,zGL (by omega)];have e1:(ops.push o)[j]?=ops[j]?:=by rw [Array.getElem?_push];simp;omega
 rw [e1];constructor
 ·rintro ⟨h0,o',ho,h⟩;refine ⟨h0,o',ho,fun e he hb=>?_⟩
  have:=h e he hb;rwa [zGL (by have:=hback j o' ho e he hb;omega)] at this
 ·rintro ⟨h0,o',ho,h⟩;refine ⟨h0,o',ho,fun e he hb=>?_⟩
  rw [zGL (by have:=hback j o' ho e he hb;omega)];exact h e he hb
theorem xPN {X:Nat->Prop} (hback:∀ (j:Nat) (o:Oper),ops[j]?=some o->∀ e∈o.after.toList,Region.binds .any e=true->e.on<j) (hX:zOS ops X):∀ (j:Nat) (o:Oper),ops[j]?=some o->(∀ e∈o.after.toList,Region.binds .any e=true->X e.on)->∀ i,pre (CheckFast.beforeF ops) i j=true->X i:=by
 intro j;induction j using Nat.strongRecOn with
 | _ j ih =>
  intro o ho hdep i hp;obtain ⟨e,h1,h2,h3⟩:=yLA ho (hback j o ho) hp;have hx:=hdep e h1 h2;rcases h3 with rfl | h3
  ·exact hx
  ·have hlt:=hback j o ho e h1 h2;have hlt2:j<ops.size:=(yX ho).2;have ho2:ops[e.on]?=some ops[e.on]:=by simp
   exact ih e.on hlt _ ho2 (fun e' he' hb'=>hX e.on _ hx ho2 e' he' hb') i h3
theorem xBB (hback:∀ (j:Nat) (o:Oper),ops[j]?=some o->∀ e∈o.after,Region.binds .any e=true->e.on<j) (hwait:∀ i,i<ops.size->pre (CheckFast.beforeF (ops.push o)) i ops.size=true) (hwb:∀ e∈o.after,Region.binds .any e=true->e.on<ops.size)
  (hC:zOS ops fun j=>listed.getD j false=true) (hsz:listed.size=ops.size) (h:ops.size∈Region.ready .any (ops.push o) (listed.push false)):∀ j,j<ops.size->listed.getD j false=true:=by
 intro j hj;obtain ⟨_,o',ho,h⟩:=mem_ready.1 h;rw [Array.getElem?_push_size] at ho;cases ho
 have hlt:∀ k,listed.getD k false=true->k<ops.size:=fun k hk=>by
  rcases Nat.lt_or_ge k ops.size with hlt | hge
  ·exact hlt
  ·simp [Array.getD,hsz,Nat.not_lt.2 hge] at hk
 refine xPN (ops:=ops.push o) (X:=fun j=>listed.getD j false=true) (fun k q hq e he hb=>?_) (fun k q hk hq e he hb=>?_) ops.size o (by simp) (fun e he hb=>?_) j (hwait j hj)
 ·rcases Nat.lt_or_ge k ops.size with hl | hg
  ·rw [Array.getElem?_push,if_neg (by omega)] at hq;exact hback k q hq e (by simpa using he) hb
  ·have:=(yX hq).2;simp at this;have:k=ops.size:=by omega
   subst this;simp at hq;subst hq;exact hwb e (by simpa using he) hb
 ·have hl:=hlt k hk;rw [Array.getElem?_push,if_neg (by omega)] at hq;exact hC k q hk hq e he hb
 ·have he':e∈o.after:=by simpa using he
  have:=h e he' hb;rwa [zGL (by have:=hwb e he' hb;omega)] at this
def xJP (F:Fence) (n:Nat) (P:Program) (ops:Array Oper) (o:Oper) (Q:Exit->Act->World->Prop):Exit->Act->World->Prop
 | .normal,a,w=>wpOpIn F n P (ops.push o) Q ops.size (fun _ _=>False) a w
 | e,a,w=>Q e a w
theorem xMU {Q:Exit->Act->World->Prop} (hback:∀ (j:Nat) (o:Oper),ops[j]?=some o->∀ e∈o.after,Region.binds .any e=true->e.on<j)
  (hgd:∀ (j:Nat) (oj:Oper),ops[j]?=some oj->∀ i b,oj.guard=some (i,b)->i<ops.size) (hwait:∀ i,i<ops.size->pre (CheckFast.beforeF (ops.push o)) i ops.size=true) (hwb:∀ e∈o.after,Region.binds .any e=true->e.on<ops.size) :
  ∀ (fuel:Nat) (listed:Array Bool) (a:Act) (w:World),(zOS ops fun j=>listed.getD j false=true)->listed.size=ops.size->wpAnyIn F n P .any ops (xJP F n P ops o Q) fuel listed a w->wpAnyIn F n P .any (ops.push o) Q (fuel+1) (listed.push false) a w:=by
 have fin:∀ (fuel:Nat) (listed:Array Bool) (a:Act) (w:World),listed.size=ops.size->Region.ready .any ops listed=[]->xJP F n P ops o Q .normal a w->wpAnyIn F n P .any (ops.push o) Q (fuel+1) (listed.push false) a w:=by
  intro fuel listed a w hsz h0 hq;have hall:=xAX hback hsz h0;have hm:ops.size∈Region.ready .any (ops.push o) (listed.push false):=by
   refine mem_ready.2 ⟨by rw [<- hsz];simp [Array.getD],o,by simp,fun e he hb=>?_⟩;rw [zGL (by have:=hwb e he hb;omega)];exact hall _ (hwb e he hb)
  refine ⟨fun hnil=>(by rw [hnil] at hm;cases hm),fun i hi=>?_⟩
  obtain ⟨_,o',ho,_⟩:=mem_ready.1 hi;have hlt:i<ops.size+1:=by have:=(Array.getElem?_eq_some_iff.1 ho).1;simpa using this
  rcases Nat.lt_or_ge i ops.size with hlt' | hge
  ·have:=(zHW hback hsz hlt').1 hi;rw [h0] at this;cases this
  ·have:i=ops.size:=by omega
   subst this;have hq:wpOpIn F n P (ops.push o) Q ops.size (fun _ _=>False) a w:=hq;exact wpOpIn_mono (fun _ _ (hx:False)=>False.elim hx) hq
 intro fuel;induction fuel with
 | zero=>intro listed a w hC hsz h;exact fin 0 listed a w hsz h.1 h.2
 | succ fuel ih =>
  intro listed a w hC hsz h;by_cases h0:Region.ready .any ops listed=[]
  ·exact fin (fuel+1) listed a w hsz h0 (h.1 h0)
  have hno:∀ i∈Region.ready .any (ops.push o) (listed.push false),i<ops.size:=fun i hi=>by
   obtain ⟨_,o',ho,_⟩:=mem_ready.1 hi;have hlt:i<ops.size+1:=by have:=(Array.getElem?_eq_some_iff.1 ho).1;simpa using this
   rcases Nat.lt_or_ge i ops.size with hlt' | hge
   ·exact hlt'
   ·exfalso;have:i=ops.size:=by omega
    subst this;have hall:=xBB hback hwait hwb hC hsz hi;apply h0;refine List.eq_nil_iff_forall_not_mem.2 fun j hj=>?_
    obtain ⟨k0,o1,ho1,_⟩:=mem_ready.1 hj;have hj':=(Array.getElem?_eq_some_iff.1 ho1).1;have:=hall j hj';simp [Array.getD,hsz,hj'] at this k0;rw [this] at k0;cases k0
  refine ⟨fun hnil=>?_,fun i hi=>?_⟩
  ·exfalso;apply h0;refine List.eq_nil_iff_forall_not_mem.2 fun j hj=>?_
   obtain ⟨_,o1,ho1,_⟩:=mem_ready.1 hj;have:=(zHW (o:=o) hback hsz (Array.getElem?_eq_some_iff.1 ho1).1).2 hj;rw [hnil] at this;cases this
  ·have hlt:=hno i hi;have h1:=h.2 i ((zHW hback hsz hlt).1 hi);have e1:(ops.push o)[i]?=ops[i]?:=by rw [Array.getElem?_push];simp;omega
   have e2:(listed.push false).setIfInBounds i true=(listed.setIfInBounds i true).push false:=by
    apply Array.ext';simp [List.set_append,hsz,hlt]
   have step:∀ a w,wpAnyIn F n P .any ops (xJP F n P ops o Q) fuel (listed.setIfInBounds i true) a w->wpAnyIn F n P .any (ops.push o) Q (fuel+1) ((listed.push false).setIfInBounds i true) a w:=fun a w hh=>by
    rw [e2];refine ih _ a w (fun k q hk hq e he hb=>?_) (by simpa using hsz) hh;obtain ⟨_,oi,hoi,hdep⟩:=mem_ready.1 ((zHW hback hsz hlt).1 hi);have hset:∀ j,((listed.setIfInBounds i true).getD j false=true)↔(listed.getD j false=true\/j=i):=by
     intro j;by_cases hji:j=i
     ·subst hji;simp [Array.getD,hsz,hlt]
     ·have:=getD_set_ne (listed:=listed) false (Ne.symm hji);rw [this];simp [hji]
    have hk:(listed.setIfInBounds i true).getD k false=true:=hk;show (listed.setIfInBounds i true).getD e.on false=true;rw [hset] at hk ⊢;rcases hk with hk | rfl
    ·exact .inl (hC k q hk hq e he hb)
    ·rw [hoi] at hq;cases hq;exact .inl (hdep e (by simpa using he) hb)
   unfold wpOpIn at h1 ⊢;rw [e1];cases ho:ops[i]? with
   | none=>rw [ho] at h1;exact step _ _ h1
   | some oi =>
    rw [ho] at h1;have hw:Region.wanted oi (yielded (ops.push o) a.tmps)=Region.wanted oi (yielded ops a.tmps):=by
     unfold Region.wanted;cases hg:oi.guard with
     | none=>rfl
     | some p =>
      have:=hgd i oi ho p.1 p.2 hg;have e3:(ops.push o)[p.1]?=ops[p.1]?:=by rw [Array.getElem?_push];simp;omega
      simp only [yielded,e3]
    simp only [hw] at h1 ⊢;split
    ·rename_i hwd;rw [if_pos hwd] at h1;exact yRP (fun _ _ _ h=>h) (fun _ _ h=>h) (Oper.wpIn_mono step h1)
    ·rename_i hwd;rw [if_neg hwd] at h1;exact ⟨h1.1,step _ _ h1.2⟩
end
def yUE (ops:Array Oper) (o:Oper):Bool :=
 ((List.range ops.size).all fun i=>pre (CheckFast.beforeF (ops.push o)) i ops.size) && o.after.toList.all fun e=>!Region.binds .any e || Nat.blt e.on ops.size
def yZR (P:Program) (rec:Rec) (prec:zHE) (ops:Array Oper) (f:Tm) (Z:St):Option (Value × Tm × St) :=
 match ops.back? with
 | some o=>bif yUE ops.pop o then
   match zFU P rec ops.pop f Z with
   | some (f,Z)=>match uI ops f o with
    | some true=>match zXG prec (yC f) Z o.op with
     | some (x,Z)=>some (x,f,Z)
     | none=>none
    | _=>none
   | none=>none
  else none
 | none=>none
section
variable {P:Program} {V:Inj} {Z:St} {w:World} {rec:Rec} {prec:zHE} {ops:Array Oper}
theorem yNV (hm:P.follows .mixedOrders=true) (hz:vR P) (hrec:RecSound P rec) (hp:PSound P prec) {fb:Fb} {t:Tm} {x:Value} {U:St} {id:Nat} {n:Nat} {Q:Exit->Act->World->Prop} {a:Act} (hok:ops.toList.all zCK=true)
  (h:yZR P rec prec ops fb.f Z=some (x,t,U)) (hr:Rep V Z w) (hf:FbR V fb a)
  (hQ:∀ V' a' w',Good V Z w V' U w'->FbR V' ⟨t,fb.ds⟩ a'->Q (zKG x) a' w'):(Code.region id ops true).wpIn (Fw none) n P Q a w:=by
 unfold yZR at h;split at h;rotate_left
 ·cases h
 rename_i o ho;obtain ⟨hl,h⟩:=yT h;split at h;rotate_left
 ·cases h
 rename_i f₁ Z₁ hd;split at h;rotate_left
 ·cases h
 rename_i hgd;split at h;rotate_left
 ·cases h
 rename_i x₁ Z₂ hpan;simp at h;obtain ⟨rfl,rfl,rfl⟩:=h;obtain ⟨os,rfl⟩:=Array.back?_eq_some_iff.1 ho;rw [Array.pop_push] at hl hd;simp only [Array.toList_push,List.all_append,List.all_cons,List.all_nil,Bool.and_true,Bool.and_eq_true] at hok;unfold yUE at hl;simp only [Bool.and_eq_true,List.all_eq_true,List.mem_range] at hl;obtain ⟨D,_⟩:=zIK hd;refine wpIn_region_any hm ?_
 have e1:(os.push o).size=os.size+1:=by simp
 have e2:Array.replicate (os.size+1) false=(Array.replicate os.size false).push false:=by
  apply Array.ext';simp [List.replicate_succ']
 rw [e1,e2];refine xMU (fun j oj hj e he hb=>D.back j oj hj e (by simpa using he) hb) (fun j oj hj i b hg=>?_) (fun i hi=>?_) (fun e he hb=>?_) _ _ _ _ (fun k q hk=>?_) (by simp)
  (zWP hz hrec hok.1 hd hr hf.tms fun V' a' w' hg ht hds=>?_)
 ·obtain ⟨e,he,hb,rfl⟩:=D.guard j oj hj i b hg;have:=D.back j oj hj e he hb;have:=(yX hj).2;omega
 ·exact hl.1 i hi
 ·have:=hl.2 e (by simpa using he);rw [hb] at this;exact (zAQ _ _).1 (by simpa using this)
 ·exfalso;have hk:(Array.replicate os.size false).getD k false=true:=hk;by_cases hj:k<os.size <;> simp [Array.getD,hj] at hk
 ·show wpOpIn (Fw none) n P (os.push o) Q os.size (fun _ _=>False) a' w';unfold wpOpIn;have e3:(os.push o)[os.size]?=some o:=by simp
  rw [e3];simp only;have hf':FbR V' ⟨f₁,fb.ds⟩ a':=⟨ht,by rw [hds];exact hf.dfs.ext hg.ext⟩;have hgs:=zAK hgd (fun j want d _ _=>hf'.tms.2 d);rw [hgs,if_pos rfl];have hev:∀ x∈o.op.operands,VR V' (yC f₁ x) (a'.eval x):=fun x hx=>zAA ht (yLL hok.2 hx)
  exact zTZ hp hpan hg.rep hev fun w₂ V₂ hg₂=>hQ V₂ a' w₂ (hg.trans hg₂) ⟨hf'.tms.ext hg₂.ext,hf'.dfs.ext hg₂.ext⟩
end
end Go.Lay

namespace Go.Lay
open Go
def zFT (step:zMU):Nat->zMU
 | 0,_,_=>none
 | n+1,fb,Z =>
  match step fb Z with
  | some (.normal,fb,Z)=>zFT step n fb Z
  | r=>r
def yKM (a b:zMU):zMU:=fun fb Z =>
 match a fb Z with
 | some (.normal,fb,Z)=>b fb Z
 | r=>r
def yGB (c:Operand) (x y:zMU):zMU:=fun fb Z =>
 match yC fb.f c with
 | .bool t=>match t with
  | true=>x fb Z
  | false=>y fb Z
 | _=>none
def zOE (id:Nat) (c:zMU):zMU:=fun fb Z =>
 match c fb Z with
 | some (.exit i,fb,Z)=>bif Nat.beq i id then some (.normal,fb,Z) else some (.exit i,fb,Z)
 | r=>r
def zFQ (P:Program) (rec:Rec) (prec:zHE) (ops:Array Oper) (draw:Bool):zMU:=fun fb Z =>
 match draw with
 | true=>match zFU P rec ops fb.f Z with
  | some (f,Z)=>some (.normal,⟨f,fb.ds⟩,Z)
  | none=>match yZR P rec prec ops fb.f Z with
   | some (x,f,Z)=>some (zKG x,⟨f,fb.ds⟩,Z)
   | none=>none
 | false=>match zHZ P rec prec ops ops.toList fb Z with
  | some (r,fb,Z)=>some (yNM r,fb,Z)
  | none=>none
def yS (P:Program) (rec:Rec) (prec:zHE) (fuel:Nat):Code->zMU
 | .skip=>fun fb Z=>some (.normal,fb,Z)
 | .label _=>fun fb Z=>some (.normal,fb,Z)
 | .ret=>fun fb Z=>some (.ret,fb,Z)
 | .exit id=>fun fb Z=>some (.exit id,fb,Z)
 | .goto _=>fun _ _=>none
 | .refuse _=>fun _ _=>none
 | .seq a b=>yKM (yS P rec prec fuel a) (yS P rec prec fuel b)
 | .cond c x y=>yGB c (yS P rec prec fuel x) (yS P rec prec fuel y)
 | .block id c=>zOE id (yS P rec prec fuel c)
 | .scope c=>yS P rec prec fuel c
 | .loop c=>zFT (yS P rec prec fuel c) fuel
 | .region _ ops draw=>zFQ P rec prec ops draw
 | .rangeFunc _ _ _ _=>fun _ _=>none
section
variable {P:Program} {V:Inj} {Z:St} {w:World} {rec:Rec} {prec:zHE}
theorem yVG {r:Option Value}:∀ l,yNM r≠.goto l:=by
 intro l;cases r <;> simp [yNM,zKG]
theorem yJE (fuel:Nat):∀ (c:Code) (fb:Fb) (Z:St) (e:Exit) (fb':Fb) (Z':St),yS P rec prec fuel c fb Z=some (e,fb',Z')->∀ l,e≠.goto l:=by
 intro c;induction c with
 | skip=>intro fb Z e fb' Z' h;simp [yS] at h;rw [<- h.1];simp
 | label _=>intro fb Z e fb' Z' h;simp [yS] at h;rw [<- h.1];simp
 | ret=>intro fb Z e fb' Z' h;simp [yS] at h;rw [<- h.1];simp
 | exit _=>intro fb Z e fb' Z' h;simp [yS] at h;rw [<- h.1];simp
 | goto _=>intro fb Z e fb' Z' h;simp [yS] at h
 | refuse _=>intro fb Z e fb' Z' h;simp [yS] at h
 | rangeFunc _ _ _ _ _ _=>intro fb Z e fb' Z' h;simp [yS] at h
 | seq x y ihx ihy =>
  intro fb Z e fb' Z' h;simp only [yS,yKM] at h;split at h
  ·exact ihy _ _ _ _ _ h
  ·exact ihx _ _ _ _ _ h
 | cond c x y ihx ihy =>
  intro fb Z e fb' Z' h;simp only [yS,yGB] at h;split at h
  ·rename_i t _;cases t with
   | true=>exact ihx _ _ _ _ _ h
   | false=>exact ihy _ _ _ _ _ h
  ·cases h
 | block id c ih =>
  intro fb Z e fb' Z' h;simp only [yS,zOE] at h;split at h
  ·rcases vB h with ⟨_,h⟩ | ⟨_,h⟩ <;> simp at h <;> rw [<- h.1] <;> simp
  ·exact ih _ _ _ _ _ h
 | scope c ih=>intro fb Z e fb' Z' h;exact ih _ _ _ _ _ h
 | loop c ih =>
  intro fb Z e fb' Z' h;simp only [yS] at h;have key:∀ m fb Z,zFT (yS P rec prec fuel c) m fb Z=some (e,fb',Z')->∀ l,e≠.goto l:=by
   intro m;induction m with
   | zero=>intro fb Z h;simp [zFT] at h
   | succ m ihm =>
    intro fb Z h;simp only [zFT] at h;split at h
    ·exact ihm _ _ h
    ·exact ih _ _ _ _ _ h
  exact key _ _ _ h
 | region id ops draw =>
  intro fb Z e fb' Z' h;simp only [yS,zFQ] at h;cases draw with
  | true =>
   simp only at h;split at h
   ·simp at h;rw [<- h.1];simp
   ·split at h
    ·simp at h;rw [<- h.1];simp [zKG]
    ·cases h
  | false =>
   simp only at h;split at h
   ·simp at h;rw [<- h.1];exact yVG
   ·cases h
theorem zFV (hm:P.follows .mixedOrders=true) (hz:vR P) (hrec:RecSound P rec) (hp:PSound P prec) (fuel:Nat):∀ (c:Code),wE c=true->∀ (fb:Fb) (Z:St) (e:Exit) (fb':Fb) (Z':St),yS P rec prec fuel c fb Z=some (e,fb',Z') ->
  ∀ (V:Inj) (w:World) (a:Act) (n:Nat) (Q:Exit->Act->World->Prop),Rep V Z w->FbR V fb a->(∀ V' a' w',Good V Z w V' Z' w'->FbR V' fb' a'->Q e a' w')->c.wpIn (Fw none) n P Q a w:=by
 intro c;induction c with
 | skip=>intro _ fb Z e fb' Z' h V w a n Q hr hf hQ;simp [yS] at h;obtain ⟨rfl,rfl,rfl⟩:=h;exact wpIn_skip (hQ V a w (.refl hr) hf)
 | label _=>intro _ fb Z e fb' Z' h V w a n Q hr hf hQ;simp [yS] at h;obtain ⟨rfl,rfl,rfl⟩:=h;exact wpIn_label (hQ V a w (.refl hr) hf)
 | ret=>intro _ fb Z e fb' Z' h V w a n Q hr hf hQ;simp [yS] at h;obtain ⟨rfl,rfl,rfl⟩:=h;exact wpIn_ret (hQ V a w (.refl hr) hf)
 | exit _=>intro _ fb Z e fb' Z' h V w a n Q hr hf hQ;simp [yS] at h;obtain ⟨rfl,rfl,rfl⟩:=h;exact wpIn_exit (hQ V a w (.refl hr) hf)
 | goto _=>intro _ fb Z e fb' Z' h;simp [yS] at h
 | refuse _=>intro _ fb Z e fb' Z' h;simp [yS] at h
 | rangeFunc _ _ _ _ _ _=>intro _ fb Z e fb' Z' h;simp [yS] at h
 | seq x y ihx ihy =>
  intro hok fb Z e fb' Z' h V w a n Q hr hf hQ;simp only [wE,Bool.and_eq_true] at hok;simp only [yS,yKM] at h;refine wpIn_seq ?_
  split at h
  ·rename_i fb₁ Z₁ h1;refine ihx hok.1 _ _ _ _ _ h1 V w a n _ hr hf (fun V₁ a₁ w₁ hg1 hf1=>?_);exact ihy hok.2 _ _ _ _ _ h V₁ w₁ a₁ n Q hg1.rep hf1 (fun V₂ a₂ w₂ hg2 hf2=>hQ V₂ a₂ w₂ (hg1.trans hg2) hf2)
  ·rename_i hno;refine ihx hok.1 _ _ _ _ _ h V w a n _ hr hf (fun V₁ a₁ w₁ hg1 hf1=>?_);cases e with
   | normal=>exact absurd h (hno _ _)
   | _=>exact hQ V₁ a₁ w₁ hg1 hf1
 | cond c x y ihx ihy =>
  intro hok fb Z e fb' Z' h V w a n Q hr hf hQ;simp only [wE,Bool.and_eq_true] at hok;simp only [yS,yGB] at h;have hc:=zAA hf.tms hok.1.1;split at h
  ·rename_i t ht;rw [ht] at hc;have hcb:=hc.bool_inv;cases t with
   | true=>exact wpIn_cond_true hcb (ihx hok.1.2 _ _ _ _ _ h V w a n Q hr hf hQ)
   | false=>exact wpIn_cond_false hcb (ihy hok.2 _ _ _ _ _ h V w a n Q hr hf hQ)
  ·cases h
 | block id c ih =>
  intro hok fb Z e fb' Z' h V w a n Q hr hf hQ;simp only [yS,zOE] at h;refine wpIn_block ?_
  split at h
  ·rename_i i fb₁ Z₁ h1;refine ih hok _ _ _ _ _ h1 V w a n _ hr hf (fun V₁ a₁ w₁ hg1 hf1=>?_);rcases vB h with ⟨hi,h⟩ | ⟨hi,h⟩
   ·simp at h;obtain ⟨rfl,rfl,rfl⟩:=h;simp only [Exit.inBlock];rw [if_pos (Nat.eq_of_beq_eq_true hi)];exact hQ V₁ a₁ w₁ hg1 hf1
   ·simp at h;obtain ⟨rfl,rfl,rfl⟩:=h;simp only [Exit.inBlock];rw [if_neg (fun e=>by rw [e,Nat.beq_refl] at hi;cases hi)];exact hQ V₁ a₁ w₁ hg1 hf1
  ·rename_i hno;refine ih hok _ _ _ _ _ h V w a n _ hr hf (fun V₁ a₁ w₁ hg1 hf1=>?_);cases e with
   | exit i=>exact absurd h (hno _ _ _)
   | _=>exact hQ V₁ a₁ w₁ hg1 hf1
 | scope c ih =>
  intro hok fb Z e fb' Z' h V w a n Q hr hf hQ;refine zTO (ih hok _ _ _ _ _ h V w a n _ hr hf (fun V₁ a₁ w₁ hg1 hf1=>⟨yJE fuel c _ _ _ _ _ h,hQ V₁ a₁ w₁ hg1 hf1⟩))
 | loop c ih =>
  intro hok fb Z e fb' Z' h V w a n Q hr hf hQ;simp only [yS] at h;refine zVU (fun m a₁ w₁=>∃ fb₁ Z₁ V₁,zFT (yS P rec prec fuel c) m fb₁ Z₁=some (e,fb',Z')/\Good V Z w V₁ Z₁ w₁/\FbR V₁ fb₁ a₁) ⟨fb,Z,V,h,.refl hr,hf⟩ (fun m a₁ w₁ ⟨fb₁,Z₁,V₁,hl,hg1,hf1⟩=>?_);cases m with
  | zero=>simp [zFT] at hl
  | succ m =>
   simp only [zFT] at hl;split at hl
   ·rename_i fb₂ Z₂ h2;exact ih hok _ _ _ _ _ h2 V₁ w₁ a₁ n _ hg1.rep hf1 (fun V₂ a₂ w₂ hg2 hf2=>⟨m,by omega,fb₂,Z₂,V₂,hl,hg1.trans hg2,hf2⟩)
   ·rename_i hno;refine ih hok _ _ _ _ _ hl V₁ w₁ a₁ n _ hg1.rep hf1 (fun V₂ a₂ w₂ hg2 hf2=>?_);cases e with
    | normal=>exact absurd hl (hno _ _)
    | _=>exact hQ V₂ a₂ w₂ (hg1.trans hg2) hf2
 | region id ops draw =>
  intro hok fb Z e fb' Z' h V w a n Q hr hf hQ;simp only [wE] at hok;simp only [yS,zFQ] at h;cases draw with
  | true =>
   simp only at h;split at h
   ·rename_i f₁ Z₁ h1;simp at h;obtain ⟨rfl,rfl,rfl⟩:=h;exact zTU hm hz hrec hok h1 hr hf.tms fun V' a' w' hg ht hd=>hQ V' a' w' hg ⟨ht,by rw [hd];exact hf.dfs.ext hg.ext⟩
   ·split at h
    ·rename_i x₁ f₁ Z₁ h1;simp at h;obtain ⟨rfl,rfl,rfl⟩:=h;exact yNV hm hz hrec hp hok h1 hr hf hQ
    ·cases h
  | false =>
   simp only at h;split at h
   ·rename_i r fb₁ Z₁ h1;simp at h;obtain ⟨rfl,rfl,rfl⟩:=h;exact yHQ hz hrec hp hok h1 hr hf hQ
   ·cases h
end
end Go.Lay

namespace Go.Lay
open Go

structure ProgOk (P:Program):Prop where
 mixed:P.follows .mixedOrders=true
 zero:vR P
 orc:OrcOk P
 code : ∀ (f : FuncId) (fn : Func) (c : Code), P.funcs[f]? = some fn → fn.body = some c → wE c = true ∧ fn.name ≠ "runtime.NumGoroutine"

theorem Tm.puts_eq {β:Type}:∀ (l:List (Nat × Value)) (f:Tm) (k:Tm->β),Tm.puts l f k=k (l.foldl (fun f p=>f.set p.1 p.2) f)
 | [],_,_=>rfl
 | (i,v)::l,f,k=>by rw [Tm.puts,Tm.put_eq,Tm.puts_eq l];rfl

section
variable {P:Program} {V:Inj} {Z:St} {w:World}

theorem yPY:∀ (args args':List Value) (k:Nat) (f:Tm) (tm:Array Value),VRs V args args'->TmR V f tm->TmR V ((Tm.args k args).foldl (fun f p=>f.set p.1 p.2) f) ((Tm.args k args').foldl (fun t p=>t.setIfInBounds p.1 p.2) tm)
 | [],[],_,_,_,_,h=>h
 | [],_::_,_,_,_,h,_=>by cases h
 | _::_,[],_,_,_,h,_=>by cases h
 | v::l,v'::l',k,f,tm,h,ht=>by
  cases h with
  | cons hv hl=>exact yPY l l' (k+1) _ _ hl (ht.set k hv)

theorem yAQ:∀ (l:List Value) (k:Nat) (tm:Array Value),k+l.length<=tm.size->((Tm.args k l).foldl (fun (t:Array Value) p=>t.setIfInBounds p.1 p.2) tm).toList=tm.toList.take k++(l++tm.toList.drop (k+l.length))
 | [],k,tm,_=>by simp [Tm.args]
 | v::l,k,tm,h=>by
  simp only [List.length_cons] at h;simp only [Tm.args,List.foldl_cons];rw [yAQ l (k+1) _ (by simp;omega)];have hlt:k<tm.toList.length:=by simp;omega
  simp only [Array.toList_setIfInBounds,List.length_cons];have e1:(tm.toList.set k v).take (k+1)=tm.toList.take k++[v]:=by
   rw [List.take_succ_eq_append_getElem (by simpa using hlt),List.take_set_of_le (Nat.le_refl _)];simp
  have e2:(tm.toList.set k v).drop (k+1+l.length)=tm.toList.drop (k+(l.length+1)):=by
   rw [List.drop_set_of_lt (by omega)];congr 1;omega
  rw [e1,e2];simp

theorem yFO:∀ (p:List Bool) (d:Nat),Tr.getP p (yND d)=none\/Tr.getP p (yND d)=some undef
 | p,0=>.inl (Tr.getP_leaf p)
 | [],d+1=>.inr rfl
 | b::p,d+1=>by cases b <;> exact yFO p d
theorem xCR (n i:Nat):(fresh n).nth i=undef:=by
 unfold fresh Tm.nth;rcases yFO (way i) ((way n).length+1) with h | h <;> simp only [h]

theorem yFU {args args':List Value} (h:VRs V args args') (N:Nat) :
  TmR V ((Tm.args 0 args).foldl (fun f p=>f.set p.1 p.2) (fresh (args.length+(N-args.length)))) ((⟨args'⟩:Array Value)++Array.replicate (N-(⟨args'⟩:Array Value).size) undef):=by
 have h0:TmR V (fresh (args.length+(N-args.length))) (Array.replicate (args'.length+(N-args'.length)) undef):=by
  refine ⟨by simp [fresh,h.length],fun i=>?_⟩
  have e1:(fresh (args.length+(N-args.length))).nth i=undef:=xCR _ _;have e2:(Array.replicate (args'.length+(N-args'.length)) undef).getD i undef=undef:=by
   by_cases hi:i<args'.length+(N-args'.length) <;> simp [Array.getD,hi]
  rw [e1,e2];exact .undef
 have h1:=yPY args args' 0 _ _ h h0;have h2:((Tm.args 0 args').foldl (fun (t:Array Value) p=>t.setIfInBounds p.1 p.2) (Array.replicate (args'.length+(N-args'.length)) undef))=(⟨args'⟩:Array Value)++Array.replicate (N-(⟨args'⟩:Array Value).size) undef:=by
  apply Array.ext';rw [yAQ args' 0 _ (by simp)];simp
 rw [h2] at h1;exact h1

theorem yWZ:∀ (ps:List Nat) (args args':List Value) (f:Tm) (tm:Array Value),VRs V args args'->TmR V f tm->TmR V ((ps.zip args).foldl (fun f p=>f.set p.1 p.2) f) ((ps.zip args').foldl (fun t p=>t.setIfInBounds p.1 p.2) tm)
 | [],_,_,_,_,_,h=>by simpa using h
 | p::ps,[],[],_,_,_,h=>by simpa using h
 | p::ps,[],_::_,_,_,h,_=>by cases h
 | p::ps,_::_,[],_,_,h,_=>by cases h
 | p::ps,v::l,v'::l',f,tm,h,ht=>by
  cases h with
  | cons hv hl=>exact yWZ ps l l' _ _ hl (ht.set p hv)

def zRO (tms:Array Value):ResultVar->Sem Value
 | .tmp t=>pure (tms.getD t undef)
 | .cell a t=>do loadVar t (<- asAddr (tms.getD a undef))
theorem ySJ (fn:Func) (tms:Array Value):results fn tms=(do let vs <- fn.results.mapM (zRO tms);pure (if h:vs.size=1 then vs[0] else .tuple vs)):=rfl
theorem zMH {f:Tm} {tms:Array Value} (hr:Rep V Z w) (ht:TmR V f tms):∀ (rs:List ResultVar) (vs:List Value),zAF P f Z rs=some vs ->
  ∃ vs',VRs V vs vs'/\(rs.mapM (zRO tms)).run P w=.ok vs' w
 | [],vs,h=>by simp [zAF] at h;subst h;exact ⟨[],.nil,by simp⟩
 | r::rs,vs,h=>by
  simp only [zAF] at h;split at h
  ·rename_i v hv;split at h
   ·rename_i vs0 hvs;simp at h;subst h;obtain ⟨vs',h1,h2⟩:=zMH hr ht rs vs0 hvs;cases r with
    | tmp t =>
     simp [zPF] at hv;subst hv;refine ⟨tms.getD t undef::vs',.cons (ht.2 t) h1, ?_⟩
     rw [List.mapM_cons];simp only [zRO,Sem.run_bind,Sem.run_pure,Result.andThen_ok,h2]
    | cell a t =>
     simp only [zPF] at hv;split at hv
     ·rename_i a0 ha0;have hp:=ht.2 a;rw [ha0] at hp;obtain ⟨L,hl,hlo,e⟩:=hp.ptr_inv;obtain ⟨v',g1,g2⟩:=zUJ (P:=P) hv hr hl hlo;refine ⟨v'::vs',.cons g2 h1, ?_⟩
      have g0:(zRO tms (.cell a t)).run P w=.ok v' w:=by
       simp only [zRO,e,asAddr,Sem.run_bind,Sem.run_pure,Result.andThen_ok,g1]
      rw [List.mapM_cons];simp only [Sem.run_bind,Sem.run_pure,Result.andThen_ok,g0,h2]
     ·cases hv
   ·cases h
  ·cases h

theorem zJO {fn:Func} {f:Tm} {tms:Array Value} {v:Value} (hr:Rep V Z w) (ht:TmR V f tms) (h:vC P fn f Z=some v):∃ v',(results fn tms).run P w=.ok v' w/\VR V v v':=by
 unfold vC at h;have key:∀ vs,zAF P f Z fn.results.toList=some vs->∃ vs',VRs V vs vs'/\(results fn tms).run P w=.ok (if h:(⟨vs'⟩:Array Value).size=1 then (⟨vs'⟩:Array Value)[0] else .tuple ⟨vs'⟩) w:=by
  intro vs hvs;obtain ⟨vs',h1,h2⟩:=zMH hr ht _ _ hvs;refine ⟨vs',h1, ?_⟩
  have h3:(fn.results.mapM (zRO tms)).run P w=.ok ⟨vs'⟩ w:=by
   rw [Array.mapM_eq_mapM_toList];simp [h2]
  rw [ySJ,Sem.run_bind,h3];rfl
 split at h
 ·rename_i v0 hv;simp at h;subst h;obtain ⟨vs',h1,h2⟩:=key _ hv;cases h1 with
  | cons hv0 hn =>
   cases hn
   rename_i v';refine ⟨v', ?_,hv0⟩
   rw [h2];simp
 ·rename_i vs hne hv;simp at h;subst h;obtain ⟨vs',h1,h2⟩:=key _ hv;have hlen:=h1.length;have hl1:¬ (⟨vs'⟩:Array Value).size=1:=by
   intro e;have e:vs'.length=1:=e;rw [<- hlen] at e;obtain ⟨x,hx⟩:=List.length_eq_one_iff.1 e;exact hne x hx
  refine ⟨.tuple ⟨vs'⟩, ?_,.tuple' h1⟩
  rw [h2,dif_neg hl1]
 ·cases h

theorem zIG {fn:Func} {f:Tm} {tms:Array Value} {v:Value} {n:Nat} {R:Ending->World->Prop}:∀ (marks:List Nat) (ds:List Deferred) (Z:St) (w:World) (Z₁:St),zCQ marks Z=some Z₁->DefR V marks ds->Rep V Z w->TmR V f tms ->
  vC P fn f Z₁=some v->(∀ v' w',VR V v v'->Good V Z w V Z₁ w'->R (.returned v') w')->LeavesInM (Fw none) n P fn tms R ds .returning w
 | [],ds,Z,w,Z₁,h,hd,hr,ht,hres,hR=>by
  cases hd
  simp [zCQ] at h;subst h;obtain ⟨v',h1,h2⟩:=zJO hr ht hres;exact ⟨v',h1,hR v' w h2 (.refl hr)⟩
 | m::ms,ds,Z,w,Z₁,h,hd,hr,ht,hres,hR=>by
  cases hd with
  | cons hl hds =>
   rename_i L ds;simp only [zCQ] at h;split at h
   ·rename_i hb;rw [St.drop_eq] at h;obtain ⟨L',h1,h2,hg⟩:=xAR hr hb;rw [hl] at h1;cases h1;refine ⟨by simp,.inl ⟨L.c,_,rfl,run_takeDeferred h2, ?_⟩⟩
    exact zIG ms ds _ _ Z₁ h hds hg.rep ht hres (fun v' w' hv hg'=>hR v' w' hv (hg.trans hg'))
   ·cases h

end
end Go.Lay

namespace Go.Lay
open Go
def xLY:Option (Exit × Fb × St)->Option (Value × St)
 | some (.panic [{ v:=x,recovered:=false,goexit:=false }],fb,Z)=>match fb.ds with
  | []=>some (x,Z)
  | _=>none
 | _=>none
def zQR (P:Program) (rec:Rec) (prec:zHE) (N:Nat):zHE:=fun f args Z =>
 match P.funcs[f]? with
 | some fn=>match fn.body with
  | some c=>Tm.puts (Tm.args 0 args) (fresh (args.length+(fn.ntmps-args.length))) fun tm=>xLY (yS P rec prec N c ⟨tm,[]⟩ Z)
  | none=>none
 | none=>none
section
variable {P:Program} {V:Inj} {Z:St} {w:World} {rec:Rec} {prec:zHE}
theorem yFX {r:Option (Exit × Fb × St)} {x:Value} {Z':St} (h:xLY r=some (x,Z')):∃ fb,r=some (zKG x,fb,Z')/\fb.ds=[]:=by
 unfold xLY at h;split at h
 ·split at h
  ·rename_i hds;simp at h;obtain ⟨rfl,rfl⟩:=h;exact ⟨_,rfl,hds⟩
  ·cases h
 ·cases h
theorem zZA {args args':List Value} (ha:VRs V args args') (N:Nat):FbR V ⟨(Tm.args 0 args).foldl (fun f p=>f.set p.1 p.2) (fresh (args.length+(N-args.length))),[]⟩ { tmps:=(⟨args'⟩:Array Value)++Array.replicate (N-(⟨args'⟩:Array Value).size) undef,defers:=[] } :=
 ⟨yFU ha N,.nil⟩
theorem yPT (hP:ProgOk P) (hrec:RecSound P rec) (hp:PSound P prec) (N:Nat):PSound P (zQR P rec prec N):=by
 refine ⟨fun f args Z x Z' h V w args' hr ha=>?_⟩
 unfold zQR at h;split at h
 ·rename_i fn hfn;split at h
  ·rename_i c hc;rw [Tm.puts_eq] at h;obtain ⟨hok,hname⟩:=hP.code f fn c hfn hc;refine ⟨⟨fn,hfn,by rw [hc];rfl,hname⟩,fun n=>?_⟩
   obtain ⟨fb,hcode,hds⟩:=yFX h;refine callsIn_of_wp hfn hc trivial ?_
   refine zFV hP.mixed hP.zero hrec hp N c hok _ _ _ _ _ hcode V w _ n _ hr (zZA ha fn.ntmps) (fun V' a' w' hg hf=>?_);have hd:=hf.dfs;rw [hds] at hd;refine ⟨?_,rfl,V',hg⟩
   generalize a'.defers=ds at hd;cases hd
   rfl
  ·cases h
 ·cases h
end
def xPH:Op->Bool
 | .call c=>match c.callee with
  | .builtin .recover=>match c.args.toList with | []=>true | _=>false
  | _=>false
 | _=>false
def zLR (P:Program):List Oper->Tm->Option Tm
 | [],f=>some f
 | o::rest,f=>match o.guard with
  | none=>match xY P (yC f) o.op with
   | some v=>yCE f o.dst v fun f=>zLR P rest f
   | none=>none
  | some _=>none
def yXR (P:Program) (fn:Func):Option (Exit × Fr × St)->Option St
 | some (.normal,fr,Z)=>match fr.marks with | []=>(vC P fn fr.f Z).map fun _=>Z | _=>none
 | some (.ret,fr,Z)=>match fr.marks with | []=>(vC P fn fr.f Z).map fun _=>Z | _=>none
 | _=>none
def yGH (P:Program) (rec:Rec) (N:Nat) (rv:Value) (g:FuncId) (as:List Value) (Z:St):Option St :=
 match P.funcs[g]? with
 | some fn=>match fn.body with
  | some (.seq (.region _ ops false) rest)=>match ops.toList with
   | o::os=>bif xPH o.op && o.guard.isNone then
     Tm.puts (Tm.args 0 as) (fresh (as.length+(fn.ntmps-as.length))) fun tm =>
     yCE tm o.dst rv fun tm=>match zLR P os tm with
      | some tm=>yXR P fn (yK P rec N none rest ⟨tm,[]⟩ Z)
      | none=>none
    else none
   | []=>none
  | _=>none
 | none=>none
section
variable {P:Program} {V:Inj} {Z:St} {w:World} {rec:Rec} {prec:zHE} {ops:Array Oper}
theorem yKZ (hz:vR P) {Q:Exit->Act->List Frame->World->Prop} {cs:List Frame}:∀ (rest:List Oper) (k:Nat) {f t:Tm} {a:Act},zLR P rest f=some t->(∀ i,i<rest.length->ops[k+i]?=rest[i]?)->rest.all zCK=true ->
  TmR V f a.tmps->a.defers=[]->(∀ a',TmR V t a'.tmps->a'.defers=[]->Q .normal a' cs w)->wpOpsS P ops Q ((List.range rest.length).map (k+·)) a cs w
 | [],k,f,t,a,h,_,_,hf,hd,hQ=>by
  simp [zLR] at h;subst h;exact hQ a hf hd
 | o::rest,k,f,t,a,h,hget,hok,hf,hd,hQ=>by
  simp only [List.all_cons,Bool.and_eq_true] at hok;have hl:(List.range (o::rest).length).map (k+·)=k::(List.range rest.length).map (k+1+·):=by
   rw [List.length_cons,List.range_succ_eq_map,List.map_cons,List.map_map];congr 1;refine List.map_congr_left (fun i _=>?_);simp;omega
  rw [hl];have ho:ops[k]?=some o:=by have:=hget 0 (by simp);simpa using this
  unfold zLR at h;split at h
  ·rename_i hg;split at h
   ·rename_i v hv;rw [xH] at h;obtain ⟨v',h1,h2⟩:=zTQ hz hv (fun x hx=>zAA hf (yLL hok.1 hx));have hw:Region.wanted o (yielded ops a.tmps)=true:=by unfold Region.wanted;simp [hg]
    have go:wpOpsS P ops Q ((List.range rest.length).map (k+1+·)) (a.put o.dst v') cs w:=by
     refine yKZ hz rest (k+1) h (fun i hi=>?_) hok.2 ?_ ?_ hQ
     ·have:=hget (i+1) (by simp;omega);simpa [Nat.add_assoc,Nat.add_comm 1 i] using this
     ·unfold zCI Act.put;cases o.dst with
      | none=>exact hf
      | some d=>exact hf.set d h2
     ·rw [<- hd];unfold Act.put;split <;> rfl
    simp only [wpOpsS,ho,hw,if_true,h1 w];exact go
   ·cases h
  ·cases h
theorem xAS {fn:Func} {r:Option (Exit × Fr × St)} {Z':St} (h:yXR P fn r=some Z'):∃ e fr v,(e=.normal\/e=.ret)/\r=some (e,fr,Z')/\fr.marks=[]/\vC P fn fr.f Z'=some v:=by
 unfold yXR at h;split at h
 ·rename_i fr Z₁;split at h
  ·rename_i hm;cases hres:vC P fn fr.f Z₁ with
   | none=>rw [hres] at h;cases h
   | some v=>rw [hres] at h;simp at h;subst h;exact ⟨_,_,v,.inl rfl,rfl,hm,hres⟩
  ·cases h
 ·rename_i fr Z₁;split at h
  ·rename_i hm;cases hres:vC P fn fr.f Z₁ with
   | none=>rw [hres] at h;cases h
   | some v=>rw [hres] at h;simp at h;subst h;exact ⟨_,_,v,.inr rfl,rfl,hm,hres⟩
  ·cases h
 ·cases h
theorem xPG {o:Oper} {ev:Operand->Value} (h:xPH o.op=true):(execOp ev o).run P w=.ok .recover w:=by
 unfold xPH at h;split at h
 ·rename_i c hc;split at h
  ·rename_i hcal;split at h
   ·rename_i hargs;simp [execOp,hc,resolve,hcal,invoke];rfl
   ·cases h
  ·cases h
 ·cases h
def xAD (u:FrameMode) (rv:Value) (u':FrameMode):Prop:=∀ (c₀:Frame) (cs:List Frame),c₀.mode=u->match recoverD (c₀::cs) with
 | some (v,cs')=>v=rv/\cs'={ c₀ with mode:=u' }::cs
 | none=>rv=.nilIface/\u'=u
theorem ySC (x:Value):xAD (.panicking [{ v:=x,recovered:=false }]) x (.panicking [{ v:=x,recovered:=true }]):=by
 intro c₀ cs h;simp [recoverD,h]
theorem zTS:xAD .returning .nilIface .returning:=by
 intro c₀ cs h;simp [recoverD,h]
theorem yVO (hP:ProgOk P) (hrec:RecSound P rec) {N:Nat} {rv:Value} {g:FuncId} {as as':List Value} {Z':St} {u u':FrameMode} (h:yGH P rec N rv g as Z=some Z') (hrig:zQ RD rv=true) (hr:Rep V Z w) (ha:VRs V as as') (hs:xAD u rv u') :
  (∃ fn, P.funcs[g]? = some fn ∧ fn.body.isSome = true ∧ fn.name ≠ "runtime.NumGoroutine") ∧ CallsD P g ⟨as'⟩ u w fun e u₁ w' => (∃ v, e = .returned v) ∧ u₁ = u' ∧ ∃ V', Good V Z w V' Z' w' := by
 unfold yGH at h;split at h
 ·rename_i fn hfn;split at h
  ·rename_i id ops rest hc;split at h
   ·rename_i o os hops;obtain ⟨hb,h⟩:=yT h;rw [Bool.and_eq_true] at hb;rw [Tm.puts_eq,xH] at h;split at h
    ·rename_i tm hpure;obtain ⟨hok,hname⟩:=hP.code g fn _ hfn hc;simp only [wE,Bool.and_eq_true] at hok;have hok1:=hok.1;rw [hops,List.all_cons,Bool.and_eq_true] at hok1;refine ⟨⟨fn,hfn,by rw [hc];rfl,hname⟩,callsD_of_wpS hfn hc fun c₀ cs hu=>wpS_seq (wpS_region ?_)⟩
     obtain ⟨e,fr,v,he,hcode,hm,hres⟩:=xAS h;have hget:∀ i:Nat,ops[i]?=(o::os)[i]?:=fun i=>by rw [<- hops];simp
     have ho:ops[0]?=some o:=by rw [hget];rfl
     have hsz:List.range ops.size=0::(List.range os.length).map (1+·):=by
      have:ops.size=os.length+1:=by rw [<- Array.length_toList,hops];rfl
      rw [this,List.range_succ_eq_map];congr 1;refine List.map_congr_left fun i _=>?_
      omega
     rw [hsz];have hgd:o.guard=none:=by cases hg:o.guard <;> simp_all
     have hw:∀ t,Region.wanted o t=true:=fun t=>by unfold Region.wanted;simp [hgd]
     have ent:=zZA ha fn.ntmps;have last:∀ a:Act,TmR V tm a.tmps->a.defers=[]->rest.wpS P (bodyPostS P fn c₀ cs fun e u₁ w'=>(∃ v,e=.returned v)/\u₁=u'/\∃ V',Good V Z w V' Z' w') a ({ c₀ with mode:=u' }::cs) w:=by
      intro a ht hd;refine wpS_of_wp (wpIn_wide (n:=0).1 ?_);refine uY hP.mixed hP.zero hrec N none rest hok.2 _ _ _ _ _ hcode V w a none 0 _ hr ⟨ht,by rw [hd];exact .nil⟩ .none (fun V' a' w' hg hf=>?_);have hds:a'.defers=[]:=by
       have:=hf.defs;rw [hm] at this;generalize a'.defers=ds at this;cases this
       rfl
      obtain ⟨v',hv1,hv2⟩:=zJO hg.rep hf.tms hres;rcases he with rfl | rfl <;> exact ⟨hds,u',rfl,v',hv1,⟨v',rfl⟩,rfl,V',hg⟩
     have step:∀ a:Act,TmR V (zCI ((Tm.args 0 as).foldl (fun f p=>f.set p.1 p.2) (fresh (as.length+(fn.ntmps-as.length)))) o.dst rv) a.tmps->a.defers=[]->wpOpsS P ops (Exit.thenS (rest.wpS P (bodyPostS P fn c₀ cs fun e u₁ w'=>(∃ v,e=.returned v)/\u₁=u'/\∃ V',Good V Z w V' Z' w')) (bodyPostS P fn c₀ cs fun e u₁ w'=>(∃ v,e=.returned v)/\u₁=u'/\∃ V',Good V Z w V' Z' w')) ((List.range os.length).map (1+·)) a ({ c₀ with mode:=u' }::cs) w:=by
      intro a ht hd;refine yKZ hP.zero os 1 hpure (fun i hi=>?_) hok1.2 ht hd fun a' ht' hd'=>last a' ht' hd'
      rw [hget,Nat.add_comm];rfl
     have put:TmR V (zCI ((Tm.args 0 as).foldl (fun f p=>f.set p.1 p.2) (fresh (as.length+(fn.ntmps-as.length)))) o.dst rv) ((({ tmps:=(⟨as'⟩:Array Value)++Array.replicate (fn.ntmps-(⟨as'⟩:Array Value).size) undef,defers:=[] }:Act).put o.dst rv).tmps)/\((({ tmps:=(⟨as'⟩:Array Value)++Array.replicate (fn.ntmps-(⟨as'⟩:Array Value).size) undef,defers:=[] }:Act).put o.dst rv).defers)=[]:=by
      have h1:=ent.put (o:=o) (.refl hr) (VR.refl_rigid _ hrig);refine ⟨h1.tms, ?_⟩
      unfold Act.put;split <;> rfl
     simp only [wpOpsS,ho,hw,if_true,xPG hb.1];have hse:=hs c₀ cs hu;split
     ·rename_i v1 cs1 hrd;rw [hrd] at hse;obtain ⟨rfl,rfl⟩:=hse;exact step _ put.1 put.2
     ·rename_i hrd;rw [hrd] at hse;obtain ⟨rfl,rfl⟩:=hse;have:({ c₀ with mode:=u' }:Frame)=c₀:=by subst hu;rfl
      rw [this] at step;exact step _ put.1 put.2
    ·cases h
   ·cases h
  ·cases h
 ·cases h
def xTP:Exit->Option Value
 | .normal=>some .nilIface
 | .ret=>some .nilIface
 | .panic [{ v:=x,recovered:=false,goexit:=false }]=>some x
 | _=>none
def zWR (P:Program) (rec:Rec) (N:Nat) (fn:Func):Option (Exit × Fb × St)->Option (Value × St)
 | some (e,fb,Z)=>match fb.ds with
  | [d]=>match zCB d [] with
   | some (.func g,as)=>match xTP e with
    | some rv=>bif zQ RD rv then match yGH P rec N rv g as Z with
     | some Z'=>match vC P fn fb.f Z' with
      | some v=>fV RD v fun v=>some (v,Z')
      | none=>none
     | none=>none else none
    | none=>none
   | _=>none
  | _=>none
 | none=>none
def zPG (P:Program) (rec:Rec) (prec:zHE) (N:Nat) (f:FuncId) (args:List Value) (Z:St):Option (Value × St) :=
 match P.funcs[f]? with
 | some fn=>match fn.body with
  | some c=>Tm.puts (Tm.args 0 args) (fresh (args.length+(fn.ntmps-args.length))) fun tm=>zWR P rec N fn (yS P rec prec N c ⟨tm,[]⟩ Z)
  | none=>none
 | none=>none
theorem yKS (hP:ProgOk P) (hrec:RecSound P rec) (hp:PSound P prec) {N:Nat} {f:FuncId} {args args':List Value} {v:Value} {Z':St} (h:zPG P rec prec N f args Z=some (v,Z')) (hr:Rep V Z w) (ha:VRs V args args') :
  (∃ fn, P.funcs[f]? = some fn ∧ fn.body.isSome = true ∧ fn.name ≠ "runtime.NumGoroutine") ∧ ∀ n, CallsIn (Fw none) n P f ⟨args'⟩ w (zDJ V Z w v Z') := by
 unfold zPG at h;split at h
 ·rename_i fn hfn;split at h
  ·rename_i c hc;rw [Tm.puts_eq] at h;obtain ⟨hok,hname⟩:=hP.code f fn c hfn hc;refine ⟨⟨fn,hfn,by rw [hc];rfl,hname⟩,fun n=>?_⟩
   unfold zWR at h;split at h
   ·rename_i e fb Z₁ hcode;split at h
    ·rename_i d hds;split at h
     ·rename_i g as href;split at h
      ·rename_i rv hrv;obtain ⟨hrig,h⟩:=yT h;split at h
       ·rename_i Z₂ hcl;split at h
        ·rename_i v0 hres;rw [zGX] at h;simp at h;obtain ⟨rfl,rfl⟩:=h;refine callsIn_wide.2 (calls_of_wp_defers hfn hc (wpIn_wide (n:=0).1 ?_));refine zFV hP.mixed hP.zero hrec hp N c hok _ _ _ _ _ hcode V w _ 0 _ hr (zZA ha fn.ntmps) (fun V' a' w' hg hf=>?_);have hd:=hf.dfs;rw [hds] at hd;have key:∀ u u',u≠.run->xAD u rv u'->settle u'=.returning->Leaves P fn a'.tmps (zDJ V Z w v0 Z₂) a'.defers u w':=by
          intro u u' hu hs hset;generalize a'.defers=ds at hd;cases hd with
          | cons h1 h2 =>
           rename_i d0 ds0;cases h2
           obtain ⟨g',as1,as',cap,k1,k2,k3,k4⟩:=h1;rw [href] at k1;cases k1
           obtain ⟨⟨fg,hfg,hbg,hng⟩,hcall⟩:=yVO hP hrec hcl hrig hg.rep k2 hs;refine ⟨hu,.func g,cap,g,⟨as'⟩,k3, ?_,CallsD.mono hcall fun e1 u1 w1 hR=>?_⟩
           ·rw [k3];have hb:fg.body≠none:=by cases hb:fg.body <;> simp_all
            simp [invoke,callFunc,hfg,hb,hng,k4]
           ·obtain ⟨⟨v1,rfl⟩,rfl,V2,hg2⟩:=hR;show Leaves P fn a'.tmps (zDJ V Z w v0 Z₂) [] (settle u1) w1;rw [hset];obtain ⟨v',q1,q2⟩:=zJO hg2.rep (hf.tms.ext hg2.ext) hres;exact ⟨v',q1,V2,q2,hg.trans hg2⟩
         unfold xTP at hrv;split at hrv
         ·simp at hrv;subst hrv;exact key .returning .returning (by simp) zTS rfl
         ·simp at hrv;subst hrv;exact key .returning .returning (by simp) zTS rfl
         ·simp at hrv;subst hrv;exact key _ _ (by simp) (ySC _) rfl
         ·cases hrv
        ·cases h
       ·cases h
      ·cases h
     ·cases h
    ·cases h
   ·cases h
  ·cases h
 ·cases h
end
end Go.Lay

namespace Go.Lay
open Go
section
variable {P:Program} {rec:Rec} {V:Inj} {Z:St} {w:World}
def zDT (P:Program) (rec:Rec) (N:Nat) (f:FuncId) (args:List Value) (Z:St):Option (Value × St) :=
 match P.funcs[f]? with
 | some fn=>match fn.body with
  | some c=>Tm.puts (Tm.args 0 args) (fresh (args.length+(fn.ntmps-args.length))) fun tm=>xLV P fn (yK P rec N none c ⟨tm,[]⟩ Z)
  | none=>none
 | none=>none
theorem zUQ (hP:ProgOk P) (ih:RecSound P rec) {n:Nat} {f:FuncId} {args args':List Value} {v:Value} {Z':St} (h:zDT P rec n f args Z=some (v,Z')) (hr:Rep V Z w) (ha:VRs V args args') :
  (∃ fn, P.funcs[f]? = some fn ∧ fn.body.isSome = true ∧ fn.name ≠ "runtime.NumGoroutine") ∧ ∀ m, CallsIn (Fw none) m P f ⟨args'⟩ w (zDJ V Z w v Z') := by
 unfold zDT at h;split at h
 ·rename_i fn hfn;split at h
  ·rename_i c hc;rw [Tm.puts_eq] at h;obtain ⟨hok,hname⟩:=hP.code f fn c hfn hc;refine ⟨⟨fn,hfn,by rw [hc];rfl,hname⟩,fun m=>?_⟩
   have fin:∀ (e:Exit) (fr':Fr) (Z₁:St),(e=.normal\/e=.ret)->zHA P fn fr' Z₁=some (v,Z')->∀ V' a' w',Good V Z w V' Z₁ w'->FrR V' fr' a'->bodyPostM (Fw none) m P fn (zDJ V Z w v Z') e a' w':=by
    intro e fr' Z₁ he hd V' a' w' hg hf;have:LeavesInM (Fw none) m P fn a'.tmps (zDJ V Z w v Z') a'.defers .returning w':=by
     unfold zHA at hd;split at hd
     ·rename_i Z₂ hdr;split at hd
      ·rename_i v0 hres;rw [zGX] at hd;simp at hd;obtain ⟨rfl,rfl⟩:=hd;exact zIG fr'.marks a'.defers Z₁ w' Z₂ hdr hf.defs hg.rep hf.tms hres (fun v' w₂ hv hg2=>⟨V',hv,hg.trans hg2⟩)
      ·cases hd
     ·cases hd
    rcases he with rfl | rfl <;> exact this
   refine callsIn_of_wp_marks hfn hc trivial ?_
   have hfr0:FrR V ⟨(Tm.args 0 args).foldl (fun f p=>f.set p.1 p.2) (fresh (args.length+(fn.ntmps-args.length))),[]⟩ { tmps:=(⟨args'⟩:Array Value)++Array.replicate (fn.ntmps-(⟨args'⟩:Array Value).size) undef,defers:=[] } :=
    ⟨yFU ha fn.ntmps,.nil⟩
   unfold xLV at h;split at h
   ·rename_i fr' Z₁ hcode;exact uY hP.mixed hP.zero ih n none c hok _ _ _ _ _ hcode V w _ none m _ hr hfr0 .none (fin _ fr' Z₁ (.inl rfl) h)
   ·rename_i fr' Z₁ hcode;exact uY hP.mixed hP.zero ih n none c hok _ _ _ _ _ hcode V w _ none m _ hr hfr0 .none (fin _ fr' Z₁ (.inr rfl) h)
   ·cases h
  ·cases h
 ·cases h
def zRG (P:Program) (rec:Rec) (n:Nat) (l:Nat) (args:List Value) (Z:St):Option (Value × St) :=
 match yD Z.heap l with
 | some (.loop tm ps as bo _ _ _) =>
  bif Nat.beq args.length ps.length then
   Tm.puts (ps.zip args) tm fun tm=>zLM (yK P rec n (some l) bo) l (yK P rec n (some l) as ⟨tm,[]⟩ Z)
  else none
 | _=>none
theorem yHE (hP:ProgOk P) (ih:RecSound P rec) {n:Nat} {l:Nat} {args args':List Value} {v:Value} {Z':St} {L:Loc} (h:zRG P rec n l args Z=some (v,Z')) (hr:Rep V Z w) (ha:VRs V args args') (hl:V.loc l 0=some L) :
  ∀ m,∃ fn tmps as bo,(Instr.yield L.c ⟨args'⟩).run P w=.ok (.round L.c fn tmps as bo) w/\RoundIn (Fw none) m P L.c fn tmps as bo w (zDJ V Z w v Z'):=by
 intro m;unfold zRG at h;split at h
 ·rename_i tm ps as bo st pend db hb;obtain ⟨hlen,h⟩:=yT h;have hlen:=Nat.eq_of_beq_eq_true hlen;rw [Tm.puts_eq] at h;obtain ⟨L',r,h1,h2,h3,_,h5,h6,h7,h8,oka,okb,_,_⟩:=zGT (st':=st) (pend':=pend) hr hb;rw [hl] at h1;cases h1;have hsz:(⟨args'⟩:Array Value).size=r.params.size:=by rw [h6];simp;rw [<- ha.length];exact hlen
  refine ⟨r.fn,_,r.assign,r.body,run_yield h2 hsz, ?_⟩
  rw [h7,h8];refine roundIn_of_wpIn trivial ?_
  have htm:TmR V ((ps.zip args).foldl (fun f p=>f.set p.1 p.2) tm) ((r.params.zip (⟨args'⟩:Array Value)).foldl (fun tmps (t,a)=>tmps.setIfInBounds t a) r.tmps):=by
   have:=yWZ ps args args' tm r.tmps ha h5;rw [h6,<- Array.foldl_toList,Array.toList_zip];exact this
  unfold zLM at h;split at h
  ·rename_i fr₁ Z₁ hcode;split at h
   ·rename_i tm1 ps1 as1 bo1 pend1 db1 hb1;rw [St.write_eq] at h;refine uY hP.mixed hP.zero ih n (some l) as oka _ _ _ _ _ hcode V w _ (some L.c) m _ hr ⟨htm,.nil⟩ (.some hl) (fun V₁ a₁ w₁ hg1 hf1=>?_);obtain ⟨L1,r1,k1,k2,k3,k4,_,_,_,_,_,_,_,hg2⟩:=zGT (st':=.busy) (pend':=pend1) hg1.rep hb1;have hl1:=hg1.ext.loc _ _ _ hl;rw [hl1] at k1;cases k1;have hw:w₁.putObj L.c (.loop { r1 with state:=.busy })=w₁.putObj L.c (.loop { r1 with state:=.busy,pending:=pend1 }):=by rw [<- k4]
    refine ⟨_,run_beginRound k2 k3, ?_⟩
    rw [hw];have fin:∀ (jump:Option Code) (Z₂:St),zET l jump Z₂=some (v,Z')->∀ V₂ w₂,Good V₁ (Z₁.put l (.loop tm1 ps1 as1 bo1 .busy pend1 db1)) (w₁.putObj L.c (.loop { r1 with state:=.busy,pending:=pend1 })) V₂ Z₂ w₂ ->
      ∃ v' w',(Instr.endRound L.c jump).run P w₂=.ok v' w'/\zDJ V Z w v Z' (.returned v') w':=by
     intro jump Z₂ hend V₂ w₂ hg3
     have hl2:=hg3.ext.loc _ _ _ hl1
     unfold zET at hend
     split at hend
     ·rename_i hb2;cases jump with
      | none =>
       simp only [St.write_eq] at hend;simp at hend;obtain ⟨rfl,rfl⟩:=hend;obtain ⟨L2,r2,q1,q2,_,_,_,_,_,_,_,_,_,hg4⟩:=zGT (st':=.ready) (pend':=none) hg3.rep hb2;rw [hl2] at q1;cases q1;exact ⟨_,_,run_endRound none q2,V₂,.bool true,((hg1.trans hg2).trans hg3).trans hg4⟩
      | some c =>
       simp only [St.write_eq] at hend;simp at hend;obtain ⟨rfl,rfl⟩:=hend;obtain ⟨L2,r2,q1,q2,_,_,_,_,_,_,_,_,_,hg4⟩:=zGT (st':=.done) (pend':=some c) hg3.rep hb2;rw [hl2] at q1;cases q1;exact ⟨_,_,run_endRound (some c) q2,V₂,.bool false,((hg1.trans hg2).trans hg3).trans hg4⟩
     ·cases hend
    unfold zLL at h;split at h
    ·rename_i fr₂ Z₂ hbody;refine uY hP.mixed hP.zero ih n (some l) bo okb _ _ _ _ _ hbody V₁ _ _ (some L.c) m _ hg2.rep hf1 (.some hl1) (fun V₂ a₂ w₂ hg3 _=>?_);exact fin none Z₂ h V₂ w₂ hg3
    ·rename_i fr₂ Z₂ hbody;refine uY hP.mixed hP.zero ih n (some l) bo okb _ _ _ _ _ hbody V₁ _ _ (some L.c) m _ hg2.rep hf1 (.some hl1) (fun V₂ a₂ w₂ hg3 _=>?_);exact fin (some .ret) Z₂ h V₂ w₂ hg3
    ·rename_i id fr₂ Z₂ hbody;refine uY hP.mixed hP.zero ih n (some l) bo okb _ _ _ _ _ hbody V₁ _ _ (some L.c) m _ hg2.rep hf1 (.some hl1) (fun V₂ a₂ w₂ hg3 _=>?_);exact fin (some (.exit id)) Z₂ h V₂ w₂ hg3
    ·cases h
   ·cases h
  ·cases h
 ·cases h
end
end Go.Lay

namespace Go.Lay
open Go
variable {n:Nat} {f:FuncId} {args:List Value} {r:Value × St} {ops:Array Oper} {d:Bool} {fr fr':Fr} {e:Exit} {Z':St}
def xQW (P:Program) (fn:Func):Option (Exit × Fb × St)->Option (Value × St)
 | some (.normal,fb,Z)=>match fb.ds with | []=>zHA P fn ⟨fb.f,[]⟩ Z | _=>none
 | some (.ret,fb,Z)=>match fb.ds with | []=>zHA P fn ⟨fb.f,[]⟩ Z | _=>none
 | _=>none
def zMR (P:Program) (rec:Rec) (prec:zHE) (N:Nat) (f:FuncId) (args:List Value) (Z:St):Option (Value × St) :=
 match P.funcs[f]? with
 | some fn=>match fn.body with
  | some c=>Tm.puts (Tm.args 0 args) (fresh (args.length+(fn.ntmps-args.length))) fun tm=>xQW P fn (yS P rec prec N c ⟨tm,[]⟩ Z)
  | none=>none
 | none=>none
def zDS (P:Program) (rec:Rec) (prec:zHE) (N:Nat) (f:FuncId) (args:List Value) (Z:St):Option (Value × St) :=
 match zDT P rec N f args Z with
 | some r=>some r
 | none=>match zPG P rec prec N f args Z with
  | some r=>some r
  | none=>zMR P rec prec N f args Z
def zBG (P:Program):Nat->Rec × zHE
 | 0=>(fun _ _ _=>none,fun _ _ _=>none)
 | n+1=>(fun r args Z=>match r with
  | .func f=>bif zEX f then zXJ (zBG P n).1 f args Z else zDS P (zBG P n).1 (zBG P n).2 n f args Z
  | .yield l=>zRG P (zBG P n).1 n l args Z,fun f args Z=>bif zEX f then none else zQR P (zBG P n).1 (zBG P n).2 n f args Z)
def zW (P:Program) (n:Nat):Rec:=(zBG P n).1
def zES (P:Program) (n:Nat):zHE:=(zBG P n).2
section
variable {P:Program} {V:Inj} {Z:St} {w:World} {rec:Rec} {prec:zHE}
theorem zLK (ho:zEX f=false):zW P (n+1) (.func f) args Z=zDS P (zW P n) (zES P n) n f args Z:=by
 show (bif zEX f then zXJ (zBG P n).1 f args Z else zDS P (zBG P n).1 (zBG P n).2 n f args Z)=_;rw [ho];rfl
theorem yKO (ho:zEX f=true):zW P (n+1) (.func f) args Z=zXJ (zW P n) f args Z:=by
 show (bif zEX f then zXJ (zBG P n).1 f args Z else zDS P (zBG P n).1 (zBG P n).2 n f args Z)=_;rw [ho];rfl
theorem zWM {l:Nat}:zW P (n+1) (.yield l) args Z=zRG P (zW P n) n l args Z:=rfl
theorem yDK (ho:zEX f=false):zES P (n+1) f args Z=zQR P (zW P n) (zES P n) n f args Z:=by
 show (bif zEX f then none else zQR P (zBG P n).1 (zBG P n).2 n f args Z)=_;rw [ho];rfl
theorem xML (h:zDT P rec n f args Z=some r):zDS P rec prec n f args Z=some r:=by unfold zDS;rw [h]
theorem xPC (ho:zEX f=false) (h:zDT P (zW P n) n f args Z=some r):zW P (n+1) (.func f) args Z=some r:=by rw [zLK ho];exact xML h
theorem yPU (hP:ProgOk P) (hrec:RecSound P rec) (hp:PSound P prec) {n:Nat} {f:FuncId} {args args':List Value} {v:Value} {Z':St} (h:zMR P rec prec n f args Z=some (v,Z')) (hr:Rep V Z w) (ha:VRs V args args') :
  (∃ fn, P.funcs[f]? = some fn ∧ fn.body.isSome = true ∧ fn.name ≠ "runtime.NumGoroutine") ∧ ∀ m, CallsIn (Fw none) m P f ⟨args'⟩ w (zDJ V Z w v Z') := by
 unfold zMR at h;split at h;rotate_left
 ·cases h
 rename_i fn hfn;split at h;rotate_left
 ·cases h
 rename_i c hc;rw [Tm.puts_eq] at h;obtain ⟨hok,hname⟩:=hP.code f fn c hfn hc;refine ⟨⟨fn,hfn,by rw [hc];rfl,hname⟩,fun m=>?_⟩
 have fin:∀ (e:Exit) (fb:Fb) (Z₁:St),(e=.normal\/e=.ret)->fb.ds=[]->zHA P fn ⟨fb.f,[]⟩ Z₁=some (v,Z')->∀ V' a' w',Good V Z w V' Z₁ w'->FbR V' fb a'->bodyPostM (Fw none) m P fn (zDJ V Z w v Z') e a' w':=by
  intro e fb Z₁ he hds hd V' a' w' hg hf;have hdf:=hf.dfs;rw [hds] at hdf;have:LeavesInM (Fw none) m P fn a'.tmps (zDJ V Z w v Z') a'.defers .returning w':=by
   generalize a'.defers=dd at hdf;cases hdf
   unfold zHA at hd;split at hd
   ·rename_i Z₂ hdr;split at hd
    ·rename_i v0 hres;rw [zGX] at hd;simp at hd;obtain ⟨rfl,rfl⟩:=hd;exact zIG [] [] Z₁ w' Z₂ hdr .nil hg.rep hf.tms hres (fun v' w₂ hv hg2=>⟨V',hv,hg.trans hg2⟩)
    ·cases hd
   ·cases hd
  rcases he with rfl | rfl <;> exact this
 refine callsIn_of_wp_marks hfn hc trivial ?_
 unfold xQW at h;split at h
 ·rename_i fb Z₁ hcode;split at h
  ·rename_i hds;exact zFV hP.mixed hP.zero hrec hp n c hok _ _ _ _ _ hcode V w _ m _ hr (zZA ha fn.ntmps) (fin _ fb Z₁ (.inl rfl) hds h)
  ·cases h
 ·rename_i fb Z₁ hcode;split at h
  ·rename_i hds;exact zFV hP.mixed hP.zero hrec hp n c hok _ _ _ _ _ hcode V w _ m _ hr (zZA ha fn.ntmps) (fin _ fb Z₁ (.inr rfl) hds h)
  ·cases h
 ·cases h
theorem zKT (hP:ProgOk P) (hrec:RecSound P rec) (hp:PSound P prec) {n:Nat} {f:FuncId} {args args':List Value} {v:Value} {Z':St} (h:zDS P rec prec n f args Z=some (v,Z')) (hr:Rep V Z w) (ha:VRs V args args') :
  (∃ fn, P.funcs[f]? = some fn ∧ fn.body.isSome = true ∧ fn.name ≠ "runtime.NumGoroutine") ∧ ∀ m, CallsIn (Fw none) m P f ⟨args'⟩ w (zDJ V Z w v Z') := by
 unfold zDS at h;split at h
 ·rename_i hb;cases h;exact zUQ hP hrec hb hr ha
 ·split at h
  ·rename_i hb;cases h;exact yKS hP hrec hp hb hr ha
  ·exact yPU hP hrec hp h hr ha
theorem zNB (hP:ProgOk P):∀ n,RecSound P (zBG P n).1/\PSound P (zBG P n).2
 | 0=>⟨⟨fun f args Z v Z' h=>by simp [zBG] at h,fun l args Z v Z' h=>by simp [zBG] at h⟩,⟨fun f args Z x Z' h=>by simp [zBG] at h⟩⟩
 | n+1=>by
  obtain ⟨ih1,ih2⟩:=zNB hP n;exact ⟨⟨fun f args Z v Z' h V w args' hr ha=>by
   cases ho:zEX f with
   | true =>
    have h:(bif zEX f then zXJ (zBG P n).1 f args Z else zDS P (zBG P n).1 (zBG P n).2 n f args Z)=some (v,Z'):=h;rw [ho,cond_true] at h;exact yTH hP.orc ih1 h hr ha
   | false =>
    have h:(bif zEX f then zXJ (zBG P n).1 f args Z else zDS P (zBG P n).1 (zBG P n).2 n f args Z)=some (v,Z'):=h;rw [ho,cond_false] at h;exact zKT hP ih1 ih2 (n:=n) h hr ha,fun l args Z v Z' h V w args' L hr ha hl=>yHE hP ih1 (n:=n) h hr ha hl⟩,⟨fun f args Z x Z' h=>(yPT hP ih1 ih2 n).func f args Z x Z' (by
   have h:(bif zEX f then none else zQR P (zBG P n).1 (zBG P n).2 n f args Z)=some (x,Z'):=h;cases ho:zEX f with
   | true=>rw [ho] at h;cases h
   | false=>rw [ho] at h;exact h)⟩⟩
theorem zNC (hP:ProgOk P) (n:Nat):RecSound P (zW P n):=(zNB hP n).1
theorem zWL (hP:ProgOk P) (n:Nat):PSound P (zES P n):=(zNB hP n).2
theorem yID {ops:Array Oper} {ds:List Value}:∀ (rest:List Oper) {f t:Tm} {Z U:St},zAX P rec ops rest f Z=some (t,U)->zHZ P rec prec ops rest ⟨f,ds⟩ Z=some (none,⟨t,ds⟩,U)
 | [],f,t,Z,U,h=>by simp [zAX] at h;obtain ⟨rfl,rfl⟩:=h;rfl
 | o::rest,f,t,Z,U,h=>by
  unfold zAX at h;unfold zHZ;split at h
  ·rename_i hg;simp only [hg];split at h
   ·rename_i v Z' ho;simp only [ho,xH] at h ⊢;exact yID rest h
   ·cases h
  ·rename_i hg;simp only [hg,xH] at h ⊢;exact yID rest h
  ·cases h
theorem yDT {ds:List Value} (h:zBT P rec ops d fr Z=some (e,fr',Z')):zFQ P rec prec ops d ⟨fr.f,ds⟩ Z=some (e,⟨fr'.f,ds⟩,Z'):=by
 unfold zBT at h;unfold zFQ;split at h;rotate_left
 ·cases h
 rename_i f₁ Z₁ h1;simp at h;obtain ⟨rfl,rfl,rfl⟩:=h;cases d with
 | true=>simp only at h1 ⊢;rw [h1]
 | false=>simp only at h1 ⊢;rw [yID _ h1];rfl
theorem yHR (h:zBT P rec ops d fr Z=some (e,fr',Z')):fr'.marks=fr.marks:=by
 unfold zBT at h;split at h
 ·simp at h;obtain ⟨rfl,rfl,rfl⟩:=h;rfl
 ·cases h
theorem zNX (fuel:Nat) (ds:List Value):∀ (c:Code) (fr:Fr) (Z:St) (e:Exit) (fr':Fr) (Z':St),yK P rec fuel none c fr Z=some (e,fr',Z') ->
  yS P rec prec fuel c ⟨fr.f,ds⟩ Z=none\/(yS P rec prec fuel c ⟨fr.f,ds⟩ Z=some (e,⟨fr'.f,ds⟩,Z')/\fr'.marks=fr.marks):=by
 intro c;induction c with
 | skip=>intro fr Z e fr' Z' h;simp [yK] at h;obtain ⟨rfl,rfl,rfl⟩:=h;exact .inr ⟨rfl,rfl⟩
 | label _=>intro fr Z e fr' Z' h;simp [yK] at h;obtain ⟨rfl,rfl,rfl⟩:=h;exact .inr ⟨rfl,rfl⟩
 | ret=>intro fr Z e fr' Z' h;simp [yK] at h;obtain ⟨rfl,rfl,rfl⟩:=h;exact .inr ⟨rfl,rfl⟩
 | exit _=>intro fr Z e fr' Z' h;simp [yK] at h;obtain ⟨rfl,rfl,rfl⟩:=h;exact .inr ⟨rfl,rfl⟩
 | goto _=>intro fr Z e fr' Z' h;simp [yK] at h
 | refuse _=>intro fr Z e fr' Z' h;simp [yK] at h
 | rangeFunc _ _ _ _ _ _=>intro fr Z e fr' Z' h;exact .inl rfl
 | seq x y ihx ihy =>
  intro fr Z e fr' Z' h;simp only [yK,xAT] at h;simp only [yS,yKM];split at h
  ·rename_i fr₁ Z₁ h1;rcases ihx _ _ _ _ _ h1 with g | ⟨g,gm⟩
   ·rw [g];exact .inl rfl
   ·rw [g,<- gm];exact ihy _ _ _ _ _ h
  ·rename_i hno;rcases ihx _ _ _ _ _ h with g | ⟨g,gm⟩
   ·rw [g];exact .inl rfl
   ·rw [g];cases e with
    | normal=>exact absurd h (hno _ _)
    | _=>exact .inr ⟨rfl,gm⟩
 | cond c x y ihx ihy =>
  intro fr Z e fr' Z' h;simp only [yK,yGC] at h;simp only [yS,yGB];split at h
  ·rename_i t ht;simp only [ht];cases t with
   | true=>exact ihx _ _ _ _ _ h
   | false=>exact ihy _ _ _ _ _ h
  ·cases h
 | block id c ih =>
  intro fr Z e fr' Z' h;simp only [yK,zOF] at h;simp only [yS,zOE];split at h
  ·rename_i i fr₁ Z₁ h1;rcases ih _ _ _ _ _ h1 with g | ⟨g,gm⟩
   ·rw [g];exact .inl rfl
   ·rw [g];right;cases hi:Nat.beq i id with
    | true=>rw [hi] at h;simp at h;obtain ⟨rfl,rfl,rfl⟩:=h;exact ⟨by simp only [hi];rfl,gm⟩
    | false=>rw [hi] at h;simp at h;obtain ⟨rfl,rfl,rfl⟩:=h;exact ⟨by simp only [hi];rfl,gm⟩
  ·rename_i hno;rcases ih _ _ _ _ _ h with g | ⟨g,gm⟩
   ·rw [g];exact .inl rfl
   ·rw [g];cases e with
    | exit i=>exact absurd h (hno _ _ _)
    | _=>exact .inr ⟨rfl,gm⟩
 | scope c ih=>intro fr Z e fr' Z' h;exact ih _ _ _ _ _ h
 | loop c ih =>
  intro fr Z e fr' Z' h;simp only [yK] at h;simp only [yS];have key:∀ m fr Z,zCC (yK P rec fuel none c) m fr Z=some (e,fr',Z')->zFT (yS P rec prec fuel c) m ⟨fr.f,ds⟩ Z=none\/(zFT (yS P rec prec fuel c) m ⟨fr.f,ds⟩ Z=some (e,⟨fr'.f,ds⟩,Z')/\fr'.marks=fr.marks):=by
   intro m;induction m with
   | zero=>intro fr Z h;simp [zCC] at h
   | succ m ihm =>
    intro fr Z h;simp only [zCC] at h;simp only [zFT];split at h
    ·rename_i fr₁ Z₁ h1;rcases ih _ _ _ _ _ h1 with g | ⟨g,gm⟩
     ·rw [g];exact .inl rfl
     ·rw [g,<- gm];exact ihm _ _ h
    ·rename_i hno;rcases ih _ _ _ _ _ h with g | ⟨g,gm⟩
     ·rw [g];exact .inl rfl
     ·rw [g];cases e with
      | normal=>exact absurd h (hno _ _)
      | _=>exact .inr ⟨rfl,gm⟩
  exact key _ _ _ h
 | region id ops d=>intro fr Z e fr' Z' h;exact .inr ⟨yDT h,yHR h⟩
theorem xHK {N:Nat} {x:Value} (h:zES P N f args Z=some (x,Z')):zW P N (.func f) args Z=none:=by
 cases N with
 | zero=>rfl
 | succ n =>
  have ho:zEX f=false:=by
   cases ho:zEX f with
   | false=>rfl
   | true =>
    have h:(bif zEX f then none else zQR P (zBG P n).1 (zBG P n).2 n f args Z)=some (x,Z'):=h;rw [ho] at h;cases h
  rw [yDK ho] at h;rw [zLK ho];unfold zQR at h;split at h;rotate_left
  ·cases h
  rename_i fn hfn;split at h;rotate_left
  ·cases h
  rename_i c hc;rw [Tm.puts_eq] at h;obtain ⟨fb,hcode,hds⟩:=yFX h;have h1:zDT P (zW P n) n f args Z=none:=by
   unfold zDT;simp only [hfn,hc,Tm.puts_eq];cases hA:yK P (zW P n) n none c ⟨(Tm.args 0 args).foldl (fun f p=>f.set p.1 p.2) (fresh (args.length+(fn.ntmps-args.length))),[]⟩ Z with
   | none=>rfl
   | some r =>
    obtain ⟨e,fr',U⟩:=r;rcases zNX (prec:=zES P n) n [] c _ _ _ _ _ hA with g | ⟨g,_⟩
    ·rw [g] at hcode;cases hcode
    ·rw [g] at hcode;simp at hcode;rw [hcode.1];rfl
  have h2:zPG P (zW P n) (zES P n) n f args Z=none:=by
   unfold zPG;simp only [hfn,hc,Tm.puts_eq,hcode,zWR,hds]
  have h3:zMR P (zW P n) (zES P n) n f args Z=none:=by
   unfold zMR;simp only [hfn,hc,Tm.puts_eq,hcode,xQW,zKG]
  unfold zDS;rw [h1,h2,h3]
theorem xEL (h:zMR P rec prec n f args Z=some r):zDS P rec prec n f args Z=some r:=by
 unfold zMR at h;split at h;rotate_left
 ·cases h
 rename_i fn hfn;split at h;rotate_left
 ·cases h
 rename_i c hc;rw [Tm.puts_eq] at h;have key:∃ e fb Z₁,yS P rec prec n c ⟨(Tm.args 0 args).foldl (fun f p=>f.set p.1 p.2) (fresh (args.length+(fn.ntmps-args.length))),[]⟩ Z=some (e,fb,Z₁)/\(e=.normal\/e=.ret)/\fb.ds=[]/\zHA P fn ⟨fb.f,[]⟩ Z₁=some r:=by
  unfold xQW at h;split at h
  ·rename_i fb Z₁ hcode;split at h
   ·rename_i hds;exact ⟨_,fb,Z₁,hcode,.inl rfl,hds,h⟩
   ·cases h
  ·rename_i fb Z₁ hcode;split at h
   ·rename_i hds;exact ⟨_,fb,Z₁,hcode,.inr rfl,hds,h⟩
   ·cases h
  ·cases h
 obtain ⟨e,fb,Z₁,hcode,he,hds,hd⟩:=key;have h3:zMR P rec prec n f args Z=some r:=by
  unfold zMR;simp only [hfn,hc,Tm.puts_eq];exact h
 have h2:zPG P rec prec n f args Z=none:=by
  unfold zPG;simp only [hfn,hc,Tm.puts_eq,hcode,zWR,hds]
 unfold zDS;cases hF:zDT P rec n f args Z with
 | none=>simp only [h2,h3]
 | some r' =>
  simp only;unfold zDT at hF;simp only [hfn,hc,Tm.puts_eq] at hF;cases hA:yK P rec n none c ⟨(Tm.args 0 args).foldl (fun f p=>f.set p.1 p.2) (fresh (args.length+(fn.ntmps-args.length))),[]⟩ Z with
  | none=>rw [hA] at hF;cases hF
  | some q =>
   obtain ⟨e',fr',U⟩:=q;rcases zNX (prec:=prec) n [] c _ _ _ _ _ hA with g | ⟨g,gm⟩
   ·rw [g] at hcode;cases hcode
   ·rw [g] at hcode;simp at hcode;obtain ⟨rfl,rfl,rfl⟩:=hcode;rw [hA] at hF;obtain ⟨ff,mm⟩:=fr';simp at gm;subst gm;rcases he with rfl | rfl
    ·rw [show xLV P fn (some (.normal,⟨ff,[]⟩,U))=zHA P fn ⟨ff,[]⟩ U from rfl,hd] at hF;exact hF.symm
    ·rw [show xLV P fn (some (.ret,⟨ff,[]⟩,U))=zHA P fn ⟨ff,[]⟩ U from rfl,hd] at hF;exact hF.symm
end
end Go.Lay

namespace Go.Lay
open Go

def xOM (P:Program):Bool:=P.types.toList.all fun i=>match i.zero with | some z=>zQ RD z | none=>true
def xLE (fn : Func) : Bool := match fn.body with | some c => wE c && !(fn.name == "runtime.NumGoroutine") | none => true
def xQM (P:Program):Bool:=P.funcs.toList.all xLE
theorem progOk_of {P:Program} (h1:P.follows .mixedOrders=true) (h2:xOM P=true) (h3:xQM P=true) (h4:OrcOk P):ProgOk P:=by
 refine ⟨h1,fun t z hz=>?_,h4,fun f fn c hf hc=>?_⟩
 ·unfold uQ at hz;cases hi:P.types[t]? with
  | none=>rw [hi] at hz;simp at hz
  | some i =>
   rw [hi] at hz;simp at hz;have hm:i∈P.types.toList:=List.mem_of_getElem? (by simpa using hi);have:=List.all_eq_true.1 h2 i hm;rw [hz] at this;exact this
 ·have hm:fn∈P.funcs.toList:=List.mem_of_getElem? (by simpa using hf);have:=List.all_eq_true.1 h3 fn hm;unfold xLE at this;rw [hc] at this;simp only [Bool.and_eq_true,Bool.not_eq_true'] at this;exact ⟨this.1,by simpa using this.2⟩

def yYT:Inj:={ loc:=fun _ _=>none,own:=fun _=>none,csz:=fun _=>0 }
def xJE:St:=⟨.leaf,0,0⟩
theorem xTT (w:World):Rep yYT xJE w :=
 ⟨fun b y h=>by simp [xJE,yD,Tr.getP_leaf] at h,fun _ _ _ h=>by simp [yYT] at h,fun _ _ h=>by simp [yYT] at h,fun _ _ _=>rfl⟩

structure GrownO (w w':World):Prop where
 same:∀ c,c<w.heap.size->w'.heap[c]?=w.heap[c]?
 os:w'.os=w.os
 output:w'.output=w.output
 size:w.heap.size<=w'.heap.size
theorem xKY {V V':Inj} {Z Z':St} {w w':World} (h:Good V Z w V' Z' w') (ho:∀ c,V.own c=none):GrownO w w' :=
 ⟨fun c hc=>h.pres.same c hc (fun b hb=>by rw [ho c] at hb;cases hb),h.pres.os,h.pres.output,h.pres.size⟩

def okB:Option (Value × St)->Bool
 | some (.bool b,_)=>b
 | _=>false
theorem xIW {r:Option (Value × St)} (h:okB r=true):∃ Z',r=some (.bool true,Z'):=by
 unfold okB at h;split at h
 ·rename_i b Z';exact ⟨Z',by rw [h]⟩
 ·cases h

end Go.Lay

namespace Go.Lay
open Go

section
variable {P:Program} {rec:Rec} {V:Inj} {Z:St} {w:World}
def xON {α:Type} (eq:α->α->Bool):Tr α->Tr α->Bool
 | .leaf,.leaf=>true
 | .node (some a) l m,.node (some b) l' m'=>eq a b && xON eq l l' && xON eq m m'
 | .node none l m,.node none l' m'=>xON eq l l' && xON eq m m'
 | _,_=>false
def yEX:List (Nat × Nat)->List (Nat × Nat)->Bool
 | [],[]=>true
 | (a,b)::l,(a',b')::l'=>Nat.beq a a' && Nat.beq b b' && yEX l l'
 | _,_=>false
theorem xJO:∀ (l l':List (Nat × Nat)),yEX l l'=true->l=l':=by
 intro l;induction l with
 | nil=>intro l' h;cases l' <;> simp_all [yEX]
 | cons x l ih =>
  intro l' h;cases l' with
  | nil=>simp [yEX] at h
  | cons y l'=>simp only [yEX,Bool.and_eq_true,Nat.beq_eq] at h;rw [ih _ h.2];obtain ⟨⟨h1,h2⟩,_⟩:=h;cases x;cases y;simp_all
def yJZ:List Value->List Value->Bool
 | [],[]=>true
 | a::l,b::l'=>veq RD a b && yJZ l l'
 | _,_=>false
theorem yXD:∀ (l l':List Value),yJZ l l'=true->l=l':=by
 intro l;induction l with
 | nil=>intro l' h;cases l' <;> simp_all [yJZ]
 | cons x l ih =>
  intro l' h;cases l' with
  | nil=>simp [yJZ] at h
  | cons y l'=>simp only [yJZ,Bool.and_eq_true] at h;rw [zVV _ _ _ h.1,ih _ h.2]
def yEW:List (Value × Value)->List (Value × Value)->Bool
 | [],[]=>true
 | (a,b)::l,(a',b')::l'=>veq RD a a' && veq RD b b' && yEW l l'
 | _,_=>false
theorem xJL:∀ (l l':List (Value × Value)),yEW l l'=true->l=l':=by
 intro l;induction l with
 | nil=>intro l' h;cases l' <;> simp_all [yEW]
 | cons x l ih =>
  intro l' h;cases l' with
  | nil=>simp [yEW] at h
  | cons y l' =>
   cases x;cases y
   simp only [yEW,Bool.and_eq_true] at h;rw [zVV _ _ _ h.1.1,zVV _ _ _ h.1.2,ih _ h.2]
def xMM:Blk->Blk->Bool
 | .cells c e l n ro,.cells c' e' l' n' ro'=>yJZ c c' && Nat.beq e e' && yEX l l' && Nat.beq n n' && (ro == ro')
 | .map m,.map m'=>yEW m m'
 | .defd,.defd=>true
 | _,_=>false
theorem yPV (a b:Blk) (h:xMM a b=true):a=b:=by
 cases a <;> cases b <;> simp only [xMM,Bool.and_eq_true,Bool.false_eq_true,Nat.beq_eq,beq_iff_eq] at h
 ·obtain ⟨⟨⟨⟨h1,h2⟩,h3⟩,h4⟩,h5⟩:=h;rw [yXD _ _ h1,xJO _ _ h3];simp_all
 ·rw [xJL _ _ h]
 ·rfl
def zUX {α:Type} (eq:α->α->Bool):Tr α->Tr α->Bool
 | _,.leaf=>true
 | .node (some a) l m,.node (some b) l' m'=>eq a b && zUX eq l l' && zUX eq m m'
 | .node _ l m,.node none l' m'=>zUX eq l l' && zUX eq m m'
 | _,_=>false
theorem yKA {α:Type} {eq:α->α->Bool} (he:∀ a b,eq a b=true->a=b):∀ (t t':Tr α),zUX eq t t'=true->∀ p y,Tr.getP p t'=some y->Tr.getP p t=some y:=by
 intro t t';induction t' generalizing t with
 | leaf=>intro _ p y h;cases p <;> simp [Tr.getP] at h
 | node v' l' m' ihl ihm =>
  intro h p y hy;cases t with
  | leaf=>cases v' <;> simp [zUX] at h
  | node v l m =>
   have hs:(∀ b,v'=some b->v=some b)/\zUX eq l l'=true/\zUX eq m m'=true:=by
    cases v' with
    | none=>cases v <;> (simp only [zUX,Bool.and_eq_true] at h;exact ⟨fun _ hb=>(by cases hb),h.1,h.2⟩)
    | some b =>
     cases v with
     | none=>simp [zUX] at h
     | some a =>
      simp only [zUX,Bool.and_eq_true] at h;exact ⟨fun _ hb=>(by cases hb;rw [he _ _ h.1.1]),h.1.2,h.2⟩
   cases p with
   | nil=>simp only [Tr.getP] at hy ⊢;exact hs.1 _ hy
   | cons b p =>
    simp only [Tr.getP] at hy ⊢;cases b with
    | true=>exact ihm _ hs.2.2 _ _ hy
    | false=>exact ihl _ hs.2.1 _ _ hy
def zMG (Z U:St):Bool:=Nat.beq Z.y U.y && Nat.beq Z.low U.low && zUX xMM Z.heap U.heap
theorem Good.sub {V V':Inj} {Z U U':St} {w w':World} (h:Good V Z w V' U w') (hs:zMG U U'=true):Good V Z w V' U' w':=by
 simp only [zMG,Bool.and_eq_true,Nat.beq_eq] at hs;obtain ⟨⟨h1,h2⟩,h3⟩:=hs;refine ⟨h1 ▸ h.ext,⟨fun b y hb=>?_,fun b s L hl=>h.rep.lt b s L hl,fun c b hb=>?_,fun b s hb=>?_⟩,h2 ▸ h.pres,h2 ▸ h.low,h1 ▸ h.y⟩
 ·have:=h.rep.blk b y (yKA yPV _ _ h3 _ _ hb);exact ⟨h1 ▸ this.1,this.2⟩
 ·have:=h.rep.ownlt c b hb;exact ⟨this.1,h1 ▸ this.2⟩
 ·exact h.rep.fresh b s (h1 ▸ hb)

structure Ent where
 keep:Bool
 f:Nat
 args:List Value
 Z:St
 v:Value
 Z':St
def ins:Tr Blk->List (Nat × Blk)->Tr Blk
 | t,[]=>t
 | t,(i,y)::l=>Tr.setP (way i) t (some y) fun t=>ins t l
def Ent.out (e:Ent) (Z:St):St:=bif e.keep then Z else e.Z'
def yNL:List Ent->Nat->List Value->St->Option (Value × St)
 | [],_,_,_=>none
 | e::l,f,args,Z=>bif Nat.beq e.f f && Nat.beq e.Z.y Z.y && yJZ e.args args && zMG Z e.Z then some (e.v,e.out Z) else yNL l f args Z
def yYX (l:List Ent) (rec:Rec):Rec:=fun r args Z =>
 match r with
 | .func f=>match yNL l f args Z with
  | some x=>some x
  | none=>rec (.func f) args Z
 | .yield y=>rec (.yield y) args Z
theorem yVD:∀ {l:List Ent} {f args Z x},yNL l f args Z=some x->∃ e∈l,e.f=f/\e.args=args/\zMG Z e.Z=true/\x=(e.v,e.out Z):=by
 intro l;induction l with
 | nil=>intro f args Z x h;cases h
 | cons e l ih =>
  intro f args Z x h;unfold yNL at h;cases hb:(Nat.beq e.f f && Nat.beq e.Z.y Z.y && yJZ e.args args && zMG Z e.Z) with
  | true =>
   rw [hb] at h;simp only [Bool.and_eq_true,Nat.beq_eq] at hb;simp only [cond_true,Option.some.injEq] at h;exact ⟨e,List.mem_cons_self,hb.1.1.1,yXD _ _ hb.1.2,hb.2,h.symm⟩
  | false =>
   rw [hb] at h;obtain ⟨e',he,hx⟩:=ih h;exact ⟨e',List.mem_cons_of_mem _ he,hx⟩
theorem Rep.sub {Z Zs:St} {w:World} (h:Rep V Z w) (hs:zMG Z Zs=true):Rep V Zs w:=by
 simp only [zMG,Bool.and_eq_true,Nat.beq_eq] at hs;obtain ⟨⟨h1,_⟩,h3⟩:=hs;refine ⟨fun b y hb=>?_,h.lt,fun c b hb=>?_,fun b s hb=>h.fresh b s (h1 ▸ hb)⟩
 ·have:=h.blk b y (yKA yPV _ _ h3 _ _ hb);exact ⟨h1 ▸ this.1,this.2⟩
 ·have:=h.ownlt c b hb;exact ⟨this.1,h1 ▸ this.2⟩
def yBT (P:Program) (e:Ent):Prop:=∀ (V:Inj) (Z:St) (w:World) (args':List Value),zMG Z e.Z=true->Rep V Z w->VRs V e.args args' ->
  (∃ fn, P.funcs[e.f]? = some fn ∧ fn.body.isSome = true ∧ fn.name ≠ "runtime.NumGoroutine") ∧ ∀ n, CallsIn (Fw none) n P e.f ⟨args'⟩ w (zDJ V Z w e.v (e.out Z))
def zOH (P:Program) (l:List Ent):Prop:=∀ e∈l,yBT P e
theorem yHH:zOH P []:=fun _ h=>by cases h
theorem yKC {e:Ent} {l:List Ent} (h:yBT P e) (hl:zOH P l):zOH P (e::l):=fun x hx=>by
 rcases List.mem_cons.1 hx with rfl | hx
 ·exact h
 ·exact hl _ hx
theorem zXQ (hP:ProgOk P) {l:List Ent} (h:zOH P l) (N:Nat):RecSound P (yYX l (zW P N)):=by
 refine ⟨fun f args Z v Z' hx V w args' hr ha=>?_,fun y args Z v Z' hx=>(zNC hP N).yield y args Z v Z' hx⟩
 simp only [yYX] at hx;cases hf:yNL l f args Z with
 | some y =>
  rw [hf] at hx;obtain ⟨e,he,rfl,rfl,hs,rfl⟩:=yVD hf;cases hx
  exact h e he V Z w args' hs hr ha
 | none=>rw [hf] at hx;exact (zNC hP N).func f args Z v Z' hx V w args' hr ha

def xSV (e:Ent):Option (Value × St)->Bool
 | some (v,U)=>veq RD v e.v && zMG U e.Z' && !e.keep
 | none=>false
theorem yNR (hP:ProgOk P) {l:List Ent} (hl:zOH P l) (N:Nat) {e:Ent} (h:xSV e (zDS P (yYX l (zW P N)) (zES P N) N e.f e.args e.Z)=true):yBT P e:=by
 intro V Z w args' hs hr ha;unfold xSV at h;split at h
 ·rename_i v U hb;simp only [Bool.and_eq_true,Bool.not_eq_true'] at h;obtain ⟨h1,h2⟩:=zKT hP (zXQ hP hl N) (zWL hP N) hb (hr.sub hs) ha;refine ⟨h1,fun n=>CallsIn.mono (h2 n) (fun e' w' hR=>?_)⟩
  cases e' with
  | returned v' =>
   obtain ⟨V',hv,hg⟩:=hR;have hg:=hg.sub h.1.2;simp only [zMG,Bool.and_eq_true,Nat.beq_eq] at hs;refine ⟨V',zVV _ _ _ h.1.1 ▸ hv, ?_⟩
   simp only [Ent.out,h.2,cond_false];exact ⟨hg.ext,hg.rep,hg.pres,hs.1.2 ▸ hg.low,hs.1.1 ▸ hg.y⟩
  | panicked _=>exact hR.elim
  | outgrown=>exact hR.elim
 ·cases h
end
end Go.Lay
