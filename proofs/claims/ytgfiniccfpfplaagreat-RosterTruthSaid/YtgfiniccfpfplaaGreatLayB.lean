
import Derived.RangeFuncLeaves
import Derived.RangeFuncRecord
import Derived.RowKit3
import Derived.Test.YtgfiniccfpfplaaGreatLayA
set_option linter.unusedVariables false
set_option linter.unusedSimpArgs false
namespace Go.Lay
open Go
variable {rd rd':Option Nat} {n:Nat} {P:Program} {f:FuncId} {w w':World} {R:Ending->World->Prop} {v v' v₀:Value} {Z₁ Z':St} {a:Act} {o:Oper} {next:Act->World->Prop} {Q:Exit->Act->World->Prop} {nx:Next} {α:Type} {c:Bool} {x:Option α} {z:α}

def Fw (rd:Option Nat):Fence:={ Fence.wide with round:=rd }
theorem yJC (rd:Option Nat) (f:FuncId):(Fw rd).fn f:=trivial
theorem zRX (rd:Option Nat):(Fw rd).depth.isSome=true->∀ n:Nat,1<=n:=fun h=>by simp [Fw,Fence.wide] at h
theorem xAD {args:Array Value} (h:CallsIn (Fw rd) n P f args w R):CallsIn (Fw rd') n P f args w R:=h
theorem yVF {l:Nat} {t:Array Value} {as bo:Code} (h:RoundIn (Fw rd) n P l f t as bo w R):RoundIn (Fw rd') n P l f t as bo w R:=h

def zLL (U:Inj) (Z:St) (w:World) (v:Value) (Z':St):Ending->World->Prop
 | .returned v',w'=>∃ U',VR U' v v'/\Good U Z w U' Z' w'
 | _,_=>False

structure RecSound (P:Program) (rec:Rec):Prop where
 func:∀ f args Z v Z',rec (.func f) args Z=some (v,Z')->∀ (U:Inj) (w:World) (args':List Value),Rep U Z w->VRs U args args' ->
  (∃ fn, P.funcs[f]? = some fn ∧ fn.body.isSome = true ∧ fn.name ≠ "runtime.NumGoroutine") ∧ ∀ n, CallsIn (Fw none) n P f ⟨args'⟩ w (zLL U Z w v Z')
 yield:∀ l args Z v Z',rec (.yield l) args Z=some (v,Z')->∀ (U:Inj) (w:World) (args':List Value) (L:Loc),Rep U Z w->VRs U args args'->U.loc l 0=some L ->
  ∀ n,∃ fn tmps as bo,(Instr.yield L.c ⟨args'⟩).run P w=.ok (.round L.c fn tmps as bo) w/\RoundIn (Fw none) n P L.c fn tmps as bo w (zLL U Z w v Z')

section
variable {P:Program} {U:Inj} {Z:St} {w:World} {rec:Rec}

theorem Rep.relow (h:Rep U Z w) (l:Nat):Rep U ⟨Z.heap,Z.y,l⟩ w:=⟨h.blk,h.lt,h.ownlt,h.fresh⟩

theorem xAZ {U':Inj} (h:uA Z v Z₁=some (v₀,Z')) (hr:Rep U Z w) (hv:VR U' v v') (hg:Good U ⟨Z.heap,Z.y,Z.y⟩ w U' Z₁ w') :
  v₀=v/\∃ U'',VR U'' v v'/\Good U Z w U'' Z' w':=by
 unfold uA at h;cases hc:Nat.ble Z.y Z₁.low && zW RD v with
 | true =>
  rw [hc,cond_true] at h;simp only [Bool.and_eq_true] at hc;have hlow:=(zX _ _).1 hc.1;simp at h;obtain ⟨rfl,rfl⟩:=h;have he:=hv.rigid _ hc.2;subst he;have hsame:∀ c,c<w.heap.size->(∀ b,U.own c=some b->b<Z.y)->w'.heap[c]?=w.heap[c]?:=fun c hcs ho =>
   hg.pres.same c hcs (fun b hb=>Nat.lt_of_lt_of_le (ho b hb) hlow)
  refine ⟨rfl,U,.refl_rigid _ hc.2,Ext.refl _ _ _,⟨fun b y hb=>⟨(hr.blk b y hb).1,(hr.blk b y hb).2.keep (Ext.refl U w.heap.size 0) hr.lt (fun c hcs ho=>?_) (fun cs esz log next ro hy s hs'=>?_)⟩,fun b s L hl=>?_,fun c b hb=>?_,hr.fresh⟩,
   ⟨hg.pres.size,fun c hcs ho=>hsame c hcs (fun b hb=>(hr.ownlt c b hb).2),hg.pres.tape,hg.pres.os,hg.pres.output,hg.pres.fr⟩,Nat.le_refl _,Nat.le_refl _⟩
  ·refine hsame c hcs (fun b' hb'=>?_);rcases ho with ho | ho
   ·exact (hr.ownlt c b' hb').2
   ·rw [ho] at hb';cases hb'
  ·have:=(hr.blk b y hb).2;subst hy;cases this with | cells _ _ _ fresh=>exact fresh s hs'
  ·exact Nat.lt_of_lt_of_le (hr.lt b s L hl) hg.pres.size
  ·exact ⟨Nat.lt_of_lt_of_le (hr.ownlt c b hb).1 hg.pres.size,(hr.ownlt c b hb).2⟩
 | false =>
  rw [hc,cond_false] at h;cases hn:Nat.ble Z.y Z₁.y with
  | false=>rw [hn,cond_false] at h;cases h
  | true =>
   rw [hn,cond_true,wI,zAB] at h;have hn:=(zX _ _).1 hn;simp at h;obtain ⟨rfl,rfl⟩:=h;refine ⟨rfl,U',hv,hg.ext,hg.rep.relow _,⟨hg.pres.size,fun c hcs ho=>hg.pres.same c hcs (fun b hb=>?_),hg.pres.tape,hg.pres.os,hg.pres.output,hg.pres.fr⟩,Nat.min_le_left _ _,hn⟩
   have:=ho b hb;simp at this;omega

theorem xJZ (h:uA Z v Z₁=some (v₀,Z')):Z.y<=Z'.y:=by
 unfold uA at h;cases hc:Nat.ble Z.y Z₁.low && zW RD v with
 | true=>rw [hc,cond_true] at h;simp at h;rw [h.2];exact Nat.le_refl _
 | false =>
  rw [hc,cond_false] at h;cases hn:Nat.ble Z.y Z₁.y with
  | false=>rw [hn,cond_false] at h;cases h
  | true=>rw [hn,cond_true,wI] at h;simp at h;rw [<- h.2];exact (zX _ _).1 hn

theorem xAE {r:FnRef} {args:List Value} (h:vZ rec r args Z=some (v,Z')):Z.y<=Z'.y:=by
 unfold vZ at h;split at h
 ·cases h
 ·exact xJZ h

theorem zLL.mono (hr:Rep U Z w) (hb:uA Z v Z₁=some (v₀,Z')) {e:Ending} {w':World} (h:zLL U ⟨Z.heap,Z.y,Z.y⟩ w v Z₁ e w'):zLL U Z w v₀ Z' e w':=by
 cases e with
 | returned v' =>
  obtain ⟨U',hv,hg⟩:=h;obtain ⟨rfl,U'',h1,h2⟩:=xAZ hb hr hv hg;exact ⟨U'',h1,h2⟩
 | panicked _=>exact h
 | outgrown=>exact h

theorem yCM (hrec:RecSound P rec) {f:FuncId} {args args':List Value} {v:Value} {Z':St} (h:vZ rec (.func f) args Z=some (v,Z')) (hr:Rep U Z w) (ha:VRs U args args') :
  (∃ fn, P.funcs[f]? = some fn ∧ fn.body.isSome = true ∧ fn.name ≠ "runtime.NumGoroutine") ∧ ∀ rd n, CallsIn (Fw rd) n P f ⟨args'⟩ w (zLL U Z w v Z') := by
 unfold vZ at h;split at h
 ·cases h
 ·rename_i v₁ Z₁ hc;obtain ⟨h1,h2⟩:=hrec.func _ _ _ _ _ hc U w args' (hr.relow _) ha;exact ⟨h1,fun rd n=>xAD (CallsIn.mono (h2 n) (fun e w'=>zLL.mono hr h))⟩

theorem ySL (hrec:RecSound P rec) {l:Nat} {args args':List Value} {v:Value} {Z':St} {L:Loc} (h:vZ rec (.yield l) args Z=some (v,Z')) (hr:Rep U Z w) (ha:VRs U args args') (hl:U.loc l 0=some L) :
  ∀ rd n,∃ fn tmps as bo,(Instr.yield L.c ⟨args'⟩).run P w=.ok (.round L.c fn tmps as bo) w/\RoundIn (Fw rd) n P L.c fn tmps as bo w (zLL U Z w v Z'):=by
 unfold vZ at h;split at h
 ·cases h
 ·rename_i v₁ Z₁ hc;intro rd n;obtain ⟨fn,tmps,as,bo,h1,h2⟩:=hrec.yield _ _ _ _ _ hc U w args' L (hr.relow _) ha hl n;exact ⟨fn,tmps,as,bo,h1,yVF (RoundIn.mono h2 (fun e w'=>zLL.mono hr h))⟩

theorem zLI {f:Tm} (h:TmR U f a.tmps) {x:Operand} (hx:zHX x=true):VR U (yG f x) (a.eval x):=by
 cases x with
 | tmp t=>exact h.2 t
 | const v=>exact .refl_rigid _ hx
 | global g=>exact .any rfl
 | func g=>exact .func (.func g) rfl (fun i v v' h=>by simp at h) rfl (fun i v v' h=>by simp at h)

theorem xYW (h:zKD o=true) {x:Operand} (hx:x∈o.op.operands):zHX x=true :=
 List.all_eq_true.1 h x (by simpa using hx)

theorem NextV.upon (h:NextV nx v') (hn:next (a.put o.dst v') w') :
  o.uponIn (Fw rd) n P a next Q (.ok nx w'):=by
 cases h with
 | value=>exact hn
 | skip=>exact hn

theorem zLR (hd:∀ c,o.op≠.defer c)
  (hrun:(execOp a.eval o).run P w=.ok nx w') (h:NextV nx v') (hn:next (a.put o.dst v') w'):o.wpIn (Fw rd) n P a w next Q:=by
 refine ⟨fun f _=>yJC rd f, ?_⟩
 rw [Oper.semAt_eq _ _ _ hd,hrun];exact h.upon hn

theorem xX (h:(bif c then x else none)=some z):c=true/\x=some z:=by cases c <;> simp_all
theorem zBX {y:Option α} (h:(bif c then x else y)=some z):(c=true/\x=some z)\/(c=false/\y=some z):=by cases c <;> simp_all

theorem zNB {a:Addr} {vs:List Value} (h:wK Z a vs=some Z'):Z.y<=Z'.y:=by
 unfold wK at h;split at h
 ·split at h
  ·obtain ⟨_,h⟩:=xX h;rw [zCS,St.write_eq] at h;simp at h;rw [<- h];simp
  ·cases h
 ·cases h

theorem yMM {base:Option Addr} {len cap cnt:Nat} {cs:List Value} (h:vH Z n base len cap cnt cs=some (v,Z')):Z.y<=Z'.y:=by
 unfold vH at h;rcases zBX h with ⟨_,h⟩ | ⟨_,h⟩
 ·split at h
  ·obtain ⟨_,h⟩:=xX h;simp at h;rw [<- h.2];exact Nat.le_refl _
  ·rcases zBX h with ⟨_,h⟩ | ⟨_,h⟩
   ·simp at h;rw [<- h.2];exact Nat.le_refl _
   ·simp only [Option.map_eq_some_iff] at h;obtain ⟨Z₁,h1,h2⟩:=h;simp at h2;rw [<- h2.2];exact zNB h1
 ·rcases zBX h with ⟨_,h⟩ | ⟨_,h⟩
  ·split at h
   ·obtain ⟨_,h⟩:=xX h;rw [yP] at h;simp at h;rw [<- h.2];simp
   ·split at h
    ·rw [yP] at h;simp at h;rw [<- h.2];simp
    ·cases h
  ·split at h
   ·cases h
   ·unfold zIH at h;split at h
    ·split at h
     ·obtain ⟨_,h⟩:=xX h;rw [zCS,wI,wI,St.write_eq] at h;simp at h;rw [<- h.2];simp
     ·cases h
    ·cases h

theorem yZJ {o:Op} {ev:Operand->Value} (h:zQ P ev Z o=some (v,Z')):Z.y<=Z'.y:=by
 unfold zQ at h;split at h
 ·split at h
  ·rw [wI,yP] at h;simp at h;rw [<- h.2];simp
  ·cases h
 ·rw [wI,yP] at h;simp at h;rw [<- h.2];simp
 ·split at h
  ·split at h
   ·obtain ⟨_,h⟩:=xX h;split at h
    ·rw [yP] at h;simp at h;rw [<- h.2];simp
    ·cases h
   ·cases h
  ·cases h
 ·split at h
  ·split at h
   ·rw [St.new_eq] at h;simp at h;rw [<- h.2];simp
   ·cases h
  ·split at h
   ·rw [St.new_eq] at h;simp at h;rw [<- h.2];simp
   ·cases h
 ·split at h
  ·split at h
   ·obtain ⟨_,h⟩:=xX h;rw [yP] at h;simp at h;rw [<- h.2];simp
   ·cases h
  ·cases h
 ·split at h
  ·simp only [Option.map_eq_some_iff] at h;obtain ⟨Z₁,h1,h2⟩:=h;simp at h2;rw [<- h2.2];unfold zCP at h1;split at h1
   ·obtain ⟨_,h1⟩:=xX h1;exact zNB h1
   ·cases h1
  ·cases h
 ·split at h
  ·split at h
   ·obtain ⟨_,h⟩:=xX h;split at h
    ·split at h
     ·obtain ⟨_,h⟩:=xX h;rw [St.write_eq] at h;simp at h;rw [<- h.2];simp
     ·cases h
    ·rw [St.write_eq] at h;simp at h;rw [<- h.2];simp
    ·cases h
   ·cases h
  ·cases h
 ·split at h
  ·split at h
   ·obtain ⟨_,h⟩:=xX h;split at h
    ·split at h
     ·obtain ⟨_,h⟩:=xX h;rw [St.write_eq] at h;simp at h;rw [<- h.2];simp
     ·cases h
    ·rw [St.write_eq] at h;simp at h;rw [<- h.2];simp
    ·cases h
   ·cases h
  ·cases h
 ·split at h
  ·split at h
   ·unfold yF at h;split at h
    ·split at h
     ·split at h
      ·split at h
       ·obtain ⟨_,h⟩:=xX h;exact yMM h
       ·cases h
      ·cases h
     ·cases h
    ·cases h
   ·cases h
  ·split at h
   ·simp only [Option.map_eq_some_iff] at h;obtain ⟨v0,h1,h2⟩:=h;simp at h2;rw [<- h2.2];exact Nat.le_refl _
   ·cases h
  ·cases h
 ·cases h
end
end Go.Lay

namespace Go.Lay
open Go
variable {o:Oper} {v:Value} {Z':St} {a:Act} {ev:Operand->Value}
section
variable {P:Program} {U:Inj} {Z:St} {w:World} {rec:Rec}

theorem zBJ {o:Option Value} (h:zND Z o=some (v,Z')):o=some v/\Z'=Z:=by
 cases o with
 | none=>simp [zND] at h
 | some x=>simp [zND] at h;exact ⟨by rw [h.1],h.2.symm⟩

theorem yEP (hrec:RecSound P rec) {o:Oper} {ev:Operand->Value} {a:Act} {c:Call} {fx:Operand} {v:Value} {Z':St} {rd:Option Nat} {n:Nat} {next:Act->World->Prop} {Q:Exit->Act->World->Prop} {r:FnRef} {as:List Value}
  (ho:o.op=.call c) (hc:c.callee=.value fx) (href:zNJ (ev fx) (c.args.toList.map ev)=some (r,as)) (h:vZ rec r as Z=some (v,Z')) (hr:Rep U Z w) (hev:∀ x∈o.op.operands,VR U (ev x) (a.eval x))
  (hn:∀ v' w' U',VR U' v v'->Good U Z w U' Z' w'->next (a.put o.dst v') w'):o.wpIn (Fw rd) n P a w next Q:=by
 have hf:=hev fx (by simp [ho,Op.operands,Call.operands,hc]);have hargs:=zDB c.args.toList (ev:=ev) (ev':=a.eval) (fun x hx=>hev x (by simp [ho,Op.operands,Call.operands,hc] at hx ⊢;exact .inr hx));have eargs:c.args.map a.eval=(⟨c.args.toList.map a.eval⟩:Array Value):=by apply Array.ext';simp
 obtain ⟨as',has,hcase⟩:=yCL (P:=P) href hf hargs;have hd:∀ c',o.op≠.defer c':=fun c'=>by rw [ho];simp
 refine ⟨fun f _=>yJC rd f, ?_⟩
 rw [Oper.semAt_eq _ _ _ hd];have hsem:∀ {d:Deferred},(∀ w,(Deferred.ofValue (a.eval fx) ⟨c.args.toList.map a.eval⟩).run P w=.ok d w)->(execOp a.eval o).run P w=(invoke d.target d.args).run P w:=by
  intro d hd;simp only [execOp,ho,resolve,hc,eargs,Sem.run_bind,hd,Result.andThen_ok]
 rcases hcase with ⟨f,cap,rfl,d,hd1,hd2,hd3⟩ | ⟨l,L,cap,rfl,hl,d,hd1,hd2,hd3⟩
 ·obtain ⟨⟨fn,hfn,hbody,hname⟩,hcall⟩:=yCM hrec h hr has;have hrun:(execOp a.eval o).run P w=.ok (.enter f ⟨as'⟩) w:=by
   rw [hsem hd1,hd2];have hb:fn.body≠none:=by cases hb:fn.body <;> simp_all
   simp [invoke,callFunc,hfn,hb,hname,hd3]
  rw [hrun,Oper.uponIn_enter];exact ⟨fun hs=>zRX rd hs n,CallsIn.mono (hcall rd _) (fun e w' hR=>by
   cases e with
   | returned v'=>obtain ⟨U',h1,h2⟩:=hR;exact hn v' w' U' h1 h2
   | panicked _=>exact hR.elim
   | outgrown=>exact hR.elim)⟩
 ·obtain ⟨fn,tmps,as₁,bo,hy,hround⟩:=ySL hrec h hr has hl rd (n-1);have hrun:(execOp a.eval o).run P w=.ok (.round L.c fn tmps as₁ bo) w:=by
   rw [hsem hd1,hd2];simp only [invoke,hd3];exact hy
  rw [hrun,Oper.uponIn_round];exact ⟨fun hs=>zRX rd hs n,RoundIn.mono hround (fun e w' hR=>by
   cases e with
   | returned v'=>obtain ⟨U',h1,h2⟩:=hR;exact hn v' w' U' h1 h2
   | panicked _=>exact hR.elim
   | outgrown=>exact hR.elim)⟩

theorem yDN.wp {rd:Option Nat} {n:Nat} {next:Act->World->Prop} {Q:Exit->Act->World->Prop} (hd:∀ c,o.op≠.defer c) (h:yDN P U Z w v Z' (execOp a.eval o))
  (hn:∀ v' w' U',VR U' v v'->Good U Z w U' Z' w'->next (a.put o.dst v') w'):o.wpIn (Fw rd) n P a w next Q:=by
 obtain ⟨nx,v',w',U',h1,h2,h3,h4⟩:=h;exact zLR hd h1 h2 (hn v' w' U' h3 h4)

theorem zPR (hz:zAE P) {o:Oper} {ev:Operand->Value} {a:Act} {v:Value} {rd:Option Nat} {n:Nat} {next:Act->World->Prop} {Q:Exit->Act->World->Prop} (h:xU P ev o.op=some v) (hev:∀ x∈o.op.operands,VR U (ev x) (a.eval x))
  (hn:∀ v',VR U v v'->next (a.put o.dst v') w):o.wpIn (Fw rd) n P a w next Q:=by
 obtain ⟨v',h1,h2⟩:=yNK hz h hev;refine zLR (fun c hc=>?_) (h1 w) (.value _) (hn v' h2);rw [hc] at h;simp [xU] at h
theorem xHU (hz:zAE P) {o:Oper} {ev:Operand->Value} {a:Act} {v:Value} {rd:Option Nat} {n:Nat} {next:Act->World->Prop} {Q:Exit->Act->World->Prop} (h:xO P ev Z o.op=some v) (hr:Rep U Z w) (hev:∀ x∈o.op.operands,VR U (ev x) (a.eval x))
  (hn:∀ v',VR U v v'->next (a.put o.dst v') w):o.wpIn (Fw rd) n P a w next Q:=by
 obtain ⟨v',h1,h2⟩:=yLA hz h hr hev;refine zLR (fun c hc=>?_) h1 (.value _) (hn v' h2);rw [hc] at h;simp [xO] at h

theorem yNY (hz:zAE P) {o:Oper} {ev:Operand->Value} {a:Act} {v:Value} {rd:Option Nat} {n:Nat} {next:Act->World->Prop} {Q:Exit->Act->World->Prop} (h:xM P ev Z o.op=some v) (hr:Rep U Z w) (hev:∀ x∈o.op.operands,VR U (ev x) (a.eval x))
  (hn:∀ v',VR U v v'->next (a.put o.dst v') w):o.wpIn (Fw rd) n P a w next Q:=by
 unfold xM at h;split at h
 ·rename_i v0 hv;cases h;exact zPR hz hv hev hn
 ·exact xHU hz h hr hev hn

theorem zKE {o:Op} (h:opA P rec ev Z o=some (v,Z')) :
  (xP o=true/\((∃ c fx r as,o=.call c/\c.callee=.value fx/\zNJ (ev fx) (c.args.toList.map ev)=some (r,as)/\vZ rec r as Z=some (v,Z'))\/zQ P ev Z o=some (v,Z')\/(xU P ev o=some v/\Z'=Z))) \/
  (xP o=false/\zBP o=true/\xM P ev Z o=some v/\Z'=Z)\/(xP o=false/\zBP o=false/\xU P ev o=some v/\Z'=Z):=by
 unfold opA at h;split at h
 ·rename_i c;unfold zPC at h;split at h
  ·rename_i fx hc;split at h
   ·rename_i r as href;split at h
    ·rename_i v0 hx;refine .inl ⟨by simp [xP,hc],.inr (.inl ?_)⟩;simp only [zQ,hc,href,hx,Option.map_some];exact h
    ·refine .inl ⟨by simp [xP,hc],.inl ⟨c,fx,r,as,rfl,hc,href,h⟩⟩
   ·cases h
  ·rename_i hc;exact .inl ⟨by simp [xP,hc],.inr (.inl h)⟩
  ·rename_i hc;exact .inl ⟨by simp [xP,hc],.inr (.inl h)⟩
  ·rename_i hc;refine .inr (.inl ⟨by simp [xP,hc],by simp [zBP,hc], ?_⟩);split at h
   ·rename_i v0 hv;simp at h;obtain ⟨rfl,rfl⟩:=h;exact ⟨by simp [xM,hv],rfl⟩
   ·rename_i hv;obtain ⟨h1,h2⟩:=zBJ h;exact ⟨by simp [xM,hv,h1],h2⟩
  ·rename_i b _ _ hlen hc;obtain ⟨h1,h2⟩:=zBJ h;cases hb:xP (.call c) with
   | true=>exact .inl ⟨rfl,.inr (.inr ⟨h1,h2⟩)⟩
   | false =>
    refine .inr (.inr ⟨rfl, ?_,h1,h2⟩);simp only [zBP,hc];cases b <;> first | rfl | exact absurd rfl hlen
  ·cases h
 ·obtain ⟨h1,h2⟩:=zBJ h;exact .inr (.inl ⟨rfl,rfl,by simp [xM,xU,h1],h2⟩)
 ·obtain ⟨h1,h2⟩:=zBJ h;exact .inr (.inl ⟨rfl,rfl,by simp [xM,xU,h1],h2⟩)
 ·obtain ⟨h1,h2⟩:=zBJ h;exact .inr (.inl ⟨rfl,rfl,by simp [xM,xU,h1],h2⟩)
 ·split at h
  ·rename_i v0 hv;simp at h;obtain ⟨rfl,rfl⟩:=h;exact .inr (.inl ⟨rfl,rfl,by simp [xM,hv],rfl⟩)
  ·rename_i hv;obtain ⟨h1,h2⟩:=zBJ h;exact .inr (.inl ⟨rfl,rfl,by simp [xM,hv,h1],h2⟩)
 ·rename_i hn1 hn2 hn3 hn4 hn5;rcases zBX h with ⟨he,h⟩ | ⟨he,h⟩
  ·refine .inl ⟨?_,.inr (.inl h)⟩;cases o <;> first | exact he | exact absurd rfl (hn1 _)
  ·obtain ⟨h1,h2⟩:=zBJ h;refine .inr (.inr ⟨?_, ?_,h1,h2⟩)
   ·cases o <;> first | exact he | exact absurd rfl (hn1 _)
   ·cases o <;> first | rfl | exact absurd rfl (hn1 _) | exact absurd rfl (hn2 _ _) | exact absurd rfl (hn3 _ _ _ _) | exact absurd rfl (hn4 _ _ _ _ _) | exact absurd rfl (hn5 _ _ _)

theorem yGR (hz:zAE P) (hrec:RecSound P rec) {o:Oper} {ev:Operand->Value} {a:Act} {v:Value} {Z':St} {rd:Option Nat} {n:Nat} {next:Act->World->Prop} {Q:Exit->Act->World->Prop}
  (h:opA P rec ev Z o.op=some (v,Z')) (hr:Rep U Z w) (hev:∀ x∈o.op.operands,VR U (ev x) (a.eval x))
  (hn:∀ v' w' U',VR U' v v'->Good U Z w U' Z' w'->next (a.put o.dst v') w'):o.wpIn (Fw rd) n P a w next Q:=by
 rcases zKE h with ⟨ha,⟨c,fx,r,as,ho,hc,href,hcall⟩ | heff | ⟨hval,rfl⟩⟩ | ⟨_,_,hsee,rfl⟩ | ⟨_,_,hval,rfl⟩
 ·exact yEP hrec ho hc href hcall hr hev hn
 ·refine yDN.wp (fun c hc=>?_) (yRP hz heff hr (hr.free _) hev) hn;rw [hc] at heff;simp [zQ] at heff
 ·exact zPR hz hval hev (fun v' hv=>hn v' w U hv (.refl hr))
 ·exact yNY hz hsee hr hev (fun v' hv=>hn v' w U hv (.refl hr))
 ·exact zPR hz hval hev (fun v' hv=>hn v' w U hv (.refl hr))

theorem xOS {o:Op} (h:opA P rec ev Z o=some (v,Z')):Z.y<=Z'.y:=by
 rcases zKE h with ⟨ha,⟨c,fx,r,as,ho,hc,href,hcall⟩ | heff | ⟨hval,rfl⟩⟩ | ⟨_,_,hsee,rfl⟩ | ⟨_,_,hval,rfl⟩
 ·exact xAE hcall
 ·exact yZJ heff
 ·exact Nat.le_refl _
 ·exact Nat.le_refl _
 ·exact Nat.le_refl _

theorem zHS {ops:Array Oper} {f:Tm} {b:Bool} (h:zFK ops f o=some b) (hf:∀ j want d,o.guard=some (j,want)->(ops[j]?).bind (·.dst)=some d->VR U (f.nth d) (a.tmps.getD d undef)) :
  Region.wanted o (yielded ops a.tmps)=b:=by
 unfold zFK at h;unfold Region.wanted;split at h
 ·rename_i hg;simp at h;subst h;simp [hg]
 ·rename_i j want hg;simp only [hg];split at h
  ·rename_i d hd;have hv:=hf j want d hg hd;split at h
   ·rename_i b0 hb0;simp at h;subst h;rw [hb0] at hv;have:=hv.bool_inv;unfold yielded;simp only [hd,Option.bind_some];cases ht:a.tmps[d]? with
    | none=>simp [Array.getD,undef] at this;rw [Array.getElem?_eq_none_iff] at ht;split at this <;> simp_all;omega
    | some x =>
     have hx:a.tmps.getD d undef=x:=by simp [ht]
     rw [hx] at this;subst this;simp
   ·rename_i c hc;simp at h;subst h;rw [hc] at hv;obtain ⟨c',e,_⟩:=hv.tuple_inv;unfold yielded;simp only [hd,Option.bind_some];cases ht:a.tmps[d]? with
    | none=>rfl
    | some x =>
     have hx:a.tmps.getD d undef=x:=by simp [ht]
     rw [hx] at e;subst e;rfl
   ·cases h
  ·cases h
end
end Go.Lay

namespace Go.Lay
open Go
variable {o:Oper} {i j:Nat} {ops:Array Oper}

theorem zRD (look:Nat->Nat) (i:Nat):∀ (l:List Edge) (s:Nat),(l.foldl (fun s e=>if Region.binds .any e then s ||| 2 ^ e.on ||| look e.on else s) s).testBit i=true ->
  s.testBit i=true\/∃ e∈l,Region.binds .any e=true/\(e.on=i\/(look e.on).testBit i=true)
 | [],s,h=>.inl h
 | e::l,s,h=>by
  rw [List.foldl_cons] at h;rcases zRD look i l _ h with h | ⟨e',h1,h2⟩
  ·by_cases hb:Region.binds .any e=true
   ·rw [if_pos hb] at h;simp only [Nat.testBit_or,Bool.or_eq_true,Nat.testBit_two_pow,decide_eq_true_eq] at h;rcases h with (h | h) | h
    ·exact .inl h
    ·exact .inr ⟨e,by simp,hb,.inl h⟩
    ·exact .inr ⟨e,by simp,hb,.inr h⟩
   ·rw [if_neg hb] at h;exact .inl h
  ·exact .inr ⟨e',by simp [h1],h2⟩
theorem yPZ {look:Nat->Nat} (h:(CheckFast.one look o).testBit i=true):∃ e∈o.after.toList,Region.binds .any e=true/\(e.on=i\/(look e.on).testBit i=true):=by
 unfold CheckFast.one at h;rw [<- Array.foldl_toList] at h;rcases zRD look i o.after.toList 0 h with h | h
 ·simp at h
 ·exact h

theorem xZB:∀ (l:List Oper) (A:Array Nat),(l.foldl (fun acc o=>acc.push (CheckFast.one (fun i=>acc.getD i 0) o)) A).size=A.size+l.length /\
  (∀ k,k<A.size->(l.foldl (fun acc o=>acc.push (CheckFast.one (fun i=>acc.getD i 0) o)) A)[k]?=A[k]?) /\
  ∀ k o,l[k]?=some o->∃ C:Array Nat,(∀ m,m<A.size+k->C[m]?=(l.foldl (fun acc o=>acc.push (CheckFast.one (fun i=>acc.getD i 0) o)) A)[m]?) /\
   (l.foldl (fun acc o=>acc.push (CheckFast.one (fun i=>acc.getD i 0) o)) A)[A.size+k]?=some (CheckFast.one (fun i=>C.getD i 0) o)
 | [],A=>⟨by simp,fun _ _=>rfl,fun k o h=>by simp at h⟩
 | x::l,A=>by
  have ih:=xZB l (A.push (CheckFast.one (fun i=>A.getD i 0) x));simp only [List.foldl_cons];obtain ⟨h1,h2,h3⟩:=ih;simp only [Array.size_push] at h1 h2 h3;refine ⟨by rw [h1];simp;omega,fun k hk=>by rw [h2 k (by omega),Array.getElem?_push,if_neg (by omega)],fun k o hk=>?_⟩
  cases k with
  | zero =>
   simp at hk;subst hk;refine ⟨A,fun m hm=>by rw [h2 m (by omega),Array.getElem?_push,if_neg (by omega)], ?_⟩
   rw [Nat.add_zero,h2 _ (by omega),Array.getElem?_push,if_pos rfl]
  | succ k =>
   simp only [List.getElem?_cons_succ] at hk;obtain ⟨C,c1,c2⟩:=h3 k o hk;exact ⟨C,fun m hm=>c1 m (by omega),by rw [show A.size+(k+1)=A.size+1+k by omega];exact c2⟩

theorem xNN (ho:ops[j]?=some o) (hb:∀ e∈o.after.toList,Region.binds .any e=true->e.on<j) (h:pre (CheckFast.beforeF ops) i j=true) :
  ∃ e∈o.after.toList,Region.binds .any e=true/\(e.on=i\/pre (CheckFast.beforeF ops) i e.on=true):=by
 rw [CheckFast.beforeF_eq] at h ⊢;have hB:Region.before ops=ops.toList.foldl (fun acc o=>acc.push (CheckFast.one (fun i=>acc.getD i 0) o)) #[]:=by
  unfold Region.before;rw [<- Array.foldl_toList];rfl
 obtain ⟨_,_,h3⟩:=xZB ops.toList #[];obtain ⟨C,c1,c2⟩:=h3 j o (by simpa using ho);rw [<- hB] at c1 c2;simp only [Array.size_empty,Nat.zero_add] at c1 c2;unfold pre at h;have hg:(Region.before ops).getD j 0=CheckFast.one (fun i=>C.getD i 0) o:=by simp [c2]
 rw [hg] at h;obtain ⟨e,h1,h2,h3⟩:=yPZ h;refine ⟨e,h1,h2,h3.imp id (fun h=>?_)⟩
 unfold pre;have:=c1 e.on (hb e h1 h2);simpa [this] using h

structure DrawOk (ops:Array Oper):Prop where
 back:∀ (j:Nat) (o:Oper),ops[j]?=some o->∀ e∈o.after.toList,Region.binds .any e=true->e.on<j
 guard:∀ (j:Nat) (o:Oper),ops[j]?=some o->∀ g want,o.guard=some (g,want)->∃ e∈o.after.toList,Region.binds .any e=true/\e.on=g
 sel:∀ (j:Nat) (o:Oper),ops[j]?=some o->∀ cs b,o.op≠.select cs b
 acts:∀ (i j:Nat) (oi oj:Oper),ops[i]?=some oi->ops[j]?=some oj->i<j->xP oi.op=true->xP oj.op=true->vL oj.op=false->pre (CheckFast.beforeF ops) i j=true
 apart:∀ (i j:Nat) (oi oj:Oper),ops[i]?=some oi->ops[j]?=some oj->i≠j->pre (CheckFast.beforeF ops) i j=false->pre (CheckFast.beforeF ops) j i=false->Oper.apart ops oi oj=true

theorem yN (h:ops[j]?=some o):ops.getD j default=o/\j<ops.size:=⟨by simp [h],(Array.getElem?_eq_some_iff.1 h).1⟩

theorem yRR (h:yLU ops (CheckFast.beforeF ops)=true):DrawOk ops:=by
 unfold yLU at h;have key:∀ (j:Nat) (o:Oper),ops[j]?=some o->_:=fun j o ho=>List.all_eq_true.1 h j (List.mem_range.2 (yN ho).2)
 refine ⟨fun j o ho e he hb=>?_,fun j o ho g want hg=>?_,fun j o ho cs b hs=>?_,fun i j oi oj hi hj hlt ha hb hm=>?_,fun i j oi oj hi hj hne h1 h2=>?_⟩
 ·have:=key j o ho;simp only [(yN ho).1,Bool.and_eq_true] at this;have h1:=List.all_eq_true.1 this.1.1.1 e he;rw [hb] at h1;simpa using h1
 ·have:=key j o ho;simp only [(yN ho).1,Bool.and_eq_true,hg] at this;obtain ⟨e,h1,h2⟩:=List.any_eq_true.1 this.1.1.2;simp only [Bool.and_eq_true] at h2;exact ⟨e,h1,h2.1,Nat.eq_of_beq_eq_true h2.2⟩
 ·have:=key j o ho;simp only [(yN ho).1,Bool.and_eq_true,hs] at this;simp at this
 ·have:=key j oj hj;simp only [(yN hj).1,Bool.and_eq_true] at this;have h1:=List.all_eq_true.1 this.2 i (List.mem_range.2 (yN hi).2);simp only [(yN hi).1,Bool.and_eq_true,ha,hb,hm] at h1;have hl:Nat.blt i j=true:=(zX _ _).2 hlt;simpa [hl] using h1.1
 ·have:=key j oj hj;simp only [(yN hj).1,Bool.and_eq_true] at this;have h3:=List.all_eq_true.1 this.2 i (List.mem_range.2 (yN hi).2);simp only [(yN hi).1,Bool.and_eq_true] at h3;have hb:Nat.beq i j=false:=by rw [Bool.eq_false_iff];intro e;exact hne (Nat.eq_of_beq_eq_true e)
  simpa [hb,yMN,h1,h2] using h3.2

section
variable {ops:Array Oper} (D:DrawOk ops)
include D
def yMS (ops:Array Oper) (X:Nat->Prop):Prop:=∀ (j:Nat) (o:Oper),X j->ops[j]?=some o->∀ e∈o.after.toList,Region.binds .any e=true->X e.on
theorem yKK {X:Nat->Prop} (hX:yMS ops X):∀ (j:Nat) (o:Oper),ops[j]?=some o->(∀ e∈o.after.toList,Region.binds .any e=true->X e.on)->∀ i,pre (CheckFast.beforeF ops) i j=true->X i:=by
 intro j;induction j using Nat.strongRecOn with
 | _ j ih =>
  intro o ho hdep i hp;obtain ⟨e,h1,h2,h3⟩:=xNN ho (D.back j o ho) hp;have hx:=hdep e h1 h2;rcases h3 with rfl | h3
  ·exact hx
  ·have hlt:=D.back j o ho e h1 h2;have hlt2:j<ops.size:=(yN ho).2;have ho2:ops[e.on]?=some ops[e.on]:=by simp
   exact ih e.on hlt _ ho2 (fun e' he' hb'=>hX e.on _ hx ho2 e' he' hb') i h3
theorem yKJ (i j:Nat) (hj:j<ops.size) (hp:pre (CheckFast.beforeF ops) i j=true):i<j:=by
 have ho:ops[j]?=some ops[j]:=by simp [hj]
 have:=yKK D (X:=fun i=>i<j) (fun k o hk ho e he hb=>Nat.lt_trans (D.back k o ho e he hb) hk) j _ ho (fun e he hb=>D.back j _ ho e he hb) i hp;exact this
end

def zMZ (f:Tm) (dst:Option Tmp) (v:Value):Tm:=match dst with | some d=>f.set d v | none=>f
theorem vG {β:Type} (f:Tm) (dst:Option Tmp) (v:Value) (k:Tm->β):xNM f dst v k=k (zMZ f dst v):=by
 cases dst with
 | none=>rfl
 | some d=>exact Tm.put_eq f d v k

def frL (l:List Seen) (t:Tm) (i:Nat):Tm:=match l[i]? with | some s=>s.f | none=>t
def stL (l:List Seen) (τ:St) (i:Nat):St:=match l[i]? with | some s=>s.before | none=>τ

structure SeqD (P:Program) (rec:Rec) (ops:Array Oper) (rest:List Oper) (l:List Seen) (t:Tm) (τ:St):Prop where
 len:l.length=rest.length
 step:∀ (i:Nat) (o:Oper),rest[i]?=some o->∃ s,l[i]?=some s/\s.f=frL l t i/\s.before=stL l τ i/\s.after=stL l τ (i+1)/\frL l t (i+1)=zMZ (frL l t i) o.dst s.v/\zFK ops (frL l t i) o=some s.want /\
  (s.want=true->opA P rec (yG (frL l t i)) (stL l τ i) o.op=some (s.v,stL l τ (i+1)))/\(s.want=false->s.v=undef/\stL l τ (i+1)=stL l τ i)

theorem zOC {P:Program} {rec:Rec} {ops:Array Oper}:∀ (rest:List Oper) (f:Tm) (Z:St) (l:List Seen) (t:Tm) (τ:St),zAN P rec ops rest f Z=some (l,t,τ) ->
  frL l t 0=f/\stL l τ 0=Z/\SeqD P rec ops rest l t τ
 | [],f,Z,l,t,τ,h=>by
  simp [zAN] at h;obtain ⟨rfl,rfl,rfl⟩:=h;exact ⟨rfl,rfl,rfl,fun i o h=>by simp at h⟩
 | o::rest,f,Z,l,t,τ,h=>by
  have fin:∀ (v:Value) (want:Bool) (Z':St) (l':List Seen),zFK ops f o=some want->(want=true->opA P rec (yG f) Z o.op=some (v,Z'))->(want=false->v=undef/\Z'=Z) ->
    zAN P rec ops rest (zMZ f o.dst v) Z'=some (l',t,τ)->l=⟨f,v,want,Z,Z'⟩::l'->frL l t 0=f/\stL l τ 0=Z/\SeqD P rec ops (o::rest) l t τ:=by
   intro v want Z' l' hg h1 h2 hrec hl
   obtain ⟨e1,e2,e3⟩:=zOC rest _ _ _ _ _ hrec
   subst hl
   refine ⟨rfl,rfl,by simp [e3.len],fun i o' ho'=>?_⟩
   cases i with
   | zero =>
    simp at ho';subst ho';have f1:frL (⟨f,v,want,Z,Z'⟩::l') t (0+1)=zMZ f o.dst v:=e1;have s1:stL (⟨f,v,want,Z,Z'⟩::l') τ (0+1)=Z':=e2;rw [f1,s1];exact ⟨_,rfl,rfl,rfl,rfl,rfl,hg,h1,h2⟩
   | succ i =>
    exact e3.step i o' (by simpa using ho')
  unfold zAN at h;split at h
  ·rename_i hg;split at h
   ·rename_i v Z' hop;rw [zKP,vG] at h;split at h
    ·rename_i l' t' τ' hs;simp at h;obtain ⟨rfl,rfl,rfl⟩:=h;exact fin v true Z' l' hg (fun _=>hop) (fun h=>by cases h) hs rfl
    ·cases h
   ·cases h
  ·rename_i hg;rw [vG] at h;split at h
   ·rename_i l' t' τ' hs;simp at h;obtain ⟨rfl,rfl,rfl⟩:=h;exact fin undef false Z l' hg (fun h=>by cases h) (fun _=>⟨rfl,rfl⟩) hs rfl
   ·cases h
  ·cases h

theorem zSS {P:Program} {rec:Rec} {ops:Array Oper}:∀ (rest:List Oper) (f:Tm) (Z:St) (t:Tm) (τ:St),zNA P rec ops rest f Z=some (t,τ)->∃ l,zAN P rec ops rest f Z=some (l,t,τ)
 | [],f,Z,t,τ,h=>by simp [zNA] at h;obtain ⟨rfl,rfl⟩:=h;exact ⟨[],rfl⟩
 | o::rest,f,Z,t,τ,h=>by
  unfold zNA at h;split at h
  ·rename_i hg;split at h
   ·rename_i v Z' hop;rw [vG] at h;obtain ⟨l,hl⟩:=zSS rest _ _ _ _ h;exact ⟨⟨f,v,true,Z,Z'⟩::l,by simp [zAN,hg,hop,zKP,vG,hl]⟩
   ·cases h
  ·rename_i hg;rw [vG] at h;obtain ⟨l,hl⟩:=zSS rest _ _ _ _ h;exact ⟨⟨f,undef,false,Z,Z⟩::l,by simp [zAN,hg,vG,hl]⟩
  ·cases h

theorem xZR (f:Tm) (d:Option Tmp) (v:Value):(zMZ f d v).n=f.n:=by cases d <;> simp [zMZ]
theorem zYW (f:Tm) (d:Option Tmp) (v:Value) (t:Nat):(zMZ f d v).nth t=if d=some t/\t<f.n then v else f.nth t:=by
 cases d with
 | none=>simp [zMZ]
 | some i =>
  simp only [zMZ,Tm.nth_set];by_cases h:t=i
  ·subst h;simp
  ·rw [if_neg (fun x=>h x.1),if_neg (fun x=>h (by simpa using x.1.symm))]

section
variable {P:Program} {rec:Rec} {ops:Array Oper} {l:List Seen} {t:Tm} {τ:St} (S:SeqD P rec ops ops.toList l t τ)
include S
theorem SeqD.at (ho:ops[i]?=some o):∃ s,l[i]?=some s/\s.f=frL l t i/\s.before=stL l τ i/\s.after=stL l τ (i+1)/\frL l t (i+1)=zMZ (frL l t i) o.dst s.v/\zFK ops (frL l t i) o=some s.want /\
  (s.want=true->opA P rec (yG (frL l t i)) (stL l τ i) o.op=some (s.v,stL l τ (i+1)))/\(s.want=false->s.v=undef/\stL l τ (i+1)=stL l τ i):=S.step i o (by simpa using ho)
theorem SeqD.frn:∀ i,i<=ops.size->(frL l t i).n=(frL l t 0).n
 | 0,_=>rfl
 | i+1,h=>by
  obtain ⟨s,_,_,_,_,hf,_⟩:=S.at (i:=i) (o:=ops[i]) (by simp)
  rw [hf,xZR,SeqD.frn i (by omega)]
theorem SeqD.mono:∀ (i j:Nat),i<=j->j<=ops.size->(stL l τ i).y<=(stL l τ j).y:=by
 intro i j hij;induction hij with
 | refl=>intro _;exact Nat.le_refl _
 | step h ih =>
  rename_i m;intro hm;have hm':m+1<=ops.size:=hm;refine Nat.le_trans (ih (by omega)) ?_
  obtain ⟨s,_,_,_,_,_,_,h1,h2⟩:=S.at (i:=m) (o:=ops[m]) (by simp)
  cases hw:s.want with
  | true=>exact xOS (h1 hw)
  | false=>rw [(h2 hw).2];exact Nat.le_refl _
theorem SeqD.last (t0:Nat) (h0:t0<(frL l t 0).n):∀ j,j<=ops.size ->
  (∃ i s,i<j/\(ops[i]?).bind (·.dst)=some t0/\l[i]?=some s/\(frL l t j).nth t0=s.v/\∀ i',i<i'->i' < j->(ops[i']?).bind (·.dst)≠some t0) \/
  ((∀ i,i<j->(ops[i]?).bind (·.dst)≠some t0)/\(frL l t j).nth t0=(frL l t 0).nth t0)
 | 0,_=>.inr ⟨fun i h=>absurd h (Nat.not_lt_zero _),rfl⟩
 | j+1,hj=>by
  have ho:ops[j]?=some ops[j]:=by simp
  obtain ⟨s,hs,_,_,_,hf,_⟩:=S.at ho;have hn:=S.frn j (by omega);rw [hf];by_cases hd:ops[j].dst=some t0
  ·refine .inl ⟨j,s,by omega,by rw [ho];exact hd,hs, ?_,fun i' h1 h2=>by omega⟩;rw [zYW,if_pos ⟨hd,by omega⟩]
  ·rw [zYW,if_neg (fun x=>hd x.1)];rcases SeqD.last t0 h0 j (by omega) with ⟨i,s',h1,h2,h3,h4,h5⟩ | ⟨h1,h2⟩
   ·refine .inl ⟨i,s',by omega,h2,h3,h4,fun i' h6 h7=>?_⟩;by_cases he:i'=j
    ·subst he;rw [ho];exact hd
    ·exact h5 i' h6 (by omega)
   ·refine .inr ⟨fun i hi=>?_,h2⟩;by_cases he:i=j
    ·subst he;rw [ho];exact hd
    ·exact h1 i (by omega)
end
end Go.Lay

namespace Go.Lay
open Go
variable {P:Program}

theorem zSA:∀ (n:Nat) (a b:Value),veq n a b=true->a=b:=by
 intro n;induction n with
 | zero=>intro a b h;simp [veq] at h
 | succ n ih =>
  have lists:∀ (l l':List Value),veq.veqs n l l'=true->l=l':=by
   intro l;induction l with
   | nil=>intro l' h;cases l' with | nil=>rfl | cons _ _=>simp [veq.veqs] at h
   | cons x l ihl =>
    intro l' h;cases l' with
    | nil=>simp [veq.veqs] at h
    | cons y l' =>
     simp only [veq.veqs,Bool.and_eq_true] at h;rw [ih x y h.1,ihl l' h.2]
  intro a b h;unfold veq at h;split at h;all_goals first | (rename_i hq;cases hq) | skip
  ·have:=eq_of_beq h;rw [this]
  ·simp only [Bool.and_eq_true] at h;have h1:=zUT h.1;have h2:=h.2;rw [yLP] at h2;have h3:=eq_of_beq h2;rw [h1,h3]
  ·rename_i a b;have:=of_decide_eq_true h;have:a=b:=by apply ByteArray.ext;apply Array.ext';exact this
   rw [this]
  ·rw [of_decide_eq_true h]
  ·simp only [Bool.and_eq_true] at h;rw [of_decide_eq_true h.1.1,Nat.eq_of_beq_eq_true h.1.2,Nat.eq_of_beq_eq_true h.2]
  ·rw [of_decide_eq_true h]
  ·rfl
  ·rfl
  ·have h1:=lists _ _ h;congr 1;apply Array.ext';exact h1
  ·have h1:=lists _ _ h;congr 1;apply Array.ext';exact h1
  ·simp only [Bool.and_eq_true] at h;have h1:=lists _ _ h.1.2;have h2:=lists _ _ h.2;have h3:=Nat.eq_of_beq_eq_true h.1.1;rw [h3];congr 1 <;> (apply Array.ext';assumption)
  ·simp only [Bool.and_eq_true] at h;have h3:=Nat.eq_of_beq_eq_true h.1;rw [h3,ih _ _ h.2]
  all_goals cases h

theorem xY (a b:Nat):Nat.blt a b=true↔a<b:=zX (a+1) b

theorem VR.lower {κ κ':Inj} {m:Nat} (hloc:∀ b s L,b<m->κ.loc b s=some L->κ'.loc b s=some L) (hsz:∀ b s L,κ.loc b s=some L->κ'.csz L.c=κ.csz L.c) :
  ∀ (d:Nat) {v v':Value},yY d m v=true->VR κ v v'->VR κ' v v':=by
 intro d;induction d with
 | zero=>intro v v' h;simp [yY] at h
 | succ d ih =>
  intro v v' hb h;have arr:∀ {c c':Array Value},(∀ (i:Nat) (v v':Value),c[i]?=some v->c'[i]?=some v'->VR κ v v')->c.toList.all (yY d m)=true->(∀ (i:Nat) (v v':Value),c[i]?=some v->c'[i]?=some v'->VR κ' v v'):=by
   intro c c' hh hall i v v' h1 h2;exact ih (List.all_eq_true.1 hall _ (by simp [Array.mem_of_getElem? h1])) (hh i v v' h1 h2)
  cases h with
  | any h=>exact .any h
  | atom h=>exact .atom h
  | ptr h hlo=>exact .ptr (hloc _ _ _ ((xY _ _).1 (by simpa [yY] using hb)) h) hlo
  | slice h hlo hA hc hs=>exact .slice (hloc _ _ _ ((xY _ _).1 (by simpa [yY] using hb)) h) hlo hA hc (by rw [hsz _ _ _ h];exact hs)
  | map h=>exact .map (hloc _ _ _ ((xY _ _).1 (by simpa [yY] using hb)) h)
  | func hf s1 h1 s2 h2 =>
   cases hf with
   | func f =>
    simp only [yY,Bool.and_eq_true] at hb;exact .func (.func f) s1 (arr h1 hb.1.2) s2 (arr h2 hb.2)
   | yield hl =>
    simp only [yY,Bool.and_eq_true] at hb;exact .func (.yield (hloc _ _ _ ((xY _ _).1 hb.1.1) hl)) s1 (arr h1 hb.1.2) s2 (arr h2 hb.2)
  | iface h=>simp only [yY] at hb;exact .iface (ih hb h)
  | agg s h=>simp only [yY] at hb;exact .agg s (arr h hb)
  | tuple s h=>simp only [yY] at hb;exact .tuple s (arr h hb)

def Inj.plus (U:Inj) (pend:Nat->Option Loc):Inj :=
 {U with loc:=fun b s=>if s=0 then (match pend b with | some L=>some L | none=>U.loc b 0) else U.loc b s }
def cut (pend:Nat->Option Loc) (n:Nat):Nat->Option Loc:=fun b=>if b<n then pend b else none
def Inj.owned (U:Inj) (c b:Nat):Inj:={ U with own:=fun c'=>if c'=c then some b else U.own c' }
def Inj.commit (U:Inj) (b:Nat) (L:Loc):Inj :=
 {U with loc:=fun b' s=>if b'=b/\s=0 then some L else U.loc b' s,own:=fun c'=>if c'=L.c then some b else U.own c' }

theorem zGA {U U':Inj} {pend pend':Nat->Option Loc} (h:Sub U U') (hp:∀ b L,pend b=some L->pend' b=some L) (hn:∀ b L L',pend b=none->pend' b=some L->U.loc b 0=some L'->L'=L)
  (hs:∀ b L,pend b=some L->U'.csz L.c=U.csz L.c):Sub (U.plus pend) (U'.plus pend'):=by
 refine ⟨fun b s L hL=>?_,fun b s L hL=>?_⟩
 ·simp only [Inj.plus] at hL ⊢;by_cases h0:s=0
  ·subst h0;rw [if_pos rfl] at hL ⊢;cases hb:pend b with
   | some L1=>rw [hb] at hL;simp only [hp b L1 hb];exact hL
   | none =>
    rw [hb] at hL;cases hb':pend' b with
    | some L1=>simp only;rw [hn b L1 L hb hb' hL]
    | none=>exact h.loc _ _ _ hL
  ·rw [if_neg h0] at hL ⊢;exact h.loc _ _ _ hL
 ·simp only [Inj.plus] at hL;by_cases h0:s=0
  ·subst h0;rw [if_pos rfl] at hL;cases hb:pend b with
   | some L1=>rw [hb] at hL;cases hL;exact hs b L hb
   | none=>rw [hb] at hL;exact h.sz _ _ _ hL
  ·rw [if_neg h0] at hL;exact h.sz _ _ _ hL

section
variable (ops:Array Oper) (l:List Seen) (f0:Tm)
structure FrOk (X:Nat->Prop) (κ:Inj) (tmps:Array Value):Prop where
 size:f0.n=tmps.size
 val:∀ t0,t0<f0.n ->
  (∃ i s,X i/\(ops[i]?).bind (·.dst)=some t0/\l[i]?=some s/\(∀ i',X i'->(ops[i']?).bind (·.dst)=some t0->i'<=i)/\VR κ s.v (tmps.getD t0 undef)) \/
  ((∀ i,X i->(ops[i]?).bind (·.dst)≠some t0)/\VR κ (f0.nth t0) (tmps.getD t0 undef))
 out:∀ t0,¬ t0<f0.n->VR κ (f0.nth t0) undef
variable {ops l f0}
theorem FrOk.sub {X:Nat->Prop} {κ κ':Inj} {tmps:Array Value} (h:FrOk ops l f0 X κ tmps) (e:Sub κ κ'):FrOk ops l f0 X κ' tmps :=
 ⟨h.size,fun t0 h0=>(h.val t0 h0).imp (fun ⟨i,s,a,b,c,d,v⟩=>⟨i,s,a,b,c,d,v.sub e⟩) (fun ⟨a,v⟩=>⟨a,v.sub e⟩),fun t0 h0=>(h.out t0 h0).sub e⟩
theorem FrOk.put {X:Nat->Prop} {κ:Inj} {a:Act} (h:FrOk ops l f0 X κ a.tmps) {j:Nat} {o:Oper} {s:Seen} {v':Value} (ho:ops[j]?=some o) (hs:l[j]?=some s)
  (hmax:∀ i t0,X i->o.dst=some t0->(ops[i]?).bind (·.dst)=some t0->i<j) (hv:VR κ s.v v'):FrOk ops l f0 (fun i=>X i\/i=j) κ (a.put o.dst v').tmps:=by
 refine ⟨?_,fun t0 h0=>?_,h.out⟩
 ·rw [h.size];unfold Act.put;split <;> simp
 ·by_cases hd:o.dst=some t0
  ·refine .inl ⟨j,s,.inr rfl,by rw [ho];exact hd,hs,fun i' hi' hd'=>?_, ?_⟩
   ·rcases hi' with hi' | rfl
    ·exact Nat.le_of_lt (hmax i' t0 hi' hd hd')
    ·exact Nat.le_refl _
   ·have hlt:t0<a.tmps.size:=by rw [<- h.size];exact h0
    simp only [Act.put,hd];simpa [Array.getD,hlt] using hv
  ·have hsame:(a.put o.dst v').tmps.getD t0 undef=a.tmps.getD t0 undef:=by
    unfold Act.put;split
    ·rename_i d hdd;have hne:d≠t0:=fun e=>hd (by rw [hdd,e])
     simp [Array.getElem?_setIfInBounds_ne hne]
    ·rfl
   rw [hsame];rcases h.val t0 h0 with ⟨i,s',a1,a2,a3,a4,a5⟩ | ⟨a1,a2⟩
   ·refine .inl ⟨i,s',.inl a1,a2,a3,fun i' hi' hd'=>?_,a5⟩;rcases hi' with hi' | rfl
    ·exact a4 i' hi' hd'
    ·rw [ho] at hd';exact absurd hd' hd
   ·refine .inr ⟨fun i hi=>?_,a2⟩;rcases hi with hi | rfl
    ·exact a1 i hi
    ·rw [ho];exact hd
theorem FrOk.match {rec:Rec} {t:Tm} {τ:St} (S:SeqD P rec ops ops.toList l t τ) {X:Nat->Prop} {κ:Inj} {tmps:Array Value} (h:FrOk ops l (frL l t 0) X κ tmps) {j:Nat} (hj:j<=ops.size) {t0:Nat}
  (hX:∀ i,(ops[i]?).bind (·.dst)=some t0->(X i↔i<j)):VR κ ((frL l t j).nth t0) (tmps.getD t0 undef):=by
 by_cases h0:t0<(frL l t 0).n
 ·rcases S.last t0 h0 j hj with ⟨i,s,a1,a2,a3,a4,a5⟩ | ⟨a1,a2⟩
  ·rcases h.val t0 h0 with ⟨i',s',b1,b2,b3,b4,b5⟩ | ⟨b1,_⟩
   ·have hi:i=i':=by
     have h1:=b4 i ((hX i a2).2 a1) a2;have h2:=(hX i' b2).1 b1;by_cases he:i=i'
     ·exact he
     ·exact absurd b2 (a5 i' (by omega) h2)
    subst hi;rw [a3] at b3;cases b3;rw [a4];exact b5
   ·exact absurd a2 (b1 i ((hX i a2).2 a1))
  ·rcases h.val t0 h0 with ⟨i',s',b1,b2,b3,b4,b5⟩ | ⟨_,b2⟩
   ·exact absurd b2 (a1 i' ((hX i' b2).1 b1))
   ·rw [a2];exact b2
 ·have hn:(frL l t j).nth t0=(frL l t 0).nth t0:=by
   have hle:(frL l t 0).n<=t0:=Nat.le_of_not_lt h0;clear hX h;induction j with
   | zero=>rfl
   | succ j ih =>
    obtain ⟨s,_,_,_,_,hf,_⟩:=S.at (i:=j) (o:=ops[j]) (by simp)
    have:=S.frn j (by omega);rw [hf,zYW,if_neg (by omega),ih (by omega)]
  have hsz:¬ t0<tmps.size:=by rw [<- h.size];exact h0
  rw [hn];have:tmps.getD t0 undef=undef:=by simp [Array.getD,hsz]
  rw [this];exact h.out t0 h0
end

theorem xPH {o:Op} {ev:Operand->Value} {Z Z':St} {v:Value} (hm:vL o=true) (h:zQ P ev Z o=some (v,Z')) :
  ∃ y,Z'=Z.add y/\∀ Z₂:St,Z₂.y=Z.y->zQ P ev Z₂ o=some (v,Z₂.add y):=by
 unfold zQ at h;split at h
 ·split at h
  ·rename_i z hz;rw [wI,yP] at h;simp at h;obtain ⟨rfl,rfl⟩:=h;exact ⟨_,rfl,fun Z₂ h2=>by unfold zQ;simp only [hz,wI,yP,h2];simp⟩
  ·cases h
 ·rw [wI,yP] at h;simp at h;obtain ⟨rfl,rfl⟩:=h;exact ⟨_,rfl,fun Z₂ h2=>by unfold zQ;simp only [wI,yP,h2];simp⟩
 ·split at h
  ·rename_i e n hes;split at h
   ·rename_i z hz;obtain ⟨hc,h⟩:=xX h;split at h
    ·rename_i cs hf;rw [yP] at h;simp at h;obtain ⟨rfl,rfl⟩:=h;exact ⟨_,rfl,fun Z₂ h2=>by unfold zQ;simp only [hes,hz,hc,cond_true,hf,yP,h2]⟩
    ·cases h
   ·cases h
  ·cases h
 ·split at h
  ·split at h
   ·rename_i ke hmo;rw [St.new_eq] at h;simp at h;obtain ⟨rfl,rfl⟩:=h;exact ⟨_,rfl,fun Z₂ h2=>by unfold zQ;simp only [hmo,St.new_eq,h2]⟩
   ·cases h
  ·split at h
   ·rename_i hmo hx;rw [St.new_eq] at h;simp at h;obtain ⟨rfl,rfl⟩:=h;exact ⟨_,rfl,fun Z₂ h2=>by unfold zQ;simp only [hmo,hx,St.new_eq,h2]⟩
   ·cases h
 ·split at h
  ·rename_i hes hl hc;split at h
   ·rename_i hz hi;obtain ⟨hcond,h⟩:=xX h;rw [yP] at h;simp at h;obtain ⟨rfl,rfl⟩:=h;exact ⟨_,rfl,fun Z₂ h2=>by unfold zQ;simp only [hes,hl,hc,hz,hi,hcond,cond_true,yP,h2]⟩
   ·cases h
  ·cases h
 all_goals (exfalso;simp_all [vL])
end Go.Lay

namespace Go.Lay
open Go
variable {pend:Nat->Option Loc} {n b:Nat} {L:Loc} {U:Inj}

abbrev BF (ops:Array Oper):Array Nat:=CheckFast.beforeF ops

structure Pend (U:Inj) (pend:Nat->Option Loc) (N0:Nat) (w:World) (n:Nat) (y:Blk) (L:Loc):Prop where
 get:pend n=some L
 ge:N0<=L.c
 lt:L.c<w.heap.size
 own:U.own L.c=none
 off:∀ b s L',U.loc b s=some L'->L'.c≠L.c
 blk:BlkR ((U.plus (cut pend (n+1))).owned L.c n) w n y

structure Inv (ops:Array Oper) (l:List Seen) (t:Tm) (τ:St) (U0:Inj) (w0:World) (ds:List Deferred) (X:Nat->Prop) (a:Act) (w:World) (q:Nat) (U:Inj) (pend:Nat->Option Loc):Prop where
 hq:q<=ops.size
 ahead:∀ (j:Nat) (o:Oper),ops[j]?=some o->xP o.op=true->j<q->X j
 beyond:∀ (j:Nat) (o:Oper),ops[j]?=some o->xP o.op=true->q<=j->X j->wW ops (BF ops) j=true
 good:Good U0 (stL l τ 0) w0 U (stL l τ q) w
 keys:∀ b L,pend b=some L->(b<(stL l τ q).y/\U.loc b 0=some L)\/(∃ j o s,q<=j/\X j/\ops[j]?=some o/\l[j]?=some s/\s.want=true/\wW ops (BF ops) j=true/\b=(stL l τ j).y)
 pok:∀ (j:Nat) (o:Oper) (s:Seen),q<=j->X j->ops[j]?=some o->xP o.op=true->l[j]?=some s->s.want=true->∃ y L,stL l τ (j+1)=(stL l τ j).add y/\Pend U pend w0.heap.size w (stL l τ j).y y L
 inj:∀ b b' L L',pend b=some L->pend b'=some L'->L.c=L'.c->b=b'
 fr:FrOk ops l (frL l t 0) X (U.plus pend) a.tmps
 ds:a.defers=ds
 fast:(∀ j,wW ops (BF ops) j=false)->∀ b,pend b=none

theorem zOP {o:Op} (h:vL o=true):xP o=true:=by cases o <;> first | rfl | (simp [vL] at h)
theorem zHT {ops:Array Oper} {B:Array Nat} {j:Nat} {o:Oper} (ho:ops[j]?=some o) (h:wW ops B j=true):vL o.op=true:=by
 unfold wW at h;rw [(yN ho).1,Bool.and_eq_true] at h;exact h.1

theorem zKR (h:cut pend n b=some L):b<n/\pend b=some L:=by
 unfold cut at h;split at h
 ·rename_i hlt;exact ⟨hlt,h⟩
 ·cases h
theorem wG (h:pend b=some L):(U.plus pend).loc b 0=some L:=by simp [Inj.plus,h]
theorem wH {s:Nat} (h:s≠0):(U.plus pend).loc b s=U.loc b s:=by simp [Inj.plus,h]
theorem wR (s:Nat) (h:pend b=none):(U.plus pend).loc b s=U.loc b s:=by
 simp only [Inj.plus,h];split
 ·rename_i h0;rw [h0]
 ·rfl

section
variable {P:Program} {rec:Rec} {ops:Array Oper} {l:List Seen} {t:Tm} {τ:St} {U0:Inj} {w0:World} {ds:List Deferred} {X:Nat->Prop} {a:Act} {w:World} {q:Nat} {U:Inj} {pend:Nat->Option Loc}

theorem Inv.lt_size (I:Inv ops l t τ U0 w0 ds X a w q U pend) {b:Nat} {L:Loc} (h:pend b=some L):L.c<w.heap.size:=by
 rcases I.keys b L h with ⟨_,h1⟩ | ⟨j,o,s,h1,h2,h3,h4,h5,h6,rfl⟩
 ·exact I.good.rep.lt _ _ _ h1
 ·obtain ⟨y,L',_,hp⟩:=I.pok j o s h1 h2 h3 (zOP (zHT h3 h6)) h4 h5;rw [hp.get] at h;cases h;exact hp.lt

theorem Inv.sub_plus (S:SeqD P rec ops ops.toList l t τ) (I:Inv ops l t τ U0 w0 ds X a w q U pend) (hX:∀ j,X j->j<ops.size):Sub U (U.plus pend):=by
 refine ⟨fun b s L h=>?_,fun _ _ _ _=>rfl⟩
 by_cases h0:s=0
 ·subst h0;cases hp:pend b with
  | none=>rw [wR _ hp];exact h
  | some L1 =>
   rw [wG hp];rcases I.keys b L1 hp with ⟨_,h1⟩ | ⟨j,o,s,h1,h2,h3,h4,h5,h6,rfl⟩
   ·rw [h] at h1;exact h1.symm
   ·have:=S.mono q j h1 (Nat.le_of_lt (hX j h2));rw [I.good.rep.fresh _ _ this] at h;cases h
 ·rw [wH h0];exact h

theorem Inv.lower (S:SeqD P rec ops ops.toList l t τ) (I:Inv ops l t τ U0 w0 ds X a w q U pend) (hX:∀ j,X j->j<ops.size) {f:Tm} {o:Oper} (hb:(∀ j,wW ops (BF ops) j=false)\/zCM (stL l τ q).y f o=true) {x:Operand} (hx:x∈o.op.operands) {v':Value}
  (h:VR (U.plus pend) (yG f x) v'):VR U (yG f x) v':=by
 rcases hb with hb | hb
 ·refine VR.sub (U:=U.plus pend) (U':=U) ⟨fun b s L hL=>?_,fun _ _ _ _=>rfl⟩ h;rw [wR _ (I.fast hb b)] at hL;exact hL
 ·refine VR.lower (κ:=U.plus pend) (κ':=U) (m:=(stL l τ q).y) (fun b s L hlt hL=>?_) (fun _ _ _ _=>rfl) RD (List.all_eq_true.1 hb x (by simpa using hx)) h;by_cases h0:s=0
  ·subst h0;cases hp:pend b with
   | none=>rw [wR _ hp] at hL;exact hL
   | some L1 =>
    rw [wG hp] at hL;cases hL;rcases I.keys b L hp with ⟨_,h1⟩ | ⟨j,o',s,h1,h2,_,_,_,_,rfl⟩
    ·exact h1
    ·have:=S.mono q j h1 (Nat.le_of_lt (hX j h2));omega
  ·rw [wH h0] at hL;exact hL

theorem Pend.keep {U':Inj} {pend':Nat->Option Loc} {w':World} {N0:Nat} {y:Blk} (h:Pend U pend N0 w n y L) (hget:pend' n=some L) (hlt:w.heap.size<=w'.heap.size) (hown:U'.own L.c=none)
  (hoff:∀ b s L',U'.loc b s=some L'->L'.c≠L.c) (hs:Sub (U.plus (cut pend (n+1))) (U'.plus (cut pend' (n+1)))) (hfr:∀ s,s≠0->U.loc n s=none/\U'.loc n s=none) (hw:w'.heap[L.c]?=w.heap[L.c]?) :
  Pend U' pend' N0 w' n y L:=by
 refine ⟨hget,h.ge,Nat.lt_of_lt_of_le h.lt hlt,hown,hoff, ?_⟩
 have hl:∀ s L1,((U.plus (cut pend (n+1))).owned L.c n).loc n s=some L1->L1=L:=fun s L1 hL=>by
  by_cases h0:s=0
  ·subst h0;have:(U.plus (cut pend (n+1))).loc n 0=some L:=wG (by simp [cut,h.get]);rw [show ((U.plus (cut pend (n+1))).owned L.c n).loc n 0=(U.plus (cut pend (n+1))).loc n 0 from rfl,this] at hL;cases hL;rfl
  ·rw [show ((U.plus (cut pend (n+1))).owned L.c n).loc n s=(U.plus (cut pend (n+1))).loc n s from rfl,wH h0,(hfr s h0).1] at hL;cases hL
 refine h.blk.keepS ⟨hs.loc,hs.sz⟩ (fun s L1 hL=>?_) (fun s L1 hL _=>?_) (fun cs esz log next ro hy s hs'=>?_)
 ·rw [hl s L1 hL];simp [Inj.owned]
 ·rw [hl s L1 hL];exact hw
 ·have hb:=h.blk;subst hy;cases hb with
  | cells _ _ _ fresh =>
   have:=fresh s hs';by_cases h0:s=0
   ·subst h0;have h2:(U.plus (cut pend (n+1))).loc n 0=some L:=wG (by simp [cut,h.get]);rw [show ((U.plus (cut pend (n+1))).owned L.c n).loc n 0=(U.plus (cut pend (n+1))).loc n 0 from rfl,h2] at this;cases this
   ·rw [show ((U'.plus (cut pend' (n+1))).owned L.c n).loc n s=(U'.plus (cut pend' (n+1))).loc n s from rfl,wH h0];exact (hfr s h0).2

theorem Inv.advance1 (S:SeqD P rec ops ops.toList l t τ) (I:Inv ops l t τ U0 w0 ds X a w q U pend) (hX:∀ j,X j->j<ops.size) {o:Oper} (ho:ops[q]?=some o) (hact:xP o.op=true->X q) :
    ∃ U',Inv ops l t τ U0 w0 ds X a w (q+1) U' pend:=by
  obtain ⟨s,hs,_,_,_,_,hg,h1,h2⟩:=S.at ho;have hq1:q+1<=ops.size:=(yN ho).2;have stay:stL l τ (q+1)=stL l τ q->(∀ (sx:Seen),l[q]?=some sx->sx.want=true->wW ops (BF ops) q=true->False)->∃ U',Inv ops l t τ U0 w0 ds X a w (q+1) U' pend:=fun hst hno =>
    ⟨U, hq1,fun j o' hj ha hlt=>by
        by_cases he:j=q
        · subst he;rw [ho] at hj;cases hj;exact hact ha
        · exact I.ahead j o' hj ha (by omega),
      fun j o' hj ha hle hx=>I.beyond j o' hj ha (by omega) hx,by rw [hst];exact I.good,
      fun b L hp=>by
        rw [hst];refine (I.keys b L hp).imp id (fun ⟨j,o',s',x1,x2,x3,x4,x5,x6,x7⟩=>⟨j,o',s', ?_,x2,x3,x4,x5,x6,x7⟩);by_cases he:j=q
        · subst he;exact (hno s' x4 x5 x6).elim
        · omega,
      fun j o' s' hle hx hj ha hs' hw=>I.pok j o' s' (by omega) hx hj ha hs' hw,I.inj,I.fr,I.ds,I.fast⟩
  cases hact':xP o.op with
  | false =>
    refine stay ?_ (fun sx _ _ hfree=>?_)
    · cases hw:s.want with
      | false=>exact (h2 hw).2
      | true => rcases zKE (h1 hw) with ⟨ha,_⟩ | ⟨_,_,_,he⟩ | ⟨_,_,_,he⟩
                · rw [hact'] at ha;cases ha
                · exact he
                · exact he
    · have:=zOP (zHT ho hfree);rw [hact'] at this;cases this
  | true =>
    have hXq:=hact hact';cases hw:s.want with
    | false=>exact stay (h2 hw).2 (fun sx hsx hwx _=>by rw [hs] at hsx;cases hsx;rw [hw] at hwx;cases hwx)
    | true =>
      obtain ⟨y,L,hst,hp⟩:=I.pok q o s (Nat.le_refl _) hXq ho hact' hs hw;have hfree:=I.beyond q o ho hact' (Nat.le_refl _) hXq;have hfrn:=I.good.rep.fresh (stL l τ q).y;have hnone:∀ s,U.loc (stL l τ q).y s=none:=fun s=>hfrn s (Nat.le_refl _)
      have hbig:∀ j,q+1<=j->j<=ops.size->(stL l τ q).y+1<=(stL l τ j).y:=fun j hj hj2=>by
        have:=S.mono (q+1) j hj hj2;rw [hst,St.add_next] at this;exact this
      have hsub:Sub U (U.commit (stL l τ q).y L):=by
        refine ⟨fun b s0 L0 h0=>?_,fun _ _ _ _=>rfl⟩
        simp only [Inj.commit];rw [if_neg];exact h0;rintro ⟨rfl,rfl⟩;rw [hnone 0] at h0;cases h0
      have hgood:=I.good;have rep:Rep (U.commit (stL l τ q).y L) ((stL l τ q).add y) w:=by
        refine ⟨fun b y' hb=>?_,fun b s0 L0 h0=>?_,fun c b h0=>?_,fun b s0 h0=>?_⟩
        · rw [St.add_get] at hb;by_cases hbn:b=(stL l τ q).y
          · rw [if_pos hbn] at hb;cases hb;subst hbn;refine ⟨by simp,hp.blk.keepS ⟨fun b s0 L0 h0=>?_,fun _ _ _ _=>rfl⟩ (fun _ _ _=>rfl) (fun _ _ _ _=>rfl) (fun cs esz log next ro hy s0 hs0=>?_)⟩
            · have h0:(U.plus (cut pend ((stL l τ q).y+1))).loc b s0=some L0:=h0;by_cases hz:s0=0
              · subst hz;cases hc:cut pend ((stL l τ q).y+1) b with
                | none=>rw [wR _ hc] at h0;exact hsub.loc _ _ _ h0
                | some L1 =>
                  rw [wG hc] at h0;cases h0;obtain ⟨hlt,hpb⟩:=zKR hc;by_cases hbe:b=(stL l τ q).y
                  · subst hbe;rw [hp.get] at hpb;cases hpb;simp [Inj.commit]
                  · rcases I.keys b L0 hpb with ⟨_,x⟩ | ⟨j,_,_,x1,x2,_,_,_,_,x7⟩
                    · exact hsub.loc _ _ _ x
                    · have:=S.mono q j x1 (Nat.le_of_lt (hX j x2));omega
              · rw [wH hz] at h0;exact hsub.loc _ _ _ h0
            · have hb:=hp.blk;subst hy;cases hb with
              | cells _ _ _ fresh =>
                have hh:=fresh s0 hs0;by_cases hz:s0=0
                · subst hz;have h2:(U.plus (cut pend ((stL l τ q).y+1))).loc (stL l τ q).y 0=some L:=wG (by simp [cut,hp.get]);rw [show ((U.plus (cut pend ((stL l τ q).y+1))).owned L.c (stL l τ q).y).loc (stL l τ q).y 0=(U.plus (cut pend ((stL l τ q).y+1))).loc (stL l τ q).y 0 from rfl,h2] at hh;cases hh
                · simp only [Inj.commit];rw [if_neg (fun x=>hz x.2)];exact hnone s0
          · rw [if_neg hbn] at hb;have h:=hgood.rep.blk b y' hb;refine ⟨by simp;omega,h.2.keepS hsub (fun s0 L0 h0=>?_) (fun _ _ _ _=>rfl) (fun cs esz log next ro hy s0 hs0=>?_)⟩
            · simp only [Inj.commit];rw [if_neg (hp.off _ _ _ h0)]
            · subst hy;simp only [Inj.commit];rw [if_neg (fun x=>hbn x.1)];cases h.2 with | cells _ _ _ fresh=>exact fresh s0 hs0
        · simp only [Inj.commit] at h0;split at h0
          · cases h0;exact hp.lt
          · exact hgood.rep.lt _ _ _ h0
        · simp only [Inj.commit] at h0;split at h0
          · rename_i hc;cases h0;rw [hc];exact ⟨hp.lt,by simp⟩
          · have:=hgood.rep.ownlt _ _ h0;exact ⟨this.1,by simp;omega⟩
        · simp at h0;simp only [Inj.commit];rw [if_neg (by omega)];exact hgood.rep.fresh b s0 (by omega)
      have good:Good U0 (stL l τ 0) w0 (U.commit (stL l τ q).y L) (stL l τ (q+1)) w:=by
        rw [hst];refine ⟨⟨fun b s0 L0 h0=>hsub.loc _ _ _ (hgood.ext.loc _ _ _ h0),hgood.ext.sz,fun b s0 h0 hb=>?_,fun c hc=>?_,hgood.ext.csz,fun b s0 L0 h0 hc=>?_⟩,rep,hgood.pres,hgood.low,Nat.le_trans hgood.y (by simp)⟩
        · simp at hb;simp only [Inj.commit];rw [if_neg (by omega)];exact hgood.ext.fresh b s0 h0 (by omega)
        · simp only [Inj.commit];rw [if_neg (by have:=hp.ge;omega)];exact hgood.ext.own c hc
        · simp only [Inj.commit] at h0;split at h0
          · cases h0;have:=hp.ge;omega
          · exact hgood.ext.old _ _ _ h0 hc
      have hps:∀ m,Sub (U.plus (cut pend m)) ((U.commit (stL l τ q).y L).plus (cut pend m)):=fun m =>
        zGA hsub (fun _ _ h=>h) (fun b L1 L2 h1 h2=>by rw [h1] at h2;cases h2) (fun _ _ _=>rfl)
      refine ⟨U.commit (stL l τ q).y L,hq1,fun j o' hj ha hlt=>?_,fun j o' hj ha hle hx=>I.beyond j o' hj ha (by omega) hx,good,fun b L1 hpb=>?_,fun j o' s' hle hx hj ha hs' hw'=>?_,I.inj, ?_,I.ds,I.fast⟩
      · by_cases he:j=q
        · subst he;exact hXq
        · exact I.ahead j o' hj ha (by omega)
      · rw [hst];rcases I.keys b L1 hpb with ⟨x1,x2⟩ | ⟨j,o',s',x1,x2,x3,x4,x5,x6,x7⟩
        · exact .inl ⟨by simp;omega,hsub.loc _ _ _ x2⟩
        · by_cases he:j=q
          · subst he;subst x7;rw [hp.get] at hpb;cases hpb;exact .inl ⟨by simp,by simp [Inj.commit]⟩
          · exact .inr ⟨j,o',s',by omega,x2,x3,x4,x5,x6,x7⟩
      · obtain ⟨y',L',e1,hp'⟩:=I.pok j o' s' (by omega) hx hj ha hs' hw';have hb:=hbig j hle (Nat.le_of_lt (yN hj).2);have hne:L'.c≠L.c:=fun e=>by
          have:=I.inj _ _ _ _ hp'.get hp.get e;omega
        refine ⟨y',L',e1,hp'.keep hp'.get (Nat.le_refl _) ?_ (fun b s0 L0 h0=>?_) (hps _) (fun s0 hs0=>?_) rfl⟩
        · simp only [Inj.commit];rw [if_neg hne];exact hp'.own
        · simp only [Inj.commit] at h0;split at h0
          · cases h0;exact fun e=>hne e.symm
          · exact hp'.off _ _ _ h0
        · have hn:=hgood.rep.fresh (stL l τ j).y s0 (by omega);exact ⟨hn,by simp only [Inj.commit];rw [if_neg (fun x=>hs0 x.2)];exact hn⟩
      · refine I.fr.sub (zGA hsub (fun _ _ h=>h) (fun b L1 L2 h1 h2=>by rw [h1] at h2;cases h2) (fun _ _ _=>rfl))
end
end Go.Lay

namespace Go.Lay
open Go
variable {k t0:Nat}

section
variable {P:Program} {rec:Rec} {ops:Array Oper} {l:List Seen} {t:Tm} {τ:St} {U0:Inj} {w0:World} {ds:List Deferred} {X:Nat->Prop} {a:Act} {w:World} {q:Nat} {U:Inj} {pend:Nat->Option Loc}

theorem Inv.advance (S:SeqD P rec ops ops.toList l t τ) (hX:∀ j,X j->j<ops.size):∀ (n:Nat) {q:Nat} {U:Inj},Inv ops l t τ U0 w0 ds X a w q U pend->q+n<=ops.size->(∀ (j:Nat) (o:Oper),ops[j]?=some o->q<=j->j<q+n->xP o.op=true->X j) ->
  ∃ U',Inv ops l t τ U0 w0 ds X a w (q+n) U' pend
 | 0,q,U,I,_,_=>⟨U,I⟩
 | n+1,q,U,I,hn,hall=>by
  have ho:ops[q]?=some ops[q]:=by simp
  obtain ⟨U₁,I₁⟩:=I.advance1 S hX ho (fun ha=>hall q _ ho (Nat.le_refl _) (by omega) ha);obtain ⟨U₂,I₂⟩:=Inv.advance S hX n I₁ (by omega) (fun j o hj h1 h2 ha=>hall j o hj (by omega) (by omega) ha);exact ⟨U₂,by rw [show q+(n+1)=q+1+n by omega];exact I₂⟩
theorem Inv.advanceTo (S:SeqD P rec ops ops.toList l t τ) (hX:∀ j,X j->j<ops.size) (I:Inv ops l t τ U0 w0 ds X a w q U pend) {m:Nat} (hqm:q<=m) (hm:m<=ops.size)
  (hall:∀ (j:Nat) (o:Oper),ops[j]?=some o->j<m->xP o.op=true->X j):∃ U',Inv ops l t τ U0 w0 ds X a w m U' pend:=by
 obtain ⟨U',I'⟩:=I.advance S hX (m-q) (by omega) (fun j o hj _ h2 ha=>hall j o hj (by omega) ha);exact ⟨U',by rw [show m=q+(m-q) by omega];exact I'⟩

structure Rdy (ops:Array Oper) (X:Nat->Prop) (i:Nat) (o:Oper):Prop where
 op:ops[i]?=some o
 not:¬ X i
 dep:∀ e∈o.after.toList,Region.binds .any e=true->X e.on

section
variable (D:DrawOk ops) (hC:yMS ops X) {i:Nat} {o:Oper} (R:Rdy ops X i o)
include D hC R
theorem Rdy.pre {k:Nat} (h:pre (BF ops) k i=true):X k:=yKK D hC i o R.op R.dep k h
theorem Rdy.apart {k:Nat} {ok:Oper} (hk:ops[k]?=some ok) (hne:k≠i) (hx:¬ (X k/\k<i)) (hx2:¬ (¬ X k/\i<k)):Oper.apart ops ok o=true/\Oper.apart ops o ok=true:=by
 have h1:Go.Lay.pre (BF ops) k i=false:=by
  rw [Bool.eq_false_iff];intro h;exact hx ⟨R.pre D hC h,yKJ D k i (yN R.op).2 h⟩
 have h2:Go.Lay.pre (BF ops) i k=false:=by
  rw [Bool.eq_false_iff];intro h;have hlt:=yKJ D i k (yN hk).2 h;refine hx2 ⟨fun hxk=>?_,hlt⟩;exact R.not (yKK D hC k ok hk (fun e he hb=>hC k ok hxk hk e he hb) i h)
 exact ⟨D.apart k i ok o hk R.op hne h1 h2,D.apart i k o ok R.op hk (Ne.symm hne) h2 h1⟩
theorem Rdy.writer (ht:t0∈o.looksAt ops) (hk:(ops[k]?).bind (·.dst)=some t0):X k↔k<i:=by
 cases hok:ops[k]? with
 | none=>rw [hok] at hk;simp at hk
 | some ok =>
  rw [hok] at hk;simp at hk;by_cases hne:k=i
  ·subst hne;exact ⟨fun h=>absurd h R.not,fun h=>absurd h (Nat.lt_irrefl _)⟩
  ·have no:¬ (Oper.apart ops ok o=true):=fun h=>(Oper.apart_spec h).1 t0 hk ht
   by_cases hx:X k
   ·refine ⟨fun _=>?_,fun _=>hx⟩
    by_cases hlt:k<i
    ·exact hlt
    ·exact absurd (R.apart D hC hok hne (fun h=>hlt h.2) (fun h=>h.1 hx)).1 no
   ·refine ⟨fun h=>absurd h hx,fun hlt=>?_⟩
    exact absurd (R.apart D hC hok hne (fun h=>hx h.1) (fun h=>by omega)).1 no
theorem Rdy.max (hx:X k) (ht:o.dst=some t0) (hk:(ops[k]?).bind (·.dst)=some t0):k<i:=by
 cases hok:ops[k]? with
 | none=>rw [hok] at hk;simp at hk
 | some ok =>
  rw [hok] at hk;simp at hk;have hne:k≠i:=fun e=>R.not (e ▸ hx)
  by_cases hlt:k<i
  ·exact hlt
  ·exact absurd ht ((Oper.apart_spec (R.apart D hC hok hne (fun h=>hlt h.2) (fun h=>h.1 hx)).1).2.1 t0 hk)

theorem Rdy.operand (S:SeqD P rec ops ops.toList l t τ) (I:Inv ops l t τ U0 w0 ds X a w q U pend) (hok:zKD o=true) {x:Operand} (hx:x∈o.op.operands):VR (U.plus pend) (yG (frL l t i) x) (a.eval x):=by
 cases x with
 | tmp t0 =>
  have hl:t0∈o.looksAt ops:=List.mem_append_left _ (List.mem_filterMap.2 ⟨.tmp t0,by simpa using hx,rfl⟩);exact I.fr.match S (Nat.le_of_lt (yN R.op).2) (fun k hk=>R.writer D hC hl hk)
 | const v=>exact .refl_rigid _ (xYW hok hx)
 | global g=>exact .any rfl
 | func g=>exact .func (.func g) rfl (fun i v v' h=>by simp at h) rfl (fun i v v' h=>by simp at h)
theorem Rdy.guard (S:SeqD P rec ops ops.toList l t τ) (I:Inv ops l t τ U0 w0 ds X a w q U pend) {b:Bool} (hg:zFK ops (frL l t i) o=some b):Region.wanted o (yielded ops a.tmps)=b:=by
 refine zHS (U:=U.plus pend) hg (fun j want d hgd hd=>?_);have hl:d∈o.looksAt ops:=List.mem_append_right _ (by simp [hgd,hd]);exact I.fr.match S (Nat.le_of_lt (yN R.op).2) (fun k hk=>R.writer D hC hl hk)
end

structure Ask (P:Program) (ops:Array Oper) (l:List Seen) (t:Tm) (τ:St):Prop where
 low:∀ (i:Nat) (o:Oper) (s:Seen),ops[i]?=some o->l[i]?=some s->s.want=true->(xP o.op || zBP o.op)=true->(∀ j,wW ops (BF ops) j=false)\/zCM (stL l τ i).y (frL l t i) o=true
 steady:∀ (i k:Nat) (oi ok:Oper) (si:Seen),ops[i]?=some oi->ops[k]?=some ok->i≠k->l[i]?=some si->si.want=true->zBP oi.op=true->xP ok.op=true->pre (BF ops) i k=false->pre (BF ops) k i=false ->
  (xM P (yG (frL l t i)) (stL l τ k) oi.op=some si.v/\zCM (stL l τ k).y (frL l t i) oi=true)/\(xM P (yG (frL l t i)) (stL l τ (k+1)) oi.op=some si.v/\zCM (stL l τ (k+1)).y (frL l t i) oi=true)

section
variable (hz:zAE P) (hrec:RecSound P rec) (D:DrawOk ops) (S:SeqD P rec ops ops.toList l t τ) (A:Ask P ops l t τ) (hC:yMS ops X) (hX:∀ j,X j->j<ops.size) (hok:∀ (j:Nat) (o:Oper),ops[j]?=some o->zKD o=true)
variable {i:Nat} {o:Oper} (R:Rdy ops X i o) {rd:Option Nat} {n:Nat} {Q:Exit->Act->World->Prop}

theorem Inv.stepWith (I:Inv ops l t τ U0 w0 ds X a w q U pend) {s:Seen} (hs:l[i]?=some s) (ho:ops[i]?=some o) (hnx:¬ X i) (hmax:∀ k t0,X k->o.dst=some t0->(ops[k]?).bind (·.dst)=some t0->k<i)
  (hact:xP o.op=false) {v':Value} (hv:VR (U.plus pend) s.v v'):Inv ops l t τ U0 w0 ds (fun j=>X j\/j=i) (a.put o.dst v') w q U pend:=by
 have hi:∀ {j:Nat} {o':Oper},ops[j]?=some o'->xP o'.op=true->j≠i:=fun hj ha e=>by subst e;rw [ho] at hj;cases hj;rw [hact] at ha;cases ha
 refine ⟨I.hq,fun j o' hj ha hlt=>.inl (I.ahead j o' hj ha hlt),fun j o' hj ha hle hx=>I.beyond j o' hj ha hle (hx.resolve_right (hi hj ha)),I.good,fun b L hp=>?_,
  fun j o' s' hle hx hj ha hs' hw=>I.pok j o' s' hle (hx.resolve_right (hi hj ha)) hj ha hs' hw,I.inj,I.fr.put ho hs hmax hv, ?_,I.fast⟩
 ·exact (I.keys b L hp).imp id (fun ⟨j,o',s',x1,x2,x3⟩=>⟨j,o',s',x1,.inl x2,x3⟩)
 ·rw [<- I.ds];unfold Act.put;split <;> rfl

include S in
theorem Inv.stepIdle (I:Inv ops l t τ U0 w0 ds X a w q U pend) {s:Seen} (hs:l[i]?=some s) (ho:ops[i]?=some o) (hnx:¬ X i) (hmax:∀ k t0,X k->o.dst=some t0->(ops[k]?).bind (·.dst)=some t0->k<i)
  (hw:s.want=false) (hqi:q=i\/wW ops (BF ops) i=true):∃ q',Inv ops l t τ U0 w0 ds (fun j=>X j\/j=i) (a.put o.dst undef) w q' U pend:=by
 obtain ⟨s0,hs0,_,_,_,_,_,_,h2⟩:=S.at ho;rw [hs] at hs0;cases hs0;obtain ⟨hv,hst⟩:=h2 hw;have hfr:FrOk ops l (frL l t 0) (fun j=>X j\/j=i) (U.plus pend) (a.put o.dst undef).tmps:=I.fr.put ho hs hmax (by rw [hv];exact .undef);have hds:(a.put o.dst undef).defers=ds:=by rw [<- I.ds];unfold Act.put;split <;> rfl
 by_cases hf:wW ops (BF ops) i=true
 ·refine ⟨q,I.hq,fun j o' hj ha hlt=>.inl (I.ahead j o' hj ha hlt),fun j o' hj ha hle hx=>?_,I.good,fun b L hp=>?_,fun j o' s' hle hx hj ha hs' hw'=>?_,I.inj,hfr,hds,I.fast⟩
  ·rcases hx with hx | rfl
   ·exact I.beyond j o' hj ha hle hx
   ·exact hf
  ·exact (I.keys b L hp).imp id (fun ⟨j,o',s',x1,x2,x3⟩=>⟨j,o',s',x1,.inl x2,x3⟩)
  ·rcases hx with hx | rfl
   ·exact I.pok j o' s' hle hx hj ha hs' hw'
   ·rw [hs] at hs';cases hs';rw [hw] at hw';cases hw'
 ·have hqi:q=i:=hqi.resolve_right hf;subst hqi;refine ⟨q+1,(yN ho).2,fun j o' hj ha hlt=>?_,fun j o' hj ha hle hx=>?_,by rw [hst];exact I.good,fun b L hp=>?_,fun j o' s' hle hx hj ha hs' hw'=>?_,I.inj,hfr,hds,I.fast⟩
  ·by_cases he:j=q
   ·exact .inr he
   ·exact .inl (I.ahead j o' hj ha (by omega))
  ·exact I.beyond j o' hj ha (by omega) (hx.resolve_right (by omega))
  ·rw [hst];refine (I.keys b L hp).imp id (fun ⟨j,o',s',x1,x2,x3⟩=>⟨j,o',s', ?_,.inl x2,x3⟩);have:j≠q:=fun e=>hnx (e ▸ x2)
   omega
  ·exact I.pok j o' s' (by omega) (hx.resolve_right (by omega)) hj ha hs' hw'

include S in
theorem Inv.stepAct (I:Inv ops l t τ U0 w0 ds X a w i U pend) {s:Seen} (hs:l[i]?=some s) (ho:ops[i]?=some o) (hnx:¬ X i) (hmax:∀ k t0,X k->o.dst=some t0->(ops[k]?).bind (·.dst)=some t0->k<i)
  {v':Value} {w':World} {U':Inj} (hv:VR U' s.v v') (hg:Good U (stL l τ i) w U' (stL l τ (i+1)) w'):Inv ops l t τ U0 w0 ds (fun j=>X j\/j=i) (a.put o.dst v') w' (i+1) U' pend:=by
 have hmono:=S.mono i (i+1) (by omega) (yN ho).2;have hps:∀ m,Sub (U.plus (cut pend m)) (U'.plus (cut pend m)):=fun m =>
  zGA hg.ext.sub (fun _ _ h=>h) (fun b L1 L2 h1 h2=>by rw [h1] at h2;cases h2) (fun b L h=>hg.ext.csz _ (I.lt_size (zKR h).2))
 have keys:∀ b L,pend b=some L->(b<(stL l τ (i+1)).y/\U'.loc b 0=some L)\/(∃ j o s,i+1<=j/\(X j\/j=i)/\ops[j]?=some o/\l[j]?=some s/\s.want=true/\wW ops (BF ops) j=true/\b=(stL l τ j).y):=by
  intro b L hp;rcases I.keys b L hp with ⟨x1,x2⟩ | ⟨j,o',s',x1,x2,x3⟩
  ·exact .inl ⟨by omega,hg.ext.loc _ _ _ x2⟩
  ·refine .inr ⟨j,o',s', ?_,.inl x2,x3⟩;have:j≠i:=fun e=>hnx (e ▸ x2)
   omega
 refine ⟨(yN ho).2,fun j o' hj ha hlt=>?_,fun j o' hj ha hle hx=>I.beyond j o' hj ha (by omega) (hx.resolve_right (by omega)),I.good.trans hg,keys,fun j o' s' hle hx hj ha hs' hw'=>?_,I.inj, ?_, ?_,I.fast⟩
 ·by_cases he:j=i
  ·exact .inr he
  ·exact .inl (I.ahead j o' hj ha (by omega))
 ·obtain ⟨y,L,e1,hp⟩:=I.pok j o' s' (by omega) (hx.resolve_right (by omega)) hj ha hs' hw';have hnj:=S.mono (i+1) j hle (Nat.le_of_lt (yN hj).2);refine ⟨y,L,e1,hp.keep hp.get hg.pres.size (by rw [hg.ext.own _ hp.lt];exact hp.own) (fun b s0 L0 h0 e=>?_) (hps _) (fun s0 hs0=>?_) (hg.pres.same _ hp.lt (fun b hb=>by rw [hp.own] at hb;cases hb))⟩
  ·obtain ⟨b',s',L',g1,g2⟩:=hg.ext.old _ _ _ h0 (by rw [e];exact hp.lt);exact hp.off _ _ _ g1 (g2.trans e)
  ·have hn:=I.good.rep.fresh (stL l τ j).y s0 (by omega);exact ⟨hn,hg.ext.fresh _ _ hn (by omega)⟩
 ·have h1:Sub (U.plus pend) (U'.plus pend):=zGA hg.ext.sub (fun _ _ h=>h) (fun b L1 L2 h1 h2=>by rw [h1] at h2;cases h2) (fun b L h=>hg.ext.csz _ (I.lt_size h));refine (I.fr.sub h1).put ho hs hmax (VR.sub (U:=U') (U':=U'.plus pend) ⟨fun b s0 L0 h0=>?_,fun _ _ _ _=>rfl⟩ hv);by_cases hz0:s0=0
  ·subst hz0;cases hp:pend b with
   | none=>rw [wR _ hp];exact h0
   | some L1 =>
    rw [wG hp];rcases keys b L1 hp with ⟨_,x⟩ | ⟨j,o',s',x1,x2,x3,x4,x5,x6,rfl⟩
    ·rw [h0] at x;exact x.symm
    ·have hnj:=S.mono (i+1) j x1 (Nat.le_of_lt (yN x3).2);rw [hg.rep.fresh _ _ hnj] at h0;cases h0
  ·rw [wH hz0];exact h0
 ·rw [<- I.ds];unfold Act.put;split <;> rfl

include hz hrec D S A hC hX hok R in
theorem Inv.step (I:Inv ops l t τ U0 w0 ds X a w q U pend) :
    wpOpIn (Fw rd) n P ops Q i (fun a' w'=>∃ q' U' pend',Inv ops l t τ U0 w0 ds (fun j=>X j\/j=i) a' w' q' U' pend') a w:=by
  obtain ⟨s,hs,_,_,_,_,hg,h1,h2⟩:=S.at R.op;have ho:=R.op;have hlti:=(yN ho).2;have hmax:∀ k t0,X k->o.dst=some t0->(ops[k]?).bind (·.dst)=some t0->k<i:=fun k t0 hx hd hk=>R.max D hC hx hd hk
  have hoi:=hok i o ho;unfold wpOpIn;rw [ho];simp only;rw [R.guard D hC S I hg];have front:xP o.op=true->wW ops (BF ops) i=false->∃ U',Inv ops l t τ U0 w0 ds X a w i U' pend:=by
    intro ha hf;have hall:∀ (j:Nat) (o':Oper),ops[j]?=some o'->j<i->xP o'.op=true->X j:=by
      intro j o' hj hlt haj;refine R.pre D hC ?_
      cases hm:vL o.op with
      | false=>exact D.acts j i o' o hj ho hlt haj ha hm
      | true =>
        unfold wW at hf;rw [(yN ho).1,hm,Bool.true_and] at hf;have hf:=List.any_eq_false.1 hf j (List.mem_range.2 hlt);rw [(yN hj).1,haj] at hf;simpa using hf
    have hqi:q<=i:=by
      refine Nat.le_of_not_lt (fun h=>R.not (I.ahead i o ho ha h))
    exact I.advanceTo S hX hqi (Nat.le_of_lt hlti) hall
  cases hw:s.want with
  | false =>
    rw [if_neg (by simp)];refine ⟨fun f _=>yJC rd f, ?_⟩
    cases ha:xP o.op with
    | false=>exact ⟨q,U,pend,I.stepWith hs ho R.not hmax ha (by rw [(h2 hw).1];exact .undef)⟩
    | true =>
      cases hf:wW ops (BF ops) i with
      | true =>
        obtain ⟨q',h⟩:=I.stepIdle S hs ho R.not hmax hw (.inr hf);exact ⟨q',U,pend,h⟩
      | false =>
        obtain ⟨U',I'⟩:=front ha hf;obtain ⟨q',h⟩:=I'.stepIdle S hs ho R.not hmax hw (.inl rfl);exact ⟨q',U',pend,h⟩
  | true =>
    rw [if_pos rfl];have hop:=h1 hw;rcases zKE hop with ⟨ha,hcase⟩ | ⟨ha,hlk,hsee,_⟩ | ⟨ha,_,hval,_⟩
    · cases hf:wW ops (BF ops) i with
      | false =>
        obtain ⟨U₁,I₁⟩:=front ha hf;refine yGR hz hrec hop I₁.good.rep (fun x hx=>?_) (fun v' w' U' hv hgd=>⟨i+1,U',pend,I₁.stepAct S hs ho R.not hmax hv hgd⟩);exact I₁.lower S hX (A.low i o s ho hs hw (by rw [ha];rfl)) hx (R.operand D hC S I₁ hoi hx)
      | true =>
        have hm:=zHT ho hf;have hqi:q<=i:=Nat.le_of_not_lt (fun h=>R.not (I.ahead i o ho ha h));have heff:zQ P (yG (frL l t i)) (stL l τ i) o.op=some (s.v,stL l τ (i+1)):=by
          rcases hcase with ⟨c,_,_,_,hc,_⟩ | h | ⟨h,_⟩
          · rw [hc] at hm;simp [vL] at hm
          · exact h
          · exfalso;cases hoo:o.op <;> rw [hoo] at hm h <;> first | (simp [vL] at hm;done) | (simp [xU] at h;done)
        obtain ⟨y,hst,hany⟩:=xPH hm heff;have hbel:zCM (stL l τ i).y (frL l t i) o=true:=by
          rcases A.low i o s ho hs hw (by rw [ha];rfl) with h | h
          · rw [h i] at hf;cases hf
          · exact h
        have hqn:=S.mono q i hqi (Nat.le_of_lt hlti);have hpn:pend (stL l τ i).y=none:=by
          cases hp:pend (stL l τ i).y with
          | none=>rfl
          | some L =>
            exfalso;rcases I.keys _ L hp with ⟨x,_⟩ | ⟨j,o',s',x1,x2,x3,x4,x5,x6,x7⟩
            · omega
            · have hji:j≠i:=fun e=>R.not (e ▸ x2)
              obtain ⟨yj,_,ej,_⟩:=I.pok j o' s' x1 x2 x3 (zOP (zHT x3 x6)) x4 x5;rcases Nat.lt_or_ge j i with hlt | hge
              · have:=S.mono (j+1) i hlt (Nat.le_of_lt hlti);rw [ej,St.add_next] at this;omega
              · have:=S.mono (i+1) j (by omega) (Nat.le_of_lt (hX j x2));rw [hst,St.add_next] at this;omega
        have hlocn:∀ s,U.loc (stL l τ i).y s=none:=fun s=>I.good.rep.fresh _ _ hqn
        let N:=(stL l τ i).y;let κ:=U.plus (cut pend N);let Z₂:St:=⟨.leaf,N,N⟩;have hlt2:∀ b s L,κ.loc b s=some L->L.c<w.heap.size:=fun b s0 L h0=>by
          by_cases hz0:s0=0
          · subst hz0;cases hc:cut pend N b with
            | none=>rw [show κ.loc b 0=U.loc b 0 from wR _ hc] at h0;exact I.good.rep.lt _ _ _ h0
            | some L1=>rw [show κ.loc b 0=some L1 from wG hc] at h0;cases h0;exact I.lt_size (zKR hc).2
          · rw [show κ.loc b s0=U.loc b s0 from wH hz0] at h0;exact I.good.rep.lt _ _ _ h0
        have hrep:Rep κ Z₂ w:=by
          refine ⟨fun b y0 hb=>?_,hlt2,fun c b hcb=>⟨(I.good.rep.ownlt c b hcb).1,Nat.lt_of_lt_of_le (I.good.rep.ownlt c b hcb).2 hqn⟩,fun b s0 hb=>?_⟩
          · simp [Z₂,yJ,Tr.getP_leaf] at hb
          · have hb:N<=b:=hb;have hc:cut pend N b=none:=by unfold cut;rw [if_neg (by omega)]
            rw [show κ.loc b s0=U.loc b s0 from wR _ hc];exact I.good.rep.fresh _ _ (Nat.le_trans hqn hb)
        have hevκ:∀ x∈o.op.operands,VR κ (yG (frL l t i) x) (a.eval x):=fun x hx=>by
          refine VR.lower (κ:=U.plus pend) (κ':=κ) (m:=N) (fun b s0 L hlt hL=>?_) (fun _ _ _ _=>rfl) RD (List.all_eq_true.1 hbel x (by simpa using hx)) (R.operand D hC S I hoi hx);have hcb:cut pend N b=pend b:=by unfold cut;rw [if_pos hlt]
          by_cases hz0:s0=0
          · subst hz0;cases hp:pend b with
            | none=>rw [show κ.loc b 0=U.loc b 0 from wR _ (hcb.trans hp)];rw [wR _ hp] at hL;exact hL
            | some L1=>rw [show κ.loc b 0=some L1 from wG (hcb.trans hp)];rw [wG hp] at hL;exact hL
          · rw [show κ.loc b s0=U.loc b s0 from wH hz0];rw [wH hz0] at hL;exact hL
        obtain ⟨nx,v',obj,y2,m,z,hrun,hnv,hv,hy2,hgd⟩:=yAR hz hm (hany Z₂ rfl) hrep hevκ;have hyy:yJ (Z₂.add y).heap N=some y:=by rw [St.add_get,if_pos rfl]
        have hblk:=(hgd.rep.blk N y hyy).2;have hd:∀ c,o.op≠.defer c:=fun c hc=>by rw [hc] at hm;simp [vL] at hm
        refine zLR hd hrun hnv ?_
        let U₁:Inj:={ U with csz:=fun c=>if c=w.heap.size then m else U.csz c };let pend₁:Nat->Option Loc:=fun b=>if b=N then some ⟨w.heap.size,0,0,z⟩ else pend b
        have hU₁:Sub U U₁:=⟨fun _ _ _ h=>h,fun b s0 L h=>by
          have:=I.good.rep.lt _ _ _ h;have hne:L.c≠w.heap.size:=by omega
          simp [U₁,hne]⟩
        have hpp:∀ b L,pend b=some L->pend₁ b=some L:=fun b L h=>by
          have:b≠N:=fun e=>by subst e;rw [hpn] at h;cases h
          simp [pend₁,this,h]
        have hnew:∀ b L L',pend b=none->pend₁ b=some L->U.loc b 0=some L'->L'=L:=fun b L L' h1 h2 h3=>by
          by_cases e:b=N
          · subst e;rw [hlocn 0] at h3;cases h3
          · simp [pend₁,e,h1] at h2
        have hszp:∀ b L,pend b=some L->U₁.csz L.c=U.csz L.c:=fun b L h=>by
          have:=I.lt_size h;have hne:L.c≠w.heap.size:=by omega
          simp [U₁,hne]
        have hsubA:Sub (U.plus pend) (U₁.plus pend₁):=zGA hU₁ hpp hnew hszp;have hsubC:∀ k,Sub (U.plus (cut pend k)) (U₁.plus (cut pend₁ k)):=fun k =>
          zGA hU₁ (fun b L h=>by obtain ⟨h1,h2⟩:=zKR h;unfold cut;rw [if_pos h1];exact hpp b L h2)
            (fun b L L' h1 h2 h3=>by
              obtain ⟨g1,g2⟩:=zKR h2;refine hnew b L L' ?_ g2 h3;unfold cut at h1;rw [if_pos g1] at h1;exact h1)
            (fun b L h=>hszp b L (zKR h).2)
        have hadd : ∀ (pd:Nat->Option Loc),(∀ b L,cut pend N b=some L->pd b=some L)->(∀ b,b<N->pend b=none->pd b=none)->pd N=some ⟨w.heap.size,0,0,z⟩->Sub (κ.add N w.heap.size m z) (U₁.plus pd):=by
          intro pd hp1 hp2 hp3;refine ⟨fun b s0 L h0=>?_,fun b s0 L _=>rfl⟩
          simp only [Inj.add] at h0;split at h0
          · rename_i hc;obtain ⟨rfl,rfl⟩:=hc;cases h0;exact wG hp3
          · rename_i hc;by_cases hz0:s0=0
            · subst hz0;have hbn:b≠N:=fun e=>hc ⟨e,rfl⟩
              cases hcp:cut pend N b with
              | some L1 =>
                rw [show κ.loc b 0=some L1 from wG hcp] at h0;cases h0;exact wG (hp1 b L hcp)
              | none =>
                rw [show κ.loc b 0=U.loc b 0 from wR _ hcp] at h0;have hblt:b<N:=by
                  rcases Nat.lt_or_ge b N with h | h
                  · exact h
                  · rw [I.good.rep.fresh _ _ (Nat.le_trans hqn h)] at h0;cases h0
                have hpb:pend b=none:=by unfold cut at hcp;rw [if_pos hblt] at hcp;exact hcp
                rw [wR _ (hp2 b hblt hpb)];exact h0
            · rw [show κ.loc b s0=U.loc b s0 from wH hz0] at h0;rw [wH hz0];exact h0
        have hkn:∀ s0,s0≠0->κ.loc N s0=none:=fun s0 hs0=>by rw [show κ.loc N s0=U.loc N s0 from wH hs0];exact hlocn s0
        refine ⟨q,U₁,pend₁,I.hq,fun j o' hj ha' hlt=>.inl (I.ahead j o' hj ha' hlt),fun j o' hj ha' hle hx=>?_, ?_,fun b L hp=>?_,fun j o' s' hle hx hj ha' hs' hw'=>?_,fun b b' L L' hb hb' he=>?_, ?_, ?_,fun hno=>?_⟩
        · rcases hx with hx | rfl
          · exact I.beyond j o' hj ha' hle hx
          · exact hf
        · have hgo:=I.good;refine ⟨⟨hgo.ext.loc,fun b s0 L h0=>?_,hgo.ext.fresh,hgo.ext.own,fun c hc=>?_,hgo.ext.old⟩,⟨fun b y' hb=>?_,fun b s0 L h0=>?_,fun c b hc=>?_,hgo.rep.fresh⟩,⟨?_,fun c hc hown=>?_,hgo.pres.tape,hgo.pres.os,hgo.pres.output,hgo.pres.fr.trans hgd.pres.fr⟩,hgo.low,hgo.y⟩
          · have e1:=hgo.ext.sz _ _ _ h0;have:=hgo.rep.lt _ _ _ (hgo.ext.loc _ _ _ h0);have hne:L.c≠w.heap.size:=by omega
            simpa [U₁,hne] using e1
          · have e1:=hgo.ext.csz c hc;have:=hgo.pres.size;have hne:c≠w.heap.size:=by omega
            simpa [U₁,hne] using e1
          · have hb:=hgo.rep.blk b y' hb;refine ⟨hb.1,hb.2.keepS hU₁ (fun _ _ _=>rfl) (fun s0 L h0 _=>World.push_old w obj (hgo.rep.lt _ _ _ h0)) (fun cs esz log next ro hy s0 hs0=>?_)⟩
            have hb2:=hb.2;subst hy;cases hb2 with | cells _ _ _ fresh=>exact fresh s0 hs0
          · have:=hgo.rep.lt b s0 L h0;simp;omega
          · have:=hgo.rep.ownlt c b hc;exact ⟨by simp;omega,this.2⟩
          · have:=hgo.pres.size;simp;omega
          · rw [World.push_old w obj (Nat.lt_of_lt_of_le hc hgo.pres.size)];exact hgo.pres.same c hc hown
        · by_cases hbn:b=N
          · subst hbn;exact .inr ⟨i,o,s,hqi,.inr rfl,ho,hs,hw,hf,rfl⟩
          · have hp':pend b=some L:=by simpa [pend₁,hbn] using hp
            exact (I.keys b L hp').imp id (fun ⟨j,o',s',x1,x2,x3⟩=>⟨j,o',s',x1,.inl x2,x3⟩)
        · by_cases hji:j=i
          · subst hji;refine ⟨y,⟨w.heap.size,0,0,z⟩,hst,by simp [pend₁,N],I.good.pres.size,by simp, ?_,fun b s0 L h0 e=>?_, ?_⟩
            · show U.own w.heap.size=none;cases hown:U.own w.heap.size with
              | none=>rfl
              | some b=>have:=(I.good.rep.ownlt _ _ hown).1;omega
            · have:=I.good.rep.lt b s0 L h0;simp at e;omega
            · have hs1:=hadd (cut pend₁ (N+1)) (fun b L h=>by obtain ⟨h1,h2⟩:=zKR h;unfold cut;rw [if_pos (by omega)];exact hpp b L h2)
                (fun b h1 h2 => by unfold cut;rw [if_pos (by omega)];have:b≠N:=by omega
                                   simp [pend₁,this,h2]) (by unfold cut;rw [if_pos (by omega)];simp [pend₁])
              refine hblk.keepS (U':=(U₁.plus (cut pend₁ (N+1))).owned w.heap.size N) ⟨hs1.loc,hs1.sz⟩ (fun s0 L h0=>?_) (fun _ _ _ _=>rfl) (fun cs esz log next ro hy s0 hs0=>?_)
              · have:L.c=w.heap.size:=by
                  simp only [Inj.add] at h0;split at h0
                  · cases h0;rfl
                  · rename_i hc;rw [hkn s0 (fun e=>hc ⟨rfl,e⟩)] at h0;cases h0
                rw [this];simp [Inj.owned,Inj.add,Z₂]
              · have hb2:=hblk;subst hy;cases hb2 with
                | cells _ _ _ fresh =>
                  have:=fresh s0 hs0;by_cases hz0:s0=0
                  · subst hz0;simp [Inj.add,Z₂] at this
                  · rw [show ((U₁.plus (cut pend₁ (N+1))).owned w.heap.size N).loc N s0=U.loc N s0 from wH (U:=U₁) hz0];exact hlocn s0
          · have hxj:=hx.resolve_right hji;obtain ⟨yj,Lj,ej,hp⟩:=I.pok j o' s' hle hxj hj ha' hs' hw';refine ⟨yj,Lj,ej,hp.keep (hpp _ _ hp.get) (by simp) hp.own hp.off (hsubC _) (fun s0 _=>?_) (World.push_old w obj hp.lt)⟩
            have hn:=I.good.rep.fresh (stL l τ j).y s0 (S.mono q j hle (Nat.le_of_lt (hX j hxj)));exact ⟨hn,hn⟩
        · by_cases hbn:b=N
          · by_cases hbn':b'=N
            · rw [hbn,hbn']
            · exfalso;have h1:L=⟨w.heap.size,0,0,z⟩:=by simpa [pend₁,hbn] using hb.symm
              have h2:pend b'=some L':=by simpa [pend₁,hbn'] using hb'
              have:=I.lt_size h2;rw [<- he,h1] at this;simp at this
          · have h1:pend b=some L:=by simpa [pend₁,hbn] using hb
            by_cases hbn':b'=N
            · exfalso;have h2:L'=⟨w.heap.size,0,0,z⟩:=by simpa [pend₁,hbn'] using hb'.symm
              have:=I.lt_size h1;rw [he,h2] at this;simp at this
            · exact I.inj b b' L L' h1 (by simpa [pend₁,hbn'] using hb') he
        · refine (I.fr.sub hsubA).put ho hs hmax (hv.sub (hadd pend₁ (fun b L h=>hpp b L (zKR h).2) (fun b h1 h2=>?_) (by simp [pend₁])));have:b≠N:=by omega
          simp [pend₁,this,h2]
        · rw [<- I.ds];unfold Act.put;split <;> rfl
        · rw [hno i] at hf;cases hf
    ·
      obtain ⟨m,hqm,hm,hall,hend⟩:∃ m,q<=m/\m<=ops.size/\(∀ (j:Nat) (o':Oper),ops[j]?=some o'->j<m->xP o'.op=true->X j)/\(m=ops.size\/∃ om,ops[m]?=some om/\xP om.op=true/\¬ X m):=by
        have key:∀ (k q:Nat),q+k=ops.size->(∀ (j:Nat) (o':Oper),ops[j]?=some o'->j<q->xP o'.op=true->X j) ->
            ∃ m,q<=m/\m<=ops.size/\(∀ (j:Nat) (o':Oper),ops[j]?=some o'->j<m->xP o'.op=true->X j)/\(m=ops.size\/∃ om,ops[m]?=some om/\xP om.op=true/\¬ X m):=by
          intro k
          induction k with
          | zero=>intro q hq hall;exact ⟨q,Nat.le_refl _,by omega,hall,.inl (by omega)⟩
          | succ k ih =>
            intro q hq hall;have hoq:ops[q]?=some ops[q]:=by simp
            by_cases hbad:xP ops[q].op=true/\¬ X q
            · exact ⟨q,Nat.le_refl _,by omega,hall,.inr ⟨_,hoq,hbad.1,hbad.2⟩⟩
            · obtain ⟨m,m1,m2,m3,m4⟩:=ih (q+1) (by omega) (fun j o' hj hlt ha'=>by
                by_cases he:j=q
                · subst he;rw [hoq] at hj;cases hj;exact Classical.byContradiction fun hx=>hbad ⟨ha',hx⟩
                · exact hall j o' hj (by omega) ha')
              exact ⟨m,by omega,m2,m3,m4⟩
        obtain ⟨m,m1,m2,m3,m4⟩:=key (ops.size-q) q (by have:=I.hq;omega) (fun j o' hj hlt haj=>I.ahead j o' hj haj hlt);exact ⟨m,m1,m2,m3,m4⟩
      obtain ⟨U₁,I₁⟩:=I.advanceTo S hX hqm hm hall;have hlow:=A.low i o s ho hs hw (by rw [ha,hlk];rfl);have climb:∀ k,i+k<=m->xM P (yG (frL l t i)) (stL l τ (i+k)) o.op=some s.v/\((∀ j,wW ops (BF ops) j=false)\/zCM (stL l τ (i+k)).y (frL l t i) o=true):=by
        intro k;induction k with
        | zero=>intro _;exact ⟨hsee,hlow⟩
        | succ k ih =>
          intro hk;obtain ⟨g1,g2⟩:=ih (by omega);have hok':ops[i+k]?=some ops[i+k]:=by simp
          obtain ⟨sk,hsk,_,_,_,_,_,k1,k2⟩:=S.at hok';have same:stL l τ (i+k+1)=stL l τ (i+k)->xM P (yG (frL l t i)) (stL l τ (i+(k+1))) o.op=some s.v/\((∀ j,wW ops (BF ops) j=false)\/zCM (stL l τ (i+(k+1))).y (frL l t i) o=true):=fun e=>by
            rw [show i+(k+1)=i+k+1 by omega,e];exact ⟨g1,g2⟩
          cases hak:xP ops[i+k].op with
          | false =>
            refine same ?_
            cases hwk:sk.want with
            | false=>exact (k2 hwk).2
            | true =>
              rcases zKE (k1 hwk) with ⟨h,_⟩ | ⟨_,_,_,h⟩ | ⟨_,_,_,h⟩
              · rw [hak] at h;cases h
              · exact h
              · exact h
          | true =>
            have hk0:k≠0:=fun e=>by
              have h5:ops[i+k]?=some o:=by rw [e,Nat.add_zero];exact ho
              rw [hok'] at h5;rw [Option.some.inj h5,ha] at hak;cases hak
            have hxk:=hall (i+k) _ hok' (by omega) hak;have p1:pre (BF ops) i (i+k)=false:=by
              rw [Bool.eq_false_iff];intro h;exact R.not (yKK D hC (i+k) _ hok' (fun e he hb=>hC _ _ hxk hok' e he hb) i h)
            have p2:pre (BF ops) (i+k) i=false:=by
              rw [Bool.eq_false_iff];intro h;have:=yKJ D (i+k) i hlti h;omega
            obtain ⟨_,h3,h4⟩:=A.steady i (i+k) o _ s ho hok' (by omega) hs hw hlk hak p1 p2;exact ⟨by rw [show i+(k+1)=i+k+1 by omega];exact h3,.inr (by rw [show i+(k+1)=i+k+1 by omega];exact h4)⟩
      have hsm:xM P (yG (frL l t i)) (stL l τ m) o.op=some s.v/\((∀ j,wW ops (BF ops) j=false)\/zCM (stL l τ m).y (frL l t i) o=true):=by
        rcases Nat.lt_or_ge m i with hmi | hmi
        · rcases hend with he | ⟨om,hom,ham,hxm⟩
          · omega
          · have p1:pre (BF ops) i m=false:=by
              rw [Bool.eq_false_iff];intro h;have:=yKJ D i m (yN hom).2 h;omega
            have p2:pre (BF ops) m i=false:=by
              rw [Bool.eq_false_iff];intro h;exact hxm (R.pre D hC h)
            obtain ⟨⟨h3,h4⟩,_⟩:=A.steady i m o om s ho hom (by omega) hs hw hlk ham p1 p2;exact ⟨h3,.inr h4⟩
        · have:=climb (m-i) (by omega);rwa [show i+(m-i)=m by omega] at this
      refine yNY hz hsm.1 I₁.good.rep (fun x hx=>I₁.lower S hX hsm.2 hx (R.operand D hC S I₁ hoi hx)) (fun v' hv=>?_);exact ⟨m,U₁,pend,I₁.stepWith hs ho R.not hmax ha (hv.sub (I₁.sub_plus S hX))⟩
    · exact zPR hz hval (fun x hx=>R.operand D hC S I hoi hx) (fun v' hv=>⟨q,U,pend,I.stepWith hs ho R.not hmax ha hv⟩)
end
end
end Go.Lay

namespace Go.Lay
open Go
variable {ops:Array Oper} {B:Array Nat}

theorem yIB:∀ (l:List Nat) (p p':Nat->Bool),(∀ x∈l,p' x=true->p x=true)->(∃ x,x∈l/\p x=true/\p' x=false)->(l.filter p').length<(l.filter p).length
 | [],_,_,_,h=>by obtain ⟨x,h,_⟩:=h;cases h
 | y::l,p,p',h1,h2=>by
  have le:∀ (l:List Nat),(∀ x∈l,p' x=true->p x=true)->(l.filter p').length<=(l.filter p).length:=by
   intro l;induction l with
   | nil=>intro _;simp
   | cons z l ih =>
    intro h;have:=ih (fun x hx=>h x (by simp [hx]));have hz:=h z (by simp);simp only [List.filter_cons];cases hp':p' z with
    | true=>rw [hz hp',if_pos rfl,if_pos rfl];simp;omega
    | false=>rw [if_neg (by simp)];split <;> simp <;> omega
  have hl:=le l (fun x hx=>h1 x (by simp [hx]));obtain ⟨x,hx,a,b⟩:=h2;simp only [List.filter_cons];rcases List.mem_cons.1 hx with rfl | hx
  ·rw [a,b,if_neg (by simp),if_pos rfl];simp;omega
  ·have:=yIB l p p' (fun x hx=>h1 x (by simp [hx])) ⟨x,hx,a,b⟩;have hy:=h1 y (by simp);cases hp':p' y with
   | true=>rw [hy hp',if_pos rfl,if_pos rfl];simp;omega
   | false=>rw [if_neg (by simp)];split <;> simp <;> omega

theorem xRG {j:Nat} (h:ops.size<=j):wW ops B j=false:=by
 have h1:ops.getD j default=default:=by simp [Array.getD,Nat.not_lt.2 h]
 unfold wW;rw [h1];rfl

theorem zNT:∀ (os:List Oper) (ss:List Seen),zGR os ss=true->∀ (i:Nat) (o:Oper) (s:Seen),os[i]?=some o->ss[i]?=some s->s.want=true->(xP o.op || zBP o.op)=true->zCM s.before.y s.f o=true
 | [],_,_,i,o,s,h,_,_,_=>by simp at h
 | _::_,[],_,i,o,s,_,h,_,_=>by simp at h
 | o0::os,s0::ss,h,i,o,s,ho,hs,hw,hal=>by
  simp only [zGR,Bool.and_eq_true] at h;cases i with
  | zero =>
   simp at ho hs;subst ho;subst hs;have:=h.1;rw [hw,hal] at this;simpa using this
  | succ i=>exact zNT os ss h.2 i o s (by simpa using ho) (by simpa using hs) hw hal

theorem yGT {i k:Nat} {oi ok:Oper} (hi:ops[i]?=some oi) (hk:ops[k]?=some ok) (hne:i≠k) (hl:zBP oi.op=true) (ha:xP ok.op=true) (h1:pre B i k=false) (h2:pre B k i=false) :
  (i,k)∈yAH ops B:=by
 unfold yAH;refine List.mem_flatMap.2 ⟨i,List.mem_range.2 (yN hi).2, ?_⟩;rw [(yN hi).1,if_pos hl];refine List.mem_map.2 ⟨k,List.mem_filter.2 ⟨List.mem_range.2 (yN hk).2, ?_⟩,rfl⟩;have hb:Nat.beq i k=false:=by rw [Bool.eq_false_iff];intro e;exact hne (Nat.eq_of_beq_eq_true e)
 rw [(yN hk).1,ha,yMN,h1,h2,hb];rfl

section
variable {P:Program} {rec:Rec} {ops:Array Oper} {U:Inj} {Z:St} {w:World}

theorem yZM {f t:Tm} {τ:St} (h:yBT P rec ops f Z=some (t,τ)):DrawOk ops/\∃ l,zAN P rec ops ops.toList f Z=some (l,t,τ)/\Ask P ops l t τ:=by
 unfold yBT at h;obtain ⟨hd,h⟩:=xX h;refine ⟨yRR hd, ?_⟩
 split at h
 ·rename_i hp hf;obtain ⟨l,hl⟩:=zSS _ _ _ _ _ h;refine ⟨l,hl,fun i o s _ _ _ _=>.inl (fun j=>?_),fun i k oi ok si hi hk hne _ _ hlk hak h1 h2=>?_⟩
  ·rcases Nat.lt_or_ge j ops.size with hj | hj
   ·have:=List.any_eq_false.1 hf j (List.mem_range.2 hj);simpa using this
   ·exact xRG hj
  ·have:=yGT hi hk hne hlk hak h1 h2;rw [hp] at this;cases this
 ·rename_i ps _ _;split at h
  ·rename_i l t' τ' hl;obtain ⟨hc,h⟩:=xX h;simp at h;obtain ⟨rfl,rfl⟩:=h;simp only [Bool.and_eq_true] at hc;obtain ⟨_,_,S⟩:=zOC _ _ _ _ _ _ hl;refine ⟨l,hl,fun i o s ho hs hw hal=>.inr ?_,fun i k oi ok si hi hk hne hsi hw hlk hak h1 h2=>?_⟩
   ·have:=zNT _ _ hc.1 i o s (by simpa using ho) hs hw hal;obtain ⟨s',hs',e1,e2,_⟩:=S.at ho;rw [hs] at hs';cases hs';rw [<- e1,<- e2];exact this
   ·have hm:=yGT hi hk hne hlk hak h1 h2;have:=List.all_eq_true.1 hc.2 _ hm;obtain ⟨sk,hsk,_,k2,k3,_⟩:=S.at hk;obtain ⟨si',hsi',i1,_⟩:=S.at hi;rw [hsi] at hsi';cases hsi';simp only [yKU,hi,hsi,hsk,Bool.and_eq_true] at this;rw [k2,k3] at this;have one:∀ Z,steady P oi si Z=true->xM P (yG (frL l t' i)) Z oi.op=some si.v/\zCM Z.y (frL l t' i) oi=true:=by
     intro Z hs;unfold steady at hs;rw [hw,cond_true,Bool.and_eq_true] at hs;obtain ⟨hs1,hs2⟩:=hs;rw [i1] at hs1 hs2;refine ⟨?_,hs1⟩
     split at hs2
     ·rename_i v hv;have:=zSA _ _ _ hs2;subst this;exact hv
     ·cases hs2
    exact ⟨one _ this.1,one _ this.2⟩
  ·cases h

theorem yOL (hm:P.follows .mixedOrders=true) (hz:zAE P) (hrec:RecSound P rec) {f t:Tm} {τ:St} {id:Nat} {rd:Option Nat} {n:Nat} {Q:Exit->Act->World->Prop} {a:Act} (hok:ops.toList.all zKD=true)
  (h:yBT P rec ops f Z=some (t,τ)) (hr:Rep U Z w) (hf:TmR U f a.tmps)
  (hQ:∀ U' a' w',Good U Z w U' τ w'->TmR U' t a'.tmps->a'.defers=a.defers->Q .normal a' w'):(Code.region id ops true).wpIn (Fw rd) n P Q a w:=by
 obtain ⟨D,l,hl,A⟩:=yZM h;obtain ⟨e1,e2,S⟩:=zOC _ _ _ _ _ _ hl;refine wpIn_region_any hm ?_
 have hoks:∀ (j:Nat) (o:Oper),ops[j]?=some o->zKD o=true:=fun j o ho=>List.all_eq_true.1 hok o (by
  have:ops.toList[j]?=some o:=by simpa using ho
  exact List.mem_of_getElem? this)
 have hS:=S;have fin:∀ (X:Nat->Prop) (a':Act) (w':World),(∀ j,X j->j<ops.size)->(∀ j,j<ops.size->X j)->(∃ q U' pend,Inv ops l t τ U w a.defers X a' w' q U' pend)->Q .normal a' w':=by
  intro X a' w' hX hall ⟨q,U',pend,I⟩;obtain ⟨U₁,I₁⟩:=I.advanceTo S hX I.hq (Nat.le_refl _) (fun j o hj _ _=>hall j (yN hj).2);have hlen:l.length=ops.size:=by rw [S.len];simp
  have hend:stL l τ ops.size=τ:=by simp [stL,hlen]
  have hfend:frL l t ops.size=t:=by simp [frL,hlen]
  have hg:=I₁.good;rw [e2,hend] at hg;have hsub:Sub (U₁.plus pend) U₁:=by
   refine ⟨fun b s L hL=>?_,fun _ _ _ _=>rfl⟩
   by_cases h0:s=0
   ·subst h0;cases hp:pend b with
    | none=>rw [wR _ hp] at hL;exact hL
    | some L1 =>
     rw [wG hp] at hL;cases hL;rcases I₁.keys b L hp with ⟨_,x⟩ | ⟨j,_,_,x1,x2,_⟩
     ·exact x
     ·have:=hX j x2;omega
   ·rw [wH h0] at hL;exact hL
  refine hQ U₁ a' w' hg ⟨?_,fun t0=>?_⟩ I₁.ds
  ·have:=S.frn ops.size (Nat.le_refl _);rw [hfend] at this;rw [this];exact I₁.fr.size
  ·have:=I₁.fr.match S (Nat.le_refl _) (t0:=t0) (fun i _=>⟨fun h=>hX i h,fun h=>hall i h⟩);rw [hfend] at this;exact this.sub hsub
 have key:∀ (fuel:Nat) (listed:Array Bool) (a':Act) (w':World),listed.size=ops.size->yMS ops (fun j=>listed.getD j false=true)->((List.range ops.size).filter fun j=>!listed.getD j false).length<=fuel ->
   (∃ q U' pend,Inv ops l t τ U w a.defers (fun j=>listed.getD j false=true) a' w' q U' pend)->wpAnyIn (Fw rd) n P .any ops Q fuel listed a' w':=by
  intro fuel
  induction fuel with
  | zero =>
   intro listed a' w' hsz hC hcnt hI;have hall:∀ j,j<ops.size->listed.getD j false=true:=by
    intro j hj;cases hlj:listed.getD j false with
    | true=>rfl
    | false =>
     have:j∈(List.range ops.size).filter fun j=>!listed.getD j false:=List.mem_filter.2 ⟨List.mem_range.2 hj,by rw [hlj];rfl⟩
     have h0:=List.eq_nil_of_length_eq_zero (Nat.le_zero.1 hcnt);rw [h0] at this;cases this
   refine ⟨?_,fin _ a' w' (fun j hj=>?_) hall hI⟩
   ·refine List.eq_nil_iff_forall_not_mem.2 (fun j hj=>?_);obtain ⟨h0,o,ho,_⟩:=mem_ready.1 hj;have hlt:=(yN ho).2;have:=hall j hlt;simp [Array.getD,hsz,hlt] at this h0;rw [this] at h0;cases h0
   ·rcases Nat.lt_or_ge j ops.size with hlt | hge
    ·exact hlt
    ·simp [Array.getD,hsz,Nat.not_lt.2 hge] at hj
  | succ fuel ih =>
   intro listed a' w' hsz hC hcnt hI;have hX:∀ j,listed.getD j false=true->j<ops.size:=fun j hj=>by
    rcases Nat.lt_or_ge j ops.size with hlt | hge
    ·exact hlt
    ·simp [Array.getD,hsz,Nat.not_lt.2 hge] at hj
   refine ⟨fun hnil=>fin _ a' w' hX (fun j=>?_) hI,fun i hi=>?_⟩
   ·induction j using Nat.strongRecOn with
    | _ j ihj =>
     intro hj;cases hlj:listed.getD j false with
     | true=>rfl
     | false =>
      have ho:ops[j]?=some ops[j]:=by simp [hj]
      have:j∈Region.ready .any ops listed:=by
       refine mem_ready.2 ⟨by simpa [Array.getD,hsz,hj] using hlj,_,ho,fun e he hb=>?_⟩;have hlt:=D.back j _ ho e (by simpa using he) hb;exact ihj e.on hlt (by omega)
      rw [hnil] at this;cases this
   ·obtain ⟨h0,o,ho,hdep⟩:=mem_ready.1 hi;have hlt:=(yN ho).2;have hn:listed.getD i false=false:=by simpa [Array.getD,hsz,hlt] using h0
    have hset:∀ j,((listed.setIfInBounds i true).getD j false=true)↔(listed.getD j false=true\/j=i):=by
     intro j;by_cases hji:j=i
     ·subst hji;simp [Array.getD,hsz,hlt]
     ·have:=getD_set_ne (listed:=listed) false (Ne.symm hji);rw [this];simp [hji]
    obtain ⟨q,U',pend,I⟩:=hI;have R:Rdy ops (fun j=>listed.getD j false=true) i o:=⟨ho,by rw [hn];simp,fun e he hb=>hdep e (by simpa using he) hb⟩;refine wpOpIn_mono (fun a₂ w₂ hI₂=>ih _ a₂ w₂ (by simpa using hsz) ?_ ?_ ?_) (I.step hz hrec D hS A hC hX hoks R)
    ·intro j o' hj ho' e he hb;rw [hset] at hj ⊢;rcases hj with hj | rfl
     ·exact .inl (hC j o' hj ho' e he hb)
     ·rw [ho] at ho';cases ho';exact .inl (hdep e (by simpa using he) hb)
    ·have:=yIB (List.range ops.size) (fun j=>!listed.getD j false) (fun j=>!(listed.setIfInBounds i true).getD j false) (fun x _ hx=>?_) ⟨i,List.mem_range.2 hlt,by rw [hn];rfl, ?_⟩
     ·omega
     ·cases hlx:listed.getD x false with
      | false=>rfl
      | true=>rw [(hset x).2 (.inl hlx)] at hx;cases hx
     ·rw [(hset i).2 (.inr rfl)];rfl
    ·obtain ⟨q',U₂,pend₂,I₂⟩:=hI₂;refine ⟨q',U₂,pend₂, ?_⟩
     have:(fun j=>(listed.setIfInBounds i true).getD j false=true)=(fun j=>listed.getD j false=true\/j=i):=funext fun j=>propext (hset j)
     rw [this];exact I₂
 have hno:∀ j,¬ (Array.replicate ops.size false).getD j false=true:=fun j=>by
  by_cases hj:j<ops.size <;> simp [Array.getD,hj]
 refine key ops.size _ a (drew w) (by simp) (fun j o hj=>absurd hj (hno j)) ?_ ⟨0,U,fun _=>none, ?_⟩
 ·exact Nat.le_trans (List.length_filter_le _ _) (by simp)
 ·have hpl:Sub U (U.plus fun _=>none):=⟨fun b s L hL=>by rw [wR _ rfl];exact hL,fun _ _ _ _=>rfl⟩;refine ⟨Nat.zero_le _,fun j o _ _ h=>absurd h (Nat.not_lt_zero _),fun j o _ _ _ hx=>absurd hx (hno j),by rw [e2];exact Good.drew hr,fun b L h=>by simp at h,fun j o s _ hx=>absurd hx (hno j),fun b b' L L' h=>by simp at h, ?_,rfl,fun _ _=>rfl⟩
  rw [e1];refine ⟨hf.1,fun t0 _=>.inr ⟨fun i hi=>absurd hi (hno i),(hf.2 t0).sub hpl⟩,fun t0 h0=>?_⟩
  have:=(hf.2 t0).sub hpl;have hlt:¬ t0<a.tmps.size:=by rw [<- hf.1];exact h0
  simpa [Array.getD,hlt] using this

theorem xDC (hz:zAE P) (hrec:RecSound P rec) {U0:Inj} {Z0:St} {w0:World} {rd:Option Nat} {n:Nat} {Q:Exit->Act->World->Prop} {ds:List Deferred} :
  ∀ (rest:List Oper) (k:Nat) {f t:Tm} {Z τ:St} {U:Inj} {w:World} {a:Act},zNA P rec ops rest f Z=some (t,τ)->(∀ i,i<rest.length->ops[k+i]?=rest[i]?)->k+rest.length=ops.size->rest.all zKD=true ->
  Good U0 Z0 w0 U Z w->TmR U f a.tmps->a.defers=ds->(∀ U' a' w',Good U0 Z0 w0 U' τ w'->TmR U' t a'.tmps->a'.defers=ds->Q .normal a' w')->wpOpsIn (Fw rd) n P ops Q ((List.range rest.length).map (k+·)) a w
 | [],k,f,t,Z,τ,U,w,a,h,_,_,_,hg,hf,hd,hQ=>by
  simp [zNA] at h;obtain ⟨rfl,rfl⟩:=h;exact hQ U a w hg hf hd
 | o::rest,k,f,t,Z,τ,U,w,a,h,hget,hk,hok,hg,hf,hd,hQ=>by
  simp only [List.all_cons,Bool.and_eq_true] at hok;have hl:(List.range (o::rest).length).map (k+·)=k::(List.range rest.length).map (k+1+·):=by
   rw [List.length_cons,List.range_succ_eq_map,List.map_cons,List.map_map];congr 1;refine List.map_congr_left (fun i _=>?_);simp;omega
  rw [hl];have ho:ops[k]?=some o:=by have:=hget 0 (by simp);simpa using this
  have go:∀ (v v':Value) (Z':St) (U':Inj) (w':World),zNA P rec ops rest (zMZ f o.dst v) Z'=some (t,τ)->VR U' v v'->Good U Z w U' Z' w'->wpOpsIn (Fw rd) n P ops Q ((List.range rest.length).map (k+1+·)) (a.put o.dst v') w':=by
   intro v v' Z' U' w' h' hv hg';refine xDC hz hrec rest (k+1) h' (fun i hi=>?_) (by simp at hk;omega) hok.2 (hg.trans hg') ?_ ?_ hQ
   ·have:=hget (i+1) (by simp;omega);simpa [Nat.add_assoc,Nat.add_comm 1 i] using this
   ·unfold zMZ Act.put;cases o.dst with
    | none=>exact hf.ext hg'.ext
    | some d=>exact (hf.ext hg'.ext).set d hv
   ·rw [<- hd];unfold Act.put;split <;> rfl
  simp only [wpOpsIn,ho];unfold zNA at h;split at h
  ·rename_i hgd;rw [zHS hgd (fun j want d _ _=>hf.2 d),if_pos rfl];split at h
   ·rename_i v Z' hop;rw [vG] at h;exact yGR hz hrec hop hg.rep (fun x hx=>zLI hf (xYW hok.1 hx)) (fun v' w' U' hv hg'=>go v v' Z' U' w' h hv hg')
   ·cases h
  ·rename_i hgd;rw [zHS hgd (fun j want d _ _=>hf.2 d),if_neg (by simp)];rw [vG] at h;exact ⟨fun f _=>yJC rd f,go undef undef Z U w h .undef (.refl hg.rep)⟩
  ·cases h

theorem yOK (hz:zAE P) (hrec:RecSound P rec) {f t:Tm} {τ:St} {id:Nat} {rd:Option Nat} {n:Nat} {Q:Exit->Act->World->Prop} {a:Act} (hok:ops.toList.all zKD=true)
  (h:zNA P rec ops ops.toList f Z=some (t,τ)) (hr:Rep U Z w) (hf:TmR U f a.tmps)
  (hQ:∀ U' a' w',Good U Z w U' τ w'->TmR U' t a'.tmps->a'.defers=a.defers->Q .normal a' w'):(Code.region id ops false).wpIn (Fw rd) n P Q a w:=by
 refine wpIn_region ?_
 have:=xDC (rd:=rd) (n:=n) (Q:=Q) hz hrec ops.toList 0 h (fun i _=>by simp) (by simp) hok (.refl hr) hf rfl hQ;simpa using this
end
end Go.Lay

namespace Go.Lay
open Go
variable {b:Frame} {k:List Item} {cs:List Frame} {c:Code} {U U':Inj} {l:Nat} {fr fr':Fr} {e:Exit} {Z':St}

section
variable {F:Fence} {n:Nat} {P:Program} {Q:Exit->Act->World->Prop} {a:Act} {w:World}
theorem zAL:step P (lone (b.atR a (.code (.scope c)::k)) cs w)=.next (lone (b.atR a (.code c::.inScope c::k)) cs w) :=
 step_lone_go (by simp [stepG,stepG.exec,Frame.atR])
theorem yDV:step P (lone (b.atR a (.inScope c::k)) cs w)=.next (lone (b.atR a k) cs w) :=
 step_lone_go (by simp [stepG,stepG.exec,Frame.atR])
theorem yNF (h:c.wpIn F n P (fun e a w=>(∀ l,e≠.goto l)/\Q e a w) a w):(Code.scope c).wpIn F n P Q a w:=by
 intro b k cs hro hb hr;have h0:(lone (b.atR a (.code (.scope c)::k)) cs w).fenced P F:=fenced_calm hb hr rfl;obtain ⟨e,a₁,w₁,⟨hg,hq⟩,harr⟩:=h b (.inScope c::k) cs hro hb hr;cases e with
 | normal=>exact ⟨.normal,a₁,w₁,hq,.head h0 zAL (StepsIn.trans harr (.one (fenced_calm hb hr rfl) yDV))⟩
 | exit id =>
  exact ⟨.exit id,a₁,w₁,hq,fun k' hk=>.head h0 zAL (harr.1 k' hk),fun hr' hk=>let ⟨k₁,h1,h2⟩:=harr.2 hr' hk;⟨k₁,h1,.head h0 zAL h2⟩⟩
 | goto l=>exact absurd rfl (hg l)
 | ret=>exact ⟨_,a₁,w₁,hq,.of_steps (.one h0 zAL) harr⟩
 | panic ch=>exact ⟨_,a₁,w₁,hq,.of_steps (.one h0 zAL) harr⟩
 | outgrown=>exact ⟨_,a₁,w₁,hq,.of_steps (.one h0 zAL) harr⟩
theorem yUG (J:Nat->Act->World->Prop) {N:Nat} (h₀:J N a w)
  (round:∀ m a w,J m a w->c.wpIn F n P (Exit.then (fun a' w'=>∃ m',m' < m/\J m' a' w') Q) a w):(Code.loop c).wpIn F n P Q a w:=by
 intro b k cs hro hb hr;have key:∀ j a w,J j a w->∃ e a' w',Q e a' w'/\ArrivesIn (Machine.fenced P F) P (lone (b.atR a (.code c::.inLoop c::k)) cs w) b k cs e a' w':=by
  intro j;induction j using Nat.strongRecOn with
  | _ j ih =>
   intro a w hJ;obtain ⟨e,a₁,w₁,hq,harr⟩:=round j a w hJ b (.inLoop c::k) cs hro hb hr;cases e with
   | normal =>
    obtain ⟨m',hlt,hJ'⟩:=hq;obtain ⟨e₂,a₂,w₂,hq₂,harr₂⟩:=ih m' hlt a₁ w₁ hJ';exact ⟨e₂,a₂,w₂,hq₂,.of_steps (StepsIn.trans harr (.one (fenced_calm hb hr rfl) stepR_inLoop)) harr₂⟩
   | exit id=>exact ⟨_,a₁,w₁,hq,.pass (x:=.inLoop c) rfl (fun _ _=>.inl (by simp)) harr⟩
   | goto l=>exact ⟨_,a₁,w₁,hq,.pass (x:=.inLoop c) rfl (fun _ _=>.inl (by simp)) harr⟩
   | ret=>exact ⟨_,a₁,w₁,hq,.pass (x:=.inLoop c) rfl (fun _ _=>.inl (by simp)) harr⟩
   | panic ch=>exact ⟨_,a₁,w₁,hq,.pass (x:=.inLoop c) rfl (fun _ _=>.inl (by simp)) harr⟩
   | outgrown=>exact ⟨_,a₁,w₁,hq,.pass (x:=.inLoop c) rfl (fun _ _=>.inl (by simp)) harr⟩
 obtain ⟨e,a',w',hq,harr⟩:=key N a w h₀;exact ⟨e,a',w',hq,.of_steps (.one (fenced_calm hb hr rfl) stepR_loop) harr⟩
end

def yYC (c:Nat):Deferred:={ target:=.collected c,args:=#[] }
inductive DefR (U:Inj):List Nat->List Deferred->Prop
 | nil:DefR U [] []
 | cons {m:Nat} {L:Loc} {ms:List Nat} {ds:List Deferred} (h:U.loc m 0=some L) (t:DefR U ms ds):DefR U (m::ms) (yYC L.c::ds)
theorem DefR.sub (e:Sub U U') {ms:List Nat} {ds:List Deferred} (h:DefR U ms ds):DefR U' ms ds:=by
 induction h with
 | nil=>exact .nil
 | cons h _ ih=>exact .cons (e.loc _ _ _ h) ih
structure FrR (U:Inj) (fr:Fr) (a:Act):Prop where
 tms:TmR U fr.f a.tmps
 defs:DefR U fr.marks a.defers
theorem FrR.sub {U U':Inj} (e:Sub U U') {fr:Fr} {a:Act} (h:FrR U fr a):FrR U' fr a:=⟨h.tms.sub e,h.defs.sub e⟩
inductive RdR (U:Inj):Option Nat->Option Nat->Prop
 | none:RdR U none none
 | some {r:Nat} {L:Loc} (h:U.loc r 0=some L):RdR U (some r) (some L.c)
theorem RdR.sub (e:Sub U U') {rd rd':Option Nat} (h:RdR U rd rd'):RdR U' rd rd':=by
 cases h with
 | none=>exact .none
 | some h=>exact .some (e.loc _ _ _ h)

section
variable {P:Program} {rec:Rec} {U:Inj} {Z:St} {w:World}

theorem zGF {tm:Tm} {ps:List Tmp} {as bo:Code} {st st':LoopState} {pend pend':Option Code} {db:Nat} (hr:Rep U Z w) (hb:yJ Z.heap l=some (.loop tm ps as bo st pend db)) :
  ∃ L r,U.loc l 0=some L/\w.heap[L.c]?=some (.loop r)/\r.state=st/\r.pending=pend/\TmR U tm r.tmps/\r.params=ps.toArray/\r.assign=as/\r.body=bo/\wO as=true/\wO bo=true/\(∃ Ld,U.loc db 0=some Ld/\r.defers=Ld.c) /\
   Good U Z w U (Z.put l (.loop tm ps as bo st' pend' db)) (w.putObj L.c (.loop { r with state:=st',pending:=pend' })):=by
 cases (hr.blk _ _ hb).2 with
 | loop loc own locd row tms oka okb =>
  rename_i fn L Ld;have hlt:=hr.lt _ _ _ loc;refine ⟨L,_,loc,row,rfl,rfl,tms,rfl,rfl,rfl,oka,okb,⟨Ld,locd,rfl⟩, ?_⟩
  refine Good.putBlk hr hb (Ext.refl _ _ _) (fun _ _ _=>rfl) (fun b s L h=>by simpa using hr.lt b s L h) (fun c b h=>by simpa using hr.ownlt c b h) (by simp)
   (fun c _ hc=>World.putObj_heap_other (fun e=>hc (by rw [e];exact own))) ⟨rfl,rfl,rfl⟩ (.one L.c (fun c hc=>World.putObj_heap_other hc) (fun _ _ _ h=>by rw [World.putObj_heap_same hlt] at h;cases h)) ?_
  exact .loop loc own locd (World.putObj_heap_same hlt) tms oka okb

theorem xFH {d:Nat} (hr:Rep U Z w) (hb:yJ Z.heap d=some .defd):∃ L,U.loc d 0=some L/\w.heap[L.c]?=some (.deferred (some []))/\Good U Z w U (Z.shut d) (w.putObj L.c (.deferred none)):=by
 have hbd:=hr.blk _ _ hb;cases hbd.2 with
 | defd loc own row =>
  rename_i L;refine ⟨L,loc,row,Ext.refl _ _ _,⟨fun b y hby=>?_,fun b s L h=>by simpa using hr.lt b s L h,fun c b h=>by simpa using hr.ownlt c b h,hr.fresh⟩,⟨by simp,fun c hc ho=>?_,rfl,rfl,rfl,.one L.c (fun c hc=>World.putObj_heap_other hc) (fun _ _ _ h=>by rw [World.putObj_heap_same (hr.lt _ _ _ loc)] at h;cases h)⟩,by simp;omega,by simp⟩
  ·rw [St.shut_get] at hby;by_cases hbe:b=d
   ·rw [if_pos hbe] at hby;cases hby
   ·rw [if_neg hbe] at hby;have h:=hr.blk b y hby;refine ⟨h.1,h.2.keep (Ext.refl U w.heap.size 0) hr.lt (fun c hc ho=>World.putObj_heap_other (fun e=>?_)) (fun cs esz log next ro hy s hs=>?_)⟩
    ·subst e;rcases ho with ho | ho
     ·rw [own] at ho;cases ho;exact hbe rfl
     ·rw [own] at ho;cases ho
    ·have h2:=h.2;subst hy;cases h2 with | cells _ _ _ fresh=>exact fresh s hs
  ·refine World.putObj_heap_other (fun e=>?_);subst e;have:=ho d own;simp at this;omega

theorem yJW (h:zDS l fr Z=some (e,fr',Z')):∃ tm ps as bo st pend db,yJ Z.heap l=some (.loop tm ps as bo st pend db)/\st≠.busy/\fr'=fr /\
  Z'=Z.put l (.loop tm ps as bo .exhausted pend db)/\((pend=none/\e=.normal)\/(pend=some .ret/\e=.ret)\/∃ id,pend=some (.exit id)/\e=.exit id):=by
 unfold zDS at h;split at h
 ·rename_i tm ps as bo st pend db hb;refine ⟨tm,ps,as,bo,st,pend,db,hb, ?_⟩
  split at h
  ·cases h
  ·rename_i hst;rw [St.write_eq] at h;refine ⟨fun e=>hst e, ?_⟩
   split at h
   ·simp at h;obtain ⟨rfl,rfl,rfl⟩:=h;exact ⟨rfl,rfl,.inl ⟨rfl,rfl⟩⟩
   ·simp at h;obtain ⟨rfl,rfl,rfl⟩:=h;exact ⟨rfl,rfl,.inr (.inl ⟨rfl,rfl⟩)⟩
   ·simp at h;obtain ⟨rfl,rfl,rfl⟩:=h;exact ⟨rfl,rfl,.inr (.inr ⟨_,rfl,rfl⟩)⟩
   ·cases h
 ·cases h

theorem zZJ (h:zDS l fr Z=some (e,fr',Z')) (hr:Rep U Z w) {a:Act} {rd:Option Nat} {n:Nat} {Q:Exit->Act->World->Prop} {L:Loc} (hl:U.loc l 0=some L)
  (hQ:∀ w',Good U Z w U Z' w'->fr'=fr->Q e a w'):∃ jump w₄,(Instr.endLoop L.c).run P w=.ok jump w₄/\(match jump with | none=>Q .normal a w₄ | some c=>c.wpIn (Fw rd) n P Q a w₄):=by
 obtain ⟨tm,ps,as,bo,st,pend,db,hb,hst,rfl,rfl,hcase⟩:=yJW h;obtain ⟨L',r,h1,h2,h3,h4,_,_,_,_,_,_,_,hg⟩:=zGF (st':=.exhausted) (pend':=pend) hr hb;rw [hl] at h1;cases h1;have hq:=hQ _ hg rfl;refine ⟨r.pending,_,run_endLoop h2 (by rw [h3];exact hst), ?_⟩
 have hr2:(w.putObj L.c (.loop { r with state:=.exhausted }))=(w.putObj L.c (.loop { r with state:=.exhausted,pending:=pend })):=by rw [<- h4]
 rw [hr2,h4];rcases hcase with ⟨hp,he⟩ | ⟨hp,he⟩ | ⟨id,hp,he⟩
 ·rw [hp] at hq ⊢;rw [he] at hq;exact hq
 ·rw [hp] at hq ⊢;rw [he] at hq;exact wpIn_ret hq
 ·rw [hp] at hq ⊢;rw [he] at hq;exact wpIn_exit hq

theorem zNK (hrec:RecSound P rec) {g:Operand} {ps:Array Tmp} {as bo:Code} {db:Nat} {fr fr':Fr} {e:Exit} {Z':St} (h:zHD rec g ps as bo db fr Z=some (e,fr',Z')) (hr:Rep U Z w) {a:Act} (hf:FrR U fr a)
  (hgk:zHX g=true) (ha:wO as=true) (hb:wO bo=true) {Ld:Loc} (hd:U.loc db 0=some Ld) (fn:FuncId) {rd:Option Nat} {n:Nat} {Q:Exit->Act->World->Prop}
  (hQ:∀ U' w',Good U Z w U' Z' w'->FrR U' fr' a->Q e a w') :
  let w₁:=w.alloc (.loop { state:=.ready,pending:=none,fn,tmps:=a.tmps,params:=ps,assign:=as,body:=bo,defers:=Ld.c })
  ∃ d f args,(resolve a.eval (rangeCall g w.heap.size) 0).run P w₁=.ok d w₁/\(invoke d.target d.args).run P w₁=.ok (.enter f args) w₁/\CallsIn (Fw rd) (n-1) P f args w₁ (rangePost (Fw rd) n P w.heap.size Q a):=by
 intro w₁;unfold zHD at h;rw [St.new_eq] at h;have e0:=Inj.add_ext (n:=0) (z:=0) hr (hr.free _);have hg1:Good U Z w (U.add Z.y w.heap.size 0 0) (Z.add (.loop fr.f ps.toList as bo .ready none db)) w₁ :=
  Good.addBlk hr (hr.free _) (fun _ _ _ h=>by cases h) (.loop (fn:=fn) (Inj.add_loc _ _ _ _) (by simp [Inj.add]) (e0.loc _ _ _ hd) (by rw [World.push_new]) (hf.tms.ext e0) ha hb)
 split at h
 ·rename_i hh args href;have hev:VR (U.add Z.y w.heap.size 0 0) (yG fr.f g) (a.eval g):=(zLI hf.tms hgk).ext hg1.ext;have harg:VRs (U.add Z.y w.heap.size 0 0) [.func (.yield Z.y) #[] #[]] [.func (.yield w.heap.size) #[] #[]] :=
   .cons (.func (.yield (L:=⟨w.heap.size,0,0,0⟩) (Inj.add_loc _ _ _ _)) rfl (fun i v v' h=>by simp at h) rfl (fun i v v' h=>by simp at h)) .nil
  obtain ⟨as',hvs,hcase⟩:=yCL (P:=P) href hev harg;rcases hcase with ⟨f,cap,hfe,d,hd1,hd2,hd3⟩ | ⟨l0,_,_,hfe,_⟩
  ·cases hfe
   split at h
   ·rename_i v₃ Z₃ hc;obtain ⟨⟨fn',hfn,hbody,hname⟩,hcall⟩:=yCM hrec hc hg1.rep hvs;refine ⟨d,hh,⟨as'⟩, ?_, ?_,CallsIn.mono (hcall rd _) (fun e' w₃ hR=>?_)⟩
    ·have:=hd1 w₁;simpa [resolve,Act.eval] using this
    ·have hb:fn'.body≠none:=by cases hb:fn'.body <;> simp_all
     rw [hd2];simp [invoke,callFunc,hfn,hb,hname,hd3]
    ·cases e' with
     | returned v' =>
      obtain ⟨U₃,_,hg3⟩:=hR;have hl3:U₃.loc Z.y 0=some ⟨w.heap.size,0,0,0⟩:=hg3.ext.loc _ _ _ (Inj.add_loc _ _ _ _);obtain ⟨jump,w₄,h1,h2⟩:=zZJ (P:=P) (rd:=rd) (n:=n) (Q:=Q) (a:=a) h hg3.rep hl3 (fun w' hg4 hfr=>hQ U₃ w' ((hg1.trans hg3).trans hg4) (by rw [hfr];exact (hf.sub hg1.ext.sub).sub hg3.ext.sub));exact ⟨jump,w₄,h1,h2⟩
     | panicked _=>exact hR.elim
     | outgrown=>exact hR.elim
   ·cases h
  ·cases hfe
 ·cases h

theorem yJX (hrec:RecSound P rec) {g:Operand} {ps:Array Tmp} {as bo:Code} {fr fr':Fr} {e:Exit} {Z':St} {r:Option Nat} (h:zOF rec r g ps as bo fr Z=some (e,fr',Z')) (hr:Rep U Z w) {a:Act} (hf:FrR U fr a)
  {rd:Option Nat} (hrd:RdR U r rd) (hgk:zHX g=true) (ha:wO as=true) (hb:wO bo=true) {n:Nat} {Q:Exit->Act->World->Prop}
  (hQ:∀ U' a' w',Good U Z w U' Z' w'->FrR U' fr' a'->Q e a' w'):(Code.rangeFunc g ps as bo).wpIn (Fw rd) n P Q a w:=by
 refine wpIn_rangeFunc (fun fn _=>?_);unfold zOF at h;cases hrd with
 | none =>
  simp only [St.new_eq] at h;have hg1:Good U Z w (U.add Z.y w.heap.size 0 0) (Z.add .defd) (w.alloc (.deferred (some []))) :=
   Good.addBlk hr (hr.free _) (fun _ _ _ h=>by cases h) (.defd (Inj.add_loc _ _ _ _) (by simp [Inj.add]) (World.push_new _ _))
  have hf1:FrR (U.add Z.y w.heap.size 0 0) ⟨fr.f,Z.y::fr.marks⟩ { a with defers:=yYC w.heap.size::a.defers } :=
   ⟨hf.tms.ext hg1.ext,.cons (L:=⟨w.heap.size,0,0,0⟩) (Inj.add_loc _ _ _ _) (hf.defs.sub hg1.ext.sub)⟩
  obtain ⟨d,f,args,h1,h2,h3⟩:=zNK hrec h hg1.rep hf1 hgk ha hb (Ld:=⟨w.heap.size,0,0,0⟩) (Inj.add_loc _ _ _ _) fn (rd:=none) (n:=n) (Q:=Q) (fun U' w' hg hf'=>hQ U' _ w' (hg1.trans hg) hf');have e1:(w.alloc (.deferred (some []))).heap.size=w.heap.size+1:=World.push_size w _;rw [e1] at h1 h3;exact ⟨_,[yYC w.heap.size],_,d,_,f,args,_,run_enterLoop_outer fn a.tmps ps as bo,h1,fun _ _=>yJC none _,h2,fun hs=>zRX none hs n,h3⟩
 | @some r0 L hl =>
  simp only at h;split at h
  ·rename_i hbk;obtain ⟨L',rr,k1,k2,_,_,_,_,_,_,_,_,⟨Ld,k3,k4⟩,_⟩:=zGF (st':=.ready) (pend':=none) hr hbk;rw [hl] at k1;cases k1;obtain ⟨d,f,args,h1,h2,h3⟩:=zNK hrec h hr hf hgk ha hb k3 fn (rd:=some L.c) (n:=n) (Q:=Q) (fun U' w' hg hf'=>hQ U' _ w' hg hf');refine ⟨w.heap.size,[],_,d,_,f,args,_, ?_,h1,fun _ _=>yJC _ _,h2,fun hs=>zRX _ hs n,h3⟩
   show (Instr.enterLoop fn a.tmps ps as bo (some L.c)).run P w=_;simp only [Instr.enterLoop,Sem.run_bind,run_getLoop k2,Result.andThen_ok,Sem.run_pure,run_newObj_alloc,k4]
  ·cases h

theorem yLY (fuel:Nat) (rd:Option Nat):∀ (c:Code) (fr:Fr) (Z:St) (e:Exit) (fr':Fr) (Z':St),yZ P rec fuel rd c fr Z=some (e,fr',Z')->∀ l,e≠.goto l:=by
 intro c;induction c with
 | skip=>intro fr Z e fr' Z' h l;simp [yZ] at h;rw [<- h.1];simp
 | label _=>intro fr Z e fr' Z' h l;simp [yZ] at h;rw [<- h.1];simp
 | ret=>intro fr Z e fr' Z' h l;simp [yZ] at h;rw [<- h.1];simp
 | exit _=>intro fr Z e fr' Z' h l;simp [yZ] at h;rw [<- h.1];simp
 | goto _=>intro fr Z e fr' Z' h;simp [yZ] at h
 | refuse _=>intro fr Z e fr' Z' h;simp [yZ] at h
 | seq x y ihx ihy =>
  intro fr Z e fr' Z' h;simp only [yZ,xMG] at h;split at h
  ·exact ihy _ _ _ _ _ h
  ·exact ihx _ _ _ _ _ h
 | cond c x y ihx ihy =>
  intro fr Z e fr' Z' h;simp only [yZ,yRT] at h;split at h
  ·split at h
   ·exact ihx _ _ _ _ _ h
   ·exact ihy _ _ _ _ _ h
  ·cases h
 | block id c ih =>
  intro fr Z e fr' Z' h l;simp only [yZ,zUB] at h;split at h
  ·rcases zBX h with ⟨_,h⟩ | ⟨_,h⟩ <;> (simp at h;rw [<- h.1];simp)
  ·exact ih _ _ _ _ _ h l
 | scope c ih=>intro fr Z e fr' Z' h;exact ih _ _ _ _ _ h
 | loop c ih =>
  intro fr Z e fr' Z' h;simp only [yZ] at h;have key:∀ n fr Z,zDZ (yZ P rec fuel rd c) n fr Z=some (e,fr',Z')->∀ l,e≠.goto l:=by
   intro n;induction n with
   | zero=>intro fr Z h;simp [zDZ] at h
   | succ n ihn =>
    intro fr Z h;simp only [zDZ] at h;split at h
    ·exact ihn _ _ h
    ·exact ih _ _ _ _ _ h
  exact key _ _ _ h
 | region id ops draw =>
  intro fr Z e fr' Z' h l;simp only [yZ,zLW] at h;split at h
  ·simp at h;rw [<- h.1];simp
  ·cases h
 | rangeFunc g ps as bo _ _ =>
  intro fr Z e fr' Z' h l;have endn:∀ (l0:Nat) (fr:Fr) (Z:St),zDS l0 fr Z=some (e,fr',Z')->e≠.goto l:=by
   intro l0 fr Z h;unfold zDS at h;split at h
   ·split at h
    ·cases h
    ·rw [St.write_eq] at h;split at h <;> first | (simp at h;rw [<- h.1];simp) | cases h
   ·cases h
  have gon:∀ (db:Nat) (fr:Fr) (Z:St),zHD rec g ps as bo db fr Z=some (e,fr',Z')->e≠.goto l:=by
   intro db fr Z h;unfold zHD at h;rw [St.new_eq] at h;split at h
   ·split at h
    ·exact endn _ _ _ h
    ·cases h
   ·cases h
  simp only [yZ,zOF] at h;split at h
  ·rw [St.new_eq] at h;exact gon _ _ _ h
  ·split at h
   ·exact gon _ _ _ h
   ·cases h

theorem vR (hm:P.follows .mixedOrders=true) (hz:zAE P) (hrec:RecSound P rec) (fuel:Nat) (r:Option Nat):∀ (c:Code),wO c=true->∀ (fr:Fr) (Z:St) (e:Exit) (fr':Fr) (Z':St),yZ P rec fuel r c fr Z=some (e,fr',Z') ->
  ∀ (U:Inj) (w:World) (a:Act) (rd:Option Nat) (n:Nat) (Q:Exit->Act->World->Prop),Rep U Z w->FrR U fr a->RdR U r rd->(∀ U' a' w',Good U Z w U' Z' w'->FrR U' fr' a'->Q e a' w')->c.wpIn (Fw rd) n P Q a w:=by
 intro c;induction c with
 | skip=>intro _ fr Z e fr' Z' h U w a rd n Q hr hf _ hQ;simp [yZ] at h;obtain ⟨rfl,rfl,rfl⟩:=h;exact wpIn_skip (hQ U a w (.refl hr) hf)
 | label _=>intro _ fr Z e fr' Z' h U w a rd n Q hr hf _ hQ;simp [yZ] at h;obtain ⟨rfl,rfl,rfl⟩:=h;exact wpIn_label (hQ U a w (.refl hr) hf)
 | ret=>intro _ fr Z e fr' Z' h U w a rd n Q hr hf _ hQ;simp [yZ] at h;obtain ⟨rfl,rfl,rfl⟩:=h;exact wpIn_ret (hQ U a w (.refl hr) hf)
 | exit _=>intro _ fr Z e fr' Z' h U w a rd n Q hr hf _ hQ;simp [yZ] at h;obtain ⟨rfl,rfl,rfl⟩:=h;exact wpIn_exit (hQ U a w (.refl hr) hf)
 | goto _=>intro _ fr Z e fr' Z' h;simp [yZ] at h
 | refuse _=>intro _ fr Z e fr' Z' h;simp [yZ] at h
 | seq x y ihx ihy =>
  intro hok fr Z e fr' Z' h U w a rd n Q hr hf hrd hQ;simp only [wO,Bool.and_eq_true] at hok;simp only [yZ,xMG] at h;refine wpIn_seq ?_
  split at h
  ·rename_i fr₁ Z₁ h1;refine ihx hok.1 _ _ _ _ _ h1 U w a rd n _ hr hf hrd (fun U₁ a₁ w₁ hg1 hf1=>?_);exact ihy hok.2 _ _ _ _ _ h U₁ w₁ a₁ rd n Q hg1.rep hf1 (hrd.sub hg1.ext.sub) (fun U₂ a₂ w₂ hg2 hf2=>hQ U₂ a₂ w₂ (hg1.trans hg2) hf2)
  ·rename_i hno;refine ihx hok.1 _ _ _ _ _ h U w a rd n _ hr hf hrd (fun U₁ a₁ w₁ hg1 hf1=>?_);cases e with
   | normal=>exact absurd h (hno _ _)
   | _=>exact hQ U₁ a₁ w₁ hg1 hf1
 | cond c x y ihx ihy =>
  intro hok fr Z e fr' Z' h U w a rd n Q hr hf hrd hQ;simp only [wO,Bool.and_eq_true] at hok;simp only [yZ,yRT] at h;have hc:=zLI hf.tms hok.1.1;split at h
  ·rename_i t ht;rw [ht] at hc;have hcb:=hc.bool_inv;cases t with
   | true=>exact wpIn_cond_true hcb (ihx hok.1.2 _ _ _ _ _ h U w a rd n Q hr hf hrd hQ)
   | false=>exact wpIn_cond_false hcb (ihy hok.2 _ _ _ _ _ h U w a rd n Q hr hf hrd hQ)
  ·cases h
 | block id c ih =>
  intro hok fr Z e fr' Z' h U w a rd n Q hr hf hrd hQ;simp only [yZ,zUB] at h;refine wpIn_block ?_
  split at h
  ·rename_i i fr₁ Z₁ h1;refine ih hok _ _ _ _ _ h1 U w a rd n _ hr hf hrd (fun U₁ a₁ w₁ hg1 hf1=>?_);rcases zBX h with ⟨hi,h⟩ | ⟨hi,h⟩
   ·simp at h;obtain ⟨rfl,rfl,rfl⟩:=h;simp only [Exit.inBlock];rw [if_pos (Nat.eq_of_beq_eq_true hi)];exact hQ U₁ a₁ w₁ hg1 hf1
   ·simp at h;obtain ⟨rfl,rfl,rfl⟩:=h;simp only [Exit.inBlock];rw [if_neg (fun e=>by rw [e,Nat.beq_refl] at hi;cases hi)];exact hQ U₁ a₁ w₁ hg1 hf1
  ·rename_i hno;refine ih hok _ _ _ _ _ h U w a rd n _ hr hf hrd (fun U₁ a₁ w₁ hg1 hf1=>?_);cases e with
   | exit i=>exact absurd h (hno _ _ _)
   | _=>exact hQ U₁ a₁ w₁ hg1 hf1
 | scope c ih =>
  intro hok fr Z e fr' Z' h U w a rd n Q hr hf hrd hQ;refine yNF (ih hok _ _ _ _ _ h U w a rd n _ hr hf hrd (fun U₁ a₁ w₁ hg1 hf1=>⟨yLY fuel r c _ _ _ _ _ h,hQ U₁ a₁ w₁ hg1 hf1⟩))
 | loop c ih =>
  intro hok fr Z e fr' Z' h U w a rd n Q hr hf hrd hQ;simp only [yZ] at h;refine yUG (fun m a₁ w₁=>∃ fr₁ Z₁ U₁,zDZ (yZ P rec fuel r c) m fr₁ Z₁=some (e,fr',Z')/\Good U Z w U₁ Z₁ w₁/\FrR U₁ fr₁ a₁) ⟨fr,Z,U,h,.refl hr,hf⟩ (fun m a₁ w₁ ⟨fr₁,Z₁,U₁,hl,hg1,hf1⟩=>?_);cases m with
  | zero=>simp [zDZ] at hl
  | succ m =>
   simp only [zDZ] at hl;split at hl
   ·rename_i fr₂ Z₂ h2;exact ih hok _ _ _ _ _ h2 U₁ w₁ a₁ rd n _ hg1.rep hf1 (hrd.sub hg1.ext.sub) (fun U₂ a₂ w₂ hg2 hf2=>⟨m,by omega,fr₂,Z₂,U₂,hl,hg1.trans hg2,hf2⟩)
   ·rename_i hno;refine ih hok _ _ _ _ _ hl U₁ w₁ a₁ rd n _ hg1.rep hf1 (hrd.sub hg1.ext.sub) (fun U₂ a₂ w₂ hg2 hf2=>?_);cases e with
    | normal=>exact absurd hl (hno _ _)
    | _=>exact hQ U₂ a₂ w₂ (hg1.trans hg2) hf2
 | region id ops draw =>
  intro hok fr Z e fr' Z' h U w a rd n Q hr hf hrd hQ;simp only [wO] at hok;simp only [yZ,zLW] at h;split at h
  ·rename_i f₁ Z₁ h1;simp at h;obtain ⟨rfl,rfl,rfl⟩:=h;have fin:∀ U' a' w',Good U Z w U' Z₁ w'->TmR U' f₁ a'.tmps->a'.defers=a.defers->Q .normal a' w':=fun U' a' w' hg ht hd=>hQ U' a' w' hg ⟨ht,by rw [hd];exact hf.defs.sub hg.ext.sub⟩
   cases draw with
   | true=>exact yOL hm hz hrec hok h1 hr hf.tms fin
   | false=>exact yOK hz hrec hok h1 hr hf.tms fin
  ·cases h
 | rangeFunc g ps as bo _ _ =>
  intro hok fr Z e fr' Z' h U w a rd n Q hr hf hrd hQ;simp only [wO,Bool.and_eq_true] at hok;exact yJX hrec h hr hf hrd hok.1.1 hok.1.2 hok.2 hQ
end
end Go.Lay

namespace Go.Lay
open Go

structure ProgOk (P:Program):Prop where
 mixed:P.follows .mixedOrders=true
 zero:zAE P
 code : ∀ (f : FuncId) (fn : Func) (c : Code), P.funcs[f]? = some fn → fn.body = some c → wO c = true ∧ fn.name ≠ "runtime.NumGoroutine"

theorem Tm.puts_eq {β:Type}:∀ (l:List (Nat × Value)) (f:Tm) (k:Tm->β),Tm.puts l f k=k (l.foldl (fun f p=>f.set p.1 p.2) f)
 | [],_,_=>rfl
 | (i,v)::l,f,k=>by rw [Tm.puts,Tm.put_eq,Tm.puts_eq l];rfl

section
variable {P:Program} {U:Inj} {Z:St} {w:World}

theorem ySX:∀ (args args':List Value) (k:Nat) (f:Tm) (tm:Array Value),VRs U args args'->TmR U f tm->TmR U ((Tm.args k args).foldl (fun f p=>f.set p.1 p.2) f) ((Tm.args k args').foldl (fun t p=>t.setIfInBounds p.1 p.2) tm)
 | [],[],_,_,_,_,h=>h
 | [],_::_,_,_,_,h,_=>by cases h
 | _::_,[],_,_,_,h,_=>by cases h
 | v::l,v'::l',k,f,tm,h,ht=>by
  cases h with
  | cons hv hl=>exact ySX l l' (k+1) _ _ hl (ht.set k hv)

theorem yCS:∀ (l:List Value) (k:Nat) (tm:Array Value),k+l.length<=tm.size->((Tm.args k l).foldl (fun (t:Array Value) p=>t.setIfInBounds p.1 p.2) tm).toList=tm.toList.take k++(l++tm.toList.drop (k+l.length))
 | [],k,tm,_=>by simp [Tm.args]
 | v::l,k,tm,h=>by
  simp only [List.length_cons] at h;simp only [Tm.args,List.foldl_cons];rw [yCS l (k+1) _ (by simp;omega)];have hlt:k<tm.toList.length:=by simp;omega
  simp only [Array.toList_setIfInBounds,List.length_cons];have e1:(tm.toList.set k v).take (k+1)=tm.toList.take k++[v]:=by
   rw [List.take_succ_eq_append_getElem (by simpa using hlt),List.take_set_of_le (Nat.le_refl _)];simp
  have e2:(tm.toList.set k v).drop (k+1+l.length)=tm.toList.drop (k+(l.length+1)):=by
   rw [List.drop_set_of_lt (by omega)];congr 1;omega
  rw [e1,e2];simp

theorem yHV:∀ (p:List Bool) (d:Nat),Tr.getP p (yRI d)=none\/Tr.getP p (yRI d)=some undef
 | p,0=>.inl (Tr.getP_leaf p)
 | [],d+1=>.inr rfl
 | b::p,d+1=>by cases b <;> exact yHV p d
theorem xIQ (n i:Nat):(fresh n).nth i=undef:=by
 unfold fresh Tm.nth;rcases yHV (way i) ((way n).length+1) with h | h <;> simp only [h]

theorem yID {args args':List Value} (h:VRs U args args') (N:Nat) :
  TmR U ((Tm.args 0 args).foldl (fun f p=>f.set p.1 p.2) (fresh (args.length+(N-args.length)))) ((⟨args'⟩:Array Value)++Array.replicate (N-(⟨args'⟩:Array Value).size) undef):=by
 have h0:TmR U (fresh (args.length+(N-args.length))) (Array.replicate (args'.length+(N-args'.length)) undef):=by
  refine ⟨by simp [fresh,h.length],fun i=>?_⟩
  have e1:(fresh (args.length+(N-args.length))).nth i=undef:=xIQ _ _;have e2:(Array.replicate (args'.length+(N-args'.length)) undef).getD i undef=undef:=by
   by_cases hi:i<args'.length+(N-args'.length) <;> simp [Array.getD,hi]
  rw [e1,e2];exact .undef
 have h1:=ySX args args' 0 _ _ h h0;have h2:((Tm.args 0 args').foldl (fun (t:Array Value) p=>t.setIfInBounds p.1 p.2) (Array.replicate (args'.length+(N-args'.length)) undef))=(⟨args'⟩:Array Value)++Array.replicate (N-(⟨args'⟩:Array Value).size) undef:=by
  apply Array.ext';rw [yCS args' 0 _ (by simp)];simp
 rw [h2] at h1;exact h1

theorem xBT:∀ (ps:List Nat) (args args':List Value) (f:Tm) (tm:Array Value),VRs U args args'->TmR U f tm->TmR U ((ps.zip args).foldl (fun f p=>f.set p.1 p.2) f) ((ps.zip args').foldl (fun t p=>t.setIfInBounds p.1 p.2) tm)
 | [],_,_,_,_,_,h=>by simpa using h
 | p::ps,[],[],_,_,_,h=>by simpa using h
 | p::ps,[],_::_,_,_,h,_=>by cases h
 | p::ps,_::_,[],_,_,h,_=>by cases h
 | p::ps,v::l,v'::l',f,tm,h,ht=>by
  cases h with
  | cons hv hl=>exact xBT ps l l' _ _ hl (ht.set p hv)

def zSE (tms:Array Value):ResultVar->Sem Value
 | .tmp t=>pure (tms.getD t undef)
 | .cell a t=>do loadVar t (<- asAddr (tms.getD a undef))
theorem yVJ (fn:Func) (tms:Array Value):results fn tms=(do let vs <- fn.results.mapM (zSE tms);pure (if h:vs.size=1 then vs[0] else .tuple vs)):=rfl
theorem zNI {f:Tm} {tms:Array Value} (hr:Rep U Z w) (ht:TmR U f tms):∀ (rs:List ResultVar) (vs:List Value),uP P f Z rs=some vs ->
  ∃ vs',VRs U vs vs'/\(rs.mapM (zSE tms)).run P w=.ok vs' w
 | [],vs,h=>by simp [uP] at h;subst h;exact ⟨[],.nil,by simp⟩
 | r::rs,vs,h=>by
  simp only [uP] at h;split at h
  ·rename_i v hv;split at h
   ·rename_i vs0 hvs;simp at h;subst h;obtain ⟨vs',h1,h2⟩:=zNI hr ht rs vs0 hvs;cases r with
    | tmp t =>
     simp [zPX] at hv;subst hv;refine ⟨tms.getD t undef::vs',.cons (ht.2 t) h1, ?_⟩
     rw [List.mapM_cons];simp only [zSE,Sem.run_bind,Sem.run_pure,Result.andThen_ok,h2]
    | cell a t =>
     simp only [zPX] at hv;split at hv
     ·rename_i a0 ha0;have hp:=ht.2 a;rw [ha0] at hp;obtain ⟨L,hl,hlo,e⟩:=hp.ptr_inv;obtain ⟨v',g1,g2⟩:=zVS (P:=P) hv hr hl hlo;refine ⟨v'::vs',.cons g2 h1, ?_⟩
      have g0:(zSE tms (.cell a t)).run P w=.ok v' w:=by
       simp only [zSE,e,asAddr,Sem.run_bind,Sem.run_pure,Result.andThen_ok,g1]
      rw [List.mapM_cons];simp only [Sem.run_bind,Sem.run_pure,Result.andThen_ok,g0,h2]
     ·cases hv
   ·cases h
  ·cases h

theorem yOJ {fn:Func} {f:Tm} {tms:Array Value} {v:Value} (hr:Rep U Z w) (ht:TmR U f tms) (h:zFV P fn f Z=some v):∃ v',(results fn tms).run P w=.ok v' w/\VR U v v':=by
 unfold zFV at h;have key:∀ vs,uP P f Z fn.results.toList=some vs->∃ vs',VRs U vs vs'/\(results fn tms).run P w=.ok (if h:(⟨vs'⟩:Array Value).size=1 then (⟨vs'⟩:Array Value)[0] else .tuple ⟨vs'⟩) w:=by
  intro vs hvs;obtain ⟨vs',h1,h2⟩:=zNI hr ht _ _ hvs;refine ⟨vs',h1, ?_⟩
  have h3:(fn.results.mapM (zSE tms)).run P w=.ok ⟨vs'⟩ w:=by
   rw [Array.mapM_eq_mapM_toList];simp [h2]
  rw [yVJ,Sem.run_bind,h3];rfl
 split at h
 ·rename_i v0 hv;simp at h;subst h;obtain ⟨vs',h1,h2⟩:=key _ hv;cases h1 with
  | cons hv0 hn =>
   cases hn
   rename_i v';refine ⟨v', ?_,hv0⟩
   rw [h2];simp
 ·rename_i vs hne hv;simp at h;subst h;obtain ⟨vs',h1,h2⟩:=key _ hv;have hlen:=h1.length;have hl1:¬ (⟨vs'⟩:Array Value).size=1:=by
   intro e;have e:vs'.length=1:=e;rw [<- hlen] at e;obtain ⟨x,hx⟩:=List.length_eq_one_iff.1 e;exact hne x hx
  refine ⟨.tuple ⟨vs'⟩, ?_,.tuple' h1⟩
  rw [h2,dif_neg hl1]
 ·cases h

theorem zHO {fn:Func} {f:Tm} {tms:Array Value} {v:Value} {n:Nat} {R:Ending->World->Prop}:∀ (marks:List Nat) (ds:List Deferred) (Z:St) (w:World) (Z₁:St),zBV marks Z=some Z₁->DefR U marks ds->Rep U Z w->TmR U f tms ->
  zFV P fn f Z₁=some v->(∀ v' w',VR U v v'->Good U Z w U Z₁ w'->R (.returned v') w')->LeavesInM (Fw none) n P fn tms R ds .returning w
 | [],ds,Z,w,Z₁,h,hd,hr,ht,hres,hR=>by
  cases hd
  simp [zBV] at h;subst h;obtain ⟨v',h1,h2⟩:=yOJ hr ht hres;exact ⟨v',h1,hR v' w h2 (.refl hr)⟩
 | m::ms,ds,Z,w,Z₁,h,hd,hr,ht,hres,hR=>by
  cases hd with
  | cons hl hds =>
   rename_i L ds;simp only [zBV] at h;split at h
   ·rename_i hb;rw [St.drop_eq] at h;obtain ⟨L',h1,h2,hg⟩:=xFH hr hb;rw [hl] at h1;cases h1;refine ⟨by simp,.inl ⟨L.c,_,rfl,run_takeDeferred h2, ?_⟩⟩
    exact zHO ms ds _ _ Z₁ h hds hg.rep ht hres (fun v' w' hv hg'=>hR v' w' hv (hg.trans hg'))
   ·cases h

theorem zHC (hP:ProgOk P):∀ n,RecSound P (zV P n)
 | 0=>⟨fun f args Z v Z' h=>by simp [zV] at h,fun l args Z v Z' h=>by simp [zV] at h⟩
 | n+1=>by
  have ih:=zHC hP n;refine ⟨fun f args Z v Z' h U w args' hr ha=>?_,fun l args Z v Z' h U w args' L hr ha hl m=>?_⟩
  ·simp only [zV] at h;split at h
   ·rename_i fn hfn;split at h
    ·rename_i c hc;rw [Tm.puts_eq] at h;obtain ⟨hok,hname⟩:=hP.code f fn c hfn hc;refine ⟨⟨fn,hfn,by rw [hc];rfl,hname⟩,fun m=>?_⟩
     have fin:∀ (e:Exit) (fr':Fr) (Z₁:St),(e=.normal\/e=.ret)->zWA P fn fr' Z₁=some (v,Z')->∀ U' a' w',Good U Z w U' Z₁ w'->FrR U' fr' a'->bodyPostM (Fw none) m P fn (zLL U Z w v Z') e a' w':=by
      intro e fr' Z₁ he hd U' a' w' hg hf;have:LeavesInM (Fw none) m P fn a'.tmps (zLL U Z w v Z') a'.defers .returning w':=by
       unfold zWA at hd;split at hd
       ·rename_i Z₂ hdr;split at hd
        ·rename_i v0 hres;rw [zKP] at hd;simp at hd;obtain ⟨rfl,rfl⟩:=hd;exact zHO fr'.marks a'.defers Z₁ w' Z₂ hdr hf.defs hg.rep hf.tms hres (fun v' w₂ hv hg2=>⟨U',hv,hg.trans hg2⟩)
        ·cases hd
       ·cases hd
      rcases he with rfl | rfl <;> exact this
     refine callsIn_of_wp_marks hfn hc trivial ?_
     have hfr0:FrR U ⟨(Tm.args 0 args).foldl (fun f p=>f.set p.1 p.2) (fresh (args.length+(fn.ntmps-args.length))),[]⟩ { tmps:=(⟨args'⟩:Array Value)++Array.replicate (fn.ntmps-(⟨args'⟩:Array Value).size) undef,defers:=[] } :=
      ⟨yID ha fn.ntmps,.nil⟩
     unfold xRS at h;split at h
     ·rename_i fr' Z₁ hcode;exact vR hP.mixed hP.zero ih n none c hok _ _ _ _ _ hcode U w _ none m _ hr hfr0 .none (fin _ fr' Z₁ (.inl rfl) h)
     ·rename_i fr' Z₁ hcode;exact vR hP.mixed hP.zero ih n none c hok _ _ _ _ _ hcode U w _ none m _ hr hfr0 .none (fin _ fr' Z₁ (.inr rfl) h)
     ·cases h
    ·cases h
   ·cases h
  ·simp only [zV] at h;split at h
   ·rename_i tm ps as bo st pend db hb;obtain ⟨hlen,h⟩:=xX h;have hlen:=Nat.eq_of_beq_eq_true hlen;rw [Tm.puts_eq] at h;obtain ⟨L',r,h1,h2,h3,_,h5,h6,h7,h8,oka,okb,_,_⟩:=zGF (st':=st) (pend':=pend) hr hb;rw [hl] at h1;cases h1;have hsz:(⟨args'⟩:Array Value).size=r.params.size:=by rw [h6];simp;rw [<- ha.length];exact hlen
    refine ⟨r.fn,_,r.assign,r.body,run_yield h2 hsz, ?_⟩
    rw [h7,h8];refine roundIn_of_wpIn trivial ?_
    have htm:TmR U ((ps.zip args).foldl (fun f p=>f.set p.1 p.2) tm) ((r.params.zip (⟨args'⟩:Array Value)).foldl (fun tmps (t,a)=>tmps.setIfInBounds t a) r.tmps):=by
     have:=xBT ps args args' tm r.tmps ha h5;rw [h6,<- Array.foldl_toList,Array.toList_zip];exact this
    unfold zLV at h;split at h
    ·rename_i fr₁ Z₁ hcode;split at h
     ·rename_i tm1 ps1 as1 bo1 pend1 db1 hb1;rw [St.write_eq] at h;refine vR hP.mixed hP.zero ih n (some l) as oka _ _ _ _ _ hcode U w _ (some L.c) m _ hr ⟨htm,.nil⟩ (.some hl) (fun U₁ a₁ w₁ hg1 hf1=>?_);obtain ⟨L1,r1,k1,k2,k3,k4,_,_,_,_,_,_,_,hg2⟩:=zGF (st':=.busy) (pend':=pend1) hg1.rep hb1;have hl1:=hg1.ext.loc _ _ _ hl;rw [hl1] at k1;cases k1;have hw:w₁.putObj L.c (.loop { r1 with state:=.busy })=w₁.putObj L.c (.loop { r1 with state:=.busy,pending:=pend1 }):=by rw [<- k4]
      refine ⟨_,run_beginRound k2 k3, ?_⟩
      rw [hw];have fin:∀ (jump:Option Code) (Z₂:St),zDR l jump Z₂=some (v,Z')->∀ U₂ w₂,Good U₁ (Z₁.put l (.loop tm1 ps1 as1 bo1 .busy pend1 db1)) (w₁.putObj L.c (.loop { r1 with state:=.busy,pending:=pend1 })) U₂ Z₂ w₂ ->
        ∃ v' w',(Instr.endRound L.c jump).run P w₂=.ok v' w'/\zLL U Z w v Z' (.returned v') w':=by
       intro jump Z₂ hend U₂ w₂ hg3
       have hl2:=hg3.ext.loc _ _ _ hl1
       unfold zDR at hend
       split at hend
       ·rename_i hb2;cases jump with
        | none =>
         simp only [St.write_eq] at hend;simp at hend;obtain ⟨rfl,rfl⟩:=hend;obtain ⟨L2,r2,q1,q2,_,_,_,_,_,_,_,_,_,hg4⟩:=zGF (st':=.ready) (pend':=none) hg3.rep hb2;rw [hl2] at q1;cases q1;exact ⟨_,_,run_endRound none q2,U₂,.bool true,((hg1.trans hg2).trans hg3).trans hg4⟩
        | some c =>
         simp only [St.write_eq] at hend;simp at hend;obtain ⟨rfl,rfl⟩:=hend;obtain ⟨L2,r2,q1,q2,_,_,_,_,_,_,_,_,_,hg4⟩:=zGF (st':=.done) (pend':=some c) hg3.rep hb2;rw [hl2] at q1;cases q1;exact ⟨_,_,run_endRound (some c) q2,U₂,.bool false,((hg1.trans hg2).trans hg3).trans hg4⟩
       ·cases hend
      unfold zLU at h;split at h
      ·rename_i fr₂ Z₂ hbody;refine vR hP.mixed hP.zero ih n (some l) bo okb _ _ _ _ _ hbody U₁ _ _ (some L.c) m _ hg2.rep hf1 (.some hl1) (fun U₂ a₂ w₂ hg3 _=>?_);exact fin none Z₂ h U₂ w₂ hg3
      ·rename_i fr₂ Z₂ hbody;refine vR hP.mixed hP.zero ih n (some l) bo okb _ _ _ _ _ hbody U₁ _ _ (some L.c) m _ hg2.rep hf1 (.some hl1) (fun U₂ a₂ w₂ hg3 _=>?_);exact fin (some .ret) Z₂ h U₂ w₂ hg3
      ·rename_i id fr₂ Z₂ hbody;refine vR hP.mixed hP.zero ih n (some l) bo okb _ _ _ _ _ hbody U₁ _ _ (some L.c) m _ hg2.rep hf1 (.some hl1) (fun U₂ a₂ w₂ hg3 _=>?_);exact fin (some (.exit id)) Z₂ h U₂ w₂ hg3
      ·cases h
     ·cases h
    ·cases h
   ·cases h

end
end Go.Lay

namespace Go.Lay
open Go

def xUG (P:Program):Bool:=P.types.toList.all fun i=>match i.zero with | some z=>zW RD z | none=>true
def xRF (fn : Func) : Bool := match fn.body with | some c => wO c && !(fn.name == "runtime.NumGoroutine") | none => true
def xWP (P:Program):Bool:=P.funcs.toList.all xRF
theorem xGI {P:Program} (h1:P.follows .mixedOrders=true) (h2:xUG P=true) (h3:xWP P=true):ProgOk P:=by
 refine ⟨h1,fun t z hz=>?_,fun f fn c hf hc=>?_⟩
 ·unfold uX at hz;cases hi:P.types[t]? with
  | none=>rw [hi] at hz;simp at hz
  | some i =>
   rw [hi] at hz;simp at hz;have hm:i∈P.types.toList:=List.mem_of_getElem? (by simpa using hi);have:=List.all_eq_true.1 h2 i hm;rw [hz] at this;exact this
 ·have hm:fn∈P.funcs.toList:=List.mem_of_getElem? (by simpa using hf);have:=List.all_eq_true.1 h3 fn hm;unfold xRF at this;rw [hc] at this;simp only [Bool.and_eq_true,Bool.not_eq_true'] at this;exact ⟨this.1,by simpa using this.2⟩

def xDD:Inj:={ loc:=fun _ _=>none,own:=fun _=>none,csz:=fun _=>0 }
def xPA:St:=⟨.leaf,0,0⟩
theorem xZV (w:World):Rep xDD xPA w :=
 ⟨fun b y h=>by simp [xPA,yJ,Tr.getP_leaf] at h,fun _ _ _ h=>by simp [xDD] at h,fun _ _ h=>by simp [xDD] at h,fun _ _ _=>rfl⟩

theorem xQV {U U':Inj} {Z Z':St} {w w':World} (h:Good U Z w U' Z' w') (ho:∀ c,U.own c=none):RowKit.Grown w w':=by
 have hs:∀ c,c<w.heap.size->w'.heap[c]?=w.heap[c]?:=fun c hc=>h.pres.same c hc (fun b hb=>by rw [ho c] at hb;cases hb)
 refine ⟨⟨h.pres.os,h.pres.output,fun i hi=>?_⟩,fun a=>?_,h.pres.size⟩
 ·rw [hs i hi];split <;> rename_i h1 h2
  ·rw [h1] at h2;cases h2;exact ⟨rfl,rfl,rfl,fun _ _=>rfl⟩
  ·rw [h1] at h2;cases h2;exact .inr ⟨rfl,rfl⟩
  ·rfl
 ·rcases Nat.lt_or_ge a.block w.heap.size with hlt | hge
  ·simp only [World.frozen?,hs _ hlt]
  ·have e1:w.heap[a.block]?=none:=by simp [hge]
   have e2:w.frozen? a=false:=by simp only [World.frozen?,e1]
   rw [e2];unfold World.frozen?;split
   ·rename_i arr elem lo hi hc;rcases h.pres.fr _ _ _ _ hc with ⟨arr',elem',hc'⟩ | hf
    ·rw [e1] at hc';cases hc'
    ·simp at hf;obtain ⟨rfl,rfl⟩:=hf;simp
   ·rfl

def okB:Option (Value × St)->Bool
 | some (.bool b,_)=>b
 | _=>false
theorem xOY {r:Option (Value × St)} (h:okB r=true):∃ Z',r=some (.bool true,Z'):=by
 unfold okB at h;split at h
 ·rename_i b Z';exact ⟨Z',by rw [h]⟩
 ·cases h

end Go.Lay

namespace Go.Lay
open Go

section
variable {P:Program} {rec:Rec} {U:Inj} {Z:St} {w:World}
def zIQ (P:Program) (rec:Rec) (N:Nat) (f:FuncId) (args:List Value) (Z:St):Option (Value × St) :=
 match P.funcs[f]? with
 | some fn=>match fn.body with
  | some c=>Tm.puts (Tm.args 0 args) (fresh (args.length+(fn.ntmps-args.length))) fun tm=>xRS P fn (yZ P rec N none c ⟨tm,[]⟩ Z)
  | none=>none
 | none=>none
theorem zEX (hP:ProgOk P) (ih:RecSound P rec) {n:Nat} {f:FuncId} {args args':List Value} {v:Value} {Z':St} (h:zIQ P rec n f args Z=some (v,Z')) (hr:Rep U Z w) (ha:VRs U args args') :
  (∃ fn, P.funcs[f]? = some fn ∧ fn.body.isSome = true ∧ fn.name ≠ "runtime.NumGoroutine") ∧ ∀ m, CallsIn (Fw none) m P f ⟨args'⟩ w (zLL U Z w v Z') := by
 unfold zIQ at h;split at h
 ·rename_i fn hfn;split at h
  ·rename_i c hc;rw [Tm.puts_eq] at h;obtain ⟨hok,hname⟩:=hP.code f fn c hfn hc;refine ⟨⟨fn,hfn,by rw [hc];rfl,hname⟩,fun m=>?_⟩
   have fin:∀ (e:Exit) (fr':Fr) (Z₁:St),(e=.normal\/e=.ret)->zWA P fn fr' Z₁=some (v,Z')->∀ U' a' w',Good U Z w U' Z₁ w'->FrR U' fr' a'->bodyPostM (Fw none) m P fn (zLL U Z w v Z') e a' w':=by
    intro e fr' Z₁ he hd U' a' w' hg hf;have:LeavesInM (Fw none) m P fn a'.tmps (zLL U Z w v Z') a'.defers .returning w':=by
     unfold zWA at hd;split at hd
     ·rename_i Z₂ hdr;split at hd
      ·rename_i v0 hres;rw [zKP] at hd;simp at hd;obtain ⟨rfl,rfl⟩:=hd;exact zHO fr'.marks a'.defers Z₁ w' Z₂ hdr hf.defs hg.rep hf.tms hres (fun v' w₂ hv hg2=>⟨U',hv,hg.trans hg2⟩)
      ·cases hd
     ·cases hd
    rcases he with rfl | rfl <;> exact this
   refine callsIn_of_wp_marks hfn hc trivial ?_
   have hfr0:FrR U ⟨(Tm.args 0 args).foldl (fun f p=>f.set p.1 p.2) (fresh (args.length+(fn.ntmps-args.length))),[]⟩ { tmps:=(⟨args'⟩:Array Value)++Array.replicate (fn.ntmps-(⟨args'⟩:Array Value).size) undef,defers:=[] } :=
    ⟨yID ha fn.ntmps,.nil⟩
   unfold xRS at h;split at h
   ·rename_i fr' Z₁ hcode;exact vR hP.mixed hP.zero ih n none c hok _ _ _ _ _ hcode U w _ none m _ hr hfr0 .none (fin _ fr' Z₁ (.inl rfl) h)
   ·rename_i fr' Z₁ hcode;exact vR hP.mixed hP.zero ih n none c hok _ _ _ _ _ hcode U w _ none m _ hr hfr0 .none (fin _ fr' Z₁ (.inr rfl) h)
   ·cases h
  ·cases h
 ·cases h
def xUH {α:Type} (eq:α->α->Bool):Tr α->Tr α->Bool
 | .leaf,.leaf=>true
 | .node (some a) l m,.node (some b) l' m'=>eq a b && xUH eq l l' && xUH eq m m'
 | .node none l m,.node none l' m'=>xUH eq l l' && xUH eq m m'
 | _,_=>false
def yGW:List (Nat × Nat)->List (Nat × Nat)->Bool
 | [],[]=>true
 | (a,b)::l,(a',b')::l'=>Nat.beq a a' && Nat.beq b b' && yGW l l'
 | _,_=>false
theorem xPJ:∀ (l l':List (Nat × Nat)),yGW l l'=true->l=l':=by
 intro l;induction l with
 | nil=>intro l' h;cases l' <;> simp_all [yGW]
 | cons x l ih =>
  intro l' h;cases l' with
  | nil=>simp [yGW] at h
  | cons y l'=>simp only [yGW,Bool.and_eq_true,Nat.beq_eq] at h;rw [ih _ h.2];obtain ⟨⟨h1,h2⟩,_⟩:=h;cases x;cases y;simp_all
def yNJ:List Value->List Value->Bool
 | [],[]=>true
 | a::l,b::l'=>veq RD a b && yNJ l l'
 | _,_=>false
theorem xBW:∀ (l l':List Value),yNJ l l'=true->l=l':=by
 intro l;induction l with
 | nil=>intro l' h;cases l' <;> simp_all [yNJ]
 | cons x l ih =>
  intro l' h;cases l' with
  | nil=>simp [yNJ] at h
  | cons y l'=>simp only [yNJ,Bool.and_eq_true] at h;rw [zSA _ _ _ h.1,ih _ h.2]
def yGU:List (Value × Value)->List (Value × Value)->Bool
 | [],[]=>true
 | (a,b)::l,(a',b')::l'=>veq RD a a' && veq RD b b' && yGU l l'
 | _,_=>false
theorem xPF:∀ (l l':List (Value × Value)),yGU l l'=true->l=l':=by
 intro l;induction l with
 | nil=>intro l' h;cases l' <;> simp_all [yGU]
 | cons x l ih =>
  intro l' h;cases l' with
  | nil=>simp [yGU] at h
  | cons y l' =>
   cases x;cases y
   simp only [yGU,Bool.and_eq_true] at h;rw [zSA _ _ _ h.1.1,zSA _ _ _ h.1.2,ih _ h.2]
def xSE:Blk->Blk->Bool
 | .cells c e l n ro,.cells c' e' l' n' ro'=>yNJ c c' && Nat.beq e e' && yGW l l' && Nat.beq n n' && (ro == ro')
 | .map m,.map m'=>yGU m m'
 | .defd,.defd=>true
 | _,_=>false
theorem ySP (a b:Blk) (h:xSE a b=true):a=b:=by
 cases a <;> cases b <;> simp only [xSE,Bool.and_eq_true,Bool.false_eq_true,Nat.beq_eq,beq_iff_eq] at h
 ·obtain ⟨⟨⟨⟨h1,h2⟩,h3⟩,h4⟩,h5⟩:=h;rw [xBW _ _ h1,xPJ _ _ h3];simp_all
 ·rw [xPF _ _ h]
 ·rfl
def zWR {α:Type} (eq:α->α->Bool):Tr α->Tr α->Bool
 | _,.leaf=>true
 | .node (some a) l m,.node (some b) l' m'=>eq a b && zWR eq l l' && zWR eq m m'
 | .node _ l m,.node none l' m'=>zWR eq l l' && zWR eq m m'
 | _,_=>false
theorem yNL {α:Type} {eq:α->α->Bool} (he:∀ a b,eq a b=true->a=b):∀ (t t':Tr α),zWR eq t t'=true->∀ p y,Tr.getP p t'=some y->Tr.getP p t=some y:=by
 intro t t';induction t' generalizing t with
 | leaf=>intro _ p y h;cases p <;> simp [Tr.getP] at h
 | node v' l' m' ihl ihm =>
  intro h p y hy;cases t with
  | leaf=>cases v' <;> simp [zWR] at h
  | node v l m =>
   have hs:(∀ b,v'=some b->v=some b)/\zWR eq l l'=true/\zWR eq m m'=true:=by
    cases v' with
    | none=>cases v <;> (simp only [zWR,Bool.and_eq_true] at h;exact ⟨fun _ hb=>(by cases hb),h.1,h.2⟩)
    | some b =>
     cases v with
     | none=>simp [zWR] at h
     | some a =>
      simp only [zWR,Bool.and_eq_true] at h;exact ⟨fun _ hb=>(by cases hb;rw [he _ _ h.1.1]),h.1.2,h.2⟩
   cases p with
   | nil=>simp only [Tr.getP] at hy ⊢;exact hs.1 _ hy
   | cons b p =>
    simp only [Tr.getP] at hy ⊢;cases b with
    | true=>exact ihm _ hs.2.2 _ _ hy
    | false=>exact ihl _ hs.2.1 _ _ hy
def zJA (Z τ:St):Bool:=Nat.beq Z.y τ.y && Nat.beq Z.low τ.low && zWR xSE Z.heap τ.heap
theorem Good.sub {U U':Inj} {Z τ τ':St} {w w':World} (h:Good U Z w U' τ w') (hs:zJA τ τ'=true):Good U Z w U' τ' w':=by
 simp only [zJA,Bool.and_eq_true,Nat.beq_eq] at hs;obtain ⟨⟨h1,h2⟩,h3⟩:=hs;refine ⟨h1 ▸ h.ext,⟨fun b y hb=>?_,fun b s L hl=>h.rep.lt b s L hl,fun c b hb=>?_,fun b s hb=>?_⟩,h2 ▸ h.pres,h2 ▸ h.low,h1 ▸ h.y⟩
 ·have:=h.rep.blk b y (yNL ySP _ _ h3 _ _ hb);exact ⟨h1 ▸ this.1,this.2⟩
 ·have:=h.rep.ownlt c b hb;exact ⟨this.1,h1 ▸ this.2⟩
 ·exact h.rep.fresh b s (h1 ▸ hb)

structure Ent where
 keep:Bool
 f:Nat
 args:List Value
 Z:St
 v:Value
 Z':St
def ins:Tr Blk->List (Nat × Blk)->Tr Blk
 | t,[]=>t
 | t,(i,y)::l=>Tr.setP (way i) t (some y) fun t=>ins t l
def Ent.out (e:Ent) (Z:St):St:=bif e.keep then Z else e.Z'
def yRL:List Ent->Nat->List Value->St->Option (Value × St)
 | [],_,_,_=>none
 | e::l,f,args,Z=>bif Nat.beq e.f f && Nat.beq e.Z.y Z.y && yNJ e.args args && zJA Z e.Z then some (e.v,e.out Z) else yRL l f args Z
def yQF (l:List Ent) (rec:Rec):Rec:=fun r args Z =>
 match r with
 | .func f=>match yRL l f args Z with
  | some x=>some x
  | none=>rec (.func f) args Z
 | .yield y=>rec (.yield y) args Z
theorem yZE:∀ {l:List Ent} {f args Z x},yRL l f args Z=some x->∃ e∈l,e.f=f/\e.args=args/\zJA Z e.Z=true/\x=(e.v,e.out Z):=by
 intro l;induction l with
 | nil=>intro f args Z x h;cases h
 | cons e l ih =>
  intro f args Z x h;unfold yRL at h;cases hb:(Nat.beq e.f f && Nat.beq e.Z.y Z.y && yNJ e.args args && zJA Z e.Z) with
  | true =>
   rw [hb] at h;simp only [Bool.and_eq_true,Nat.beq_eq] at hb;simp only [cond_true,Option.some.injEq] at h;exact ⟨e,List.mem_cons_self,hb.1.1.1,xBW _ _ hb.1.2,hb.2,h.symm⟩
  | false =>
   rw [hb] at h;obtain ⟨e',he,hx⟩:=ih h;exact ⟨e',List.mem_cons_of_mem _ he,hx⟩
theorem Rep.sub {Z Zs:St} {w:World} (h:Rep U Z w) (hs:zJA Z Zs=true):Rep U Zs w:=by
 simp only [zJA,Bool.and_eq_true,Nat.beq_eq] at hs;obtain ⟨⟨h1,_⟩,h3⟩:=hs;refine ⟨fun b y hb=>?_,h.lt,fun c b hb=>?_,fun b s hb=>h.fresh b s (h1 ▸ hb)⟩
 ·have:=h.blk b y (yNL ySP _ _ h3 _ _ hb);exact ⟨h1 ▸ this.1,this.2⟩
 ·have:=h.ownlt c b hb;exact ⟨this.1,h1 ▸ this.2⟩
def zBZ (P:Program) (e:Ent):Prop:=∀ (U:Inj) (Z:St) (w:World) (args':List Value),zJA Z e.Z=true->Rep U Z w->VRs U e.args args' ->
  (∃ fn, P.funcs[e.f]? = some fn ∧ fn.body.isSome = true ∧ fn.name ≠ "runtime.NumGoroutine") ∧ ∀ n, CallsIn (Fw none) n P e.f ⟨args'⟩ w (zLL U Z w e.v (e.out Z))
def zLK (P:Program) (l:List Ent):Prop:=∀ e∈l,zBZ P e
theorem zCA:zLK P []:=fun _ h=>by cases h
theorem zAW {e:Ent} {l:List Ent} (h:zBZ P e) (hl:zLK P l):zLK P (e::l):=fun x hx=>by
 rcases List.mem_cons.1 hx with rfl | hx
 ·exact h
 ·exact hl _ hx
theorem zOO (hP:ProgOk P) {l:List Ent} (h:zLK P l) (N:Nat):RecSound P (yQF l (zV P N)):=by
 refine ⟨fun f args Z v Z' hx U w args' hr ha=>?_,fun y args Z v Z' hx=>(zHC hP N).yield y args Z v Z' hx⟩
 simp only [yQF] at hx;cases hf:yRL l f args Z with
 | some y =>
  rw [hf] at hx;obtain ⟨e,he,rfl,rfl,hs,rfl⟩:=yZE hf;cases hx
  exact h e he U Z w args' hs hr ha
 | none=>rw [hf] at hx;exact (zHC hP N).func f args Z v Z' hx U w args' hr ha

def xYZ (e:Ent):Option (Value × St)->Bool
 | some (v,τ)=>veq RD v e.v && zJA τ e.Z' && !e.keep
 | none=>false
theorem zEE (hP:ProgOk P) {l:List Ent} (hl:zLK P l) (N:Nat) {e:Ent} (h:xYZ e (zIQ P (yQF l (zV P N)) N e.f e.args e.Z)=true):zBZ P e:=by
 intro U Z w args' hs hr ha;unfold xYZ at h;split at h
 ·rename_i v τ hb;simp only [Bool.and_eq_true,Bool.not_eq_true'] at h;obtain ⟨h1,h2⟩:=zEX hP (zOO hP hl N) hb (hr.sub hs) ha;refine ⟨h1,fun n=>CallsIn.mono (h2 n) (fun e' w' hR=>?_)⟩
  cases e' with
  | returned v' =>
   obtain ⟨U',hv,hg⟩:=hR;have hg:=hg.sub h.1.2;simp only [zJA,Bool.and_eq_true,Nat.beq_eq] at hs;refine ⟨U',zSA _ _ _ h.1.1 ▸ hv, ?_⟩
   simp only [Ent.out,h.2,cond_false];exact ⟨hg.ext,hg.rep,hg.pres,hs.1.2 ▸ hg.low,hs.1.1 ▸ hg.y⟩
  | panicked _=>exact hR.elim
  | outgrown=>exact hR.elim
 ·cases h
def xYU (e:Ent):Option (Value × St)->Bool
 | some (v,τ)=>veq RD v e.v && Nat.ble e.Z.y τ.low && zW RD e.v && e.keep
 | none=>false
theorem yRO (hP:ProgOk P) {l:List Ent} (hl:zLK P l) (N:Nat) {e:Ent} (h:xYU e (zIQ P (yQF l (zV P N)) N e.f e.args e.Z)=true):zBZ P e:=by
 intro U Z w args' hs hr ha;unfold xYU at h;split at h
 ·rename_i v τ hb;simp only [Bool.and_eq_true] at h;obtain ⟨h1,h2⟩:=zEX hP (zOO hP hl N) hb (hr.sub hs) ha;refine ⟨h1,fun n=>CallsIn.mono (h2 n) (fun e' w' hR=>?_)⟩
  have hn:Z.y=e.Z.y:=by simp only [zJA,Bool.and_eq_true,Nat.beq_eq] at hs;exact hs.1.1
  cases e' with
  | returned v' =>
   obtain ⟨U',hv,hg⟩:=hR;have hv1:=zSA _ _ _ h.1.1.1;subst hv1;have hlow':=(zX _ _).1 h.1.1.2;have he:=hv.rigid _ h.1.2;subst he;have hsame:∀ c,c<w.heap.size->(∀ b,U.own c=some b->b<Z.y)->w'.heap[c]?=w.heap[c]?:=fun c hcs ho =>
    hg.pres.same c hcs (fun b hb=>Nat.lt_of_lt_of_le (hn ▸ ho b hb) hlow')
   simp only [Ent.out,h.2,cond_true];refine ⟨U,.refl_rigid _ h.1.2,Ext.refl _ _ _,⟨fun b y hb=>⟨(hr.blk b y hb).1,(hr.blk b y hb).2.keep (Ext.refl U w.heap.size 0) hr.lt (fun c hcs ho=>?_) (fun cs esz log next ro hy s hs'=>?_)⟩,fun b s L hl=>?_,fun c b hb=>?_,hr.fresh⟩,
    ⟨hg.pres.size,fun c hcs ho=>hsame c hcs (fun b hb=>(hr.ownlt c b hb).2),hg.pres.tape,hg.pres.os,hg.pres.output,hg.pres.fr⟩,Nat.le_refl _,Nat.le_refl _⟩
   ·refine hsame c hcs (fun b' hb'=>?_);rcases ho with ho | ho
    ·exact (hr.ownlt c b' hb').2
    ·rw [ho] at hb';cases hb'
   ·have:=(hr.blk b y hb).2;subst hy;cases this with | cells _ _ _ fresh=>exact fresh s hs'
   ·exact Nat.lt_of_lt_of_le (hr.lt b s L hl) hg.pres.size
   ·exact ⟨Nat.lt_of_lt_of_le (hr.ownlt c b hb).1 hg.pres.size,(hr.ownlt c b hb).2⟩
  | panicked _=>exact hR.elim
  | outgrown=>exact hR.elim
 ·cases h
end
end Go.Lay
