
import Derived.RangeFuncLeaves
import Derived.RangeFuncRecord
import Derived.RowKit3
import Derived.Test.YtflfajphjmajpaaGreatLayA
set_option linter.unusedVariables false
set_option linter.unusedSimpArgs false
namespace Go.Lay
open Go
variable{rd rd':Option Nat}{n:Nat}{P:Program}{f:FuncId}{w w':World}{R:Ending->World->Prop}{v v' iO:Value}{V1 E':St}{a:Act}{o:Oper}{next:Act->World->Prop}{Q:Exit->Act->World->Prop}{nx:Next}{U:Type}{c:Bool}{x:Option U}{z:U}

def Fw(rd:Option Nat):Fence:={ Fence.wide with round:=rd }
theorem yQC(rd:Option Nat)(f:FuncId):(Fw rd).fn f:=trivial
theorem zXO(rd:Option Nat):(Fw rd).depth.isSome=true->∀n:Nat,1<=n:=λh=>by simp[Fw,Fence.wide]at h
theorem xLJ{args:Array Value}(h:CallsIn (Fw rd) n P f args w R):CallsIn (Fw rd') n P f args w R:=h
theorem xIJ{l:Nat}{t:Array Value}{as bo:Code}(h:RoundIn (Fw rd) n P l f t as bo w R):RoundIn (Fw rd') n P l f t as bo w R:=h

def zPH(Z:Inj)(E:St)(w:World)(v:Value)(E':St):Ending->World->Prop
 |.returned v',w'=>∃Z',VR Z' v v'/\Good Z E w Z' E' w'
 |_,_=>False

structure RecSound(P:Program)(rec:Rec):Prop where
 func:∀f args E v E',rec (.func f) args E=some (v,E')->∀(Z:Inj) (w:World) (args':List Value),Rep Z E w->VRs Z args args' ->
  (∃ fn, P.funcs[f]? = some fn ∧ fn.body.isSome = true ∧ fn.name ≠ "runtime.NumGoroutine") ∧ ∀ n, CallsIn (Fw none) n P f ⟨args'⟩ w (zPH Z E w v E')
 yield:∀l args E v E',rec (.yield l) args E=some (v,E')->∀(Z:Inj) (w:World) (args':List Value) (L:Loc),Rep Z E w->VRs Z args args'->Z.loc l 0=some L ->
  ∀n,∃fn tmps as bo,(Instr.yield L.c ⟨args'⟩).run P w=.ok (.round L.c fn tmps as bo) w/\RoundIn (Fw none) n P L.c fn tmps as bo w (zPH Z E w v E')

section
variable{P:Program}{Z:Inj}{E:St}{w:World}{rec:Rec}

theorem Rep.relow(h:Rep Z E w)(l:Nat):Rep Z ⟨E.heap,E.j,l⟩ w:=⟨h.blk,h.lt,h.ownlt,h.fresh⟩

theorem xMB{Z':Inj}(h:zAB E v V1=some (iO,E'))(hr:Rep Z E w)(hv:VR Z' v v')(hg:Good Z ⟨E.heap,E.j,E.j⟩ w Z' V1 w') :
  iO=v/\∃Z'',VR Z'' v v'/\Good Z E w Z'' E' w':=by
 unfold zAB at h;cases hc:Nat.ble E.j V1.low&&yI RD v with
 |true =>
  rw[hc,cond_true]at h;simp only[Bool.and_eq_true]at hc;have hlow:=(yJ _ _).1 hc.1;simp at h;obtain⟨rfl,rfl⟩:=h;have he:=hv.rigid _ hc.2;subst he;have hsame:∀c,c<w.heap.size->(∀b,Z.own c=some b->b<E.j)->w'.heap[c]?=w.heap[c]?:=λc hcs ho =>
   hg.pres.same c hcs (λb hb=>Nat.lt_of_lt_of_le (ho b hb) hlow)
  refine⟨rfl,Z,.refl_rigid _ hc.2,Ext.refl _ _ _,⟨λb y hb=>⟨(hr.blk b y hb).1,(hr.blk b y hb).2.keep (Ext.refl Z w.heap.size 0) hr.lt (λc hcs ho=>?_) (λcs esz log next ro hy s hs'=>?_)⟩,λb s L hl=>?_,λc b hb=>?_,hr.fresh⟩,
   ⟨hg.pres.size,λc hcs ho=>hsame c hcs (λb hb=>(hr.ownlt c b hb).2),hg.pres.tape,hg.pres.os,hg.pres.output,hg.pres.fr⟩,Nat.le_refl _,Nat.le_refl _⟩
  .refine hsame c hcs (λb' hb'=>?_);rcases ho with ho|ho
   .exact(hr.ownlt c b' hb').2
   .rw[ho]at hb';cases hb'
  .have:=(hr.blk b y hb).2;subst hy;cases this with|cells _ _ _ fresh=>exact fresh s hs'
  .exact Nat.lt_of_lt_of_le (hr.lt b s L hl) hg.pres.size
  .exact⟨Nat.lt_of_lt_of_le (hr.ownlt c b hb).1 hg.pres.size,(hr.ownlt c b hb).2⟩
 |false =>
  rw[hc,cond_false]at h;cases hn:Nat.ble E.j V1.j with
  |false=>rw[hn,cond_false]at h;cases h
  |true =>
   rw[hn,cond_true,vC,zBZ]at h;have hn:=(yJ _ _).1 hn;simp at h;obtain⟨rfl,rfl⟩:=h;refine⟨rfl,Z',hv,hg.ext,hg.rep.relow _,⟨hg.pres.size,λc hcs ho=>hg.pres.same c hcs (λb hb=>?_),hg.pres.tape,hg.pres.os,hg.pres.output,hg.pres.fr⟩,Nat.min_le_left _ _,hn⟩
   have:=ho b hb;simp at this;omega

theorem xWA(h:zAB E v V1=some (iO,E')):E.j<=E'.j:=by
 unfold zAB at h;cases hc:Nat.ble E.j V1.low&&yI RD v with
 |true=>rw[hc,cond_true]at h;simp at h;rw[h.2];exact Nat.le_refl _
 |false =>
  rw[hc,cond_false]at h;cases hn:Nat.ble E.j V1.j with
  |false=>rw[hn,cond_false]at h;cases h
  |true=>rw[hn,cond_true,vC]at h;simp at h;rw[<- h.2];exact(yJ _ _).1 hn

theorem xLK{r:FnRef}{args:List Value}(h:uT rec r args E=some (v,E')):E.j<=E'.j:=by
 unfold uT at h;split at h
 .cases h
 .exact xWA h

theorem zPH.mono(hr:Rep Z E w)(hb:zAB E v V1=some (iO,E')){e:Ending}{w':World}(h:zPH Z ⟨E.heap,E.j,E.j⟩ w v V1 e w'):zPH Z E w iO E' e w':=by
 cases e with
 |returned v' =>
  obtain⟨Z',hv,hg⟩:=h;obtain⟨rfl,Z'',h1,h2⟩:=xMB hb hr hv hg;exact⟨Z'',h1,h2⟩
 |panicked _=>exact h
 |outgrown=>exact h

theorem yJF(hrec:RecSound P rec){f:FuncId}{args args':List Value}{v:Value}{E':St}(h:uT rec (.func f) args E=some (v,E'))(hr:Rep Z E w)(ha:VRs Z args args') :
  (∃ fn, P.funcs[f]? = some fn ∧ fn.body.isSome = true ∧ fn.name ≠ "runtime.NumGoroutine") ∧ ∀ rd n, CallsIn (Fw rd) n P f ⟨args'⟩ w (zPH Z E w v E') := by
 unfold uT at h;split at h
 .cases h
 .rename_i jf V1 hc;obtain⟨h1,h2⟩:=hrec.func _ _ _ _ _ hc Z w args' (hr.relow _) ha;exact⟨h1,λrd n=>xLJ (CallsIn.mono (h2 n) (λe w'=>zPH.mono hr h))⟩

theorem xDY(hrec:RecSound P rec){l:Nat}{args args':List Value}{v:Value}{E':St}{L:Loc}(h:uT rec (.yield l) args E=some (v,E'))(hr:Rep Z E w)(ha:VRs Z args args')(hl:Z.loc l 0=some L) :
  ∀rd n,∃fn tmps as bo,(Instr.yield L.c ⟨args'⟩).run P w=.ok (.round L.c fn tmps as bo) w/\RoundIn (Fw rd) n P L.c fn tmps as bo w (zPH Z E w v E'):=by
 unfold uT at h;split at h
 .cases h
 .rename_i jf V1 hc;intro rd n;obtain⟨fn,tmps,as,bo,h1,h2⟩:=hrec.yield _ _ _ _ _ hc Z w args' L (hr.relow _) ha hl n;exact⟨fn,tmps,as,bo,h1,xIJ (RoundIn.mono h2 (λe w'=>zPH.mono hr h))⟩

theorem zPG{f:Tm}(h:TmR Z f a.tmps){x:Operand}(hx:zLE x=true):VR Z (yV f x) (a.eval x):=by
 cases x with
 |tmp t=>exact h.2 t
 |const v=>exact .refl_rigid _ hx
 |global g=>exact .any rfl
 |func g=>exact .func (.func g) rfl (λi v v' h=>by simp at h) rfl (λi v v' h=>by simp at h)

theorem wKS(h:zOB o=true){x:Operand}(hx:x∈o.op.operands):zLE x=true :=
 List.all_eq_true.1 h x (by simpa using hx)

theorem NextV.upon(h:NextV nx v')(hn:next (a.put o.dst v') w') :
  o.uponIn (Fw rd) n P a next Q (.ok nx w'):=by
 cases h with
 |value=>exact hn
 |skip=>exact hn

theorem zPR(hd:∀c,o.op≠.defer c)
  (hrun:(execOp a.eval o).run P w=.ok nx w') (h:NextV nx v') (hn:next (a.put o.dst v') w'):o.wpIn (Fw rd) n P a w next Q:=by
 refine⟨λf _=>yQC rd f, ?_⟩
 rw[Oper.semAt_eq _ _ _ hd,hrun];exact h.upon hn

theorem wV(h:(bif c then x else none)=some z):c=true/\x=some z:=by cases c <;> simp_all
theorem zCZ{y:Option U}(h:(bif c then x else y)=some z):(c=true/\x=some z)\/(c=false/\y=some z):=by cases c <;> simp_all

theorem zRC{a:Addr}{vs:List Value}(h:wS E a vs=some E'):E.j<=E'.j:=by
 unfold wS at h;split at h
 .split at h
  .obtain⟨_,h⟩:=wV h;rw[zCV,St.write_eq]at h;simp at h;rw[<- h];simp
  .cases h
 .cases h

theorem yVF{base:Option Addr}{len cap cnt:Nat}{cs:List Value}(h:uC E n base len cap cnt cs=some (v,E')):E.j<=E'.j:=by
 unfold uC at h;rcases zCZ h with ⟨_,h⟩|⟨_,h⟩
 .split at h
  .obtain⟨_,h⟩:=wV h;simp at h;rw[<- h.2];exact Nat.le_refl _
  .rcases zCZ h with ⟨_,h⟩|⟨_,h⟩
   .simp at h;rw[<- h.2];exact Nat.le_refl _
   .simp only[Option.map_eq_some_iff]at h;obtain⟨V1,h1,h2⟩:=h;simp at h2;rw[<- h2.2];exact zRC h1
 .rcases zCZ h with ⟨_,h⟩|⟨_,h⟩
  .split at h
   .obtain⟨_,h⟩:=wV h;rw[xD]at h;simp at h;rw[<- h.2];simp
   .split at h
    .rw[xD]at h;simp at h;rw[<- h.2];simp
    .cases h
  .split at h
   .cases h
   .unfold zLP at h;split at h
    .split at h
     .obtain⟨_,h⟩:=wV h;rw[zCV,vC,vC,St.write_eq]at h;simp at h;rw[<- h.2];simp
     .cases h
    .cases h

theorem xKX{o:Op}{ev:Operand->Value}(h:yN P ev E o=some (v,E')):E.j<=E'.j:=by
 unfold yN at h;split at h
 .split at h
  .rw[vC,xD]at h;simp at h;rw[<- h.2];simp
  .cases h
 .rw[vC,xD]at h;simp at h;rw[<- h.2];simp
 .split at h
  .split at h
   .obtain⟨_,h⟩:=wV h;split at h
    .rw[xD]at h;simp at h;rw[<- h.2];simp
    .cases h
   .cases h
  .cases h
 .split at h
  .split at h
   .rw[St.new_eq]at h;simp at h;rw[<- h.2];simp
   .cases h
  .split at h
   .rw[St.new_eq]at h;simp at h;rw[<- h.2];simp
   .cases h
 .split at h
  .split at h
   .obtain⟨_,h⟩:=wV h;rw[xD]at h;simp at h;rw[<- h.2];simp
   .cases h
  .cases h
 .split at h
  .simp only[Option.map_eq_some_iff]at h;obtain⟨V1,h1,h2⟩:=h;simp at h2;rw[<- h2.2];unfold zCN at h1;split at h1
   .obtain⟨_,h1⟩:=wV h1;exact zRC h1
   .cases h1
  .cases h
 .split at h
  .split at h
   .obtain⟨_,h⟩:=wV h;split at h
    .split at h
     .obtain⟨_,h⟩:=wV h;rw[St.write_eq]at h;simp at h;rw[<- h.2];simp
     .cases h
    .rw[St.write_eq]at h;simp at h;rw[<- h.2];simp
    .cases h
   .cases h
  .cases h
 .split at h
  .split at h
   .obtain⟨_,h⟩:=wV h;split at h
    .split at h
     .obtain⟨_,h⟩:=wV h;rw[St.write_eq]at h;simp at h;rw[<- h.2];simp
     .cases h
    .rw[St.write_eq]at h;simp at h;rw[<- h.2];simp
    .cases h
   .cases h
  .cases h
 .split at h
  .split at h
   .unfold xO at h;split at h
    .split at h
     .split at h
      .split at h
       .obtain⟨_,h⟩:=wV h;exact yVF h
       .cases h
      .cases h
     .cases h
    .cases h
   .cases h
  .split at h
   .simp only[Option.map_eq_some_iff]at h;obtain⟨v0,h1,h2⟩:=h;simp at h2;rw[<- h2.2];exact Nat.le_refl _
   .cases h
  .cases h
 .cases h
end
end Go.Lay

namespace Go.Lay
open Go
variable{o:Oper}{v:Value}{E':St}{a:Act}{ev:Operand->Value}
section
variable{P:Program}{Z:Inj}{E:St}{w:World}{rec:Rec}

theorem zCM{o:Option Value}(h:zRE E o=some (v,E')):o=some v/\E'=E:=by
 cases o with
 |none=>simp[zRE]at h
 |some x=>simp[zRE]at h;exact⟨by rw[h.1],h.2.symm⟩

theorem yLY(hrec:RecSound P rec){o:Oper}{ev:Operand->Value}{a:Act}{c:Call}{fx:Operand}{v:Value}{E':St}{rd:Option Nat}{n:Nat}{next:Act->World->Prop}{Q:Exit->Act->World->Prop}{r:FnRef}{as:List Value}
  (ho:o.op=.call c) (hc:c.callee=.value fx) (href:zRJ (ev fx) (c.args.toList.map ev)=some (r,as)) (h:uT rec r as E=some (v,E')) (hr:Rep Z E w) (hev:∀x∈o.op.operands,VR Z (ev x) (a.eval x))
  (hn:∀v' w' Z',VR Z' v v'->Good Z E w Z' E' w'->next (a.put o.dst v') w'):o.wpIn (Fw rd) n P a w next Q:=by
 have hf:=hev fx (by simp[ho,Op.operands,Call.operands,hc]);have hargs:=zED c.args.toList (ev:=ev) (ev':=a.eval) (λx hx=>hev x (by simp[ho,Op.operands,Call.operands,hc]at hx ⊢;exact .inr hx));have eargs:c.args.map a.eval=(⟨c.args.toList.map a.eval⟩:Array Value):=by apply Array.ext';simp
 obtain⟨as',has,hcase⟩:=yJE (P:=P) href hf hargs;have hd:∀c',o.op≠.defer c':=λc'=>by rw[ho];simp
 refine⟨λf _=>yQC rd f, ?_⟩
 rw[Oper.semAt_eq _ _ _ hd];have hsem:∀{d:Deferred},(∀w,(Deferred.ofValue (a.eval fx) ⟨c.args.toList.map a.eval⟩).run P w=.ok d w)->(execOp a.eval o).run P w=(invoke d.target d.args).run P w:=by
  intro d hd;simp only[execOp,ho,resolve,hc,eargs,Sem.run_bind,hd,Result.andThen_ok]
 rcases hcase with ⟨f,cap,rfl,d,hd1,hd2,hd3⟩|⟨l,L,cap,rfl,hl,d,hd1,hd2,hd3⟩
 .obtain⟨⟨fn,hfn,hbody,hname⟩,hcall⟩:=yJF hrec h hr has;have hrun:(execOp a.eval o).run P w=.ok (.enter f ⟨as'⟩) w:=by
   rw[hsem hd1,hd2];have hb:fn.body≠none:=by cases hb:fn.body <;> simp_all
   simp[invoke,callFunc,hfn,hb,hname,hd3]
  rw[hrun,Oper.uponIn_enter];exact⟨λhs=>zXO rd hs n,CallsIn.mono (hcall rd _) (λe w' hR=>by
   cases e with
   |returned v'=>obtain⟨Z',h1,h2⟩:=hR;exact hn v' w' Z' h1 h2
   |panicked _=>exact hR.elim
   |outgrown=>exact hR.elim)⟩
 .obtain⟨fn,tmps,jd,bo,hy,hround⟩:=xDY hrec h hr has hl rd (n-1);have hrun:(execOp a.eval o).run P w=.ok (.round L.c fn tmps jd bo) w:=by
   rw[hsem hd1,hd2];simp only[invoke,hd3];exact hy
  rw[hrun,Oper.uponIn_round];exact⟨λhs=>zXO rd hs n,RoundIn.mono hround (λe w' hR=>by
   cases e with
   |returned v'=>obtain⟨Z',h1,h2⟩:=hR;exact hn v' w' Z' h1 h2
   |panicked _=>exact hR.elim
   |outgrown=>exact hR.elim)⟩

theorem yJQ.wp{rd:Option Nat}{n:Nat}{next:Act->World->Prop}{Q:Exit->Act->World->Prop}(hd:∀c,o.op≠.defer c)(h:yJQ P Z E w v E' (execOp a.eval o))
  (hn:∀v' w' Z',VR Z' v v'->Good Z E w Z' E' w'->next (a.put o.dst v') w'):o.wpIn (Fw rd) n P a w next Q:=by
 obtain⟨nx,v',w',Z',h1,h2,h3,h4⟩:=h;exact zPR hd h1 h2 (hn v' w' Z' h3 h4)

theorem zVQ(hz:zAX P){o:Oper}{ev:Operand->Value}{a:Act}{v:Value}{rd:Option Nat}{n:Nat}{next:Act->World->Prop}{Q:Exit->Act->World->Prop}(h:wR P ev o.op=some v)(hev:∀x∈o.op.operands,VR Z (ev x) (a.eval x))
  (hn:∀v',VR Z v v'->next (a.put o.dst v') w):o.wpIn (Fw rd) n P a w next Q:=by
 obtain⟨v',h1,h2⟩:=xAQ hz h hev;refine zPR (λc hc=>?_) (h1 w) (.value _) (hn v' h2);rw[hc]at h;simp[wR]at h
theorem xTV(hz:zAX P){o:Oper}{ev:Operand->Value}{a:Act}{v:Value}{rd:Option Nat}{n:Nat}{next:Act->World->Prop}{Q:Exit->Act->World->Prop}(h:xJ P ev E o.op=some v)(hr:Rep Z E w)(hev:∀x∈o.op.operands,VR Z (ev x) (a.eval x))
  (hn:∀v',VR Z v v'->next (a.put o.dst v') w):o.wpIn (Fw rd) n P a w next Q:=by
 obtain⟨v',h1,h2⟩:=yTV hz h hr hev;refine zPR (λc hc=>?_) h1 (.value _) (hn v' h2);rw[hc]at h;simp[xJ]at h

theorem xAZ(hz:zAX P){o:Oper}{ev:Operand->Value}{a:Act}{v:Value}{rd:Option Nat}{n:Nat}{next:Act->World->Prop}{Q:Exit->Act->World->Prop}(h:wA P ev E o.op=some v)(hr:Rep Z E w)(hev:∀x∈o.op.operands,VR Z (ev x) (a.eval x))
  (hn:∀v',VR Z v v'->next (a.put o.dst v') w):o.wpIn (Fw rd) n P a w next Q:=by
 unfold wA at h;split at h
 .rename_i v0 hv;cases h;exact zVQ hz hv hev hn
 .exact xTV hz h hr hev hn

theorem zOC{o:Op}(h:opA P rec ev E o=some (v,E')) :
  (wM o=true/\((∃c fx r as,o=.call c/\c.callee=.value fx/\zRJ (ev fx) (c.args.toList.map ev)=some (r,as)/\uT rec r as E=some (v,E'))\/yN P ev E o=some (v,E')\/(wR P ev o=some v/\E'=E))) \/
  (wM o=false/\zCQ o=true/\wA P ev E o=some v/\E'=E)\/(wM o=false/\zCQ o=false/\wR P ev o=some v/\E'=E):=by
 unfold opA at h;split at h
 .rename_i c;unfold zTK at h;split at h
  .rename_i fx hc;split at h
   .rename_i r as href;split at h
    .rename_i v0 hx;refine .inl ⟨by simp[wM,hc],.inr (.inl ?_)⟩;simp only[yN,hc,href,hx,Option.map_some];exact h
    .refine .inl ⟨by simp[wM,hc],.inl ⟨c,fx,r,as,rfl,hc,href,h⟩⟩
   .cases h
  .rename_i hc;exact .inl ⟨by simp[wM,hc],.inr (.inl h)⟩
  .rename_i hc;exact .inl ⟨by simp[wM,hc],.inr (.inl h)⟩
  .rename_i hc;refine .inr (.inl ⟨by simp[wM,hc],by simp[zCQ,hc], ?_⟩);split at h
   .rename_i v0 hv;simp at h;obtain⟨rfl,rfl⟩:=h;exact⟨by simp[wA,hv],rfl⟩
   .rename_i hv;obtain⟨h1,h2⟩:=zCM h;exact⟨by simp[wA,hv,h1],h2⟩
  .rename_i b _ _ hlen hc;obtain⟨h1,h2⟩:=zCM h;cases hb:wM (.call c)with
   |true=>exact .inl ⟨rfl,.inr (.inr ⟨h1,h2⟩)⟩
   |false =>
    refine .inr (.inr ⟨rfl, ?_,h1,h2⟩);simp only[zCQ,hc];cases b <;> first|rfl|exact absurd rfl hlen
  .cases h
 .obtain⟨h1,h2⟩:=zCM h;exact .inr (.inl ⟨rfl,rfl,by simp[wA,wR,h1],h2⟩)
 .obtain⟨h1,h2⟩:=zCM h;exact .inr (.inl ⟨rfl,rfl,by simp[wA,wR,h1],h2⟩)
 .obtain⟨h1,h2⟩:=zCM h;exact .inr (.inl ⟨rfl,rfl,by simp[wA,wR,h1],h2⟩)
 .split at h
  .rename_i v0 hv;simp at h;obtain⟨rfl,rfl⟩:=h;exact .inr (.inl ⟨rfl,rfl,by simp[wA,hv],rfl⟩)
  .rename_i hv;obtain⟨h1,h2⟩:=zCM h;exact .inr (.inl ⟨rfl,rfl,by simp[wA,hv,h1],h2⟩)
 .rename_i hn1 hn2 hn3 hn4 hn5;rcases zCZ h with ⟨he,h⟩|⟨he,h⟩
  .refine .inl ⟨?_,.inr (.inl h)⟩;cases o <;> first|exact he|exact absurd rfl (hn1 _)
  .obtain⟨h1,h2⟩:=zCM h;refine .inr (.inr ⟨?_, ?_,h1,h2⟩)
   .cases o <;> first|exact he|exact absurd rfl (hn1 _)
   .cases o <;> first|rfl|exact absurd rfl (hn1 _)|exact absurd rfl (hn2 _ _)|exact absurd rfl (hn3 _ _ _ _)|exact absurd rfl (hn4 _ _ _ _ _)|exact absurd rfl (hn5 _ _ _)

theorem yNZ(hz:zAX P)(hrec:RecSound P rec){o:Oper}{ev:Operand->Value}{a:Act}{v:Value}{E':St}{rd:Option Nat}{n:Nat}{next:Act->World->Prop}{Q:Exit->Act->World->Prop}
  (h:opA P rec ev E o.op=some (v,E')) (hr:Rep Z E w) (hev:∀x∈o.op.operands,VR Z (ev x) (a.eval x))
  (hn:∀v' w' Z',VR Z' v v'->Good Z E w Z' E' w'->next (a.put o.dst v') w'):o.wpIn (Fw rd) n P a w next Q:=by
 rcases zOC h with ⟨ha,⟨c,fx,r,as,ho,hc,href,hcall⟩|heff|⟨hval,rfl⟩⟩|⟨_,_,hsee,rfl⟩|⟨_,_,hval,rfl⟩
 .exact yLY hrec ho hc href hcall hr hev hn
 .refine yJQ.wp (λc hc=>?_) (xDD hz heff hr (hr.free _) hev) hn;rw[hc]at heff;simp[yN]at heff
 .exact zVQ hz hval hev (λv' hv=>hn v' w Z hv (.refl hr))
 .exact xAZ hz hsee hr hev (λv' hv=>hn v' w Z hv (.refl hr))
 .exact zVQ hz hval hev (λv' hv=>hn v' w Z hv (.refl hr))

theorem wAK{o:Op}(h:opA P rec ev E o=some (v,E')):E.j<=E'.j:=by
 rcases zOC h with ⟨ha,⟨c,fx,r,as,ho,hc,href,hcall⟩|heff|⟨hval,rfl⟩⟩|⟨_,_,hsee,rfl⟩|⟨_,_,hval,rfl⟩
 .exact xLK hcall
 .exact xKX heff
 .exact Nat.le_refl _
 .exact Nat.le_refl _
 .exact Nat.le_refl _

theorem zKZ{ops:Array Oper}{f:Tm}{b:Bool}(h:zHC ops f o=some b)(hf:∀j want d,o.guard=some (j,want)->(ops[j]?).bind (·.dst)=some d->VR Z (f.nth d) (a.tmps.getD d undef)) :
  Region.wanted o (yielded ops a.tmps)=b:=by
 unfold zHC at h;unfold Region.wanted;split at h
 .rename_i hg;simp at h;subst h;simp[hg]
 .rename_i j want hg;simp only[hg];split at h
  .rename_i d hd;have hv:=hf j want d hg hd;split at h
   .rename_i b0 hb0;simp at h;subst h;rw[hb0]at hv;have:=hv.bool_inv;unfold yielded;simp only[hd,Option.bind_some];cases ht:a.tmps[d]? with
    |none=>simp[Array.getD,undef]at this;rw[Array.getElem?_eq_none_iff]at ht;split at this <;> simp_all;omega
    |some x =>
     have hx:a.tmps.getD d undef=x:=by simp[ht]
     rw[hx]at this;subst this;simp
   .rename_i c hc;simp at h;subst h;rw[hc]at hv;obtain⟨c',e,_⟩:=hv.tuple_inv;unfold yielded;simp only[hd,Option.bind_some];cases ht:a.tmps[d]? with
    |none=>rfl
    |some x =>
     have hx:a.tmps.getD d undef=x:=by simp[ht]
     rw[hx]at e;subst e;rfl
   .cases h
  .cases h
end
end Go.Lay

namespace Go.Lay
open Go
variable{o:Oper}{i j:Nat}{ops:Array Oper}

theorem zWQ(look:Nat->Nat)(i:Nat):∀(l:List Edge) (s:Nat),(l.foldl (λs e=>if Region.binds .any e then s ||| 2 ^ e.on ||| look e.on else s) s).testBit i=true ->
  s.testBit i=true\/∃e∈l,Region.binds .any e=true/\(e.on=i\/(look e.on).testBit i=true)
 |[],s,h=>.inl h
 |e::l,s,h=>by
  rw[List.foldl_cons]at h;rcases zWQ look i l _ h with h|⟨e',h1,h2⟩
  .by_cases hb:Region.binds .any e=true
   .rw[if_pos hb]at h;simp only[Nat.testBit_or,Bool.or_eq_true,Nat.testBit_two_pow,decide_eq_true_eq]at h;rcases h with (h|h)|h
    .exact .inl h
    .exact .inr ⟨e,by simp,hb,.inl h⟩
    .exact .inr ⟨e,by simp,hb,.inr h⟩
   .rw[if_neg hb]at h;exact .inl h
  .exact .inr ⟨e',by simp[h1],h2⟩
theorem xCA{look:Nat->Nat}(h:(CheckFast.one look o).testBit i=true):∃e∈o.after.toList,Region.binds .any e=true/\(e.on=i\/(look e.on).testBit i=true):=by
 unfold CheckFast.one at h;rw[<- Array.foldl_toList]at h;rcases zWQ look i o.after.toList 0 h with h|h
 .simp at h
 .exact h

theorem wKY:∀(l:List Oper) (A:Array Nat),(l.foldl (λacc o=>acc.push (CheckFast.one (λi=>acc.getD i 0) o)) A).size=A.size+l.length /\
  (∀k,k<A.size->(l.foldl (λacc o=>acc.push (CheckFast.one (λi=>acc.getD i 0) o)) A)[k]?=A[k]?) /\
  ∀k o,l[k]?=some o->∃C:Array Nat,(∀m,m<A.size+k->C[m]?=(l.foldl (λacc o=>acc.push (CheckFast.one (λi=>acc.getD i 0) o)) A)[m]?) /\
   (l.foldl (λacc o=>acc.push (CheckFast.one (λi=>acc.getD i 0) o)) A)[A.size+k]?=some (CheckFast.one (λi=>C.getD i 0) o)
 |[],A=>⟨by simp,λ_ _=>rfl,λk o h=>by simp at h⟩
 |x::l,A=>by
  have ih:=wKY l (A.push (CheckFast.one (λi=>A.getD i 0) x));simp only[List.foldl_cons];obtain⟨h1,h2,h3⟩:=ih;simp only[Array.size_push]at h1 h2 h3;refine⟨by rw[h1];simp;omega,λk hk=>by rw[h2 k (by omega),Array.getElem?_push,if_neg (by omega)],λk o hk=>?_⟩
  cases k with
  |zero =>
   simp at hk;subst hk;refine⟨A,λm hm=>by rw[h2 m (by omega),Array.getElem?_push,if_neg (by omega)], ?_⟩
   rw[Nat.add_zero,h2 _ (by omega),Array.getElem?_push,if_pos rfl]
  |succ k =>
   simp only[List.getElem?_cons_succ]at hk;obtain⟨C,c1,c2⟩:=h3 k o hk;exact⟨C,λm hm=>c1 m (by omega),by rw[show A.size+(k+1)=A.size+1+k by omega];exact c2⟩

theorem xZQ(ho:ops[j]?=some o)(hb:∀e∈o.after.toList,Region.binds .any e=true->e.on<j)(h:pre (CheckFast.beforeF ops) i j=true) :
  ∃e∈o.after.toList,Region.binds .any e=true/\(e.on=i\/pre (CheckFast.beforeF ops) i e.on=true):=by
 rw[CheckFast.beforeF_eq]at h ⊢;have hB:Region.before ops=ops.toList.foldl (λacc o=>acc.push (CheckFast.one (λi=>acc.getD i 0) o)) #[]:=by
  unfold Region.before;rw[<- Array.foldl_toList];rfl
 obtain⟨_,_,h3⟩:=wKY ops.toList #[];obtain⟨C,c1,c2⟩:=h3 j o (by simpa using ho);rw[<- hB]at c1 c2;simp only[Array.size_empty,Nat.zero_add]at c1 c2;unfold pre at h;have hg:(Region.before ops).getD j 0=CheckFast.one (λi=>C.getD i 0) o:=by simp[c2]
 rw[hg]at h;obtain⟨e,h1,h2,h3⟩:=xCA h;refine⟨e,h1,h2,h3.imp id (λh=>?_)⟩
 unfold pre;have:=c1 e.on (hb e h1 h2);simpa [this] using h

structure DrawOk(ops:Array Oper):Prop where
 back:∀(j:Nat) (o:Oper),ops[j]?=some o->∀e∈o.after.toList,Region.binds .any e=true->e.on<j
 guard:∀(j:Nat) (o:Oper),ops[j]?=some o->∀g want,o.guard=some (g,want)->∃e∈o.after.toList,Region.binds .any e=true/\e.on=g
 sel:∀(j:Nat) (o:Oper),ops[j]?=some o->∀cs b,o.op≠.select cs b
 acts:∀(i j:Nat) (oi oj:Oper),ops[i]?=some oi->ops[j]?=some oj->i<j->wM oi.op=true->wM oj.op=true->uE oj.op=false->pre (CheckFast.beforeF ops) i j=true
 apart:∀(i j:Nat) (oi oj:Oper),ops[i]?=some oi->ops[j]?=some oj->i≠j->pre (CheckFast.beforeF ops) i j=false->pre (CheckFast.beforeF ops) j i=false->Oper.apart ops oi oj=true

theorem xB(h:ops[j]?=some o):ops.getD j default=o/\j<ops.size:=⟨by simp[h],(Array.getElem?_eq_some_iff.1 h).1⟩

theorem xDF(h:yUO ops (CheckFast.beforeF ops)=true):DrawOk ops:=by
 unfold yUO at h;have key:∀(j:Nat) (o:Oper),ops[j]?=some o->_:=λj o ho=>List.all_eq_true.1 h j (List.mem_range.2 (xB ho).2)
 refine⟨λj o ho e he hb=>?_,λj o ho g want hg=>?_,λj o ho cs b hs=>?_,λi j oi oj hi hj hlt ha hb hm=>?_,λi j oi oj hi hj hne h1 h2=>?_⟩
 .have:=key j o ho;simp only[(xB ho).1,Bool.and_eq_true]at this;have h1:=List.all_eq_true.1 this.1.1.1 e he;rw[hb]at h1;simpa using h1
 .have:=key j o ho;simp only[(xB ho).1,Bool.and_eq_true,hg]at this;obtain⟨e,h1,h2⟩:=List.any_eq_true.1 this.1.1.2;simp only[Bool.and_eq_true]at h2;exact⟨e,h1,h2.1,Nat.eq_of_beq_eq_true h2.2⟩
 .have:=key j o ho;simp only[(xB ho).1,Bool.and_eq_true,hs]at this;simp at this
 .have:=key j oj hj;simp only[(xB hj).1,Bool.and_eq_true]at this;have h1:=List.all_eq_true.1 this.2 i (List.mem_range.2 (xB hi).2);simp only[(xB hi).1,Bool.and_eq_true,ha,hb,hm]at h1;have hl:Nat.blt i j=true:=(yJ _ _).2 hlt;simpa [hl] using h1.1
 .have:=key j oj hj;simp only[(xB hj).1,Bool.and_eq_true]at this;have h3:=List.all_eq_true.1 this.2 i (List.mem_range.2 (xB hi).2);simp only[(xB hi).1,Bool.and_eq_true]at h3;have hb:Nat.beq i j=false:=by rw[Bool.eq_false_iff];intro e;exact hne (Nat.eq_of_beq_eq_true e)
  simpa [hb,yVG,h1,h2] using h3.2

section
variable{ops:Array Oper}(D:DrawOk ops)
include D
def yVP(ops:Array Oper)(X:Nat->Prop):Prop:=∀(j:Nat) (o:Oper),X j->ops[j]?=some o->∀e∈o.after.toList,Region.binds .any e=true->X e.on
theorem yTO{X:Nat->Prop}(hX:yVP ops X):∀(j:Nat) (o:Oper),ops[j]?=some o->(∀e∈o.after.toList,Region.binds .any e=true->X e.on)->∀i,pre (CheckFast.beforeF ops) i j=true->X i:=by
 intro j;induction j using Nat.strongRecOn with
 |_ j ih =>
  intro o ho hdep i hp;obtain⟨e,h1,h2,h3⟩:=xZQ ho (D.back j o ho) hp;have hx:=hdep e h1 h2;rcases h3 with rfl|h3
  .exact hx
  .have hlt:=D.back j o ho e h1 h2;have hlt2:j<ops.size:=(xB ho).2;have ho2:ops[e.on]?=some ops[e.on]:=by simp
   exact ih e.on hlt _ ho2 (λe' he' hb'=>hX e.on _ hx ho2 e' he' hb') i h3
theorem yTN(i j:Nat)(hj:j<ops.size)(hp:pre (CheckFast.beforeF ops) i j=true):i<j:=by
 have ho:ops[j]?=some ops[j]:=by simp[hj]
 have:=yTO D (X:=λi=>i<j) (λk o hk ho e he hb=>Nat.lt_trans (D.back k o ho e he hb) hk) j _ ho (λe he hb=>D.back j _ ho e he hb) i hp;exact this
end

def zQO(f:Tm)(dst:Option Tmp)(v:Value):Tm:=match dst with|some d=>f.set d v|none=>f
theorem vZ{ie:Type}(f:Tm)(dst:Option Tmp)(v:Value)(k:Tm->ie):xZN f dst v k=k (zQO f dst v):=by
 cases dst with
 |none=>rfl
 |some d=>exact Tm.put_eq f d v k

def frL(l:List Seen)(t:Tm)(i:Nat):Tm:=match l[i]? with|some s=>s.f|none=>t
def stL(l:List Seen)(O:St)(i:Nat):St:=match l[i]? with|some s=>s.before|none=>O

structure SeqD(P:Program)(rec:Rec)(ops:Array Oper)(rest:List Oper)(l:List Seen)(t:Tm)(O:St):Prop where
 len:l.length=rest.length
 step:∀(i:Nat) (o:Oper),rest[i]?=some o->∃s,l[i]?=some s/\s.f=frL l t i/\s.before=stL l O i/\s.after=stL l O (i+1)/\frL l t (i+1)=zQO (frL l t i) o.dst s.v/\zHC ops (frL l t i) o=some s.want /\
  (s.want=true->opA P rec (yV (frL l t i)) (stL l O i) o.op=some (s.v,stL l O (i+1)))/\(s.want=false->s.v=undef/\stL l O (i+1)=stL l O i)

theorem zSS{P:Program}{rec:Rec}{ops:Array Oper}:∀(rest:List Oper) (f:Tm) (E:St) (l:List Seen) (t:Tm) (O:St),zBG P rec ops rest f E=some (l,t,O) ->
  frL l t 0=f/\stL l O 0=E/\SeqD P rec ops rest l t O
 |[],f,E,l,t,O,h=>by
  simp[zBG]at h;obtain⟨rfl,rfl,rfl⟩:=h;exact⟨rfl,rfl,rfl,λi o h=>by simp at h⟩
 |o::rest,f,E,l,t,O,h=>by
  have fin:∀(v:Value) (want:Bool) (E':St) (l':List Seen),zHC ops f o=some want->(want=true->opA P rec (yV f) E o.op=some (v,E'))->(want=false->v=undef/\E'=E) ->
    zBG P rec ops rest (zQO f o.dst v) E'=some (l',t,O)->l=⟨f,v,want,E,E'⟩::l'->frL l t 0=f/\stL l O 0=E/\SeqD P rec ops (o::rest) l t O:=by
   intro v want E' l' hg h1 h2 hrec hl
   obtain⟨e1,e2,e3⟩:=zSS rest _ _ _ _ _ hrec
   subst hl
   refine⟨rfl,rfl,by simp[e3.len],λi o' ho'=>?_⟩
   cases i with
   |zero =>
    simp at ho';subst ho';have f1:frL (⟨f,v,want,E,E'⟩::l') t (0+1)=zQO f o.dst v:=e1;have s1:stL (⟨f,v,want,E,E'⟩::l') O (0+1)=E':=e2;rw[f1,s1];exact⟨_,rfl,rfl,rfl,rfl,rfl,hg,h1,h2⟩
   |succ i =>
    exact e3.step i o' (by simpa using ho')
  unfold zBG at h;split at h
  .rename_i hg;split at h
   .rename_i v E' hop;rw[zON,vZ]at h;split at h
    .rename_i l' t' O' hs;simp at h;obtain⟨rfl,rfl,rfl⟩:=h;exact fin v true E' l' hg (λ_=>hop) (λh=>by cases h) hs rfl
    .cases h
   .cases h
  .rename_i hg;rw[vZ]at h;split at h
   .rename_i l' t' O' hs;simp at h;obtain⟨rfl,rfl,rfl⟩:=h;exact fin undef false E l' hg (λh=>by cases h) (λ_=>⟨rfl,rfl⟩) hs rfl
   .cases h
  .cases h

theorem zYG{P:Program}{rec:Rec}{ops:Array Oper}:∀(rest:List Oper) (f:Tm) (E:St) (t:Tm) (O:St),zQP P rec ops rest f E=some (t,O)->∃l,zBG P rec ops rest f E=some (l,t,O)
 |[],f,E,t,O,h=>by simp[zQP]at h;obtain⟨rfl,rfl⟩:=h;exact⟨[],rfl⟩
 |o::rest,f,E,t,O,h=>by
  unfold zQP at h;split at h
  .rename_i hg;split at h
   .rename_i v E' hop;rw[vZ]at h;obtain⟨l,hl⟩:=zYG rest _ _ _ _ h;exact⟨⟨f,v,true,E,E'⟩::l,by simp[zBG,hg,hop,zON,vZ,hl]⟩
   .cases h
  .rename_i hg;rw[vZ]at h;obtain⟨l,hl⟩:=zYG rest _ _ _ _ h;exact⟨⟨f,undef,false,E,E⟩::l,by simp[zBG,hg,vZ,hl]⟩
  .cases h

theorem wMD(f:Tm)(d:Option Tmp)(v:Value):(zQO f d v).n=f.n:=by cases d <;> simp[zQO]
theorem yGX(f:Tm)(d:Option Tmp)(v:Value)(t:Nat):(zQO f d v).nth t=if d=some t/\t<f.n then v else f.nth t:=by
 cases d with
 |none=>simp[zQO]
 |some i =>
  simp only[zQO,Tm.nth_set];by_cases h:t=i
  .subst h;simp
  .rw[if_neg (λx=>h x.1),if_neg (λx=>h (by simpa using x.1.symm))]

section
variable{P:Program}{rec:Rec}{ops:Array Oper}{l:List Seen}{t:Tm}{O:St}(S:SeqD P rec ops ops.toList l t O)
include S
theorem SeqD.at(ho:ops[i]?=some o):∃s,l[i]?=some s/\s.f=frL l t i/\s.before=stL l O i/\s.after=stL l O (i+1)/\frL l t (i+1)=zQO (frL l t i) o.dst s.v/\zHC ops (frL l t i) o=some s.want /\
  (s.want=true->opA P rec (yV (frL l t i)) (stL l O i) o.op=some (s.v,stL l O (i+1)))/\(s.want=false->s.v=undef/\stL l O (i+1)=stL l O i):=S.step i o (by simpa using ho)
theorem SeqD.frn:∀i,i<=ops.size->(frL l t i).n=(frL l t 0).n
 |0,_=>rfl
 |i+1,h=>by
  obtain⟨s,_,_,_,_,hf,_⟩:=S.at (i:=i) (o:=ops[i]) (by simp)
  rw[hf,wMD,SeqD.frn i (by omega)]
theorem SeqD.mono:∀(i j:Nat),i<=j->j<=ops.size->(stL l O i).j<=(stL l O j).j:=by
 intro i j hij;induction hij with
 |refl=>intro _;exact Nat.le_refl _
 |step h ih =>
  rename_i m;intro hm;have hm':m+1<=ops.size:=hm;refine Nat.le_trans (ih (by omega)) ?_
  obtain⟨s,_,_,_,_,_,_,h1,h2⟩:=S.at (i:=m) (o:=ops[m]) (by simp)
  cases hw:s.want with
  |true=>exact wAK (h1 hw)
  |false=>rw[(h2 hw).2];exact Nat.le_refl _
theorem SeqD.last(t0:Nat)(h0:t0<(frL l t 0).n):∀j,j<=ops.size ->
  (∃i s,i<j/\(ops[i]?).bind (·.dst)=some t0/\l[i]?=some s/\(frL l t j).nth t0=s.v/\∀i',i<i'->i' < j->(ops[i']?).bind (·.dst)≠some t0) \/
  ((∀i,i<j->(ops[i]?).bind (·.dst)≠some t0)/\(frL l t j).nth t0=(frL l t 0).nth t0)
 |0,_=>.inr ⟨λi h=>absurd h (Nat.not_lt_zero _),rfl⟩
 |j+1,hj=>by
  have ho:ops[j]?=some ops[j]:=by simp
  obtain⟨s,hs,_,_,_,hf,_⟩:=S.at ho;have hn:=S.frn j (by omega);rw[hf];by_cases hd:ops[j].dst=some t0
  .refine .inl ⟨j,s,by omega,by rw[ho];exact hd,hs, ?_,λi' h1 h2=>by omega⟩;rw[yGX,if_pos ⟨hd,by omega⟩]
  .rw[yGX,if_neg (λx=>hd x.1)];rcases SeqD.last t0 h0 j (by omega)with ⟨i,s',h1,h2,h3,h4,h5⟩|⟨h1,h2⟩
   .refine .inl ⟨i,s',by omega,h2,h3,h4,λi' h6 h7=>?_⟩;by_cases he:i'=j
    .subst he;rw[ho];exact hd
    .exact h5 i' h6 (by omega)
   .refine .inr ⟨λi hi=>?_,h2⟩;by_cases he:i=j
    .subst he;rw[ho];exact hd
    .exact h1 i (by omega)
end
end Go.Lay

namespace Go.Lay
open Go
variable{P:Program}

theorem xXW:∀(n:Nat) (a b:Value),veq n a b=true->a=b:=by
 intro n;induction n with
 |zero=>intro a b h;simp[veq]at h
 |succ n ih =>
  have lists:∀(l l':List Value),veq.veqs n l l'=true->l=l':=by
   intro l;induction l with
   |nil=>intro l' h;cases l' with|nil=>rfl|cons _ _=>simp[veq.veqs]at h
   |cons x l ihl =>
    intro l' h;cases l' with
    |nil=>simp[veq.veqs]at h
    |cons y l' =>
     simp only[veq.veqs,Bool.and_eq_true]at h;rw[ih x y h.1,ihl l' h.2]
  intro a b h;unfold veq at h;split at h;all_goals first|(rename_i hq;cases hq)|skip
  .have:=eq_of_beq h;rw[this]
  .simp only[Bool.and_eq_true]at h;have h1:=yBG h.1;have h2:=h.2;rw[yUH]at h2;have h3:=eq_of_beq h2;rw[h1,h3]
  .rename_i a b;have:=of_decide_eq_true h;have:a=b:=by apply ByteArray.ext;apply Array.ext';exact this
   rw[this]
  .rw[of_decide_eq_true h]
  .simp only[Bool.and_eq_true]at h;rw[of_decide_eq_true h.1.1,Nat.eq_of_beq_eq_true h.1.2,Nat.eq_of_beq_eq_true h.2]
  .rw[of_decide_eq_true h]
  .rfl
  .rfl
  .have h1:=lists _ _ h;congr 1;apply Array.ext';exact h1
  .have h1:=lists _ _ h;congr 1;apply Array.ext';exact h1
  .simp only[Bool.and_eq_true]at h;have h1:=lists _ _ h.1.2;have h2:=lists _ _ h.2;have h3:=Nat.eq_of_beq_eq_true h.1.1;rw[h3];congr 1 <;> (apply Array.ext';assumption)
  .simp only[Bool.and_eq_true]at h;have h3:=Nat.eq_of_beq_eq_true h.1;rw[h3,ih _ _ h.2]
  all_goals cases h

theorem xY(a b:Nat):Nat.blt a b=true↔a<b:=yJ (a+1) b

theorem VR.lower{ij V':Inj}{m:Nat}(hloc:∀b s L,b<m->ij.loc b s=some L->V'.loc b s=some L)(hsz:∀b s L,ij.loc b s=some L->V'.csz L.c=ij.csz L.c) :
  ∀(d:Nat) {v v':Value},yQ d m v=true->VR ij v v'->VR V' v v':=by
 intro d;induction d with
 |zero=>intro v v' h;simp[yQ]at h
 |succ d ih =>
  intro v v' hb h;have arr:∀{c c':Array Value},(∀(i:Nat) (v v':Value),c[i]?=some v->c'[i]?=some v'->VR ij v v')->c.toList.all (yQ d m)=true->(∀(i:Nat) (v v':Value),c[i]?=some v->c'[i]?=some v'->VR V' v v'):=by
   intro c c' hh hall i v v' h1 h2;exact ih (List.all_eq_true.1 hall _ (by simp[Array.mem_of_getElem? h1])) (hh i v v' h1 h2)
  cases h with
  |any h=>exact .any h
  |atom h=>exact .atom h
  |ptr h hlo=>exact .ptr (hloc _ _ _ ((xY _ _).1 (by simpa [yQ] using hb)) h) hlo
  |slice h hlo hA hc hs=>exact .slice (hloc _ _ _ ((xY _ _).1 (by simpa [yQ] using hb)) h) hlo hA hc (by rw[hsz _ _ _ h];exact hs)
  |map h=>exact .map (hloc _ _ _ ((xY _ _).1 (by simpa [yQ] using hb)) h)
  |func hf s1 h1 s2 h2 =>
   cases hf with
   |func f =>
    simp only[yQ,Bool.and_eq_true]at hb;exact .func (.func f) s1 (arr h1 hb.1.2) s2 (arr h2 hb.2)
   |yield hl =>
    simp only[yQ,Bool.and_eq_true]at hb;exact .func (.yield (hloc _ _ _ ((xY _ _).1 hb.1.1) hl)) s1 (arr h1 hb.1.2) s2 (arr h2 hb.2)
  |iface h=>simp only[yQ]at hb;exact .iface (ih hb h)
  |agg s h=>simp only[yQ]at hb;exact .agg s (arr h hb)
  |tuple s h=>simp only[yQ]at hb;exact .tuple s (arr h hb)

def Inj.plus(Z:Inj)(pend:Nat->Option Loc):Inj :=
 {Z with loc:=λb s=>if s=0 then(match pend b with|some L=>some L|none=>Z.loc b 0)else Z.loc b s }
def cut(pend:Nat->Option Loc)(n:Nat):Nat->Option Loc:=λb=>if b<n then pend b else none
def Inj.owned(Z:Inj)(c b:Nat):Inj:={ Z with own:=λc'=>if c'=c then some b else Z.own c' }
def Inj.commit(Z:Inj)(b:Nat)(L:Loc):Inj :=
 {Z with loc:=λb' s=>if b'=b/\s=0 then some L else Z.loc b' s,own:=λc'=>if c'=L.c then some b else Z.own c' }

theorem zHZ{Z Z':Inj}{pend pend':Nat->Option Loc}(h:Sub Z Z')(hp:∀b L,pend b=some L->pend' b=some L)(hn:∀b L L',pend b=none->pend' b=some L->Z.loc b 0=some L'->L'=L)
  (hs:∀b L,pend b=some L->Z'.csz L.c=Z.csz L.c):Sub (Z.plus pend) (Z'.plus pend'):=by
 refine⟨λb s L hL=>?_,λb s L hL=>?_⟩
 .simp only[Inj.plus]at hL ⊢;by_cases h0:s=0
  .subst h0;rw[if_pos rfl]at hL ⊢;cases hb:pend b with
   |some L1=>rw[hb]at hL;simp only[hp b L1 hb];exact hL
   |none =>
    rw[hb]at hL;cases hb':pend' b with
    |some L1=>simp only;rw[hn b L1 L hb hb' hL]
    |none=>exact h.loc _ _ _ hL
  .rw[if_neg h0]at hL ⊢;exact h.loc _ _ _ hL
 .simp only[Inj.plus]at hL;by_cases h0:s=0
  .subst h0;rw[if_pos rfl]at hL;cases hb:pend b with
   |some L1=>rw[hb]at hL;cases hL;exact hs b L hb
   |none=>rw[hb]at hL;exact h.sz _ _ _ hL
  .rw[if_neg h0]at hL;exact h.sz _ _ _ hL

section
variable(ops:Array Oper)(l:List Seen)(f0:Tm)
structure FrOk(X:Nat->Prop)(ij:Inj)(tmps:Array Value):Prop where
 size:f0.n=tmps.size
 val:∀t0,t0<f0.n ->
  (∃i s,X i/\(ops[i]?).bind (·.dst)=some t0/\l[i]?=some s/\(∀i',X i'->(ops[i']?).bind (·.dst)=some t0->i'<=i)/\VR ij s.v (tmps.getD t0 undef)) \/
  ((∀i,X i->(ops[i]?).bind (·.dst)≠some t0)/\VR ij (f0.nth t0) (tmps.getD t0 undef))
 out:∀t0,¬t0<f0.n->VR ij (f0.nth t0) undef
variable{ops l f0}
theorem FrOk.sub{X:Nat->Prop}{ij V':Inj}{tmps:Array Value}(h:FrOk ops l f0 X ij tmps)(e:Sub ij V'):FrOk ops l f0 X V' tmps :=
 ⟨h.size,λt0 h0=>(h.val t0 h0).imp (λ⟨i,s,a,b,c,d,v⟩=>⟨i,s,a,b,c,d,v.sub e⟩) (λ⟨a,v⟩=>⟨a,v.sub e⟩),λt0 h0=>(h.out t0 h0).sub e⟩
theorem FrOk.put{X:Nat->Prop}{ij:Inj}{a:Act}(h:FrOk ops l f0 X ij a.tmps){j:Nat}{o:Oper}{s:Seen}{v':Value}(ho:ops[j]?=some o)(hs:l[j]?=some s)
  (hmax:∀i t0,X i->o.dst=some t0->(ops[i]?).bind (·.dst)=some t0->i<j) (hv:VR ij s.v v'):FrOk ops l f0 (λi=>X i\/i=j) ij (a.put o.dst v').tmps:=by
 refine⟨?_,λt0 h0=>?_,h.out⟩
 .rw[h.size];unfold Act.put;split <;> simp
 .by_cases hd:o.dst=some t0
  .refine .inl ⟨j,s,.inr rfl,by rw[ho];exact hd,hs,λi' hi' hd'=>?_, ?_⟩
   .rcases hi' with hi'|rfl
    .exact Nat.le_of_lt (hmax i' t0 hi' hd hd')
    .exact Nat.le_refl _
   .have hlt:t0<a.tmps.size:=by rw[<- h.size];exact h0
    simp only[Act.put,hd];simpa [Array.getD,hlt] using hv
  .have hsame:(a.put o.dst v').tmps.getD t0 undef=a.tmps.getD t0 undef:=by
    unfold Act.put;split
    .rename_i d hdd;have hne:d≠t0:=λe=>hd (by rw[hdd,e])
     simp[Array.getElem?_setIfInBounds_ne hne]
    .rfl
   rw[hsame];rcases h.val t0 h0 with ⟨i,s',a1,a2,a3,a4,a5⟩|⟨a1,a2⟩
   .refine .inl ⟨i,s',.inl a1,a2,a3,λi' hi' hd'=>?_,a5⟩;rcases hi' with hi'|rfl
    .exact a4 i' hi' hd'
    .rw[ho]at hd';exact absurd hd' hd
   .refine .inr ⟨λi hi=>?_,a2⟩;rcases hi with hi|rfl
    .exact a1 i hi
    .rw[ho];exact hd
theorem FrOk.match{rec:Rec}{t:Tm}{O:St}(S:SeqD P rec ops ops.toList l t O){X:Nat->Prop}{ij:Inj}{tmps:Array Value}(h:FrOk ops l (frL l t 0) X ij tmps){j:Nat}(hj:j<=ops.size){t0:Nat}
  (hX:∀i,(ops[i]?).bind (·.dst)=some t0->(X i↔i<j)):VR ij ((frL l t j).nth t0) (tmps.getD t0 undef):=by
 by_cases h0:t0<(frL l t 0).n
 .rcases S.last t0 h0 j hj with ⟨i,s,a1,a2,a3,a4,a5⟩|⟨a1,a2⟩
  .rcases h.val t0 h0 with ⟨i',s',b1,b2,b3,b4,b5⟩|⟨b1,_⟩
   .have hi:i=i':=by
     have h1:=b4 i ((hX i a2).2 a1) a2;have h2:=(hX i' b2).1 b1;by_cases he:i=i'
     .exact he
     .exact absurd b2 (a5 i' (by omega) h2)
    subst hi;rw[a3]at b3;cases b3;rw[a4];exact b5
   .exact absurd a2 (b1 i ((hX i a2).2 a1))
  .rcases h.val t0 h0 with ⟨i',s',b1,b2,b3,b4,b5⟩|⟨_,b2⟩
   .exact absurd b2 (a1 i' ((hX i' b2).1 b1))
   .rw[a2];exact b2
 .have hn:(frL l t j).nth t0=(frL l t 0).nth t0:=by
   have hle:(frL l t 0).n<=t0:=Nat.le_of_not_lt h0;clear hX h;induction j with
   |zero=>rfl
   |succ j ih =>
    obtain⟨s,_,_,_,_,hf,_⟩:=S.at (i:=j) (o:=ops[j]) (by simp)
    have:=S.frn j (by omega);rw[hf,yGX,if_neg (by omega),ih (by omega)]
  have hsz:¬t0<tmps.size:=by rw[<- h.size];exact h0
  rw[hn];have:tmps.getD t0 undef=undef:=by simp[Array.getD,hsz]
  rw[this];exact h.out t0 h0
end

theorem wAV{o:Op}{ev:Operand->Value}{E E':St}{v:Value}(hm:uE o=true)(h:yN P ev E o=some (v,E')) :
  ∃y,E'=E.add y/\∀il:St,il.j=E.j->yN P ev il o=some (v,il.add y):=by
 unfold yN at h;split at h
 .split at h
  .rename_i z hz;rw[vC,xD]at h;simp at h;obtain⟨rfl,rfl⟩:=h;exact⟨_,rfl,λil h2=>by unfold yN;simp only[hz,vC,xD,h2];simp⟩
  .cases h
 .rw[vC,xD]at h;simp at h;obtain⟨rfl,rfl⟩:=h;exact⟨_,rfl,λil h2=>by unfold yN;simp only[vC,xD,h2];simp⟩
 .split at h
  .rename_i e n hes;split at h
   .rename_i z hz;obtain⟨hc,h⟩:=wV h;split at h
    .rename_i cs hf;rw[xD]at h;simp at h;obtain⟨rfl,rfl⟩:=h;exact⟨_,rfl,λil h2=>by unfold yN;simp only[hes,hz,hc,cond_true,hf,xD,h2]⟩
    .cases h
   .cases h
  .cases h
 .split at h
  .split at h
   .rename_i ke hmo;rw[St.new_eq]at h;simp at h;obtain⟨rfl,rfl⟩:=h;exact⟨_,rfl,λil h2=>by unfold yN;simp only[hmo,St.new_eq,h2]⟩
   .cases h
  .split at h
   .rename_i hmo hx;rw[St.new_eq]at h;simp at h;obtain⟨rfl,rfl⟩:=h;exact⟨_,rfl,λil h2=>by unfold yN;simp only[hmo,hx,St.new_eq,h2]⟩
   .cases h
 .split at h
  .rename_i hes hl hc;split at h
   .rename_i hz hi;obtain⟨hcond,h⟩:=wV h;rw[xD]at h;simp at h;obtain⟨rfl,rfl⟩:=h;exact⟨_,rfl,λil h2=>by unfold yN;simp only[hes,hl,hc,hz,hi,hcond,cond_true,xD,h2]⟩
   .cases h
  .cases h
 all_goals (exfalso;simp_all [uE])
end Go.Lay

namespace Go.Lay
open Go
variable{pend:Nat->Option Loc}{n b:Nat}{L:Loc}{Z:Inj}

abbrev BF(ops:Array Oper):Array Nat:=CheckFast.beforeF ops

structure Pend(Z:Inj)(pend:Nat->Option Loc)(N0:Nat)(w:World)(n:Nat)(y:Blk)(L:Loc):Prop where
 get:pend n=some L
 ge:N0<=L.c
 lt:L.c<w.heap.size
 own:Z.own L.c=none
 off:∀b s L',Z.loc b s=some L'->L'.c≠L.c
 blk:BlkR ((Z.plus (cut pend (n+1))).owned L.c n) w n y

structure Inv(ops:Array Oper)(l:List Seen)(t:Tm)(O:St)(Z0:Inj)(w0:World)(ds:List Deferred)(X:Nat->Prop)(a:Act)(w:World)(q:Nat)(Z:Inj)(pend:Nat->Option Loc):Prop where
 hq:q<=ops.size
 ahead:∀(j:Nat) (o:Oper),ops[j]?=some o->wM o.op=true->j<q->X j
 beyond:∀(j:Nat) (o:Oper),ops[j]?=some o->wM o.op=true->q<=j->X j->vO ops (BF ops) j=true
 good:Good Z0 (stL l O 0) w0 Z (stL l O q) w
 keys:∀b L,pend b=some L->(b<(stL l O q).j/\Z.loc b 0=some L)\/(∃j o s,q<=j/\X j/\ops[j]?=some o/\l[j]?=some s/\s.want=true/\vO ops (BF ops) j=true/\b=(stL l O j).j)
 pok:∀(j:Nat) (o:Oper) (s:Seen),q<=j->X j->ops[j]?=some o->wM o.op=true->l[j]?=some s->s.want=true->∃y L,stL l O (j+1)=(stL l O j).add y/\Pend Z pend w0.heap.size w (stL l O j).j y L
 inj:∀b b' L L',pend b=some L->pend b'=some L'->L.c=L'.c->b=b'
 fr:FrOk ops l (frL l t 0) X (Z.plus pend) a.tmps
 ds:a.defers=ds
 fast:(∀j,vO ops (BF ops) j=false)->∀b,pend b=none

theorem zSX{o:Op}(h:uE o=true):wM o=true:=by cases o <;> first|rfl|(simp[uE]at h)
theorem zLA{ops:Array Oper}{B:Array Nat}{j:Nat}{o:Oper}(ho:ops[j]?=some o)(h:vO ops B j=true):uE o.op=true:=by
 unfold vO at h;rw[(xB ho).1,Bool.and_eq_true]at h;exact h.1

theorem zOP(h:cut pend n b=some L):b<n/\pend b=some L:=by
 unfold cut at h;split at h
 .rename_i hlt;exact⟨hlt,h⟩
 .cases h
theorem wZ(h:pend b=some L):(Z.plus pend).loc b 0=some L:=by simp[Inj.plus,h]
theorem vA{s:Nat}(h:s≠0):(Z.plus pend).loc b s=Z.loc b s:=by simp[Inj.plus,h]
theorem vK(s:Nat)(h:pend b=none):(Z.plus pend).loc b s=Z.loc b s:=by
 simp only[Inj.plus,h];split
 .rename_i h0;rw[h0]
 .rfl

section
variable{P:Program}{rec:Rec}{ops:Array Oper}{l:List Seen}{t:Tm}{O:St}{Z0:Inj}{w0:World}{ds:List Deferred}{X:Nat->Prop}{a:Act}{w:World}{q:Nat}{Z:Inj}{pend:Nat->Option Loc}

theorem Inv.lt_size(I:Inv ops l t O Z0 w0 ds X a w q Z pend){b:Nat}{L:Loc}(h:pend b=some L):L.c<w.heap.size:=by
 rcases I.keys b L h with ⟨_,h1⟩|⟨j,o,s,h1,h2,h3,h4,h5,h6,rfl⟩
 .exact I.good.rep.lt _ _ _ h1
 .obtain⟨y,L',_,hp⟩:=I.pok j o s h1 h2 h3 (zSX (zLA h3 h6)) h4 h5;rw[hp.get]at h;cases h;exact hp.lt

theorem Inv.sub_plus(S:SeqD P rec ops ops.toList l t O)(I:Inv ops l t O Z0 w0 ds X a w q Z pend)(hX:∀j,X j->j<ops.size):Sub Z (Z.plus pend):=by
 refine⟨λb s L h=>?_,λ_ _ _ _=>rfl⟩
 by_cases h0:s=0
 .subst h0;cases hp:pend b with
  |none=>rw[vK _ hp];exact h
  |some L1 =>
   rw[wZ hp];rcases I.keys b L1 hp with ⟨_,h1⟩|⟨j,o,s,h1,h2,h3,h4,h5,h6,rfl⟩
   .rw[h]at h1;exact h1.symm
   .have:=S.mono q j h1 (Nat.le_of_lt (hX j h2));rw[I.good.rep.fresh _ _ this]at h;cases h
 .rw[vA h0];exact h

theorem Inv.lower(S:SeqD P rec ops ops.toList l t O)(I:Inv ops l t O Z0 w0 ds X a w q Z pend)(hX:∀j,X j->j<ops.size){f:Tm}{o:Oper}(hb:(∀j,vO ops (BF ops) j=false)\/zDQ (stL l O q).j f o=true){x:Operand}(hx:x∈o.op.operands){v':Value}
  (h:VR (Z.plus pend) (yV f x) v'):VR Z (yV f x) v':=by
 rcases hb with hb|hb
 .refine VR.sub (Z:=Z.plus pend) (Z':=Z) ⟨λb s L hL=>?_,λ_ _ _ _=>rfl⟩ h;rw[vK _ (I.fast hb b)]at hL;exact hL
 .refine VR.lower (ij:=Z.plus pend) (V':=Z) (m:=(stL l O q).j) (λb s L hlt hL=>?_) (λ_ _ _ _=>rfl) RD (List.all_eq_true.1 hb x (by simpa using hx)) h;by_cases h0:s=0
  .subst h0;cases hp:pend b with
   |none=>rw[vK _ hp]at hL;exact hL
   |some L1 =>
    rw[wZ hp]at hL;cases hL;rcases I.keys b L hp with ⟨_,h1⟩|⟨j,o',s,h1,h2,_,_,_,_,rfl⟩
    .exact h1
    .have:=S.mono q j h1 (Nat.le_of_lt (hX j h2));omega
  .rw[vA h0]at hL;exact hL

theorem Pend.keep{Z':Inj}{pend':Nat->Option Loc}{w':World}{N0:Nat}{y:Blk}(h:Pend Z pend N0 w n y L)(hget:pend' n=some L)(hlt:w.heap.size<=w'.heap.size)(hown:Z'.own L.c=none)
  (hoff:∀b s L',Z'.loc b s=some L'->L'.c≠L.c) (hs:Sub (Z.plus (cut pend (n+1))) (Z'.plus (cut pend' (n+1)))) (hfr:∀s,s≠0->Z.loc n s=none/\Z'.loc n s=none) (hw:w'.heap[L.c]?=w.heap[L.c]?) :
  Pend Z' pend' N0 w' n y L:=by
 refine⟨hget,h.ge,Nat.lt_of_lt_of_le h.lt hlt,hown,hoff, ?_⟩
 have hl:∀s L1,((Z.plus (cut pend (n+1))).owned L.c n).loc n s=some L1->L1=L:=λs L1 hL=>by
  by_cases h0:s=0
  .subst h0;have:(Z.plus (cut pend (n+1))).loc n 0=some L:=wZ (by simp[cut,h.get]);rw[show((Z.plus (cut pend (n+1))).owned L.c n).loc n 0=(Z.plus (cut pend (n+1))).loc n 0 from rfl,this]at hL;cases hL;rfl
  .rw[show((Z.plus (cut pend (n+1))).owned L.c n).loc n s=(Z.plus (cut pend (n+1))).loc n s from rfl,vA h0,(hfr s h0).1]at hL;cases hL
 refine h.blk.keepS ⟨hs.loc,hs.sz⟩ (λs L1 hL=>?_) (λs L1 hL _=>?_) (λcs esz log next ro hy s hs'=>?_)
 .rw[hl s L1 hL];simp[Inj.owned]
 .rw[hl s L1 hL];exact hw
 .have hb:=h.blk;subst hy;cases hb with
  |cells _ _ _ fresh =>
   have:=fresh s hs';by_cases h0:s=0
   .subst h0;have h2:(Z.plus (cut pend (n+1))).loc n 0=some L:=wZ (by simp[cut,h.get]);rw[show((Z.plus (cut pend (n+1))).owned L.c n).loc n 0=(Z.plus (cut pend (n+1))).loc n 0 from rfl,h2]at this;cases this
   .rw[show((Z'.plus (cut pend' (n+1))).owned L.c n).loc n s=(Z'.plus (cut pend' (n+1))).loc n s from rfl,vA h0];exact(hfr s h0).2

theorem Inv.advance1(S:SeqD P rec ops ops.toList l t O)(I:Inv ops l t O Z0 w0 ds X a w q Z pend)(hX:∀ j,X j->j<ops.size){o:Oper}(ho:ops[q]?=some o)(hact:wM o.op=true->X q) :
    ∃Z',Inv ops l t O Z0 w0 ds X a w (q+1) Z' pend:=by
  obtain⟨s,hs,_,_,_,_,hg,h1,h2⟩:=S.at ho;have hq1:q+1<=ops.size:=(xB ho).2;have stay:stL l O (q+1)=stL l O q->(∀(sx:Seen),l[q]?=some sx->sx.want=true->vO ops (BF ops) q=true->False)->∃Z',Inv ops l t O Z0 w0 ds X a w (q+1) Z' pend:=λhst hno =>
    ⟨Z, hq1,fun j o' hj ha hlt=>by
        by_cases he:j=q
        . subst he;rw[ho]at hj;cases hj;exact hact ha
        . exact I.ahead j o' hj ha (by omega),
      λj o' hj ha hle hx=>I.beyond j o' hj ha (by omega) hx,by rw[hst];exact I.good,
      λb L hp=>by
        rw[hst];refine(I.keys b L hp).imp id (λ⟨j,o',s',x1,x2,x3,x4,x5,x6,x7⟩=>⟨j,o',s', ?_,x2,x3,x4,x5,x6,x7⟩);by_cases he:j=q
        . subst he;exact(hno s' x4 x5 x6).elim
        . omega,
      λj o' s' hle hx hj ha hs' hw=>I.pok j o' s' (by omega) hx hj ha hs' hw,I.inj,I.fr,I.ds,I.fast⟩
  cases hact':wM o.op with
  |false =>
    refine stay ?_ (λsx _ _ hfree=>?_)
    . cases hw:s.want with
      |false=>exact(h2 hw).2
      | true => rcases zOC (h1 hw)with ⟨ha,_⟩ | ⟨_,_,_,he⟩ | ⟨_,_,_,he⟩
                . rw[hact']at ha;cases ha
                . exact he
                . exact he
    . have:=zSX (zLA ho hfree);rw[hact']at this;cases this
  |true =>
    have hXq:=hact hact';cases hw:s.want with
    |false=>exact stay (h2 hw).2 (λsx hsx hwx _=>by rw[hs]at hsx;cases hsx;rw[hw]at hwx;cases hwx)
    |true =>
      obtain⟨y,L,hst,hp⟩:=I.pok q o s (Nat.le_refl _) hXq ho hact' hs hw;have hfree:=I.beyond q o ho hact' (Nat.le_refl _) hXq;have hfrn:=I.good.rep.fresh (stL l O q).j;have hnone:∀s,Z.loc (stL l O q).j s=none:=λs=>hfrn s (Nat.le_refl _)
      have hbig:∀j,q+1<=j->j<=ops.size->(stL l O q).j+1<=(stL l O j).j:=λj hj hj2=>by
        have:=S.mono (q+1) j hj hj2;rw[hst,St.add_next]at this;exact this
      have hsub:Sub Z (Z.commit (stL l O q).j L):=by
        refine⟨λb s0 L0 h0=>?_,λ_ _ _ _=>rfl⟩
        simp only[Inj.commit];rw[if_neg];exact h0;rintro⟨rfl,rfl⟩;rw[hnone 0]at h0;cases h0
      have hgood:=I.good;have rep:Rep (Z.commit (stL l O q).j L) ((stL l O q).add y) w:=by
        refine⟨λb y' hb=>?_,λb s0 L0 h0=>?_,λc b h0=>?_,λb s0 h0=>?_⟩
        . rw[St.add_get]at hb;by_cases hbn:b=(stL l O q).j
          . rw[if_pos hbn]at hb;cases hb;subst hbn;refine⟨by simp,hp.blk.keepS ⟨λb s0 L0 h0=>?_,λ_ _ _ _=>rfl⟩ (λ_ _ _=>rfl) (λ_ _ _ _=>rfl) (λcs esz log next ro hy s0 hs0=>?_)⟩
            . have h0:(Z.plus (cut pend ((stL l O q).j+1))).loc b s0=some L0:=h0;by_cases hz:s0=0
              . subst hz;cases hc:cut pend ((stL l O q).j+1) b with
                |none=>rw[vK _ hc]at h0;exact hsub.loc _ _ _ h0
                |some L1 =>
                  rw[wZ hc]at h0;cases h0;obtain⟨hlt,hpb⟩:=zOP hc;by_cases hbe:b=(stL l O q).j
                  . subst hbe;rw[hp.get]at hpb;cases hpb;simp[Inj.commit]
                  . rcases I.keys b L0 hpb with ⟨_,x⟩|⟨j,_,_,x1,x2,_,_,_,_,x7⟩
                    . exact hsub.loc _ _ _ x
                    . have:=S.mono q j x1 (Nat.le_of_lt (hX j x2));omega
              . rw[vA hz]at h0;exact hsub.loc _ _ _ h0
            . have hb:=hp.blk;subst hy;cases hb with
              |cells _ _ _ fresh =>
                have hh:=fresh s0 hs0;by_cases hz:s0=0
                . subst hz;have h2:(Z.plus (cut pend ((stL l O q).j+1))).loc (stL l O q).j 0=some L:=wZ (by simp[cut,hp.get]);rw[show((Z.plus (cut pend ((stL l O q).j+1))).owned L.c (stL l O q).j).loc (stL l O q).j 0=(Z.plus (cut pend ((stL l O q).j+1))).loc (stL l O q).j 0 from rfl,h2]at hh;cases hh
                . simp only[Inj.commit];rw[if_neg (λx=>hz x.2)];exact hnone s0
          . rw[if_neg hbn]at hb;have h:=hgood.rep.blk b y' hb;refine⟨by simp;omega,h.2.keepS hsub (λs0 L0 h0=>?_) (λ_ _ _ _=>rfl) (λcs esz log next ro hy s0 hs0=>?_)⟩
            . simp only[Inj.commit];rw[if_neg (hp.off _ _ _ h0)]
            . subst hy;simp only[Inj.commit];rw[if_neg (λx=>hbn x.1)];cases h.2 with|cells _ _ _ fresh=>exact fresh s0 hs0
        . simp only[Inj.commit]at h0;split at h0
          . cases h0;exact hp.lt
          . exact hgood.rep.lt _ _ _ h0
        . simp only[Inj.commit]at h0;split at h0
          . rename_i hc;cases h0;rw[hc];exact⟨hp.lt,by simp⟩
          . have:=hgood.rep.ownlt _ _ h0;exact⟨this.1,by simp;omega⟩
        . simp at h0;simp only[Inj.commit];rw[if_neg (by omega)];exact hgood.rep.fresh b s0 (by omega)
      have good:Good Z0 (stL l O 0) w0 (Z.commit (stL l O q).j L) (stL l O (q+1)) w:=by
        rw[hst];refine⟨⟨λb s0 L0 h0=>hsub.loc _ _ _ (hgood.ext.loc _ _ _ h0),hgood.ext.sz,λb s0 h0 hb=>?_,λc hc=>?_,hgood.ext.csz,λb s0 L0 h0 hc=>?_⟩,rep,hgood.pres,hgood.low,Nat.le_trans hgood.j (by simp)⟩
        . simp at hb;simp only[Inj.commit];rw[if_neg (by omega)];exact hgood.ext.fresh b s0 h0 (by omega)
        . simp only[Inj.commit];rw[if_neg (by have:=hp.ge;omega)];exact hgood.ext.own c hc
        . simp only[Inj.commit]at h0;split at h0
          . cases h0;have:=hp.ge;omega
          . exact hgood.ext.old _ _ _ h0 hc
      have hps:∀m,Sub (Z.plus (cut pend m)) ((Z.commit (stL l O q).j L).plus (cut pend m)):=λm =>
        zHZ hsub (λ_ _ h=>h) (λb L1 L2 h1 h2=>by rw[h1]at h2;cases h2) (λ_ _ _=>rfl)
      refine⟨Z.commit (stL l O q).j L,hq1,λj o' hj ha hlt=>?_,λj o' hj ha hle hx=>I.beyond j o' hj ha (by omega) hx,good,λb L1 hpb=>?_,λj o' s' hle hx hj ha hs' hw'=>?_,I.inj, ?_,I.ds,I.fast⟩
      . by_cases he:j=q
        . subst he;exact hXq
        . exact I.ahead j o' hj ha (by omega)
      . rw[hst];rcases I.keys b L1 hpb with ⟨x1,x2⟩|⟨j,o',s',x1,x2,x3,x4,x5,x6,x7⟩
        . exact .inl ⟨by simp;omega,hsub.loc _ _ _ x2⟩
        . by_cases he:j=q
          . subst he;subst x7;rw[hp.get]at hpb;cases hpb;exact .inl ⟨by simp,by simp[Inj.commit]⟩
          . exact .inr ⟨j,o',s',by omega,x2,x3,x4,x5,x6,x7⟩
      . obtain⟨y',L',e1,hp'⟩:=I.pok j o' s' (by omega) hx hj ha hs' hw';have hb:=hbig j hle (Nat.le_of_lt (xB hj).2);have hne:L'.c≠L.c:=fun e=>by
          have:=I.inj _ _ _ _ hp'.get hp.get e;omega
        refine⟨y',L',e1,hp'.keep hp'.get (Nat.le_refl _) ?_ (λb s0 L0 h0=>?_) (hps _) (λs0 hs0=>?_) rfl⟩
        . simp only[Inj.commit];rw[if_neg hne];exact hp'.own
        . simp only[Inj.commit]at h0;split at h0
          . cases h0;exact λe=>hne e.symm
          . exact hp'.off _ _ _ h0
        . have hn:=hgood.rep.fresh (stL l O j).j s0 (by omega);exact⟨hn,by simp only[Inj.commit];rw[if_neg (λx=>hs0 x.2)];exact hn⟩
      . refine I.fr.sub (zHZ hsub (λ_ _ h=>h) (λb L1 L2 h1 h2=>by rw[h1]at h2;cases h2) (λ_ _ _=>rfl))
end
end Go.Lay

namespace Go.Lay
open Go
variable{k t0:Nat}

section
variable{P:Program}{rec:Rec}{ops:Array Oper}{l:List Seen}{t:Tm}{O:St}{Z0:Inj}{w0:World}{ds:List Deferred}{X:Nat->Prop}{a:Act}{w:World}{q:Nat}{Z:Inj}{pend:Nat->Option Loc}

theorem Inv.advance(S:SeqD P rec ops ops.toList l t O)(hX:∀j,X j->j<ops.size):∀(n:Nat) {q:Nat} {Z:Inj},Inv ops l t O Z0 w0 ds X a w q Z pend->q+n<=ops.size->(∀(j:Nat) (o:Oper),ops[j]?=some o->q<=j->j<q+n->wM o.op=true->X j) ->
  ∃Z',Inv ops l t O Z0 w0 ds X a w (q+n) Z' pend
 |0,q,Z,I,_,_=>⟨Z,I⟩
 |n+1,q,Z,I,hn,hall=>by
  have ho:ops[q]?=some ops[q]:=by simp
  obtain⟨ig,iy⟩:=I.advance1 S hX ho (λha=>hall q _ ho (Nat.le_refl _) (by omega) ha);obtain⟨ip,iR⟩:=Inv.advance S hX n iy (by omega) (λj o hj h1 h2 ha=>hall j o hj (by omega) (by omega) ha);exact⟨ip,by rw[show q+(n+1)=q+1+n by omega];exact iR⟩
theorem Inv.advanceTo(S:SeqD P rec ops ops.toList l t O)(hX:∀j,X j->j<ops.size)(I:Inv ops l t O Z0 w0 ds X a w q Z pend){m:Nat}(hqm:q<=m)(hm:m<=ops.size)
  (hall:∀(j:Nat) (o:Oper),ops[j]?=some o->j<m->wM o.op=true->X j):∃Z',Inv ops l t O Z0 w0 ds X a w m Z' pend:=by
 obtain⟨Z',I'⟩:=I.advance S hX (m-q) (by omega) (λj o hj _ h2 ha=>hall j o hj (by omega) ha);exact⟨Z',by rw[show m=q+(m-q) by omega];exact I'⟩

structure Rdy(ops:Array Oper)(X:Nat->Prop)(i:Nat)(o:Oper):Prop where
 op:ops[i]?=some o
 not:¬X i
 dep:∀e∈o.after.toList,Region.binds .any e=true->X e.on

section
variable(D:DrawOk ops)(hC:yVP ops X){i:Nat}{o:Oper}(R:Rdy ops X i o)
include D hC R
theorem Rdy.pre{k:Nat}(h:pre (BF ops) k i=true):X k:=yTO D hC i o R.op R.dep k h
theorem Rdy.apart{k:Nat}{ok:Oper}(hk:ops[k]?=some ok)(hne:k≠i)(hx:¬(X k/\k<i))(hx2:¬(¬X k/\i<k)):Oper.apart ops ok o=true/\Oper.apart ops o ok=true:=by
 have h1:Go.Lay.pre (BF ops) k i=false:=by
  rw[Bool.eq_false_iff];intro h;exact hx ⟨R.pre D hC h,yTN D k i (xB R.op).2 h⟩
 have h2:Go.Lay.pre (BF ops) i k=false:=by
  rw[Bool.eq_false_iff];intro h;have hlt:=yTN D i k (xB hk).2 h;refine hx2 ⟨λhxk=>?_,hlt⟩;exact R.not (yTO D hC k ok hk (λe he hb=>hC k ok hxk hk e he hb) i h)
 exact⟨D.apart k i ok o hk R.op hne h1 h2,D.apart i k o ok R.op hk (Ne.symm hne) h2 h1⟩
theorem Rdy.writer(ht:t0∈o.looksAt ops)(hk:(ops[k]?).bind (·.dst)=some t0):X k↔k<i:=by
 cases hok:ops[k]? with
 |none=>rw[hok]at hk;simp at hk
 |some ok =>
  rw[hok]at hk;simp at hk;by_cases hne:k=i
  .subst hne;exact⟨λh=>absurd h R.not,λh=>absurd h (Nat.lt_irrefl _)⟩
  .have no:¬(Oper.apart ops ok o=true):=λh=>(Oper.apart_spec h).1 t0 hk ht
   by_cases hx:X k
   .refine⟨λ_=>?_,λ_=>hx⟩
    by_cases hlt:k<i
    .exact hlt
    .exact absurd (R.apart D hC hok hne (λh=>hlt h.2) (λh=>h.1 hx)).1 no
   .refine⟨λh=>absurd h hx,λhlt=>?_⟩
    exact absurd (R.apart D hC hok hne (λh=>hx h.1) (λh=>by omega)).1 no
theorem Rdy.max(hx:X k)(ht:o.dst=some t0)(hk:(ops[k]?).bind (·.dst)=some t0):k<i:=by
 cases hok:ops[k]? with
 |none=>rw[hok]at hk;simp at hk
 |some ok =>
  rw[hok]at hk;simp at hk;have hne:k≠i:=λe=>R.not (e ▸ hx)
  by_cases hlt:k<i
  .exact hlt
  .exact absurd ht ((Oper.apart_spec (R.apart D hC hok hne (λh=>hlt h.2) (λh=>h.1 hx)).1).2.1 t0 hk)

theorem Rdy.operand(S:SeqD P rec ops ops.toList l t O)(I:Inv ops l t O Z0 w0 ds X a w q Z pend)(hok:zOB o=true){x:Operand}(hx:x∈o.op.operands):VR (Z.plus pend) (yV (frL l t i) x) (a.eval x):=by
 cases x with
 |tmp t0 =>
  have hl:t0∈o.looksAt ops:=List.mem_append_left _ (List.mem_filterMap.2 ⟨.tmp t0,by simpa using hx,rfl⟩);exact I.fr.match S (Nat.le_of_lt (xB R.op).2) (λk hk=>R.writer D hC hl hk)
 |const v=>exact .refl_rigid _ (wKS hok hx)
 |global g=>exact .any rfl
 |func g=>exact .func (.func g) rfl (λi v v' h=>by simp at h) rfl (λi v v' h=>by simp at h)
theorem Rdy.guard(S:SeqD P rec ops ops.toList l t O)(I:Inv ops l t O Z0 w0 ds X a w q Z pend){b:Bool}(hg:zHC ops (frL l t i) o=some b):Region.wanted o (yielded ops a.tmps)=b:=by
 refine zKZ (Z:=Z.plus pend) hg (λj want d hgd hd=>?_);have hl:d∈o.looksAt ops:=List.mem_append_right _ (by simp[hgd,hd]);exact I.fr.match S (Nat.le_of_lt (xB R.op).2) (λk hk=>R.writer D hC hl hk)
end

structure Ask(P:Program)(ops:Array Oper)(l:List Seen)(t:Tm)(O:St):Prop where
 low:∀(i:Nat) (o:Oper) (s:Seen),ops[i]?=some o->l[i]?=some s->s.want=true->(wM o.op||zCQ o.op)=true->(∀j,vO ops (BF ops) j=false)\/zDQ (stL l O i).j (frL l t i) o=true
 steady:∀(i k:Nat) (oi ok:Oper) (si:Seen),ops[i]?=some oi->ops[k]?=some ok->i≠k->l[i]?=some si->si.want=true->zCQ oi.op=true->wM ok.op=true->pre (BF ops) i k=false->pre (BF ops) k i=false ->
  (wA P (yV (frL l t i)) (stL l O k) oi.op=some si.v/\zDQ (stL l O k).j (frL l t i) oi=true)/\(wA P (yV (frL l t i)) (stL l O (k+1)) oi.op=some si.v/\zDQ (stL l O (k+1)).j (frL l t i) oi=true)

section
variable(hz:zAX P)(hrec:RecSound P rec)(D:DrawOk ops)(S:SeqD P rec ops ops.toList l t O)(A:Ask P ops l t O)(hC:yVP ops X)(hX:∀j,X j->j<ops.size)(hok:∀(j:Nat) (o:Oper),ops[j]?=some o->zOB o=true)
variable{i:Nat}{o:Oper}(R:Rdy ops X i o){rd:Option Nat}{n:Nat}{Q:Exit->Act->World->Prop}

theorem Inv.stepWith(I:Inv ops l t O Z0 w0 ds X a w q Z pend){s:Seen}(hs:l[i]?=some s)(ho:ops[i]?=some o)(hnx:¬X i)(hmax:∀k t0,X k->o.dst=some t0->(ops[k]?).bind (·.dst)=some t0->k<i)
  (hact:wM o.op=false) {v':Value} (hv:VR (Z.plus pend) s.v v'):Inv ops l t O Z0 w0 ds (λj=>X j\/j=i) (a.put o.dst v') w q Z pend:=by
 have hi:∀{j:Nat} {o':Oper},ops[j]?=some o'->wM o'.op=true->j≠i:=λhj ha e=>by subst e;rw[ho]at hj;cases hj;rw[hact]at ha;cases ha
 refine⟨I.hq,λj o' hj ha hlt=>.inl (I.ahead j o' hj ha hlt),λj o' hj ha hle hx=>I.beyond j o' hj ha hle (hx.resolve_right (hi hj ha)),I.good,λb L hp=>?_,
  λj o' s' hle hx hj ha hs' hw=>I.pok j o' s' hle (hx.resolve_right (hi hj ha)) hj ha hs' hw,I.inj,I.fr.put ho hs hmax hv, ?_,I.fast⟩
 .exact(I.keys b L hp).imp id (λ⟨j,o',s',x1,x2,x3⟩=>⟨j,o',s',x1,.inl x2,x3⟩)
 .rw[<- I.ds];unfold Act.put;split <;> rfl

include S in
theorem Inv.stepIdle(I:Inv ops l t O Z0 w0 ds X a w q Z pend){s:Seen}(hs:l[i]?=some s)(ho:ops[i]?=some o)(hnx:¬X i)(hmax:∀k t0,X k->o.dst=some t0->(ops[k]?).bind (·.dst)=some t0->k<i)
  (hw:s.want=false) (hqi:q=i\/vO ops (BF ops) i=true):∃q',Inv ops l t O Z0 w0 ds (λj=>X j\/j=i) (a.put o.dst undef) w q' Z pend:=by
 obtain⟨s0,hs0,_,_,_,_,_,_,h2⟩:=S.at ho;rw[hs]at hs0;cases hs0;obtain⟨hv,hst⟩:=h2 hw;have hfr:FrOk ops l (frL l t 0) (λj=>X j\/j=i) (Z.plus pend) (a.put o.dst undef).tmps:=I.fr.put ho hs hmax (by rw[hv];exact .undef);have hds:(a.put o.dst undef).defers=ds:=by rw[<- I.ds];unfold Act.put;split <;> rfl
 by_cases hf:vO ops (BF ops) i=true
 .refine⟨q,I.hq,λj o' hj ha hlt=>.inl (I.ahead j o' hj ha hlt),λj o' hj ha hle hx=>?_,I.good,λb L hp=>?_,λj o' s' hle hx hj ha hs' hw'=>?_,I.inj,hfr,hds,I.fast⟩
  .rcases hx with hx|rfl
   .exact I.beyond j o' hj ha hle hx
   .exact hf
  .exact(I.keys b L hp).imp id (λ⟨j,o',s',x1,x2,x3⟩=>⟨j,o',s',x1,.inl x2,x3⟩)
  .rcases hx with hx|rfl
   .exact I.pok j o' s' hle hx hj ha hs' hw'
   .rw[hs]at hs';cases hs';rw[hw]at hw';cases hw'
 .have hqi:q=i:=hqi.resolve_right hf;subst hqi;refine⟨q+1,(xB ho).2,λj o' hj ha hlt=>?_,λj o' hj ha hle hx=>?_,by rw[hst];exact I.good,λb L hp=>?_,λj o' s' hle hx hj ha hs' hw'=>?_,I.inj,hfr,hds,I.fast⟩
  .by_cases he:j=q
   .exact .inr he
   .exact .inl (I.ahead j o' hj ha (by omega))
  .exact I.beyond j o' hj ha (by omega) (hx.resolve_right (by omega))
  .rw[hst];refine(I.keys b L hp).imp id (λ⟨j,o',s',x1,x2,x3⟩=>⟨j,o',s', ?_,.inl x2,x3⟩);have:j≠q:=λe=>hnx (e ▸ x2)
   omega
  .exact I.pok j o' s' (by omega) (hx.resolve_right (by omega)) hj ha hs' hw'

include S in
theorem Inv.stepAct(I:Inv ops l t O Z0 w0 ds X a w i Z pend){s:Seen}(hs:l[i]?=some s)(ho:ops[i]?=some o)(hnx:¬X i)(hmax:∀k t0,X k->o.dst=some t0->(ops[k]?).bind (·.dst)=some t0->k<i)
  {v':Value} {w':World} {Z':Inj} (hv:VR Z' s.v v') (hg:Good Z (stL l O i) w Z' (stL l O (i+1)) w'):Inv ops l t O Z0 w0 ds (λj=>X j\/j=i) (a.put o.dst v') w' (i+1) Z' pend:=by
 have hmono:=S.mono i (i+1) (by omega) (xB ho).2;have hps:∀m,Sub (Z.plus (cut pend m)) (Z'.plus (cut pend m)):=λm =>
  zHZ hg.ext.sub (λ_ _ h=>h) (λb L1 L2 h1 h2=>by rw[h1]at h2;cases h2) (λb L h=>hg.ext.csz _ (I.lt_size (zOP h).2))
 have keys:∀b L,pend b=some L->(b<(stL l O (i+1)).j/\Z'.loc b 0=some L)\/(∃j o s,i+1<=j/\(X j\/j=i)/\ops[j]?=some o/\l[j]?=some s/\s.want=true/\vO ops (BF ops) j=true/\b=(stL l O j).j):=by
  intro b L hp;rcases I.keys b L hp with ⟨x1,x2⟩|⟨j,o',s',x1,x2,x3⟩
  .exact .inl ⟨by omega,hg.ext.loc _ _ _ x2⟩
  .refine .inr ⟨j,o',s', ?_,.inl x2,x3⟩;have:j≠i:=λe=>hnx (e ▸ x2)
   omega
 refine⟨(xB ho).2,λj o' hj ha hlt=>?_,λj o' hj ha hle hx=>I.beyond j o' hj ha (by omega) (hx.resolve_right (by omega)),I.good.trans hg,keys,λj o' s' hle hx hj ha hs' hw'=>?_,I.inj, ?_, ?_,I.fast⟩
 .by_cases he:j=i
  .exact .inr he
  .exact .inl (I.ahead j o' hj ha (by omega))
 .obtain⟨y,L,e1,hp⟩:=I.pok j o' s' (by omega) (hx.resolve_right (by omega)) hj ha hs' hw';have hnj:=S.mono (i+1) j hle (Nat.le_of_lt (xB hj).2);refine⟨y,L,e1,hp.keep hp.get hg.pres.size (by rw[hg.ext.own _ hp.lt];exact hp.own) (λb s0 L0 h0 e=>?_) (hps _) (λs0 hs0=>?_) (hg.pres.same _ hp.lt (λb hb=>by rw[hp.own]at hb;cases hb))⟩
  .obtain⟨b',s',L',g1,g2⟩:=hg.ext.old _ _ _ h0 (by rw[e];exact hp.lt);exact hp.off _ _ _ g1 (g2.trans e)
  .have hn:=I.good.rep.fresh (stL l O j).j s0 (by omega);exact⟨hn,hg.ext.fresh _ _ hn (by omega)⟩
 .have h1:Sub (Z.plus pend) (Z'.plus pend):=zHZ hg.ext.sub (λ_ _ h=>h) (λb L1 L2 h1 h2=>by rw[h1]at h2;cases h2) (λb L h=>hg.ext.csz _ (I.lt_size h));refine(I.fr.sub h1).put ho hs hmax (VR.sub (Z:=Z') (Z':=Z'.plus pend) ⟨λb s0 L0 h0=>?_,λ_ _ _ _=>rfl⟩ hv);by_cases hz0:s0=0
  .subst hz0;cases hp:pend b with
   |none=>rw[vK _ hp];exact h0
   |some L1 =>
    rw[wZ hp];rcases keys b L1 hp with ⟨_,x⟩|⟨j,o',s',x1,x2,x3,x4,x5,x6,rfl⟩
    .rw[h0]at x;exact x.symm
    .have hnj:=S.mono (i+1) j x1 (Nat.le_of_lt (xB x3).2);rw[hg.rep.fresh _ _ hnj]at h0;cases h0
  .rw[vA hz0];exact h0
 .rw[<- I.ds];unfold Act.put;split <;> rfl

include hz hrec D S A hC hX hok R in
theorem Inv.step(I:Inv ops l t O Z0 w0 ds X a w q Z pend) :
    wpOpIn (Fw rd) n P ops Q i (λa' w'=>∃q' Z' pend',Inv ops l t O Z0 w0 ds (λj=>X j\/j=i) a' w' q' Z' pend') a w:=by
  obtain⟨s,hs,_,_,_,_,hg,h1,h2⟩:=S.at R.op;have ho:=R.op;have hlti:=(xB ho).2;have hmax:∀k t0,X k->o.dst=some t0->(ops[k]?).bind (·.dst)=some t0->k<i:=λk t0 hx hd hk=>R.max D hC hx hd hk
  have hoi:=hok i o ho;unfold wpOpIn;rw[ho];simp only;rw[R.guard D hC S I hg];have front:wM o.op=true->vO ops (BF ops) i=false->∃Z',Inv ops l t O Z0 w0 ds X a w i Z' pend:=by
    intro ha hf;have hall:∀(j:Nat) (o':Oper),ops[j]?=some o'->j<i->wM o'.op=true->X j:=by
      intro j o' hj hlt haj;refine R.pre D hC ?_
      cases hm:uE o.op with
      |false=>exact D.acts j i o' o hj ho hlt haj ha hm
      |true =>
        unfold vO at hf;rw[(xB ho).1,hm,Bool.true_and]at hf;have hf:=List.any_eq_false.1 hf j (List.mem_range.2 hlt);rw[(xB hj).1,haj]at hf;simpa using hf
    have hqi:q<=i:=by
      refine Nat.le_of_not_lt (λh=>R.not (I.ahead i o ho ha h))
    exact I.advanceTo S hX hqi (Nat.le_of_lt hlti) hall
  cases hw:s.want with
  |false =>
    rw[if_neg (by simp)];refine⟨λf _=>yQC rd f, ?_⟩
    cases ha:wM o.op with
    |false=>exact⟨q,Z,pend,I.stepWith hs ho R.not hmax ha (by rw[(h2 hw).1];exact .undef)⟩
    |true =>
      cases hf:vO ops (BF ops) i with
      |true =>
        obtain⟨q',h⟩:=I.stepIdle S hs ho R.not hmax hw (.inr hf);exact⟨q',Z,pend,h⟩
      |false =>
        obtain⟨Z',I'⟩:=front ha hf;obtain⟨q',h⟩:=I'.stepIdle S hs ho R.not hmax hw (.inl rfl);exact⟨q',Z',pend,h⟩
  |true =>
    rw[if_pos rfl];have hop:=h1 hw;rcases zOC hop with ⟨ha,hcase⟩|⟨ha,hlk,hsee,_⟩|⟨ha,_,hval,_⟩
    . cases hf:vO ops (BF ops) i with
      |false =>
        obtain⟨ig,iy⟩:=front ha hf;refine yNZ hz hrec hop iy.good.rep (λx hx=>?_) (λv' w' Z' hv hgd=>⟨i+1,Z',pend,iy.stepAct S hs ho R.not hmax hv hgd⟩);exact iy.lower S hX (A.low i o s ho hs hw (by rw[ha];rfl)) hx (R.operand D hC S iy hoi hx)
      |true =>
        have hm:=zLA ho hf;have hqi:q<=i:=Nat.le_of_not_lt (λh=>R.not (I.ahead i o ho ha h));have heff:yN P (yV (frL l t i)) (stL l O i) o.op=some (s.v,stL l O (i+1)):=by
          rcases hcase with ⟨c,_,_,_,hc,_⟩|h|⟨h,_⟩
          . rw[hc]at hm;simp[uE]at hm
          . exact h
          . exfalso;cases hoo:o.op <;> rw[hoo]at hm h <;> first|(simp[uE]at hm;done)|(simp[wR]at h;done)
        obtain⟨y,hst,hany⟩:=wAV hm heff;have hbel:zDQ (stL l O i).j (frL l t i) o=true:=by
          rcases A.low i o s ho hs hw (by rw[ha];rfl)with h|h
          . rw[h i]at hf;cases hf
          . exact h
        have hqn:=S.mono q i hqi (Nat.le_of_lt hlti);have hpn:pend (stL l O i).j=none:=by
          cases hp:pend (stL l O i).j with
          |none=>rfl
          |some L =>
            exfalso;rcases I.keys _ L hp with ⟨x,_⟩|⟨j,o',s',x1,x2,x3,x4,x5,x6,x7⟩
            . omega
            . have hji:j≠i:=λe=>R.not (e ▸ x2)
              obtain⟨yj,_,ej,_⟩:=I.pok j o' s' x1 x2 x3 (zSX (zLA x3 x6)) x4 x5;rcases Nat.lt_or_ge j i with hlt|hge
              . have:=S.mono (j+1) i hlt (Nat.le_of_lt hlti);rw[ej,St.add_next]at this;omega
              . have:=S.mono (i+1) j (by omega) (Nat.le_of_lt (hX j x2));rw[hst,St.add_next]at this;omega
        have hlocn:∀s,Z.loc (stL l O i).j s=none:=λs=>I.good.rep.fresh _ _ hqn
        let N:=(stL l O i).j;let ij:=Z.plus (cut pend N);let il:St:=⟨.leaf,N,N⟩;have hlt2:∀b s L,ij.loc b s=some L->L.c<w.heap.size:=λb s0 L h0=>by
          by_cases hz0:s0=0
          . subst hz0;cases hc:cut pend N b with
            |none=>rw[show ij.loc b 0=Z.loc b 0 from vK _ hc]at h0;exact I.good.rep.lt _ _ _ h0
            |some L1=>rw[show ij.loc b 0=some L1 from wZ hc]at h0;cases h0;exact I.lt_size (zOP hc).2
          . rw[show ij.loc b s0=Z.loc b s0 from vA hz0]at h0;exact I.good.rep.lt _ _ _ h0
        have hrep:Rep ij il w:=by
          refine⟨λb y0 hb=>?_,hlt2,λc b hcb=>⟨(I.good.rep.ownlt c b hcb).1,Nat.lt_of_lt_of_le (I.good.rep.ownlt c b hcb).2 hqn⟩,λb s0 hb=>?_⟩
          . simp[il,yP,Tr.getP_leaf]at hb
          . have hb:N<=b:=hb;have hc:cut pend N b=none:=by unfold cut;rw[if_neg (by omega)]
            rw[show ij.loc b s0=Z.loc b s0 from vK _ hc];exact I.good.rep.fresh _ _ (Nat.le_trans hqn hb)
        have hevV:∀x∈o.op.operands,VR ij (yV (frL l t i) x) (a.eval x):=λx hx=>by
          refine VR.lower (ij:=Z.plus pend) (V':=ij) (m:=N) (λb s0 L hlt hL=>?_) (λ_ _ _ _=>rfl) RD (List.all_eq_true.1 hbel x (by simpa using hx)) (R.operand D hC S I hoi hx);have hcb:cut pend N b=pend b:=by unfold cut;rw[if_pos hlt]
          by_cases hz0:s0=0
          . subst hz0;cases hp:pend b with
            |none=>rw[show ij.loc b 0=Z.loc b 0 from vK _ (hcb.trans hp)];rw[vK _ hp]at hL;exact hL
            |some L1=>rw[show ij.loc b 0=some L1 from wZ (hcb.trans hp)];rw[wZ hp]at hL;exact hL
          . rw[show ij.loc b s0=Z.loc b s0 from vA hz0];rw[vA hz0]at hL;exact hL
        obtain⟨nx,v',obj,y2,m,z,hrun,hnv,hv,hy2,hgd⟩:=yHV hz hm (hany il rfl) hrep hevV;have hyy:yP (il.add y).heap N=some y:=by rw[St.add_get,if_pos rfl]
        have hblk:=(hgd.rep.blk N y hyy).2;have hd:∀c,o.op≠.defer c:=λc hc=>by rw[hc]at hm;simp[uE]at hm
        refine zPR hd hrun hnv ?_
        let ig:Inj:={ Z with csz:=λc=>if c=w.heap.size then m else Z.csz c };let iv:Nat->Option Loc:=λb=>if b=N then some ⟨w.heap.size,0,0,z⟩else pend b
        have hZ1:Sub Z ig:=⟨λ_ _ _ h=>h,λb s0 L h=>by
          have:=I.good.rep.lt _ _ _ h;have hne:L.c≠w.heap.size:=by omega
          simp[ig,hne]⟩
        have hpp:∀b L,pend b=some L->iv b=some L:=λb L h=>by
          have:b≠N:=λe=>by subst e;rw[hpn]at h;cases h
          simp[iv,this,h]
        have hnew:∀b L L',pend b=none->iv b=some L->Z.loc b 0=some L'->L'=L:=λb L L' h1 h2 h3=>by
          by_cases e:b=N
          . subst e;rw[hlocn 0]at h3;cases h3
          . simp[iv,e,h1]at h2
        have hszp:∀b L,pend b=some L->ig.csz L.c=Z.csz L.c:=λb L h=>by
          have:=I.lt_size h;have hne:L.c≠w.heap.size:=by omega
          simp[ig,hne]
        have hsubA:Sub (Z.plus pend) (ig.plus iv):=zHZ hZ1 hpp hnew hszp;have hsubC:∀k,Sub (Z.plus (cut pend k)) (ig.plus (cut iv k)):=λk =>
          zHZ hZ1 (λb L h=>by obtain⟨h1,h2⟩:=zOP h;unfold cut;rw[if_pos h1];exact hpp b L h2)
            (λb L L' h1 h2 h3=>by
              obtain⟨g1,g2⟩:=zOP h2;refine hnew b L L' ?_ g2 h3;unfold cut at h1;rw[if_pos g1]at h1;exact h1)
            (λb L h=>hszp b L (zOP h).2)
        have hadd : ∀(pd:Nat->Option Loc),(∀b L,cut pend N b=some L->pd b=some L)->(∀b,b<N->pend b=none->pd b=none)->pd N=some ⟨w.heap.size,0,0,z⟩->Sub (ij.add N w.heap.size m z) (ig.plus pd):=by
          intro pd hp1 hp2 hp3;refine⟨λb s0 L h0=>?_,λb s0 L _=>rfl⟩
          simp only[Inj.add]at h0;split at h0
          . rename_i hc;obtain⟨rfl,rfl⟩:=hc;cases h0;exact wZ hp3
          . rename_i hc;by_cases hz0:s0=0
            . subst hz0;have hbn:b≠N:=λe=>hc ⟨e,rfl⟩
              cases hcp:cut pend N b with
              |some L1 =>
                rw[show ij.loc b 0=some L1 from wZ hcp]at h0;cases h0;exact wZ (hp1 b L hcp)
              |none =>
                rw[show ij.loc b 0=Z.loc b 0 from vK _ hcp]at h0;have hblt:b<N:=by
                  rcases Nat.lt_or_ge b N with h|h
                  . exact h
                  . rw[I.good.rep.fresh _ _ (Nat.le_trans hqn h)]at h0;cases h0
                have hpb:pend b=none:=by unfold cut at hcp;rw[if_pos hblt]at hcp;exact hcp
                rw[vK _ (hp2 b hblt hpb)];exact h0
            . rw[show ij.loc b s0=Z.loc b s0 from vA hz0]at h0;rw[vA hz0];exact h0
        have hkn:∀s0,s0≠0->ij.loc N s0=none:=λs0 hs0=>by rw[show ij.loc N s0=Z.loc N s0 from vA hs0];exact hlocn s0
        refine⟨q,ig,iv,I.hq,λj o' hj ha' hlt=>.inl (I.ahead j o' hj ha' hlt),λj o' hj ha' hle hx=>?_, ?_,λb L hp=>?_,λj o' s' hle hx hj ha' hs' hw'=>?_,λb b' L L' hb hb' he=>?_, ?_, ?_,λhno=>?_⟩
        . rcases hx with hx|rfl
          . exact I.beyond j o' hj ha' hle hx
          . exact hf
        . have hgo:=I.good;refine⟨⟨hgo.ext.loc,λb s0 L h0=>?_,hgo.ext.fresh,hgo.ext.own,λc hc=>?_,hgo.ext.old⟩,⟨λb y' hb=>?_,λb s0 L h0=>?_,λc b hc=>?_,hgo.rep.fresh⟩,⟨?_,λc hc hown=>?_,hgo.pres.tape,hgo.pres.os,hgo.pres.output,hgo.pres.fr.trans hgd.pres.fr⟩,hgo.low,hgo.j⟩
          . have e1:=hgo.ext.sz _ _ _ h0;have:=hgo.rep.lt _ _ _ (hgo.ext.loc _ _ _ h0);have hne:L.c≠w.heap.size:=by omega
            simpa [ig,hne] using e1
          . have e1:=hgo.ext.csz c hc;have:=hgo.pres.size;have hne:c≠w.heap.size:=by omega
            simpa [ig,hne] using e1
          . have hb:=hgo.rep.blk b y' hb;refine⟨hb.1,hb.2.keepS hZ1 (λ_ _ _=>rfl) (λs0 L h0 _=>World.push_old w obj (hgo.rep.lt _ _ _ h0)) (λcs esz log next ro hy s0 hs0=>?_)⟩
            have hb2:=hb.2;subst hy;cases hb2 with|cells _ _ _ fresh=>exact fresh s0 hs0
          . have:=hgo.rep.lt b s0 L h0;simp;omega
          . have:=hgo.rep.ownlt c b hc;exact⟨by simp;omega,this.2⟩
          . have:=hgo.pres.size;simp;omega
          . rw[World.push_old w obj (Nat.lt_of_lt_of_le hc hgo.pres.size)];exact hgo.pres.same c hc hown
        . by_cases hbn:b=N
          . subst hbn;exact .inr ⟨i,o,s,hqi,.inr rfl,ho,hs,hw,hf,rfl⟩
          . have hp':pend b=some L:=by simpa [iv,hbn] using hp
            exact(I.keys b L hp').imp id (λ⟨j,o',s',x1,x2,x3⟩=>⟨j,o',s',x1,.inl x2,x3⟩)
        . by_cases hji:j=i
          . subst hji;refine⟨y,⟨w.heap.size,0,0,z⟩,hst,by simp[iv,N],I.good.pres.size,by simp, ?_,λb s0 L h0 e=>?_, ?_⟩
            . show Z.own w.heap.size=none;cases hown:Z.own w.heap.size with
              |none=>rfl
              |some b=>have:=(I.good.rep.ownlt _ _ hown).1;omega
            . have:=I.good.rep.lt b s0 L h0;simp at e;omega
            . have hs1:=hadd (cut iv (N+1)) (fun b L h=>by obtain⟨h1,h2⟩:=zOP h;unfold cut;rw[if_pos (by omega)];exact hpp b L h2)
                (fun b h1 h2 => by unfold cut;rw[if_pos (by omega)];have:b≠N:=by omega
                                   simp[iv,this,h2]) (by unfold cut;rw[if_pos (by omega)];simp[iv])
              refine hblk.keepS (Z':=(ig.plus (cut iv (N+1))).owned w.heap.size N) ⟨hs1.loc,hs1.sz⟩ (λs0 L h0=>?_) (λ_ _ _ _=>rfl) (λcs esz log next ro hy s0 hs0=>?_)
              . have:L.c=w.heap.size:=by
                  simp only[Inj.add]at h0;split at h0
                  . cases h0;rfl
                  . rename_i hc;rw[hkn s0 (λe=>hc ⟨rfl,e⟩)]at h0;cases h0
                rw[this];simp[Inj.owned,Inj.add,il]
              . have hb2:=hblk;subst hy;cases hb2 with
                |cells _ _ _ fresh =>
                  have:=fresh s0 hs0;by_cases hz0:s0=0
                  . subst hz0;simp[Inj.add,il]at this
                  . rw[show((ig.plus (cut iv (N+1))).owned w.heap.size N).loc N s0=Z.loc N s0 from vA (Z:=ig) hz0];exact hlocn s0
          . have hxj:=hx.resolve_right hji;obtain⟨yj,Lj,ej,hp⟩:=I.pok j o' s' hle hxj hj ha' hs' hw';refine⟨yj,Lj,ej,hp.keep (hpp _ _ hp.get) (by simp) hp.own hp.off (hsubC _) (λs0 _=>?_) (World.push_old w obj hp.lt)⟩
            have hn:=I.good.rep.fresh (stL l O j).j s0 (S.mono q j hle (Nat.le_of_lt (hX j hxj)));exact⟨hn,hn⟩
        . by_cases hbn:b=N
          . by_cases hbn':b'=N
            . rw[hbn,hbn']
            . exfalso;have h1:L=⟨w.heap.size,0,0,z⟩:=by simpa [iv,hbn] using hb.symm
              have h2:pend b'=some L':=by simpa [iv,hbn'] using hb'
              have:=I.lt_size h2;rw[<- he,h1]at this;simp at this
          . have h1:pend b=some L:=by simpa [iv,hbn] using hb
            by_cases hbn':b'=N
            . exfalso;have h2:L'=⟨w.heap.size,0,0,z⟩:=by simpa [iv,hbn'] using hb'.symm
              have:=I.lt_size h1;rw[he,h2]at this;simp at this
            . exact I.inj b b' L L' h1 (by simpa [iv,hbn'] using hb') he
        . refine(I.fr.sub hsubA).put ho hs hmax (hv.sub (hadd iv (λb L h=>hpp b L (zOP h).2) (λb h1 h2=>?_) (by simp[iv])));have:b≠N:=by omega
          simp[iv,this,h2]
        . rw[<- I.ds];unfold Act.put;split <;> rfl
        . rw[hno i]at hf;cases hf
    .
      obtain⟨m,hqm,hm,hall,hend⟩:∃m,q<=m/\m<=ops.size/\(∀(j:Nat) (o':Oper),ops[j]?=some o'->j<m->wM o'.op=true->X j)/\(m=ops.size\/∃om,ops[m]?=some om/\wM om.op=true/\¬X m):=by
        have key:∀(k q:Nat),q+k=ops.size->(∀(j:Nat) (o':Oper),ops[j]?=some o'->j<q->wM o'.op=true->X j) ->
            ∃m,q<=m/\m<=ops.size/\(∀(j:Nat) (o':Oper),ops[j]?=some o'->j<m->wM o'.op=true->X j)/\(m=ops.size\/∃om,ops[m]?=some om/\wM om.op=true/\¬X m):=by
          intro k
          induction k with
          |zero=>intro q hq hall;exact⟨q,Nat.le_refl _,by omega,hall,.inl (by omega)⟩
          |succ k ih =>
            intro q hq hall;have hoq:ops[q]?=some ops[q]:=by simp
            by_cases hbad:wM ops[q].op=true/\¬X q
            . exact⟨q,Nat.le_refl _,by omega,hall,.inr ⟨_,hoq,hbad.1,hbad.2⟩⟩
            . obtain⟨m,m1,m2,m3,m4⟩:=ih (q+1) (by omega) (fun j o' hj hlt ha'=>by
                by_cases he:j=q
                . subst he;rw[hoq]at hj;cases hj;exact Classical.byContradiction λhx=>hbad ⟨ha',hx⟩
                . exact hall j o' hj (by omega) ha')
              exact⟨m,by omega,m2,m3,m4⟩
        obtain⟨m,m1,m2,m3,m4⟩:=key (ops.size-q) q (by have:=I.hq;omega) (λj o' hj hlt haj=>I.ahead j o' hj haj hlt);exact⟨m,m1,m2,m3,m4⟩
      obtain⟨ig,iy⟩:=I.advanceTo S hX hqm hm hall;have hlow:=A.low i o s ho hs hw (by rw[ha,hlk];rfl);have climb:∀k,i+k<=m->wA P (yV (frL l t i)) (stL l O (i+k)) o.op=some s.v/\((∀j,vO ops (BF ops) j=false)\/zDQ (stL l O (i+k)).j (frL l t i) o=true):=by
        intro k;induction k with
        |zero=>intro _;exact⟨hsee,hlow⟩
        |succ k ih =>
          intro hk;obtain⟨g1,g2⟩:=ih (by omega);have hok':ops[i+k]?=some ops[i+k]:=by simp
          obtain⟨sk,hsk,_,_,_,_,_,k1,k2⟩:=S.at hok';have same:stL l O (i+k+1)=stL l O (i+k)->wA P (yV (frL l t i)) (stL l O (i+(k+1))) o.op=some s.v/\((∀j,vO ops (BF ops) j=false)\/zDQ (stL l O (i+(k+1))).j (frL l t i) o=true):=λe=>by
            rw[show i+(k+1)=i+k+1 by omega,e];exact⟨g1,g2⟩
          cases hak:wM ops[i+k].op with
          |false =>
            refine same ?_
            cases hwk:sk.want with
            |false=>exact(k2 hwk).2
            |true =>
              rcases zOC (k1 hwk)with ⟨h,_⟩|⟨_,_,_,h⟩|⟨_,_,_,h⟩
              . rw[hak]at h;cases h
              . exact h
              . exact h
          |true =>
            have hk0:k≠0:=λe=>by
              have h5:ops[i+k]?=some o:=by rw[e,Nat.add_zero];exact ho
              rw[hok']at h5;rw[Option.some.inj h5,ha]at hak;cases hak
            have hxk:=hall (i+k) _ hok' (by omega) hak;have p1:pre (BF ops) i (i+k)=false:=by
              rw[Bool.eq_false_iff];intro h;exact R.not (yTO D hC (i+k) _ hok' (λe he hb=>hC _ _ hxk hok' e he hb) i h)
            have p2:pre (BF ops) (i+k) i=false:=by
              rw[Bool.eq_false_iff];intro h;have:=yTN D (i+k) i hlti h;omega
            obtain⟨_,h3,h4⟩:=A.steady i (i+k) o _ s ho hok' (by omega) hs hw hlk hak p1 p2;exact⟨by rw[show i+(k+1)=i+k+1 by omega];exact h3,.inr (by rw[show i+(k+1)=i+k+1 by omega];exact h4)⟩
      have hsm:wA P (yV (frL l t i)) (stL l O m) o.op=some s.v/\((∀j,vO ops (BF ops) j=false)\/zDQ (stL l O m).j (frL l t i) o=true):=by
        rcases Nat.lt_or_ge m i with hmi|hmi
        . rcases hend with he|⟨om,hom,ham,hxm⟩
          . omega
          . have p1:pre (BF ops) i m=false:=by
              rw[Bool.eq_false_iff];intro h;have:=yTN D i m (xB hom).2 h;omega
            have p2:pre (BF ops) m i=false:=by
              rw[Bool.eq_false_iff];intro h;exact hxm (R.pre D hC h)
            obtain⟨⟨h3,h4⟩,_⟩:=A.steady i m o om s ho hom (by omega) hs hw hlk ham p1 p2;exact⟨h3,.inr h4⟩
        . have:=climb (m-i) (by omega);rwa [show i+(m-i)=m by omega]at this
      refine xAZ hz hsm.1 iy.good.rep (λx hx=>iy.lower S hX hsm.2 hx (R.operand D hC S iy hoi hx)) (λv' hv=>?_);exact⟨m,ig,pend,iy.stepWith hs ho R.not hmax ha (hv.sub (iy.sub_plus S hX))⟩
    . exact zVQ hz hval (λx hx=>R.operand D hC S I hoi hx) (λv' hv=>⟨q,Z,pend,I.stepWith hs ho R.not hmax ha hv⟩)
end
end
end Go.Lay

namespace Go.Lay
open Go
variable{ops:Array Oper}{B:Array Nat}

theorem yOZ:∀(l:List Nat) (p p':Nat->Bool),(∀x∈l,p' x=true->p x=true)->(∃x,x∈l/\p x=true/\p' x=false)->(l.filter p').length<(l.filter p).length
 |[],_,_,_,h=>by obtain⟨x,h,_⟩:=h;cases h
 |y::l,p,p',h1,h2=>by
  have le:∀(l:List Nat),(∀x∈l,p' x=true->p x=true)->(l.filter p').length<=(l.filter p).length:=by
   intro l;induction l with
   |nil=>intro _;simp
   |cons z l ih =>
    intro h;have:=ih (λx hx=>h x (by simp[hx]));have hz:=h z (by simp);simp only[List.filter_cons];cases hp':p' z with
    |true=>rw[hz hp',if_pos rfl,if_pos rfl];simp;omega
    |false=>rw[if_neg (by simp)];split <;> simp <;> omega
  have hl:=le l (λx hx=>h1 x (by simp[hx]));obtain⟨x,hx,a,b⟩:=h2;simp only[List.filter_cons];rcases List.mem_cons.1 hx with rfl|hx
  .rw[a,b,if_neg (by simp),if_pos rfl];simp;omega
  .have:=yOZ l p p' (λx hx=>h1 x (by simp[hx])) ⟨x,hx,a,b⟩;have hy:=h1 y (by simp);cases hp':p' y with
   |true=>rw[hy hp',if_pos rfl,if_pos rfl];simp;omega
   |false=>rw[if_neg (by simp)];split <;> simp <;> omega

theorem wCH{j:Nat}(h:ops.size<=j):vO ops B j=false:=by
 have h1:ops.getD j default=default:=by simp[Array.getD,Nat.not_lt.2 h]
 unfold vO;rw[h1];rfl

theorem zRS:∀(os:List Oper) (ss:List Seen),zIN os ss=true->∀(i:Nat) (o:Oper) (s:Seen),os[i]?=some o->ss[i]?=some s->s.want=true->(wM o.op||zCQ o.op)=true->zDQ s.before.j s.f o=true
 |[],_,_,i,o,s,h,_,_,_=>by simp at h
 |_::_,[],_,i,o,s,_,h,_,_=>by simp at h
 |o0::os,s0::ss,h,i,o,s,ho,hs,hw,hal=>by
  simp only[zIN,Bool.and_eq_true]at h;cases i with
  |zero =>
   simp at ho hs;subst ho;subst hs;have:=h.1;rw[hw,hal]at this;simpa using this
  |succ i=>exact zRS os ss h.2 i o s (by simpa using ho) (by simpa using hs) hw hal

theorem yOC{i k:Nat}{oi ok:Oper}(hi:ops[i]?=some oi)(hk:ops[k]?=some ok)(hne:i≠k)(hl:zCQ oi.op=true)(ha:wM ok.op=true)(h1:pre B i k=false)(h2:pre B k i=false) :
  (i,k)∈yHO ops B:=by
 unfold yHO;refine List.mem_flatMap.2 ⟨i,List.mem_range.2 (xB hi).2, ?_⟩;rw[(xB hi).1,if_pos hl];refine List.mem_map.2 ⟨k,List.mem_filter.2 ⟨List.mem_range.2 (xB hk).2, ?_⟩,rfl⟩;have hb:Nat.beq i k=false:=by rw[Bool.eq_false_iff];intro e;exact hne (Nat.eq_of_beq_eq_true e)
 rw[(xB hk).1,ha,yVG,h1,h2,hb];rfl

section
variable{P:Program}{rec:Rec}{ops:Array Oper}{Z:Inj}{E:St}{w:World}

theorem xLA{f t:Tm}{O:St}(h:yIN P rec ops f E=some (t,O)):DrawOk ops/\∃l,zBG P rec ops ops.toList f E=some (l,t,O)/\Ask P ops l t O:=by
 unfold yIN at h;obtain⟨hd,h⟩:=wV h;refine⟨xDF hd, ?_⟩
 split at h
 .rename_i hp hf;obtain⟨l,hl⟩:=zYG _ _ _ _ _ h;refine⟨l,hl,λi o s _ _ _ _=>.inl (λj=>?_),λi k oi ok si hi hk hne _ _ hlk hak h1 h2=>?_⟩
  .rcases Nat.lt_or_ge j ops.size with hj|hj
   .have:=List.any_eq_false.1 hf j (List.mem_range.2 hj);simpa using this
   .exact wCH hj
  .have:=yOC hi hk hne hlk hak h1 h2;rw[hp]at this;cases this
 .rename_i ps _ _;split at h
  .rename_i l t' O' hl;obtain⟨hc,h⟩:=wV h;simp at h;obtain⟨rfl,rfl⟩:=h;simp only[Bool.and_eq_true]at hc;obtain⟨_,_,S⟩:=zSS _ _ _ _ _ _ hl;refine⟨l,hl,λi o s ho hs hw hal=>.inr ?_,λi k oi ok si hi hk hne hsi hw hlk hak h1 h2=>?_⟩
   .have:=zRS _ _ hc.1 i o s (by simpa using ho) hs hw hal;obtain⟨s',hs',e1,e2,_⟩:=S.at ho;rw[hs]at hs';cases hs';rw[<- e1,<- e2];exact this
   .have hm:=yOC hi hk hne hlk hak h1 h2;have:=List.all_eq_true.1 hc.2 _ hm;obtain⟨sk,hsk,_,k2,k3,_⟩:=S.at hk;obtain⟨si',hsi',i1,_⟩:=S.at hi;rw[hsi]at hsi';cases hsi';simp only[yTQ,hi,hsi,hsk,Bool.and_eq_true]at this;rw[k2,k3]at this;have one:∀E,steady P oi si E=true->wA P (yV (frL l t' i)) E oi.op=some si.v/\zDQ E.j (frL l t' i) oi=true:=by
     intro E hs;unfold steady at hs;rw[hw,cond_true,Bool.and_eq_true]at hs;obtain⟨hs1,hs2⟩:=hs;rw[i1]at hs1 hs2;refine⟨?_,hs1⟩
     split at hs2
     .rename_i v hv;have:=xXW _ _ _ hs2;subst this;exact hv
     .cases hs2
    exact⟨one _ this.1,one _ this.2⟩
  .cases h

theorem xBL(hm:P.follows .mixedOrders=true)(hz:zAX P)(hrec:RecSound P rec){f t:Tm}{O:St}{id:Nat}{rd:Option Nat}{n:Nat}{Q:Exit->Act->World->Prop}{a:Act}(hok:ops.toList.all zOB=true)
  (h:yIN P rec ops f E=some (t,O)) (hr:Rep Z E w) (hf:TmR Z f a.tmps)
  (hQ:∀Z' a' w',Good Z E w Z' O w'->TmR Z' t a'.tmps->a'.defers=a.defers->Q .normal a' w'):(Code.region id ops true).wpIn (Fw rd) n P Q a w:=by
 obtain⟨D,l,hl,A⟩:=xLA h;obtain⟨e1,e2,S⟩:=zSS _ _ _ _ _ _ hl;refine wpIn_region_any hm ?_
 have hoks:∀(j:Nat) (o:Oper),ops[j]?=some o->zOB o=true:=λj o ho=>List.all_eq_true.1 hok o (by
  have:ops.toList[j]?=some o:=by simpa using ho
  exact List.mem_of_getElem? this)
 have hS:=S;have fin:∀(X:Nat->Prop) (a':Act) (w':World),(∀j,X j->j<ops.size)->(∀j,j<ops.size->X j)->(∃q Z' pend,Inv ops l t O Z w a.defers X a' w' q Z' pend)->Q .normal a' w':=by
  intro X a' w' hX hall ⟨q,Z',pend,I⟩;obtain⟨ig,iy⟩:=I.advanceTo S hX I.hq (Nat.le_refl _) (λj o hj _ _=>hall j (xB hj).2);have hlen:l.length=ops.size:=by rw[S.len];simp
  have hend:stL l O ops.size=O:=by simp[stL,hlen]
  have hfend:frL l t ops.size=t:=by simp[frL,hlen]
  have hg:=iy.good;rw[e2,hend]at hg;have hsub:Sub (ig.plus pend) ig:=by
   refine⟨λb s L hL=>?_,λ_ _ _ _=>rfl⟩
   by_cases h0:s=0
   .subst h0;cases hp:pend b with
    |none=>rw[vK _ hp]at hL;exact hL
    |some L1 =>
     rw[wZ hp]at hL;cases hL;rcases iy.keys b L hp with ⟨_,x⟩|⟨j,_,_,x1,x2,_⟩
     .exact x
     .have:=hX j x2;omega
   .rw[vA h0]at hL;exact hL
  refine hQ ig a' w' hg ⟨?_,λt0=>?_⟩ iy.ds
  .have:=S.frn ops.size (Nat.le_refl _);rw[hfend]at this;rw[this];exact iy.fr.size
  .have:=iy.fr.match S (Nat.le_refl _) (t0:=t0) (λi _=>⟨λh=>hX i h,λh=>hall i h⟩);rw[hfend]at this;exact this.sub hsub
 have key:∀(fuel:Nat) (listed:Array Bool) (a':Act) (w':World),listed.size=ops.size->yVP ops (λj=>listed.getD j false=true)->((List.range ops.size).filter λj=>!listed.getD j false).length<=fuel ->
   (∃q Z' pend,Inv ops l t O Z w a.defers (λj=>listed.getD j false=true) a' w' q Z' pend)->wpAnyIn (Fw rd) n P .any ops Q fuel listed a' w':=by
  intro fuel
  induction fuel with
  |zero =>
   intro listed a' w' hsz hC hcnt hI;have hall:∀j,j<ops.size->listed.getD j false=true:=by
    intro j hj;cases hlj:listed.getD j false with
    |true=>rfl
    |false =>
     have:j∈(List.range ops.size).filter λj=>!listed.getD j false:=List.mem_filter.2 ⟨List.mem_range.2 hj,by rw[hlj];rfl⟩
     have h0:=List.eq_nil_of_length_eq_zero (Nat.le_zero.1 hcnt);rw[h0]at this;cases this
   refine⟨?_,fin _ a' w' (λj hj=>?_) hall hI⟩
   .refine List.eq_nil_iff_forall_not_mem.2 (λj hj=>?_);obtain⟨h0,o,ho,_⟩:=mem_ready.1 hj;have hlt:=(xB ho).2;have:=hall j hlt;simp[Array.getD,hsz,hlt]at this h0;rw[this]at h0;cases h0
   .rcases Nat.lt_or_ge j ops.size with hlt|hge
    .exact hlt
    .simp[Array.getD,hsz,Nat.not_lt.2 hge]at hj
  |succ fuel ih =>
   intro listed a' w' hsz hC hcnt hI;have hX:∀j,listed.getD j false=true->j<ops.size:=λj hj=>by
    rcases Nat.lt_or_ge j ops.size with hlt|hge
    .exact hlt
    .simp[Array.getD,hsz,Nat.not_lt.2 hge]at hj
   refine⟨λhnil=>fin _ a' w' hX (λj=>?_) hI,λi hi=>?_⟩
   .induction j using Nat.strongRecOn with
    |_ j ihj =>
     intro hj;cases hlj:listed.getD j false with
     |true=>rfl
     |false =>
      have ho:ops[j]?=some ops[j]:=by simp[hj]
      have:j∈Region.ready .any ops listed:=by
       refine mem_ready.2 ⟨by simpa [Array.getD,hsz,hj] using hlj,_,ho,λe he hb=>?_⟩;have hlt:=D.back j _ ho e (by simpa using he) hb;exact ihj e.on hlt (by omega)
      rw[hnil]at this;cases this
   .obtain⟨h0,o,ho,hdep⟩:=mem_ready.1 hi;have hlt:=(xB ho).2;have hn:listed.getD i false=false:=by simpa [Array.getD,hsz,hlt] using h0
    have hset:∀j,((listed.setIfInBounds i true).getD j false=true)↔(listed.getD j false=true\/j=i):=by
     intro j;by_cases hji:j=i
     .subst hji;simp[Array.getD,hsz,hlt]
     .have:=getD_set_ne (listed:=listed) false (Ne.symm hji);rw[this];simp[hji]
    obtain⟨q,Z',pend,I⟩:=hI;have R:Rdy ops (λj=>listed.getD j false=true) i o:=⟨ho,by rw[hn];simp,λe he hb=>hdep e (by simpa using he) hb⟩;refine wpOpIn_mono (λiL ir hI2=>ih _ iL ir (by simpa using hsz) ?_ ?_ ?_) (I.step hz hrec D hS A hC hX hoks R)
    .intro j o' hj ho' e he hb;rw[hset]at hj ⊢;rcases hj with hj|rfl
     .exact .inl (hC j o' hj ho' e he hb)
     .rw[ho]at ho';cases ho';exact .inl (hdep e (by simpa using he) hb)
    .have:=yOZ (List.range ops.size) (λj=>!listed.getD j false) (λj=>!(listed.setIfInBounds i true).getD j false) (λx _ hx=>?_) ⟨i,List.mem_range.2 hlt,by rw[hn];rfl, ?_⟩
     .omega
     .cases hlx:listed.getD x false with
      |false=>rfl
      |true=>rw[(hset x).2 (.inl hlx)]at hx;cases hx
     .rw[(hset i).2 (.inr rfl)];rfl
    .obtain⟨q',ip,pend2,iR⟩:=hI2;refine⟨q',ip,pend2, ?_⟩
     have:(λj=>(listed.setIfInBounds i true).getD j false=true)=(λj=>listed.getD j false=true\/j=i):=funext λj=>propext (hset j)
     rw[this];exact iR
 have hno:∀j,¬(Array.replicate ops.size false).getD j false=true:=λj=>by
  by_cases hj:j<ops.size <;> simp[Array.getD,hj]
 refine key ops.size _ a (drew w) (by simp) (λj o hj=>absurd hj (hno j)) ?_ ⟨0,Z,λ_=>none, ?_⟩
 .exact Nat.le_trans (List.length_filter_le _ _) (by simp)
 .have hpl:Sub Z (Z.plus λ_=>none):=⟨λb s L hL=>by rw[vK _ rfl];exact hL,λ_ _ _ _=>rfl⟩;refine⟨Nat.zero_le _,λj o _ _ h=>absurd h (Nat.not_lt_zero _),λj o _ _ _ hx=>absurd hx (hno j),by rw[e2];exact Good.drew hr,λb L h=>by simp at h,λj o s _ hx=>absurd hx (hno j),λb b' L L' h=>by simp at h, ?_,rfl,λ_ _=>rfl⟩
  rw[e1];refine⟨hf.1,λt0 _=>.inr ⟨λi hi=>absurd hi (hno i),(hf.2 t0).sub hpl⟩,λt0 h0=>?_⟩
  have:=(hf.2 t0).sub hpl;have hlt:¬t0<a.tmps.size:=by rw[<- hf.1];exact h0
  simpa [Array.getD,hlt] using this

theorem xNW(hz:zAX P)(hrec:RecSound P rec){Z0:Inj}{E0:St}{w0:World}{rd:Option Nat}{n:Nat}{Q:Exit->Act->World->Prop}{ds:List Deferred} :
  ∀(rest:List Oper) (k:Nat) {f t:Tm} {E O:St} {Z:Inj} {w:World} {a:Act},zQP P rec ops rest f E=some (t,O)->(∀i,i<rest.length->ops[k+i]?=rest[i]?)->k+rest.length=ops.size->rest.all zOB=true ->
  Good Z0 E0 w0 Z E w->TmR Z f a.tmps->a.defers=ds->(∀Z' a' w',Good Z0 E0 w0 Z' O w'->TmR Z' t a'.tmps->a'.defers=ds->Q .normal a' w')->wpOpsIn (Fw rd) n P ops Q ((List.range rest.length).map (k+·)) a w
 |[],k,f,t,E,O,Z,w,a,h,_,_,_,hg,hf,hd,hQ=>by
  simp[zQP]at h;obtain⟨rfl,rfl⟩:=h;exact hQ Z a w hg hf hd
 |o::rest,k,f,t,E,O,Z,w,a,h,hget,hk,hok,hg,hf,hd,hQ=>by
  simp only[List.all_cons,Bool.and_eq_true]at hok;have hl:(List.range (o::rest).length).map (k+·)=k::(List.range rest.length).map (k+1+·):=by
   rw[List.length_cons,List.range_succ_eq_map,List.map_cons,List.map_map];congr 1;refine List.map_congr_left (λi _=>?_);simp;omega
  rw[hl];have ho:ops[k]?=some o:=by have:=hget 0 (by simp);simpa using this
  have go:∀(v v':Value) (E':St) (Z':Inj) (w':World),zQP P rec ops rest (zQO f o.dst v) E'=some (t,O)->VR Z' v v'->Good Z E w Z' E' w'->wpOpsIn (Fw rd) n P ops Q ((List.range rest.length).map (k+1+·)) (a.put o.dst v') w':=by
   intro v v' E' Z' w' h' hv hg';refine xNW hz hrec rest (k+1) h' (λi hi=>?_) (by simp at hk;omega) hok.2 (hg.trans hg') ?_ ?_ hQ
   .have:=hget (i+1) (by simp;omega);simpa [Nat.add_assoc,Nat.add_comm 1 i] using this
   .unfold zQO Act.put;cases o.dst with
    |none=>exact hf.ext hg'.ext
    |some d=>exact(hf.ext hg'.ext).set d hv
   .rw[<- hd];unfold Act.put;split <;> rfl
  simp only[wpOpsIn,ho];unfold zQP at h;split at h
  .rename_i hgd;rw[zKZ hgd (λj want d _ _=>hf.2 d),if_pos rfl];split at h
   .rename_i v E' hop;rw[vZ]at h;exact yNZ hz hrec hop hg.rep (λx hx=>zPG hf (wKS hok.1 hx)) (λv' w' Z' hv hg'=>go v v' E' Z' w' h hv hg')
   .cases h
  .rename_i hgd;rw[zKZ hgd (λj want d _ _=>hf.2 d),if_neg (by simp)];rw[vZ]at h;exact⟨λf _=>yQC rd f,go undef undef E Z w h .undef (.refl hg.rep)⟩
  .cases h

theorem xBK(hz:zAX P)(hrec:RecSound P rec){f t:Tm}{O:St}{id:Nat}{rd:Option Nat}{n:Nat}{Q:Exit->Act->World->Prop}{a:Act}(hok:ops.toList.all zOB=true)
  (h:zQP P rec ops ops.toList f E=some (t,O)) (hr:Rep Z E w) (hf:TmR Z f a.tmps)
  (hQ:∀Z' a' w',Good Z E w Z' O w'->TmR Z' t a'.tmps->a'.defers=a.defers->Q .normal a' w'):(Code.region id ops false).wpIn (Fw rd) n P Q a w:=by
 refine wpIn_region ?_
 have:=xNW (rd:=rd) (n:=n) (Q:=Q) hz hrec ops.toList 0 h (λi _=>by simp) (by simp) hok (.refl hr) hf rfl hQ;simpa using this
end
end Go.Lay

namespace Go.Lay
open Go
variable{b:Frame}{k:List Item}{cs:List Frame}{c:Code}{Z Z':Inj}{l:Nat}{fr fr':Fr}{e:Exit}{E':St}

section
variable{F:Fence}{n:Nat}{P:Program}{Q:Exit->Act->World->Prop}{a:Act}{w:World}
theorem zBE:step P (lone (b.atR a (.code (.scope c)::k)) cs w)=.next (lone (b.atR a (.code c::.inScope c::k)) cs w) :=
 step_lone_go (by simp[stepG,stepG.exec,Frame.atR])
theorem yLN:step P (lone (b.atR a (.inScope c::k)) cs w)=.next (lone (b.atR a k) cs w) :=
 step_lone_go (by simp[stepG,stepG.exec,Frame.atR])
theorem xAK(h:c.wpIn F n P (λe a w=>(∀l,e≠.goto l)/\Q e a w) a w):(Code.scope c).wpIn F n P Q a w:=by
 intro b k cs hro hb hr;have h0:(lone (b.atR a (.code (.scope c)::k)) cs w).fenced P F:=fenced_calm hb hr rfl;obtain⟨e,iu,io,⟨hg,hq⟩,harr⟩:=h b (.inScope c::k) cs hro hb hr;cases e with
 |normal=>exact⟨.normal,iu,io,hq,.head h0 zBE (StepsIn.trans harr (.one (fenced_calm hb hr rfl) yLN))⟩
 |exit id =>
  exact⟨.exit id,iu,io,hq,λk' hk=>.head h0 zBE (harr.1 k' hk),λhr' hk=>let ⟨iN,h1,h2⟩:=harr.2 hr' hk;⟨iN,h1,.head h0 zBE h2⟩⟩
 |goto l=>exact absurd rfl (hg l)
 |ret=>exact⟨_,iu,io,hq,.of_steps (.one h0 zBE) harr⟩
 |panic ch=>exact⟨_,iu,io,hq,.of_steps (.one h0 zBE) harr⟩
 |outgrown=>exact⟨_,iu,io,hq,.of_steps (.one h0 zBE) harr⟩
theorem xHV(J:Nat->Act->World->Prop){N:Nat}(jb:J N a w)
  (round:∀m a w,J m a w->c.wpIn F n P (Exit.then (λa' w'=>∃m',m' < m/\J m' a' w') Q) a w):(Code.loop c).wpIn F n P Q a w:=by
 intro b k cs hro hb hr;have key:∀j a w,J j a w->∃e a' w',Q e a' w'/\ArrivesIn (Machine.fenced P F) P (lone (b.atR a (.code c::.inLoop c::k)) cs w) b k cs e a' w':=by
  intro j;induction j using Nat.strongRecOn with
  |_ j ih =>
   intro a w hJ;obtain⟨e,iu,io,hq,harr⟩:=round j a w hJ b (.inLoop c::k) cs hro hb hr;cases e with
   |normal =>
    obtain⟨m',hlt,hJ'⟩:=hq;obtain⟨iC,iL,ir,i9,harr2⟩:=ih m' hlt iu io hJ';exact⟨iC,iL,ir,i9,.of_steps (StepsIn.trans harr (.one (fenced_calm hb hr rfl) stepR_inLoop)) harr2⟩
   |exit id=>exact⟨_,iu,io,hq,.pass (x:=.inLoop c) rfl (λ_ _=>.inl (by simp)) harr⟩
   |goto l=>exact⟨_,iu,io,hq,.pass (x:=.inLoop c) rfl (λ_ _=>.inl (by simp)) harr⟩
   |ret=>exact⟨_,iu,io,hq,.pass (x:=.inLoop c) rfl (λ_ _=>.inl (by simp)) harr⟩
   |panic ch=>exact⟨_,iu,io,hq,.pass (x:=.inLoop c) rfl (λ_ _=>.inl (by simp)) harr⟩
   |outgrown=>exact⟨_,iu,io,hq,.pass (x:=.inLoop c) rfl (λ_ _=>.inl (by simp)) harr⟩
 obtain⟨e,a',w',hq,harr⟩:=key N a w jb;exact⟨e,a',w',hq,.of_steps (.one (fenced_calm hb hr rfl) stepR_loop) harr⟩
end

def xJZ(c:Nat):Deferred:={ target:=.collected c,args:=#[] }
inductive DefR(Z:Inj):List Nat->List Deferred->Prop
 |nil:DefR Z [] []
 |cons {m:Nat} {L:Loc} {ms:List Nat} {ds:List Deferred} (h:Z.loc m 0=some L) (t:DefR Z ms ds):DefR Z (m::ms) (xJZ L.c::ds)
theorem DefR.sub(e:Sub Z Z'){ms:List Nat}{ds:List Deferred}(h:DefR Z ms ds):DefR Z' ms ds:=by
 induction h with
 |nil=>exact .nil
 |cons h _ ih=>exact .cons (e.loc _ _ _ h) ih
structure FrR(Z:Inj)(fr:Fr)(a:Act):Prop where
 tms:TmR Z fr.f a.tmps
 defs:DefR Z fr.marks a.defers
theorem FrR.sub{Z Z':Inj}(e:Sub Z Z'){fr:Fr}{a:Act}(h:FrR Z fr a):FrR Z' fr a:=⟨h.tms.sub e,h.defs.sub e⟩
inductive RdR(Z:Inj):Option Nat->Option Nat->Prop
 |none:RdR Z none none
 |some {r:Nat} {L:Loc} (h:Z.loc r 0=some L):RdR Z (some r) (some L.c)
theorem RdR.sub(e:Sub Z Z'){rd rd':Option Nat}(h:RdR Z rd rd'):RdR Z' rd rd':=by
 cases h with
 |none=>exact .none
 |some h=>exact .some (e.loc _ _ _ h)

section
variable{P:Program}{rec:Rec}{Z:Inj}{E:St}{w:World}

theorem zID{tm:Tm}{ps:List Tmp}{as bo:Code}{st st':LoopState}{pend pend':Option Code}{db:Nat}(hr:Rep Z E w)(hb:yP E.heap l=some (.loop tm ps as bo st pend db)) :
  ∃L r,Z.loc l 0=some L/\w.heap[L.c]?=some (.loop r)/\r.state=st/\r.pending=pend/\TmR Z tm r.tmps/\r.params=ps.toArray/\r.assign=as/\r.body=bo/\vF as=true/\vF bo=true/\(∃Ld,Z.loc db 0=some Ld/\r.defers=Ld.c) /\
   Good Z E w Z (E.put l (.loop tm ps as bo st' pend' db)) (w.putObj L.c (.loop { r with state:=st',pending:=pend' })):=by
 cases (hr.blk _ _ hb).2 with
 |loop loc own locd row tms oka okb =>
  rename_i fn L Ld;have hlt:=hr.lt _ _ _ loc;refine⟨L,_,loc,row,rfl,rfl,tms,rfl,rfl,rfl,oka,okb,⟨Ld,locd,rfl⟩, ?_⟩
  refine Good.putBlk hr hb (Ext.refl _ _ _) (λ_ _ _=>rfl) (λb s L h=>by simpa using hr.lt b s L h) (λc b h=>by simpa using hr.ownlt c b h) (by simp)
   (λc _ hc=>World.putObj_heap_other (λe=>hc (by rw[e];exact own))) ⟨rfl,rfl,rfl⟩ (.one L.c (λc hc=>World.putObj_heap_other hc) (λ_ _ _ h=>by rw[World.putObj_heap_same hlt]at h;cases h)) ?_
  exact .loop loc own locd (World.putObj_heap_same hlt) tms oka okb

theorem xSO{d:Nat}(hr:Rep Z E w)(hb:yP E.heap d=some .defd):∃L,Z.loc d 0=some L/\w.heap[L.c]?=some (.deferred (some []))/\Good Z E w Z (E.shut d) (w.putObj L.c (.deferred none)):=by
 have hbd:=hr.blk _ _ hb;cases hbd.2 with
 |defd loc own row =>
  rename_i L;refine⟨L,loc,row,Ext.refl _ _ _,⟨λb y hby=>?_,λb s L h=>by simpa using hr.lt b s L h,λc b h=>by simpa using hr.ownlt c b h,hr.fresh⟩,⟨by simp,λc hc ho=>?_,rfl,rfl,rfl,.one L.c (λc hc=>World.putObj_heap_other hc) (λ_ _ _ h=>by rw[World.putObj_heap_same (hr.lt _ _ _ loc)]at h;cases h)⟩,by simp;omega,by simp⟩
  .rw[St.shut_get]at hby;by_cases hbe:b=d
   .rw[if_pos hbe]at hby;cases hby
   .rw[if_neg hbe]at hby;have h:=hr.blk b y hby;refine⟨h.1,h.2.keep (Ext.refl Z w.heap.size 0) hr.lt (λc hc ho=>World.putObj_heap_other (λe=>?_)) (λcs esz log next ro hy s hs=>?_)⟩
    .subst e;rcases ho with ho|ho
     .rw[own]at ho;cases ho;exact hbe rfl
     .rw[own]at ho;cases ho
    .have h2:=h.2;subst hy;cases h2 with|cells _ _ _ fresh=>exact fresh s hs
  .refine World.putObj_heap_other (λe=>?_);subst e;have:=ho d own;simp at this;omega

theorem ySZ(h:zFK l fr E=some (e,fr',E')):∃tm ps as bo st pend db,yP E.heap l=some (.loop tm ps as bo st pend db)/\st≠.busy/\fr'=fr /\
  E'=E.put l (.loop tm ps as bo .exhausted pend db)/\((pend=none/\e=.normal)\/(pend=some .ret/\e=.ret)\/∃id,pend=some (.exit id)/\e=.exit id):=by
 unfold zFK at h;split at h
 .rename_i tm ps as bo st pend db hb;refine⟨tm,ps,as,bo,st,pend,db,hb, ?_⟩
  split at h
  .cases h
  .rename_i hst;rw[St.write_eq]at h;refine⟨λe=>hst e, ?_⟩
   split at h
   .simp at h;obtain⟨rfl,rfl,rfl⟩:=h;exact⟨rfl,rfl,.inl ⟨rfl,rfl⟩⟩
   .simp at h;obtain⟨rfl,rfl,rfl⟩:=h;exact⟨rfl,rfl,.inr (.inl ⟨rfl,rfl⟩)⟩
   .simp at h;obtain⟨rfl,rfl,rfl⟩:=h;exact⟨rfl,rfl,.inr (.inr ⟨_,rfl,rfl⟩)⟩
   .cases h
 .cases h

theorem yHJ(h:zFK l fr E=some (e,fr',E'))(hr:Rep Z E w){a:Act}{rd:Option Nat}{n:Nat}{Q:Exit->Act->World->Prop}{L:Loc}(hl:Z.loc l 0=some L)
  (hQ:∀w',Good Z E w Z E' w'->fr'=fr->Q e a w'):∃jump iM,(Instr.endLoop L.c).run P w=.ok jump iM/\(match jump with|none=>Q .normal a iM|some c=>c.wpIn (Fw rd) n P Q a iM):=by
 obtain⟨tm,ps,as,bo,st,pend,db,hb,hst,rfl,rfl,hcase⟩:=ySZ h;obtain⟨L',r,h1,h2,h3,h4,_,_,_,_,_,_,_,hg⟩:=zID (st':=.exhausted) (pend':=pend) hr hb;rw[hl]at h1;cases h1;have hq:=hQ _ hg rfl;refine⟨r.pending,_,run_endLoop h2 (by rw[h3];exact hst), ?_⟩
 have hr2:(w.putObj L.c (.loop { r with state:=.exhausted }))=(w.putObj L.c (.loop { r with state:=.exhausted,pending:=pend })):=by rw[<- h4]
 rw[hr2,h4];rcases hcase with ⟨hp,he⟩|⟨hp,he⟩|⟨id,hp,he⟩
 .rw[hp]at hq ⊢;rw[he]at hq;exact hq
 .rw[hp]at hq ⊢;rw[he]at hq;exact wpIn_ret hq
 .rw[hp]at hq ⊢;rw[he]at hq;exact wpIn_exit hq

theorem zRK(hrec:RecSound P rec){g:Operand}{ps:Array Tmp}{as bo:Code}{db:Nat}{fr fr':Fr}{e:Exit}{E':St}(h:zKL rec g ps as bo db fr E=some (e,fr',E'))(hr:Rep Z E w){a:Act}(hf:FrR Z fr a)
  (hgk:zLE g=true) (ha:vF as=true) (hb:vF bo=true) {Ld:Loc} (hd:Z.loc db 0=some Ld) (fn:FuncId) {rd:Option Nat} {n:Nat} {Q:Exit->Act->World->Prop}
  (hQ:∀Z' w',Good Z E w Z' E' w'->FrR Z' fr' a->Q e a w') :
  let io:=w.alloc (.loop { state:=.ready,pending:=none,fn,tmps:=a.tmps,params:=ps,assign:=as,body:=bo,defers:=Ld.c })
  ∃d f args,(resolve a.eval (rangeCall g w.heap.size) 0).run P io=.ok d io/\(invoke d.target d.args).run P io=.ok (.enter f args) io/\CallsIn (Fw rd) (n-1) P f args io (rangePost (Fw rd) n P w.heap.size Q a):=by
 intro io;unfold zKL at h;rw[St.new_eq]at h;have e0:=Inj.add_ext (n:=0) (z:=0) hr (hr.free _);have hg1:Good Z E w (Z.add E.j w.heap.size 0 0) (E.add (.loop fr.f ps.toList as bo .ready none db)) io :=
  Good.addBlk hr (hr.free _) (λ_ _ _ h=>by cases h) (.loop (fn:=fn) (Inj.add_loc _ _ _ _) (by simp[Inj.add]) (e0.loc _ _ _ hd) (by rw[World.push_new]) (hf.tms.ext e0) ha hb)
 split at h
 .rename_i hh args href;have hev:VR (Z.add E.j w.heap.size 0 0) (yV fr.f g) (a.eval g):=(zPG hf.tms hgk).ext hg1.ext;have harg:VRs (Z.add E.j w.heap.size 0 0) [.func (.yield E.j) #[] #[]] [.func (.yield w.heap.size) #[] #[]] :=
   .cons (.func (.yield (L:=⟨w.heap.size,0,0,0⟩) (Inj.add_loc _ _ _ _)) rfl (λi v v' h=>by simp at h) rfl (λi v v' h=>by simp at h)) .nil
  obtain⟨as',hvs,hcase⟩:=yJE (P:=P) href hev harg;rcases hcase with ⟨f,cap,hfe,d,hd1,hd2,hd3⟩|⟨l0,_,_,hfe,_⟩
  .cases hfe
   split at h
   .rename_i jn iK hc;obtain⟨⟨fn',hfn,hbody,hname⟩,hcall⟩:=yJF hrec hc hg1.rep hvs;refine⟨d,hh,⟨as'⟩, ?_, ?_,CallsIn.mono (hcall rd _) (λe' jh hR=>?_)⟩
    .have:=hd1 io;simpa [resolve,Act.eval] using this
    .have hb:fn'.body≠none:=by cases hb:fn'.body <;> simp_all
     rw[hd2];simp[invoke,callFunc,hfn,hb,hname,hd3]
    .cases e' with
     |returned v' =>
      obtain⟨Z3,_,hg3⟩:=hR;have hl3:Z3.loc E.j 0=some ⟨w.heap.size,0,0,0⟩:=hg3.ext.loc _ _ _ (Inj.add_loc _ _ _ _);obtain⟨jump,iM,h1,h2⟩:=yHJ (P:=P) (rd:=rd) (n:=n) (Q:=Q) (a:=a) h hg3.rep hl3 (λw' hg4 hfr=>hQ Z3 w' ((hg1.trans hg3).trans hg4) (by rw[hfr];exact(hf.sub hg1.ext.sub).sub hg3.ext.sub));exact⟨jump,iM,h1,h2⟩
     |panicked _=>exact hR.elim
     |outgrown=>exact hR.elim
   .cases h
  .cases hfe
 .cases h

theorem yTA(hrec:RecSound P rec){g:Operand}{ps:Array Tmp}{as bo:Code}{fr fr':Fr}{e:Exit}{E':St}{r:Option Nat}(h:zSV rec r g ps as bo fr E=some (e,fr',E'))(hr:Rep Z E w){a:Act}(hf:FrR Z fr a)
  {rd:Option Nat} (hrd:RdR Z r rd) (hgk:zLE g=true) (ha:vF as=true) (hb:vF bo=true) {n:Nat} {Q:Exit->Act->World->Prop}
  (hQ:∀Z' a' w',Good Z E w Z' E' w'->FrR Z' fr' a'->Q e a' w'):(Code.rangeFunc g ps as bo).wpIn (Fw rd) n P Q a w:=by
 refine wpIn_rangeFunc (λfn _=>?_);unfold zSV at h;cases hrd with
 |none =>
  simp only[St.new_eq]at h;have hg1:Good Z E w (Z.add E.j w.heap.size 0 0) (E.add .defd) (w.alloc (.deferred (some []))) :=
   Good.addBlk hr (hr.free _) (λ_ _ _ h=>by cases h) (.defd (Inj.add_loc _ _ _ _) (by simp[Inj.add]) (World.push_new _ _))
  have hf1:FrR (Z.add E.j w.heap.size 0 0) ⟨fr.f,E.j::fr.marks⟩ { a with defers:=xJZ w.heap.size::a.defers } :=
   ⟨hf.tms.ext hg1.ext,.cons (L:=⟨w.heap.size,0,0,0⟩) (Inj.add_loc _ _ _ _) (hf.defs.sub hg1.ext.sub)⟩
  obtain⟨d,f,args,h1,h2,h3⟩:=zRK hrec h hg1.rep hf1 hgk ha hb (Ld:=⟨w.heap.size,0,0,0⟩) (Inj.add_loc _ _ _ _) fn (rd:=none) (n:=n) (Q:=Q) (λZ' w' hg hf'=>hQ Z' _ w' (hg1.trans hg) hf');have e1:(w.alloc (.deferred (some []))).heap.size=w.heap.size+1:=World.push_size w _;rw[e1]at h1 h3;exact⟨_,[xJZ w.heap.size],_,d,_,f,args,_,run_enterLoop_outer fn a.tmps ps as bo,h1,λ_ _=>yQC none _,h2,λhs=>zXO none hs n,h3⟩
 |@some r0 L hl =>
  simp only at h;split at h
  .rename_i hbk;obtain⟨L',rr,k1,k2,_,_,_,_,_,_,_,_,⟨Ld,k3,k4⟩,_⟩:=zID (st':=.ready) (pend':=none) hr hbk;rw[hl]at k1;cases k1;obtain⟨d,f,args,h1,h2,h3⟩:=zRK hrec h hr hf hgk ha hb k3 fn (rd:=some L.c) (n:=n) (Q:=Q) (λZ' w' hg hf'=>hQ Z' _ w' hg hf');refine⟨w.heap.size,[],_,d,_,f,args,_, ?_,h1,λ_ _=>yQC _ _,h2,λhs=>zXO _ hs n,h3⟩
   show(Instr.enterLoop fn a.tmps ps as bo (some L.c)).run P w=_;simp only[Instr.enterLoop,Sem.run_bind,run_getLoop k2,Result.andThen_ok,Sem.run_pure,run_newObj_alloc,k4]
  .cases h

theorem yUT(fuel:Nat)(rd:Option Nat):∀(c:Code) (fr:Fr) (E:St) (e:Exit) (fr':Fr) (E':St),xK P rec fuel rd c fr E=some (e,fr',E')->∀l,e≠.goto l:=by
 intro c;induction c with
 |skip=>intro fr E e fr' E' h l;simp[xK]at h;rw[<- h.1];simp
 |label _=>intro fr E e fr' E' h l;simp[xK]at h;rw[<- h.1];simp
 |ret=>intro fr E e fr' E' h l;simp[xK]at h;rw[<- h.1];simp
 |exit _=>intro fr E e fr' E' h l;simp[xK]at h;rw[<- h.1];simp
 |goto _=>intro fr E e fr' E' h;simp[xK]at h
 |refuse _=>intro fr E e fr' E' h;simp[xK]at h
 |seq x y ihx ihy =>
  intro fr E e fr' E' h;simp only[xK,xYU]at h;split at h
  .exact ihy _ _ _ _ _ h
  .exact ihx _ _ _ _ _ h
 |cond c x y ihx ihy =>
  intro fr E e fr' E' h;simp only[xK,xDG]at h;split at h
  .split at h
   .exact ihx _ _ _ _ _ h
   .exact ihy _ _ _ _ _ h
  .cases h
 |block id c ih =>
  intro fr E e fr' E' h l;simp only[xK,zZG]at h;split at h
  .rcases zCZ h with ⟨_,h⟩|⟨_,h⟩ <;> (simp at h;rw[<- h.1];simp)
  .exact ih _ _ _ _ _ h l
 |scope c ih=>intro fr E e fr' E' h;exact ih _ _ _ _ _ h
 |loop c ih =>
  intro fr E e fr' E' h;simp only[xK]at h;have key:∀n fr E,zFN (xK P rec fuel rd c) n fr E=some (e,fr',E')->∀l,e≠.goto l:=by
   intro n;induction n with
   |zero=>intro fr E h;simp[zFN]at h
   |succ n ihn =>
    intro fr E h;simp only[zFN]at h;split at h
    .exact ihn _ _ h
    .exact ih _ _ _ _ _ h
  exact key _ _ _ h
 |region id ops draw =>
  intro fr E e fr' E' h l;simp only[xK,zPY]at h;split at h
  .simp at h;rw[<- h.1];simp
  .cases h
 |rangeFunc g ps as bo _ _ =>
  intro fr E e fr' E' h l;have endn:∀(l0:Nat) (fr:Fr) (E:St),zFK l0 fr E=some (e,fr',E')->e≠.goto l:=by
   intro l0 fr E h;unfold zFK at h;split at h
   .split at h
    .cases h
    .rw[St.write_eq]at h;split at h <;> first|(simp at h;rw[<- h.1];simp)|cases h
   .cases h
  have gon:∀(db:Nat) (fr:Fr) (E:St),zKL rec g ps as bo db fr E=some (e,fr',E')->e≠.goto l:=by
   intro db fr E h;unfold zKL at h;rw[St.new_eq]at h;split at h
   .split at h
    .exact endn _ _ _ h
    .cases h
   .cases h
  simp only[xK,zSV]at h;split at h
  .rw[St.new_eq]at h;exact gon _ _ _ h
  .split at h
   .exact gon _ _ _ h
   .cases h

theorem uK(hm:P.follows .mixedOrders=true)(hz:zAX P)(hrec:RecSound P rec)(fuel:Nat)(r:Option Nat):∀(c:Code),vF c=true->∀(fr:Fr) (E:St) (e:Exit) (fr':Fr) (E':St),xK P rec fuel r c fr E=some (e,fr',E') ->
  ∀(Z:Inj) (w:World) (a:Act) (rd:Option Nat) (n:Nat) (Q:Exit->Act->World->Prop),Rep Z E w->FrR Z fr a->RdR Z r rd->(∀Z' a' w',Good Z E w Z' E' w'->FrR Z' fr' a'->Q e a' w')->c.wpIn (Fw rd) n P Q a w:=by
 intro c;induction c with
 |skip=>intro _ fr E e fr' E' h Z w a rd n Q hr hf _ hQ;simp[xK]at h;obtain⟨rfl,rfl,rfl⟩:=h;exact wpIn_skip (hQ Z a w (.refl hr) hf)
 |label _=>intro _ fr E e fr' E' h Z w a rd n Q hr hf _ hQ;simp[xK]at h;obtain⟨rfl,rfl,rfl⟩:=h;exact wpIn_label (hQ Z a w (.refl hr) hf)
 |ret=>intro _ fr E e fr' E' h Z w a rd n Q hr hf _ hQ;simp[xK]at h;obtain⟨rfl,rfl,rfl⟩:=h;exact wpIn_ret (hQ Z a w (.refl hr) hf)
 |exit _=>intro _ fr E e fr' E' h Z w a rd n Q hr hf _ hQ;simp[xK]at h;obtain⟨rfl,rfl,rfl⟩:=h;exact wpIn_exit (hQ Z a w (.refl hr) hf)
 |goto _=>intro _ fr E e fr' E' h;simp[xK]at h
 |refuse _=>intro _ fr E e fr' E' h;simp[xK]at h
 |seq x y ihx ihy =>
  intro hok fr E e fr' E' h Z w a rd n Q hr hf hrd hQ;simp only[vF,Bool.and_eq_true]at hok;simp only[xK,xYU]at h;refine wpIn_seq ?_
  split at h
  .rename_i iF V1 h1;refine ihx hok.1 _ _ _ _ _ h1 Z w a rd n _ hr hf hrd (λig iu io hg1 hf1=>?_);exact ihy hok.2 _ _ _ _ _ h ig io iu rd n Q hg1.rep hf1 (hrd.sub hg1.ext.sub) (λip iL ir hg2 hf2=>hQ ip iL ir (hg1.trans hg2) hf2)
  .rename_i hno;refine ihx hok.1 _ _ _ _ _ h Z w a rd n _ hr hf hrd (λig iu io hg1 hf1=>?_);cases e with
   |normal=>exact absurd h (hno _ _)
   |_=>exact hQ ig iu io hg1 hf1
 |cond c x y ihx ihy =>
  intro hok fr E e fr' E' h Z w a rd n Q hr hf hrd hQ;simp only[vF,Bool.and_eq_true]at hok;simp only[xK,xDG]at h;have hc:=zPG hf.tms hok.1.1;split at h
  .rename_i t ht;rw[ht]at hc;have hcb:=hc.bool_inv;cases t with
   |true=>exact wpIn_cond_true hcb (ihx hok.1.2 _ _ _ _ _ h Z w a rd n Q hr hf hrd hQ)
   |false=>exact wpIn_cond_false hcb (ihy hok.2 _ _ _ _ _ h Z w a rd n Q hr hf hrd hQ)
  .cases h
 |block id c ih =>
  intro hok fr E e fr' E' h Z w a rd n Q hr hf hrd hQ;simp only[xK,zZG]at h;refine wpIn_block ?_
  split at h
  .rename_i i iF V1 h1;refine ih hok _ _ _ _ _ h1 Z w a rd n _ hr hf hrd (λig iu io hg1 hf1=>?_);rcases zCZ h with ⟨hi,h⟩|⟨hi,h⟩
   .simp at h;obtain⟨rfl,rfl,rfl⟩:=h;simp only[Exit.inBlock];rw[if_pos (Nat.eq_of_beq_eq_true hi)];exact hQ ig iu io hg1 hf1
   .simp at h;obtain⟨rfl,rfl,rfl⟩:=h;simp only[Exit.inBlock];rw[if_neg (λe=>by rw[e,Nat.beq_refl]at hi;cases hi)];exact hQ ig iu io hg1 hf1
  .rename_i hno;refine ih hok _ _ _ _ _ h Z w a rd n _ hr hf hrd (λig iu io hg1 hf1=>?_);cases e with
   |exit i=>exact absurd h (hno _ _ _)
   |_=>exact hQ ig iu io hg1 hf1
 |scope c ih =>
  intro hok fr E e fr' E' h Z w a rd n Q hr hf hrd hQ;refine xAK (ih hok _ _ _ _ _ h Z w a rd n _ hr hf hrd (λig iu io hg1 hf1=>⟨yUT fuel r c _ _ _ _ _ h,hQ ig iu io hg1 hf1⟩))
 |loop c ih =>
  intro hok fr E e fr' E' h Z w a rd n Q hr hf hrd hQ;simp only[xK]at h;refine xHV (λm iu io=>∃iF V1 ig,zFN (xK P rec fuel r c) m iF V1=some (e,fr',E')/\Good Z E w ig V1 io/\FrR ig iF iu) ⟨fr,E,Z,h,.refl hr,hf⟩ (λm iu io ⟨iF,V1,ig,hl,hg1,hf1⟩=>?_);cases m with
  |zero=>simp[zFN]at hl
  |succ m =>
   simp only[zFN]at hl;split at hl
   .rename_i iP il h2;exact ih hok _ _ _ _ _ h2 ig io iu rd n _ hg1.rep hf1 (hrd.sub hg1.ext.sub) (λip iL ir hg2 hf2=>⟨m,by omega,iP,il,ip,hl,hg1.trans hg2,hf2⟩)
   .rename_i hno;refine ih hok _ _ _ _ _ hl ig io iu rd n _ hg1.rep hf1 (hrd.sub hg1.ext.sub) (λip iL ir hg2 hf2=>?_);cases e with
    |normal=>exact absurd hl (hno _ _)
    |_=>exact hQ ip iL ir (hg1.trans hg2) hf2
 |region id ops draw =>
  intro hok fr E e fr' E' h Z w a rd n Q hr hf hrd hQ;simp only[vF]at hok;simp only[xK,zPY]at h;split at h
  .rename_i je V1 h1;simp at h;obtain⟨rfl,rfl,rfl⟩:=h;have fin:∀Z' a' w',Good Z E w Z' V1 w'->TmR Z' je a'.tmps->a'.defers=a.defers->Q .normal a' w':=λZ' a' w' hg ht hd=>hQ Z' a' w' hg ⟨ht,by rw[hd];exact hf.defs.sub hg.ext.sub⟩
   cases draw with
   |true=>exact xBL hm hz hrec hok h1 hr hf.tms fin
   |false=>exact xBK hz hrec hok h1 hr hf.tms fin
  .cases h
 |rangeFunc g ps as bo _ _ =>
  intro hok fr E e fr' E' h Z w a rd n Q hr hf hrd hQ;simp only[vF,Bool.and_eq_true]at hok;exact yTA hrec h hr hf hrd hok.1.1 hok.1.2 hok.2 hQ
end
end Go.Lay

namespace Go.Lay
open Go

structure ProgOk(P:Program):Prop where
 mixed:P.follows .mixedOrders=true
 zero:zAX P
 code : ∀ (f : FuncId) (fn : Func) (c : Code), P.funcs[f]? = some fn → fn.body = some c → vF c = true ∧ fn.name ≠ "runtime.NumGoroutine"

theorem Tm.puts_eq{ie:Type}:∀(l:List (Nat×Value)) (f:Tm) (k:Tm->ie),Tm.puts l f k=k (l.foldl (λf p=>f.set p.1 p.2) f)
 |[],_,_=>rfl
 |(i,v)::l,f,k=>by rw[Tm.puts,Tm.put_eq,Tm.puts_eq l];rfl

section
variable{P:Program}{Z:Inj}{E:St}{w:World}

theorem xEJ:∀(args args':List Value) (k:Nat) (f:Tm) (tm:Array Value),VRs Z args args'->TmR Z f tm->TmR Z ((Tm.args k args).foldl (λf p=>f.set p.1 p.2) f) ((Tm.args k args').foldl (λt p=>t.setIfInBounds p.1 p.2) tm)
 |[],[],_,_,_,_,h=>h
 |[],_::_,_,_,_,h,_=>by cases h
 |_::_,[],_,_,_,h,_=>by cases h
 |v::l,v'::l',k,f,tm,h,ht=>by
  cases h with
  |cons hv hl=>exact xEJ l l' (k+1) _ _ hl (ht.set k hv)

theorem yJL:∀(l:List Value) (k:Nat) (tm:Array Value),k+l.length<=tm.size->((Tm.args k l).foldl (λ(t:Array Value) p=>t.setIfInBounds p.1 p.2) tm).toList=tm.toList.take k++(l++tm.toList.drop (k+l.length))
 |[],k,tm,_=>by simp[Tm.args]
 |v::l,k,tm,h=>by
  simp only[List.length_cons]at h;simp only[Tm.args,List.foldl_cons];rw[yJL l (k+1) _ (by simp;omega)];have hlt:k<tm.toList.length:=by simp;omega
  simp only[Array.toList_setIfInBounds,List.length_cons];have e1:(tm.toList.set k v).take (k+1)=tm.toList.take k++[v]:=by
   rw[List.take_succ_eq_append_getElem (by simpa using hlt),List.take_set_of_le (Nat.le_refl _)];simp
  have e2:(tm.toList.set k v).drop (k+1+l.length)=tm.toList.drop (k+(l.length+1)):=by
   rw[List.drop_set_of_lt (by omega)];congr 1;omega
  rw[e1,e2];simp

theorem yOU:∀(p:List Bool) (d:Nat),Tr.getP p (xCY d)=none\/Tr.getP p (xCY d)=some undef
 |p,0=>.inl (Tr.getP_leaf p)
 |[],d+1=>.inr rfl
 |b::p,d+1=>by cases b <;> exact yOU p d
theorem xUP(n i:Nat):(fresh n).nth i=undef:=by
 unfold fresh Tm.nth;rcases yOU (way i) ((way n).length+1)with h|h <;> simp only[h]

theorem yPB{args args':List Value}(h:VRs Z args args')(N:Nat) :
  TmR Z ((Tm.args 0 args).foldl (λf p=>f.set p.1 p.2) (fresh (args.length+(N-args.length)))) ((⟨args'⟩:Array Value)++Array.replicate (N-(⟨args'⟩:Array Value).size) undef):=by
 have h0:TmR Z (fresh (args.length+(N-args.length))) (Array.replicate (args'.length+(N-args'.length)) undef):=by
  refine⟨by simp[fresh,h.length],λi=>?_⟩
  have e1:(fresh (args.length+(N-args.length))).nth i=undef:=xUP _ _;have e2:(Array.replicate (args'.length+(N-args'.length)) undef).getD i undef=undef:=by
   by_cases hi:i<args'.length+(N-args'.length) <;> simp[Array.getD,hi]
  rw[e1,e2];exact .undef
 have h1:=xEJ args args' 0 _ _ h h0;have h2:((Tm.args 0 args').foldl (λ(t:Array Value) p=>t.setIfInBounds p.1 p.2) (Array.replicate (args'.length+(N-args'.length)) undef))=(⟨args'⟩:Array Value)++Array.replicate (N-(⟨args'⟩:Array Value).size) undef:=by
  apply Array.ext';rw[yJL args' 0 _ (by simp)];simp
 rw[h2]at h1;exact h1

theorem xMT:∀(ps:List Nat) (args args':List Value) (f:Tm) (tm:Array Value),VRs Z args args'->TmR Z f tm->TmR Z ((ps.zip args).foldl (λf p=>f.set p.1 p.2) f) ((ps.zip args').foldl (λt p=>t.setIfInBounds p.1 p.2) tm)
 |[],_,_,_,_,_,h=>by simpa using h
 |p::ps,[],[],_,_,_,h=>by simpa using h
 |p::ps,[],_::_,_,_,h,_=>by cases h
 |p::ps,_::_,[],_,_,h,_=>by cases h
 |p::ps,v::l,v'::l',f,tm,h,ht=>by
  cases h with
  |cons hv hl=>exact xMT ps l l' _ _ hl (ht.set p hv)

def zYB(tms:Array Value):ResultVar->Sem Value
 |.tmp t=>pure (tms.getD t undef)
 |.cell a t=>do loadVar t (<- asAddr (tms.getD a undef))
theorem xIM(fn:Func)(tms:Array Value):results fn tms=(do let vs <- fn.results.mapM (zYB tms);pure (if h:vs.size=1 then vs[0]else .tuple vs)):=rfl
theorem zRI{f:Tm}{tms:Array Value}(hr:Rep Z E w)(ht:TmR Z f tms):∀(rs:List ResultVar) (vs:List Value),zAH P f E rs=some vs ->
  ∃vs',VRs Z vs vs'/\(rs.mapM (zYB tms)).run P w=.ok vs' w
 |[],vs,h=>by simp[zAH]at h;subst h;exact⟨[],.nil,by simp⟩
 |r::rs,vs,h=>by
  simp only[zAH]at h;split at h
  .rename_i v hv;split at h
   .rename_i vs0 hvs;simp at h;subst h;obtain⟨vs',h1,h2⟩:=zRI hr ht rs vs0 hvs;cases r with
    |tmp t =>
     simp[zVZ]at hv;subst hv;refine⟨tms.getD t undef::vs',.cons (ht.2 t) h1, ?_⟩
     rw[List.mapM_cons];simp only[zYB,Sem.run_bind,Sem.run_pure,Result.andThen_ok,h2]
    |cell a t =>
     simp only[zVZ]at hv;split at hv
     .rename_i a0 ha0;have hp:=ht.2 a;rw[ha0]at hp;obtain⟨L,hl,hlo,e⟩:=hp.ptr_inv;obtain⟨v',g1,g2⟩:=yBY (P:=P) hv hr hl hlo;refine⟨v'::vs',.cons g2 h1, ?_⟩
      have g0:(zYB tms (.cell a t)).run P w=.ok v' w:=by
       simp only[zYB,e,asAddr,Sem.run_bind,Sem.run_pure,Result.andThen_ok,g1]
      rw[List.mapM_cons];simp only[Sem.run_bind,Sem.run_pure,Result.andThen_ok,g0,h2]
     .cases hv
   .cases h
  .cases h

theorem xBJ{fn:Func}{f:Tm}{tms:Array Value}{v:Value}(hr:Rep Z E w)(ht:TmR Z f tms)(h:zHU P fn f E=some v):∃v',(results fn tms).run P w=.ok v' w/\VR Z v v':=by
 unfold zHU at h;have key:∀vs,zAH P f E fn.results.toList=some vs->∃vs',VRs Z vs vs'/\(results fn tms).run P w=.ok (if h:(⟨vs'⟩:Array Value).size=1 then(⟨vs'⟩:Array Value)[0]else .tuple ⟨vs'⟩) w:=by
  intro vs hvs;obtain⟨vs',h1,h2⟩:=zRI hr ht _ _ hvs;refine⟨vs',h1, ?_⟩
  have h3:(fn.results.mapM (zYB tms)).run P w=.ok ⟨vs'⟩ w:=by
   rw[Array.mapM_eq_mapM_toList];simp[h2]
  rw[xIM,Sem.run_bind,h3];rfl
 split at h
 .rename_i v0 hv;simp at h;subst h;obtain⟨vs',h1,h2⟩:=key _ hv;cases h1 with
  |cons hv0 hn =>
   cases hn
   rename_i v';refine⟨v', ?_,hv0⟩
   rw[h2];simp
 .rename_i vs hne hv;simp at h;subst h;obtain⟨vs',h1,h2⟩:=key _ hv;have hlen:=h1.length;have hl1:¬(⟨vs'⟩:Array Value).size=1:=by
   intro e;have e:vs'.length=1:=e;rw[<- hlen]at e;obtain⟨x,hx⟩:=List.length_eq_one_iff.1 e;exact hne x hx
  refine⟨.tuple ⟨vs'⟩, ?_,.tuple' h1⟩
  rw[h2,dif_neg hl1]
 .cases h

theorem zKT{fn:Func}{f:Tm}{tms:Array Value}{v:Value}{n:Nat}{R:Ending->World->Prop}:∀(marks:List Nat) (ds:List Deferred) (E:St) (w:World) (V1:St),zCX marks E=some V1->DefR Z marks ds->Rep Z E w->TmR Z f tms ->
  zHU P fn f V1=some v->(∀v' w',VR Z v v'->Good Z E w Z V1 w'->R (.returned v') w')->LeavesInM (Fw none) n P fn tms R ds .returning w
 |[],ds,E,w,V1,h,hd,hr,ht,hres,hR=>by
  cases hd
  simp[zCX]at h;subst h;obtain⟨v',h1,h2⟩:=xBJ hr ht hres;exact⟨v',h1,hR v' w h2 (.refl hr)⟩
 |m::ms,ds,E,w,V1,h,hd,hr,ht,hres,hR=>by
  cases hd with
  |cons hl hds =>
   rename_i L ds;simp only[zCX]at h;split at h
   .rename_i hb;rw[St.drop_eq]at h;obtain⟨L',h1,h2,hg⟩:=xSO hr hb;rw[hl]at h1;cases h1;refine⟨by simp,.inl ⟨L.c,_,rfl,run_takeDeferred h2, ?_⟩⟩
    exact zKT ms ds _ _ V1 h hds hg.rep ht hres (λv' w' hv hg'=>hR v' w' hv (hg.trans hg'))
   .cases h

theorem zKK(hP:ProgOk P):∀n,RecSound P (zZ P n)
 |0=>⟨λf args E v E' h=>by simp[zZ]at h,λl args E v E' h=>by simp[zZ]at h⟩
 |n+1=>by
  have ih:=zKK hP n;refine⟨λf args E v E' h Z w args' hr ha=>?_,λl args E v E' h Z w args' L hr ha hl m=>?_⟩
  .simp only[zZ]at h;split at h
   .rename_i fn hfn;split at h
    .rename_i c hc;rw[Tm.puts_eq]at h;obtain⟨hok,hname⟩:=hP.code f fn c hfn hc;refine⟨⟨fn,hfn,by rw[hc];rfl,hname⟩,λm=>?_⟩
     have fin:∀(e:Exit) (fr':Fr) (V1:St),(e=.normal\/e=.ret)->yCC P fn fr' V1=some (v,E')->∀Z' a' w',Good Z E w Z' V1 w'->FrR Z' fr' a'->bodyPostM (Fw none) m P fn (zPH Z E w v E') e a' w':=by
      intro e fr' V1 he hd Z' a' w' hg hf;have:LeavesInM (Fw none) m P fn a'.tmps (zPH Z E w v E') a'.defers .returning w':=by
       unfold yCC at hd;split at hd
       .rename_i il hdr;split at hd
        .rename_i v0 hres;rw[zON]at hd;simp at hd;obtain⟨rfl,rfl⟩:=hd;exact zKT fr'.marks a'.defers V1 w' il hdr hf.defs hg.rep hf.tms hres (λv' ir hv hg2=>⟨Z',hv,hg.trans hg2⟩)
        .cases hd
       .cases hd
      rcases he with rfl|rfl <;> exact this
     refine callsIn_of_wp_marks hfn hc trivial ?_
     have hfr0:FrR Z ⟨(Tm.args 0 args).foldl (λf p=>f.set p.1 p.2) (fresh (args.length+(fn.ntmps-args.length))),[]⟩ { tmps:=(⟨args'⟩:Array Value)++Array.replicate (fn.ntmps-(⟨args'⟩:Array Value).size) undef,defers:=[] } :=
      ⟨yPB ha fn.ntmps,.nil⟩
     unfold wCP at h;split at h
     .rename_i fr' V1 hcode;exact uK hP.mixed hP.zero ih n none c hok _ _ _ _ _ hcode Z w _ none m _ hr hfr0 .none (fin _ fr' V1 (.inl rfl) h)
     .rename_i fr' V1 hcode;exact uK hP.mixed hP.zero ih n none c hok _ _ _ _ _ hcode Z w _ none m _ hr hfr0 .none (fin _ fr' V1 (.inr rfl) h)
     .cases h
    .cases h
   .cases h
  .simp only[zZ]at h;split at h
   .rename_i tm ps as bo st pend db hb;obtain⟨hlen,h⟩:=wV h;have hlen:=Nat.eq_of_beq_eq_true hlen;rw[Tm.puts_eq]at h;obtain⟨L',r,h1,h2,h3,_,h5,h6,h7,h8,oka,okb,_,_⟩:=zID (st':=st) (pend':=pend) hr hb;rw[hl]at h1;cases h1;have hsz:(⟨args'⟩:Array Value).size=r.params.size:=by rw[h6];simp;rw[<- ha.length];exact hlen
    refine⟨r.fn,_,r.assign,r.body,run_yield h2 hsz, ?_⟩
    rw[h7,h8];refine roundIn_of_wpIn trivial ?_
    have htm:TmR Z ((ps.zip args).foldl (λf p=>f.set p.1 p.2) tm) ((r.params.zip (⟨args'⟩:Array Value)).foldl (λtmps (t,a)=>tmps.setIfInBounds t a) r.tmps):=by
     have:=xMT ps args args' tm r.tmps ha h5;rw[h6,<- Array.foldl_toList,Array.toList_zip];exact this
    unfold zPX at h;split at h
    .rename_i iF V1 hcode;split at h
     .rename_i tm1 ps1 as1 bo1 pend1 db1 hb1;rw[St.write_eq]at h;refine uK hP.mixed hP.zero ih n (some l) as oka _ _ _ _ _ hcode Z w _ (some L.c) m _ hr ⟨htm,.nil⟩ (.some hl) (λig iu io hg1 hf1=>?_);obtain⟨L1,r1,k1,k2,k3,k4,_,_,_,_,_,_,_,hg2⟩:=zID (st':=.busy) (pend':=pend1) hg1.rep hb1;have hl1:=hg1.ext.loc _ _ _ hl;rw[hl1]at k1;cases k1;have hw:io.putObj L.c (.loop { r1 with state:=.busy })=io.putObj L.c (.loop { r1 with state:=.busy,pending:=pend1 }):=by rw[<- k4]
      refine⟨_,run_beginRound k2 k3, ?_⟩
      rw[hw];have fin:∀(jump:Option Code) (il:St),zFJ l jump il=some (v,E')->∀ip ir,Good ig (V1.put l (.loop tm1 ps1 as1 bo1 .busy pend1 db1)) (io.putObj L.c (.loop { r1 with state:=.busy,pending:=pend1 })) ip il ir ->
        ∃v' w',(Instr.endRound L.c jump).run P ir=.ok v' w'/\zPH Z E w v E' (.returned v') w':=by
       intro jump il hend ip ir hg3
       have hl2:=hg3.ext.loc _ _ _ hl1
       unfold zFJ at hend
       split at hend
       .rename_i hb2;cases jump with
        |none =>
         simp only[St.write_eq]at hend;simp at hend;obtain⟨rfl,rfl⟩:=hend;obtain⟨L2,r2,q1,q2,_,_,_,_,_,_,_,_,_,hg4⟩:=zID (st':=.ready) (pend':=none) hg3.rep hb2;rw[hl2]at q1;cases q1;exact⟨_,_,run_endRound none q2,ip,.bool true,((hg1.trans hg2).trans hg3).trans hg4⟩
        |some c =>
         simp only[St.write_eq]at hend;simp at hend;obtain⟨rfl,rfl⟩:=hend;obtain⟨L2,r2,q1,q2,_,_,_,_,_,_,_,_,_,hg4⟩:=zID (st':=.done) (pend':=some c) hg3.rep hb2;rw[hl2]at q1;cases q1;exact⟨_,_,run_endRound (some c) q2,ip,.bool false,((hg1.trans hg2).trans hg3).trans hg4⟩
       .cases hend
      unfold zPW at h;split at h
      .rename_i iP il hbody;refine uK hP.mixed hP.zero ih n (some l) bo okb _ _ _ _ _ hbody ig _ _ (some L.c) m _ hg2.rep hf1 (.some hl1) (λip iL ir hg3 _=>?_);exact fin none il h ip ir hg3
      .rename_i iP il hbody;refine uK hP.mixed hP.zero ih n (some l) bo okb _ _ _ _ _ hbody ig _ _ (some L.c) m _ hg2.rep hf1 (.some hl1) (λip iL ir hg3 _=>?_);exact fin (some .ret) il h ip ir hg3
      .rename_i id iP il hbody;refine uK hP.mixed hP.zero ih n (some l) bo okb _ _ _ _ _ hbody ig _ _ (some L.c) m _ hg2.rep hf1 (.some hl1) (λip iL ir hg3 _=>?_);exact fin (some (.exit id)) il h ip ir hg3
      .cases h
     .cases h
    .cases h
   .cases h

end
end Go.Lay

namespace Go.Lay
open Go

def wGG(P:Program):Bool:=P.types.toList.all λi=>match i.zero with|some z=>yI RD z|none=>true
def wCG (fn : Func) : Bool := match fn.body with | some c => vF c && !(fn.name == "runtime.NumGoroutine") | none => true
def wIH(P:Program):Bool:=P.funcs.toList.all wCG
theorem xTK{P:Program}(h1:P.follows .mixedOrders=true)(h2:wGG P=true)(h3:wIH P=true):ProgOk P:=by
 refine⟨h1,λt z hz=>?_,λf fn c hf hc=>?_⟩
 .unfold uO at hz;cases hi:P.types[t]? with
  |none=>rw[hi]at hz;simp at hz
  |some i =>
   rw[hi]at hz;simp at hz;have hm:i∈P.types.toList:=List.mem_of_getElem? (by simpa using hi);have:=List.all_eq_true.1 h2 i hm;rw[hz]at this;exact this
 .have hm:fn∈P.funcs.toList:=List.mem_of_getElem? (by simpa using hf);have:=List.all_eq_true.1 h3 fn hm;unfold wCG at this;rw[hc]at this;simp only[Bool.and_eq_true,Bool.not_eq_true']at this;exact⟨this.1,by simpa using this.2⟩

def xNY:Inj:={ loc:=λ_ _=>none,own:=λ_=>none,csz:=λ_=>0 }
def wAR:St:=⟨.leaf,0,0⟩
theorem wMH(w:World):Rep xNY wAR w :=
 ⟨λb y h=>by simp[wAR,yP,Tr.getP_leaf]at h,λ_ _ _ h=>by simp[xNY]at h,λ_ _ h=>by simp[xNY]at h,λ_ _ _=>rfl⟩

theorem wBV{Z Z':Inj}{E E':St}{w w':World}(h:Good Z E w Z' E' w')(ho:∀c,Z.own c=none):RowKit.Grown w w':=by
 have hs:∀c,c<w.heap.size->w'.heap[c]?=w.heap[c]?:=λc hc=>h.pres.same c hc (λb hb=>by rw[ho c]at hb;cases hb)
 refine⟨⟨h.pres.os,h.pres.output,λi hi=>?_⟩,λa=>?_,h.pres.size⟩
 .rw[hs i hi];split <;> rename_i h1 h2
  .rw[h1]at h2;cases h2;exact⟨rfl,rfl,rfl,λ_ _=>rfl⟩
  .rw[h1]at h2;cases h2;exact .inr ⟨rfl,rfl⟩
  .rfl
 .rcases Nat.lt_or_ge a.block w.heap.size with hlt|hge
  .simp only[World.frozen?,hs _ hlt]
  .have e1:w.heap[a.block]?=none:=by simp[hge]
   have e2:w.frozen? a=false:=by simp only[World.frozen?,e1]
   rw[e2];unfold World.frozen?;split
   .rename_i arr elem lo hi hc;rcases h.pres.fr _ _ _ _ hc with ⟨arr',elem',hc'⟩|hf
    .rw[e1]at hc';cases hc'
    .simp at hf;obtain⟨rfl,rfl⟩:=hf;simp
   .rfl

def okB:Option (Value×St)->Bool
 |some (.bool b,_)=>b
 |_=>false
theorem wAP{r:Option (Value×St)}(h:okB r=true):∃E',r=some (.bool true,E'):=by
 unfold okB at h;split at h
 .rename_i b E';exact⟨E',by rw[h]⟩
 .cases h

end Go.Lay

namespace Go.Lay
open Go

section
variable{P:Program}{rec:Rec}{Z:Inj}{E:St}{w:World}
def zRR(P:Program)(rec:Rec)(N:Nat)(f:FuncId)(args:List Value)(E:St):Option (Value×St) :=
 match P.funcs[f]? with
 |some fn=>match fn.body with
  |some c=>Tm.puts (Tm.args 0 args) (fresh (args.length+(fn.ntmps-args.length))) λtm=>wCP P fn (xK P rec N none c ⟨tm,[]⟩ E)
  |none=>none
 |none=>none
theorem yCO(hP:ProgOk P)(ih:RecSound P rec){n:Nat}{f:FuncId}{args args':List Value}{v:Value}{E':St}(h:zRR P rec n f args E=some (v,E'))(hr:Rep Z E w)(ha:VRs Z args args') :
  (∃ fn, P.funcs[f]? = some fn ∧ fn.body.isSome = true ∧ fn.name ≠ "runtime.NumGoroutine") ∧ ∀ m, CallsIn (Fw none) m P f ⟨args'⟩ w (zPH Z E w v E') := by
 unfold zRR at h;split at h
 .rename_i fn hfn;split at h
  .rename_i c hc;rw[Tm.puts_eq]at h;obtain⟨hok,hname⟩:=hP.code f fn c hfn hc;refine⟨⟨fn,hfn,by rw[hc];rfl,hname⟩,λm=>?_⟩
   have fin:∀(e:Exit) (fr':Fr) (V1:St),(e=.normal\/e=.ret)->yCC P fn fr' V1=some (v,E')->∀Z' a' w',Good Z E w Z' V1 w'->FrR Z' fr' a'->bodyPostM (Fw none) m P fn (zPH Z E w v E') e a' w':=by
    intro e fr' V1 he hd Z' a' w' hg hf;have:LeavesInM (Fw none) m P fn a'.tmps (zPH Z E w v E') a'.defers .returning w':=by
     unfold yCC at hd;split at hd
     .rename_i il hdr;split at hd
      .rename_i v0 hres;rw[zON]at hd;simp at hd;obtain⟨rfl,rfl⟩:=hd;exact zKT fr'.marks a'.defers V1 w' il hdr hf.defs hg.rep hf.tms hres (λv' ir hv hg2=>⟨Z',hv,hg.trans hg2⟩)
      .cases hd
     .cases hd
    rcases he with rfl|rfl <;> exact this
   refine callsIn_of_wp_marks hfn hc trivial ?_
   have hfr0:FrR Z ⟨(Tm.args 0 args).foldl (λf p=>f.set p.1 p.2) (fresh (args.length+(fn.ntmps-args.length))),[]⟩ { tmps:=(⟨args'⟩:Array Value)++Array.replicate (fn.ntmps-(⟨args'⟩:Array Value).size) undef,defers:=[] } :=
    ⟨yPB ha fn.ntmps,.nil⟩
   unfold wCP at h;split at h
   .rename_i fr' V1 hcode;exact uK hP.mixed hP.zero ih n none c hok _ _ _ _ _ hcode Z w _ none m _ hr hfr0 .none (fin _ fr' V1 (.inl rfl) h)
   .rename_i fr' V1 hcode;exact uK hP.mixed hP.zero ih n none c hok _ _ _ _ _ hcode Z w _ none m _ hr hfr0 .none (fin _ fr' V1 (.inr rfl) h)
   .cases h
  .cases h
 .cases h
def wGH{U:Type}(eq:U->U->Bool):Tr U->Tr U->Bool
 |.leaf,.leaf=>true
 |.node (some a) l m,.node (some b) l' m'=>eq a b&&wGH eq l l'&&wGH eq m m'
 |.node none l m,.node none l' m'=>wGH eq l l'&&wGH eq m m'
 |_,_=>false
def wKV:List (Nat×Nat)->List (Nat×Nat)->Bool
 |[],[]=>true
 |(a,b)::l,(a',b')::l'=>Nat.beq a a'&&Nat.beq b b'&&wKV l l'
 |_,_=>false
def xAP:List Value->List Value->Bool
 |[],[]=>true
 |a::l,b::l'=>veq RD a b&&xAP l l'
 |_,_=>false
theorem wGE:∀(l l':List Value),xAP l l'=true->l=l':=by
 intro l;induction l with
 |nil=>intro l' h;cases l' <;> simp_all [xAP]
 |cons x l ih =>
  intro l' h;cases l' with
  |nil=>simp[xAP]at h
  |cons y l'=>simp only[xAP,Bool.and_eq_true]at h;rw[xXW _ _ _ h.1,ih _ h.2]
def wKU:List (Value×Value)->List (Value×Value)->Bool
 |[],[]=>true
 |(a,b)::l,(a',b')::l'=>veq RD a a'&&veq RD b b'&&wKU l l'
 |_,_=>false
def wPQ:Blk->Blk->Bool
 |.cells c e l n ro,.cells c' e' l' n' ro'=>xAP c c'&&Nat.beq e e'&&wKV l l'&&Nat.beq n n'&&(ro == ro')
 |.map m,.map m'=>wKU m m'
 |.defd,.defd=>true
 |_,_=>false
def xXZ{U:Type}(eq:U->U->Bool):Tr U->Tr U->Bool
 |_,.leaf=>true
 |.node (some a) l m,.node (some b) l' m'=>eq a b&&xXZ eq l l'&&xXZ eq m m'
 |.node _ l m,.node none l' m'=>xXZ eq l l'&&xXZ eq m m'
 |_,_=>false
def xNC(E O:St):Bool:=Nat.beq E.j O.j&&Nat.beq E.low O.low&&xXZ wPQ E.heap O.heap
structure Ent where
 keep:Bool
 f:Nat
 args:List Value
 E:St
 v:Value
 E':St
def Ent.out(e:Ent)(E:St):St:=bif e.keep then E else e.E'
def xDA:List Ent->Nat->List Value->St->Option (Value×St)
 |[],_,_,_=>none
 |e::l,f,args,E=>bif Nat.beq e.f f&&Nat.beq e.E.j E.j&&xAP e.args args&&xNC E e.E then some (e.v,e.out E)else xDA l f args E
def wAT(l:List Ent)(rec:Rec):Rec:=λr args E =>
 match r with
 |.func f=>match xDA l f args E with
  |some x=>some x
  |none=>rec (.func f) args E
 |.yield y=>rec (.yield y) args E
theorem xKV:∀{l:List Ent} {f args E x},xDA l f args E=some x->∃e∈l,e.f=f/\e.args=args/\xNC E e.E=true/\x=(e.v,e.out E):=by
 intro l;induction l with
 |nil=>intro f args E x h;cases h
 |cons e l ih =>
  intro f args E x h;unfold xDA at h;cases hb:(Nat.beq e.f f&&Nat.beq e.E.j E.j&&xAP e.args args&&xNC E e.E)with
  |true =>
   rw[hb]at h;simp only[Bool.and_eq_true,Nat.beq_eq]at hb;simp only[cond_true,Option.some.injEq]at h;exact⟨e,List.mem_cons_self,hb.1.1.1,wGE _ _ hb.1.2,hb.2,h.symm⟩
  |false =>
   rw[hb]at h;obtain⟨e',he,hx⟩:=ih h;exact⟨e',List.mem_cons_of_mem _ he,hx⟩
def wOS(P:Program)(e:Ent):Prop:=∀(Z:Inj) (E:St) (w:World) (args':List Value),xNC E e.E=true->Rep Z E w->VRs Z e.args args' ->
  (∃ fn, P.funcs[e.f]? = some fn ∧ fn.body.isSome = true ∧ fn.name ≠ "runtime.NumGoroutine") ∧ ∀ n, CallsIn (Fw none) n P e.f ⟨args'⟩ w (zPH Z E w e.v (e.out E))
def xMR(P:Program)(l:List Ent):Prop:=∀e∈l,wOS P e
theorem wGJ:xMR P []:=λ_ h=>by cases h
theorem xJY(hP:ProgOk P){l:List Ent}(h:xMR P l)(N:Nat):RecSound P (wAT l (zZ P N)):=by
 refine⟨λf args E v E' hx Z w args' hr ha=>?_,λy args E v E' hx=>(zKK hP N).yield y args E v E' hx⟩
 simp only[wAT]at hx;cases hf:xDA l f args E with
 |some y =>
  rw[hf]at hx;obtain⟨e,he,rfl,rfl,hs,rfl⟩:=xKV hf;cases hx
  exact h e he Z E w args' hs hr ha
 |none=>rw[hf]at hx;exact(zKK hP N).func f args E v E' hx Z w args' hr ha

end
end Go.Lay
