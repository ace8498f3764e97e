
import Derived.RangeFuncLeaves
import Derived.RangeFuncRecord
import Derived.RowKit3
import Derived.Test.YtgfiniccfpfplaaLayA
set_option linter.unusedVariables false
set_option linter.unusedSimpArgs false
namespace Go.Lay
open Go

def Fw (rd:Option Nat):Fence:={ Fence.wide with round:=rd }
theorem yFK (rd:Option Nat) (f:FuncId):(Fw rd).fn f:=trivial
theorem zQF (rd:Option Nat):(Fw rd).depth.isSome=true→∀ n:Nat,1≤n:=fun h=>by simp [Fw,Fence.wide] at h
theorem yVB {rd rd':Option Nat} {n:Nat} {P:Program} {f:FuncId} {args:Array Value} {w:World} {R:Ending→World→Prop} (h:CallsIn (Fw rd) n P f args w R):CallsIn (Fw rd') n P f args w R:=h
theorem yQM {rd rd':Option Nat} {n:Nat} {P:Program} {l:Nat} {f:FuncId} {t:Array Value} {as bo:Code} {w:World} {R:Ending→World→Prop} (h:RoundIn (Fw rd) n P l f t as bo w R):RoundIn (Fw rd') n P l f t as bo w R:=h

def zKJ (ι:Inj) (σ:St) (w:World) (v:Value) (σ':St):Ending→World→Prop
 | .returned v',w'=>∃ ι',VR ι' v v'∧Good ι σ w ι' σ' w'
 | _,_=>False

structure RecSound (P:Program) (rec:Rec):Prop where
 func:∀ f args σ v σ',rec (.func f) args σ=some (v,σ')→∀ (ι:Inj) (w:World) (args':List Value),Rep ι σ w→VRs ι args args' →
  (∃ fn, P.funcs[f]? = some fn ∧ fn.body.isSome = true ∧ fn.name ≠ "runtime.NumGoroutine") ∧ ∀ n, CallsIn (Fw none) n P f ⟨args'⟩ w (zKJ ι σ w v σ')
 yield:∀ l args σ v σ',rec (.yield l) args σ=some (v,σ')→∀ (ι:Inj) (w:World) (args':List Value) (L:Loc),Rep ι σ w→VRs ι args args'→ι.loc l 0=some L →
  ∀ n,∃ fn tmps as bo,(Instr.yield L.c ⟨args'⟩).run P w=.ok (.round L.c fn tmps as bo) w∧RoundIn (Fw none) n P L.c fn tmps as bo w (zKJ ι σ w v σ')

section
variable {P:Program} {ι:Inj} {σ:St} {w:World} {rec:Rec}

theorem Rep.relow (h:Rep ι σ w) (l:Nat):Rep ι ⟨σ.heap,σ.y,l⟩ w:=⟨h.blk,h.lt,h.ownlt,h.fresh⟩

theorem yVW {v v':Value} {σ₁ σ':St} {ι':Inj} {w':World} {v₀:Value} (h:uD σ v σ₁=some (v₀,σ')) (hr:Rep ι σ w) (hv:VR ι' v v') (hg:Good ι ⟨σ.heap,σ.y,σ.y⟩ w ι' σ₁ w') :
  v₀=v∧∃ ι'',VR ι'' v v'∧Good ι σ w ι'' σ' w':=by
 unfold uD at h;cases hc:Nat.ble σ.y σ₁.low && zV RD v with
 | true =>
  rw [hc,cond_true] at h;simp only [Bool.and_eq_true] at hc;have hlow:=(zW _ _).1 hc.1;simp at h;obtain ⟨rfl,rfl⟩:=h;have he:=hv.rigid _ hc.2;subst he;have hsame:∀ c,c<w.heap.size→(∀ b,ι.own c=some b→b<σ.y)→w'.heap[c]?=w.heap[c]?:=fun c hcs ho =>
   hg.pres.same c hcs (fun b hb=>Nat.lt_of_lt_of_le (ho b hb) hlow)
  refine ⟨rfl,ι,.refl_rigid _ hc.2,Ext.refl _ _ _,⟨fun b y hb=>⟨(hr.blk b y hb).1,(hr.blk b y hb).2.keep (Ext.refl ι w.heap.size 0) hr.lt (fun c hcs ho=>?_) (fun cs esz log next ro hy s hs'=>?_)⟩,fun b s L hl=>?_,fun c b hb=>?_,hr.fresh⟩,
   ⟨hg.pres.size,fun c hcs ho=>hsame c hcs (fun b hb=>(hr.ownlt c b hb).2),hg.pres.tape,hg.pres.os,hg.pres.output,hg.pres.fr⟩,Nat.le_refl _,Nat.le_refl _⟩
  ·refine hsame c hcs (fun b' hb'=>?_);rcases ho with ho | ho
   ·exact (hr.ownlt c b' hb').2
   ·rw [ho] at hb';cases hb'
  ·have:=(hr.blk b y hb).2;subst hy;cases this with | cells _ _ _ fresh=>exact fresh s hs'
  ·exact Nat.lt_of_lt_of_le (hr.lt b s L hl) hg.pres.size
  ·exact ⟨Nat.lt_of_lt_of_le (hr.ownlt c b hb).1 hg.pres.size,(hr.ownlt c b hb).2⟩
 | false =>
  rw [hc,cond_false] at h;cases hn:Nat.ble σ.y σ₁.y with
  | false=>rw [hn,cond_false] at h;cases h
  | true =>
   rw [hn,cond_true,wG,zAD] at h;have hn:=(zW _ _).1 hn;simp at h;obtain ⟨rfl,rfl⟩:=h;refine ⟨rfl,ι',hv,hg.ext,hg.rep.relow _,⟨hg.pres.size,fun c hcs ho=>hg.pres.same c hcs (fun b hb=>?_),hg.pres.tape,hg.pres.os,hg.pres.output,hg.pres.fr⟩,Nat.min_le_left _ _,hn⟩
   have:=ho b hb;simp at this;omega

theorem xEZ {v v₀:Value} {σ₁ σ':St} (h:uD σ v σ₁=some (v₀,σ')):σ.y≤σ'.y:=by
 unfold uD at h;cases hc:Nat.ble σ.y σ₁.low && zV RD v with
 | true=>rw [hc,cond_true] at h;simp at h;rw [h.2];exact Nat.le_refl _
 | false =>
  rw [hc,cond_false] at h;cases hn:Nat.ble σ.y σ₁.y with
  | false=>rw [hn,cond_false] at h;cases h
  | true=>rw [hn,cond_true,wG] at h;simp at h;rw [← h.2];exact (zW _ _).1 hn

theorem yVC {r:FnRef} {args:List Value} {v:Value} {σ':St} (h:uC rec r args σ=some (v,σ')):σ.y≤σ'.y:=by
 unfold uC at h;split at h
 ·cases h
 ·exact xEZ h

theorem zKJ.mono {v:Value} {σ₁ σ':St} {v₀:Value} (hr:Rep ι σ w) (hb:uD σ v σ₁=some (v₀,σ')) {e:Ending} {w':World} (h:zKJ ι ⟨σ.heap,σ.y,σ.y⟩ w v σ₁ e w'):zKJ ι σ w v₀ σ' e w':=by
 cases e with
 | returned v' =>
  obtain ⟨ι',hv,hg⟩:=h;obtain ⟨rfl,ι'',h1,h2⟩:=yVW hb hr hv hg;exact ⟨ι'',h1,h2⟩
 | panicked _=>exact h
 | outgrown=>exact h

theorem zZV (hrec:RecSound P rec) {f:FuncId} {args args':List Value} {v:Value} {σ':St} (h:uC rec (.func f) args σ=some (v,σ')) (hr:Rep ι σ w) (ha:VRs ι args args') :
  (∃ fn, P.funcs[f]? = some fn ∧ fn.body.isSome = true ∧ fn.name ≠ "runtime.NumGoroutine") ∧ ∀ rd n, CallsIn (Fw rd) n P f ⟨args'⟩ w (zKJ ι σ w v σ') := by
 unfold uC at h;split at h
 ·cases h
 ·rename_i v₁ σ₁ hc;obtain ⟨h1,h2⟩:=hrec.func _ _ _ _ _ hc ι w args' (hr.relow _) ha;exact ⟨h1,fun rd n=>yVB (CallsIn.mono (h2 n) (fun e w'=>zKJ.mono hr h))⟩

theorem yOH (hrec:RecSound P rec) {l:Nat} {args args':List Value} {v:Value} {σ':St} {L:Loc} (h:uC rec (.yield l) args σ=some (v,σ')) (hr:Rep ι σ w) (ha:VRs ι args args') (hl:ι.loc l 0=some L) :
  ∀ rd n,∃ fn tmps as bo,(Instr.yield L.c ⟨args'⟩).run P w=.ok (.round L.c fn tmps as bo) w∧RoundIn (Fw rd) n P L.c fn tmps as bo w (zKJ ι σ w v σ'):=by
 unfold uC at h;split at h
 ·cases h
 ·rename_i v₁ σ₁ hc;intro rd n;obtain ⟨fn,tmps,as,bo,h1,h2⟩:=hrec.yield _ _ _ _ _ hc ι w args' L (hr.relow _) ha hl n;exact ⟨fn,tmps,as,bo,h1,yQM (RoundIn.mono h2 (fun e w'=>zKJ.mono hr h))⟩

theorem zKH {f:Tm} {a:Act} (h:TmR ι f a.tmps) {x:Operand} (hx:zHG x=true):VR ι (yG f x) (a.eval x):=by
 cases x with
 | tmp t=>exact h.2 t
 | const v=>exact .refl_rigid _ hx
 | global g=>exact .any rfl
 | func g=>exact .func (.func g) rfl (fun i v v' h=>by simp at h) rfl (fun i v v' h=>by simp at h)

theorem xTM {o:Oper} (h:zJH o=true) {x:Operand} (hx:x∈o.op.operands):zHG x=true :=
 List.all_eq_true.1 h x (by simpa using hx)

theorem NextV.upon {rd:Option Nat} {n:Nat} {o:Oper} {a:Act} {next:Act→World→Prop} {Q:Exit→Act→World→Prop} {nx:Next} {v':Value} {w':World} (h:NextV nx v') (hn:next (a.put o.dst v') w') :
  o.uponIn (Fw rd) n P a next Q (.ok nx w'):=by
 cases h with
 | value=>exact hn
 | skip=>exact hn

theorem zKP {rd:Option Nat} {n:Nat} {o:Oper} {a:Act} {next:Act→World→Prop} {Q:Exit→Act→World→Prop} {nx:Next} {v':Value} {w':World} (hd:∀ c,o.op≠.defer c)
  (hrun:(execOp a.eval o).run P w=.ok nx w') (h:NextV nx v') (hn:next (a.put o.dst v') w'):o.wpIn (Fw rd) n P a w next Q:=by
 refine ⟨fun f _=>yFK rd f, ?_⟩
 rw [Oper.semAt_eq _ _ _ hd,hrun];exact h.upon hn

theorem xX {α:Type} {c:Bool} {x:Option α} {z:α} (h:(bif c then x else none)=some z):c=true∧x=some z:=by cases c <;> simp_all
theorem zBY {α:Type} {c:Bool} {x y:Option α} {z:α} (h:(bif c then x else y)=some z):(c=true∧x=some z)∨(c=false∧y=some z):=by cases c <;> simp_all

theorem zLW {a:Addr} {vs:List Value} {σ':St} (h:vD σ a vs=some σ'):σ.y≤σ'.y:=by
 unfold vD at h;split at h
 ·split at h
  ·obtain ⟨_,h⟩:=xX h;rw [zDW,St.write_eq] at h;simp at h;rw [← h];simp
  ·cases h
 ·cases h

theorem yIL {n:Nat} {base:Option Addr} {len cap cnt:Nat} {cs:List Value} {v:Value} {σ':St} (h:vO σ n base len cap cnt cs=some (v,σ')):σ.y≤σ'.y:=by
 unfold vO at h;rcases zBY h with ⟨_,h⟩ | ⟨_,h⟩
 ·split at h
  ·obtain ⟨_,h⟩:=xX h;simp at h;rw [← h.2];exact Nat.le_refl _
  ·rcases zBY h with ⟨_,h⟩ | ⟨_,h⟩
   ·simp at h;rw [← h.2];exact Nat.le_refl _
   ·simp only [Option.map_eq_some_iff] at h;obtain ⟨σ₁,h1,h2⟩:=h;simp at h2;rw [← h2.2];exact zLW h1
 ·rcases zBY h with ⟨_,h⟩ | ⟨_,h⟩
  ·split at h
   ·obtain ⟨_,h⟩:=xX h;rw [yO] at h;simp at h;rw [← h.2];simp
   ·split at h
    ·rw [yO] at h;simp at h;rw [← h.2];simp
    ·cases h
  ·split at h
   ·cases h
   ·unfold zHQ at h;split at h
    ·split at h
     ·obtain ⟨_,h⟩:=xX h;rw [zDW,wG,wG,St.write_eq] at h;simp at h;rw [← h.2];simp
     ·cases h
    ·cases h

theorem yUI {o:Op} {ev:Operand→Value} {v:Value} {σ':St} (h:zQ P ev σ o=some (v,σ')):σ.y≤σ'.y:=by
 unfold zQ at h;split at h
 ·split at h
  ·rw [wG,yO] at h;simp at h;rw [← h.2];simp
  ·cases h
 ·rw [wG,yO] at h;simp at h;rw [← h.2];simp
 ·split at h
  ·split at h
   ·obtain ⟨_,h⟩:=xX h;split at h
    ·rw [yO] at h;simp at h;rw [← h.2];simp
    ·cases h
   ·cases h
  ·cases h
 ·split at h
  ·split at h
   ·rw [St.new_eq] at h;simp at h;rw [← h.2];simp
   ·cases h
  ·split at h
   ·rw [St.new_eq] at h;simp at h;rw [← h.2];simp
   ·cases h
 ·split at h
  ·split at h
   ·obtain ⟨_,h⟩:=xX h;rw [yO] at h;simp at h;rw [← h.2];simp
   ·cases h
  ·cases h
 ·split at h
  ·simp only [Option.map_eq_some_iff] at h;obtain ⟨σ₁,h1,h2⟩:=h;simp at h2;rw [← h2.2];unfold zGL at h1;split at h1
   ·obtain ⟨_,h1⟩:=xX h1;exact zLW h1
   ·cases h1
  ·cases h
 ·split at h
  ·split at h
   ·obtain ⟨_,h⟩:=xX h;split at h
    ·split at h
     ·obtain ⟨_,h⟩:=xX h;rw [St.write_eq] at h;simp at h;rw [← h.2];simp
     ·cases h
    ·rw [St.write_eq] at h;simp at h;rw [← h.2];simp
    ·cases h
   ·cases h
  ·cases h
 ·split at h
  ·split at h
   ·obtain ⟨_,h⟩:=xX h;split at h
    ·split at h
     ·obtain ⟨_,h⟩:=xX h;rw [St.write_eq] at h;simp at h;rw [← h.2];simp
     ·cases h
    ·rw [St.write_eq] at h;simp at h;rw [← h.2];simp
    ·cases h
   ·cases h
  ·cases h
 ·split at h
  ·split at h
   ·unfold yD at h;split at h
    ·split at h
     ·split at h
      ·split at h
       ·obtain ⟨_,h⟩:=xX h;exact yIL h
       ·cases h
      ·cases h
     ·cases h
    ·cases h
   ·cases h
  ·split at h
   ·simp only [Option.map_eq_some_iff] at h;obtain ⟨v0,h1,h2⟩:=h;simp at h2;rw [← h2.2];exact Nat.le_refl _
   ·cases h
  ·cases h
 ·cases h
end
end Go.Lay

namespace Go.Lay
open Go
section
variable {P:Program} {ι:Inj} {σ:St} {w:World} {rec:Rec}

theorem zBJ {o:Option Value} {v:Value} {σ':St} (h:zLY σ o=some (v,σ')):o=some v∧σ'=σ:=by
 cases o with
 | none=>simp [zLY] at h
 | some x=>simp [zLY] at h;exact ⟨by rw [h.1],h.2.symm⟩

theorem yBF (hrec:RecSound P rec) {o:Oper} {ev:Operand→Value} {a:Act} {c:Call} {fx:Operand} {v:Value} {σ':St} {rd:Option Nat} {n:Nat} {next:Act→World→Prop} {Q:Exit→Act→World→Prop} {r:FnRef} {as:List Value}
  (ho:o.op=.call c) (hc:c.callee=.value fx) (href:zME (ev fx) (c.args.toList.map ev)=some (r,as)) (h:uC rec r as σ=some (v,σ')) (hr:Rep ι σ w) (hev:∀ x∈o.op.operands,VR ι (ev x) (a.eval x))
  (hn:∀ v' w' ι',VR ι' v v'→Good ι σ w ι' σ' w'→next (a.put o.dst v') w'):o.wpIn (Fw rd) n P a w next Q:=by
 have hf:=hev fx (by simp [ho,Op.operands,Call.operands,hc]);have hargs:=zCY c.args.toList (ev:=ev) (ev':=a.eval) (fun x hx=>hev x (by simp [ho,Op.operands,Call.operands,hc] at hx ⊢;exact .inr hx));have eargs:c.args.map a.eval=(⟨c.args.toList.map a.eval⟩:Array Value):=by apply Array.ext';simp
 obtain ⟨as',has,hcase⟩:=zZU (P:=P) href hf hargs;have hd:∀ c',o.op≠.defer c':=fun c'=>by rw [ho];simp
 refine ⟨fun f _=>yFK rd f, ?_⟩
 rw [Oper.semAt_eq _ _ _ hd];have hsem:∀ {d:Deferred},(∀ w,(Deferred.ofValue (a.eval fx) ⟨c.args.toList.map a.eval⟩).run P w=.ok d w)→(execOp a.eval o).run P w=(invoke d.target d.args).run P w:=by
  intro d hd;simp only [execOp,ho,resolve,hc,eargs,Sem.run_bind,hd,Result.andThen_ok]
 rcases hcase with ⟨f,cap,rfl,d,hd1,hd2,hd3⟩ | ⟨l,L,cap,rfl,hl,d,hd1,hd2,hd3⟩
 ·obtain ⟨⟨fn,hfn,hbody,hname⟩,hcall⟩:=zZV hrec h hr has;have hrun:(execOp a.eval o).run P w=.ok (.enter f ⟨as'⟩) w:=by
   rw [hsem hd1,hd2];have hb:fn.body≠none:=by cases hb:fn.body <;> simp_all
   simp [invoke,callFunc,hfn,hb,hname,hd3]
  rw [hrun,Oper.uponIn_enter];exact ⟨fun hs=>zQF rd hs n,CallsIn.mono (hcall rd _) (fun e w' hR=>by
   cases e with
   | returned v'=>obtain ⟨ι',h1,h2⟩:=hR;exact hn v' w' ι' h1 h2
   | panicked _=>exact hR.elim
   | outgrown=>exact hR.elim)⟩
 ·obtain ⟨fn,tmps,as₁,bo,hy,hround⟩:=yOH hrec h hr has hl rd (n-1);have hrun:(execOp a.eval o).run P w=.ok (.round L.c fn tmps as₁ bo) w:=by
   rw [hsem hd1,hd2];simp only [invoke,hd3];exact hy
  rw [hrun,Oper.uponIn_round];exact ⟨fun hs=>zQF rd hs n,RoundIn.mono hround (fun e w' hR=>by
   cases e with
   | returned v'=>obtain ⟨ι',h1,h2⟩:=hR;exact hn v' w' ι' h1 h2
   | panicked _=>exact hR.elim
   | outgrown=>exact hR.elim)⟩

theorem yAN.wp {o:Oper} {a:Act} {v:Value} {σ':St} {rd:Option Nat} {n:Nat} {next:Act→World→Prop} {Q:Exit→Act→World→Prop} (hd:∀ c,o.op≠.defer c) (h:yAN P ι σ w v σ' (execOp a.eval o))
  (hn:∀ v' w' ι',VR ι' v v'→Good ι σ w ι' σ' w'→next (a.put o.dst v') w'):o.wpIn (Fw rd) n P a w next Q:=by
 obtain ⟨nx,v',w',ι',h1,h2,h3,h4⟩:=h;exact zKP hd h1 h2 (hn v' w' ι' h3 h4)

theorem zOG (hz:zAH P) {o:Oper} {ev:Operand→Value} {a:Act} {v:Value} {rd:Option Nat} {n:Nat} {next:Act→World→Prop} {Q:Exit→Act→World→Prop} (h:xW P ev o.op=some v) (hev:∀ x∈o.op.operands,VR ι (ev x) (a.eval x))
  (hn:∀ v',VR ι v v'→next (a.put o.dst v') w):o.wpIn (Fw rd) n P a w next Q:=by
 obtain ⟨v',h1,h2⟩:=yJK hz h hev;refine zKP (fun c hc=>?_) (h1 w) (.value _) (hn v' h2);rw [hc] at h;simp [xW] at h
theorem xCQ (hz:zAH P) {o:Oper} {ev:Operand→Value} {a:Act} {v:Value} {rd:Option Nat} {n:Nat} {next:Act→World→Prop} {Q:Exit→Act→World→Prop} (h:xO P ev σ o.op=some v) (hr:Rep ι σ w) (hev:∀ x∈o.op.operands,VR ι (ev x) (a.eval x))
  (hn:∀ v',VR ι v v'→next (a.put o.dst v') w):o.wpIn (Fw rd) n P a w next Q:=by
 obtain ⟨v',h1,h2⟩:=yHC hz h hr hev;refine zKP (fun c hc=>?_) h1 (.value _) (hn v' h2);rw [hc] at h;simp [xO] at h

theorem yJZ (hz:zAH P) {o:Oper} {ev:Operand→Value} {a:Act} {v:Value} {rd:Option Nat} {n:Nat} {next:Act→World→Prop} {Q:Exit→Act→World→Prop} (h:xP P ev σ o.op=some v) (hr:Rep ι σ w) (hev:∀ x∈o.op.operands,VR ι (ev x) (a.eval x))
  (hn:∀ v',VR ι v v'→next (a.put o.dst v') w):o.wpIn (Fw rd) n P a w next Q:=by
 unfold xP at h;split at h
 ·rename_i v0 hv;cases h;exact zOG hz hv hev hn
 ·exact xCQ hz h hr hev hn

theorem zJI {o:Op} {ev:Operand→Value} {v:Value} {σ':St} (h:opA P rec ev σ o=some (v,σ')) :
  (xT o=true∧((∃ c fx r as,o=.call c∧c.callee=.value fx∧zME (ev fx) (c.args.toList.map ev)=some (r,as)∧uC rec r as σ=some (v,σ'))∨zQ P ev σ o=some (v,σ')∨(xW P ev o=some v∧σ'=σ))) ∨
  (xT o=false∧zBP o=true∧xP P ev σ o=some v∧σ'=σ)∨(xT o=false∧zBP o=false∧xW P ev o=some v∧σ'=σ):=by
 unfold opA at h;split at h
 ·rename_i c;unfold zNW at h;split at h
  ·rename_i fx hc;split at h
   ·rename_i r as href;split at h
    ·rename_i v0 hx;refine .inl ⟨by simp [xT,hc],.inr (.inl ?_)⟩;simp only [zQ,hc,href,hx,Option.map_some];exact h
    ·refine .inl ⟨by simp [xT,hc],.inl ⟨c,fx,r,as,rfl,hc,href,h⟩⟩
   ·cases h
  ·rename_i hc;exact .inl ⟨by simp [xT,hc],.inr (.inl h)⟩
  ·rename_i hc;exact .inl ⟨by simp [xT,hc],.inr (.inl h)⟩
  ·rename_i hc;refine .inr (.inl ⟨by simp [xT,hc],by simp [zBP,hc], ?_⟩);split at h
   ·rename_i v0 hv;simp at h;obtain ⟨rfl,rfl⟩:=h;exact ⟨by simp [xP,hv],rfl⟩
   ·rename_i hv;obtain ⟨h1,h2⟩:=zBJ h;exact ⟨by simp [xP,hv,h1],h2⟩
  ·rename_i b _ _ hlen hc;obtain ⟨h1,h2⟩:=zBJ h;cases hb:xT (.call c) with
   | true=>exact .inl ⟨rfl,.inr (.inr ⟨h1,h2⟩)⟩
   | false =>
    refine .inr (.inr ⟨rfl, ?_,h1,h2⟩);simp only [zBP,hc];cases b <;> first | rfl | exact absurd rfl hlen
  ·cases h
 ·obtain ⟨h1,h2⟩:=zBJ h;exact .inr (.inl ⟨rfl,rfl,by simp [xP,xW,h1],h2⟩)
 ·obtain ⟨h1,h2⟩:=zBJ h;exact .inr (.inl ⟨rfl,rfl,by simp [xP,xW,h1],h2⟩)
 ·obtain ⟨h1,h2⟩:=zBJ h;exact .inr (.inl ⟨rfl,rfl,by simp [xP,xW,h1],h2⟩)
 ·split at h
  ·rename_i v0 hv;simp at h;obtain ⟨rfl,rfl⟩:=h;exact .inr (.inl ⟨rfl,rfl,by simp [xP,hv],rfl⟩)
  ·rename_i hv;obtain ⟨h1,h2⟩:=zBJ h;exact .inr (.inl ⟨rfl,rfl,by simp [xP,hv,h1],h2⟩)
 ·rename_i hn1 hn2 hn3 hn4 hn5;rcases zBY h with ⟨he,h⟩ | ⟨he,h⟩
  ·refine .inl ⟨?_,.inr (.inl h)⟩;cases o <;> first | exact he | exact absurd rfl (hn1 _)
  ·obtain ⟨h1,h2⟩:=zBJ h;refine .inr (.inr ⟨?_, ?_,h1,h2⟩)
   ·cases o <;> first | exact he | exact absurd rfl (hn1 _)
   ·cases o <;> first | rfl | exact absurd rfl (hn1 _) | exact absurd rfl (hn2 _ _) | exact absurd rfl (hn3 _ _ _ _) | exact absurd rfl (hn4 _ _ _ _ _) | exact absurd rfl (hn5 _ _ _)

theorem yCZ (hz:zAH P) (hrec:RecSound P rec) {o:Oper} {ev:Operand→Value} {a:Act} {v:Value} {σ':St} {rd:Option Nat} {n:Nat} {next:Act→World→Prop} {Q:Exit→Act→World→Prop}
  (h:opA P rec ev σ o.op=some (v,σ')) (hr:Rep ι σ w) (hev:∀ x∈o.op.operands,VR ι (ev x) (a.eval x))
  (hn:∀ v' w' ι',VR ι' v v'→Good ι σ w ι' σ' w'→next (a.put o.dst v') w'):o.wpIn (Fw rd) n P a w next Q:=by
 rcases zJI h with ⟨ha,⟨c,fx,r,as,ho,hc,href,hcall⟩ | heff | ⟨hval,rfl⟩⟩ | ⟨_,_,hsee,rfl⟩ | ⟨_,_,hval,rfl⟩
 ·exact yBF hrec ho hc href hcall hr hev hn
 ·refine yAN.wp (fun c hc=>?_) (yNK hz heff hr (hr.free _) hev) hn;rw [hc] at heff;simp [zQ] at heff
 ·exact zOG hz hval hev (fun v' hv=>hn v' w ι hv (.refl hr))
 ·exact yJZ hz hsee hr hev (fun v' hv=>hn v' w ι hv (.refl hr))
 ·exact zOG hz hval hev (fun v' hv=>hn v' w ι hv (.refl hr))

theorem xIV {o:Op} {ev:Operand→Value} {v:Value} {σ':St} (h:opA P rec ev σ o=some (v,σ')):σ.y≤σ'.y:=by
 rcases zJI h with ⟨ha,⟨c,fx,r,as,ho,hc,href,hcall⟩ | heff | ⟨hval,rfl⟩⟩ | ⟨_,_,hsee,rfl⟩ | ⟨_,_,hval,rfl⟩
 ·exact yVC hcall
 ·exact yUI heff
 ·exact Nat.le_refl _
 ·exact Nat.le_refl _
 ·exact Nat.le_refl _

theorem zHB {ops:Array Oper} {f:Tm} {o:Oper} {a:Act} {b:Bool} (h:zEX ops f o=some b) (hf:∀ j want d,o.guard=some (j,want)→(ops[j]?).bind (·.dst)=some d→VR ι (f.nth d) (a.tmps.getD d undef)) :
  Region.wanted o (yielded ops a.tmps)=b:=by
 unfold zEX at h;unfold Region.wanted;split at h
 ·rename_i hg;simp at h;subst h;simp [hg]
 ·rename_i j want hg;simp only [hg];split at h
  ·rename_i d hd;have hv:=hf j want d hg hd;split at h
   ·rename_i b0 hb0;simp at h;subst h;rw [hb0] at hv;have:=hv.bool_inv;unfold yielded;simp only [hd,Option.bind_some];cases ht:a.tmps[d]? with
    | none=>simp [Array.getD,undef] at this;rw [Array.getElem?_eq_none_iff] at ht;split at this <;> simp_all;omega
    | some x =>
     have hx:a.tmps.getD d undef=x:=by simp [ht]
     rw [hx] at this;subst this;simp
   ·rename_i c hc;simp at h;subst h;rw [hc] at hv;obtain ⟨c',e,_⟩:=hv.tuple_inv;unfold yielded;simp only [hd,Option.bind_some];cases ht:a.tmps[d]? with
    | none=>rfl
    | some x =>
     have hx:a.tmps.getD d undef=x:=by simp [ht]
     rw [hx] at e;subst e;rfl
   ·cases h
  ·cases h
end
end Go.Lay

namespace Go.Lay
open Go

theorem zPN (look:Nat→Nat) (i:Nat):∀ (l:List Edge) (s:Nat),(l.foldl (fun s e=>if Region.binds .any e then s ||| 2 ^ e.on ||| look e.on else s) s).testBit i=true →
  s.testBit i=true∨∃ e∈l,Region.binds .any e=true∧(e.on=i∨(look e.on).testBit i=true)
 | [],s,h=>.inl h
 | e::l,s,h=>by
  rw [List.foldl_cons] at h;rcases zPN look i l _ h with h | ⟨e',h1,h2⟩
  ·by_cases hb:Region.binds .any e=true
   ·rw [if_pos hb] at h;simp only [Nat.testBit_or,Bool.or_eq_true,Nat.testBit_two_pow,decide_eq_true_eq] at h;rcases h with (h | h) | h
    ·exact .inl h
    ·exact .inr ⟨e,by simp,hb,.inl h⟩
    ·exact .inr ⟨e,by simp,hb,.inr h⟩
   ·rw [if_neg hb] at h;exact .inl h
  ·exact .inr ⟨e',by simp [h1],h2⟩
theorem yLU {look:Nat→Nat} {o:Oper} {i:Nat} (h:(CheckFast.one look o).testBit i=true):∃ e∈o.after.toList,Region.binds .any e=true∧(e.on=i∨(look e.on).testBit i=true):=by
 unfold CheckFast.one at h;rw [← Array.foldl_toList] at h;rcases zPN look i o.after.toList 0 h with h | h
 ·simp at h
 ·exact h

theorem xTR:∀ (l:List Oper) (A:Array Nat),(l.foldl (fun acc o=>acc.push (CheckFast.one (fun i=>acc.getD i 0) o)) A).size=A.size+l.length ∧
  (∀ k,k<A.size→(l.foldl (fun acc o=>acc.push (CheckFast.one (fun i=>acc.getD i 0) o)) A)[k]?=A[k]?) ∧
  ∀ k o,l[k]?=some o→∃ C:Array Nat,(∀ m,m<A.size+k→C[m]?=(l.foldl (fun acc o=>acc.push (CheckFast.one (fun i=>acc.getD i 0) o)) A)[m]?) ∧
   (l.foldl (fun acc o=>acc.push (CheckFast.one (fun i=>acc.getD i 0) o)) A)[A.size+k]?=some (CheckFast.one (fun i=>C.getD i 0) o)
 | [],A=>⟨by simp,fun _ _=>rfl,fun k o h=>by simp at h⟩
 | x::l,A=>by
  have ih:=xTR l (A.push (CheckFast.one (fun i=>A.getD i 0) x));simp only [List.foldl_cons];obtain ⟨h1,h2,h3⟩:=ih;simp only [Array.size_push] at h1 h2 h3;refine ⟨by rw [h1];simp;omega,fun k hk=>by rw [h2 k (by omega),Array.getElem?_push,if_neg (by omega)],fun k o hk=>?_⟩
  cases k with
  | zero =>
   simp at hk;subst hk;refine ⟨A,fun m hm=>by rw [h2 m (by omega),Array.getElem?_push,if_neg (by omega)], ?_⟩
   rw [Nat.add_zero,h2 _ (by omega),Array.getElem?_push,if_pos rfl]
  | succ k =>
   simp only [List.getElem?_cons_succ] at hk;obtain ⟨C,c1,c2⟩:=h3 k o hk;exact ⟨C,fun m hm=>c1 m (by omega),by rw [show A.size+(k+1)=A.size+1+k by omega];exact c2⟩

theorem xHP {ops:Array Oper} {i j:Nat} {o:Oper} (ho:ops[j]?=some o) (hb:∀ e∈o.after.toList,Region.binds .any e=true→e.on<j) (h:pre (CheckFast.beforeF ops) i j=true) :
  ∃ e∈o.after.toList,Region.binds .any e=true∧(e.on=i∨pre (CheckFast.beforeF ops) i e.on=true):=by
 rw [CheckFast.beforeF_eq] at h ⊢;have hB:Region.before ops=ops.toList.foldl (fun acc o=>acc.push (CheckFast.one (fun i=>acc.getD i 0) o)) #[]:=by
  unfold Region.before;rw [← Array.foldl_toList];rfl
 obtain ⟨_,_,h3⟩:=xTR ops.toList #[];obtain ⟨C,c1,c2⟩:=h3 j o (by simpa using ho);rw [← hB] at c1 c2;simp only [Array.size_empty,Nat.zero_add] at c1 c2;unfold pre at h;have hg:(Region.before ops).getD j 0=CheckFast.one (fun i=>C.getD i 0) o:=by simp [c2]
 rw [hg] at h;obtain ⟨e,h1,h2,h3⟩:=yLU h;refine ⟨e,h1,h2,h3.imp id (fun h=>?_)⟩
 unfold pre;have:=c1 e.on (hb e h1 h2);simpa [this] using h

structure DrawOk (ops:Array Oper):Prop where
 back:∀ (j:Nat) (o:Oper),ops[j]?=some o→∀ e∈o.after.toList,Region.binds .any e=true→e.on<j
 guard:∀ (j:Nat) (o:Oper),ops[j]?=some o→∀ g want,o.guard=some (g,want)→∃ e∈o.after.toList,Region.binds .any e=true∧e.on=g
 sel:∀ (j:Nat) (o:Oper),ops[j]?=some o→∀ cs b,o.op≠.select cs b
 acts:∀ (i j:Nat) (oi oj:Oper),ops[i]?=some oi→ops[j]?=some oj→i<j→xT oi.op=true→xT oj.op=true→vT oj.op=false→pre (CheckFast.beforeF ops) i j=true
 apart:∀ (i j:Nat) (oi oj:Oper),ops[i]?=some oi→ops[j]?=some oj→i≠j→pre (CheckFast.beforeF ops) i j=false→pre (CheckFast.beforeF ops) j i=false→Oper.apart ops oi oj=true

theorem yP {ops:Array Oper} {j:Nat} {o:Oper} (h:ops[j]?=some o):ops.getD j default=o∧j<ops.size:=⟨by simp [h],(Array.getElem?_eq_some_iff.1 h).1⟩

theorem yNM {ops:Array Oper} (h:yHS ops (CheckFast.beforeF ops)=true):DrawOk ops:=by
 unfold yHS at h;have key:∀ (j:Nat) (o:Oper),ops[j]?=some o→_:=fun j o ho=>List.all_eq_true.1 h j (List.mem_range.2 (yP ho).2)
 refine ⟨fun j o ho e he hb=>?_,fun j o ho g want hg=>?_,fun j o ho cs b hs=>?_,fun i j oi oj hi hj hlt ha hb hm=>?_,fun i j oi oj hi hj hne h1 h2=>?_⟩
 ·have:=key j o ho;simp only [(yP ho).1,Bool.and_eq_true] at this;have h1:=List.all_eq_true.1 this.1.1.1 e he;rw [hb] at h1;simpa using h1
 ·have:=key j o ho;simp only [(yP ho).1,Bool.and_eq_true,hg] at this;obtain ⟨e,h1,h2⟩:=List.any_eq_true.1 this.1.1.2;simp only [Bool.and_eq_true] at h2;exact ⟨e,h1,h2.1,Nat.eq_of_beq_eq_true h2.2⟩
 ·have:=key j o ho;simp only [(yP ho).1,Bool.and_eq_true,hs] at this;simp at this
 ·have:=key j oj hj;simp only [(yP hj).1,Bool.and_eq_true] at this;have h1:=List.all_eq_true.1 this.2 i (List.mem_range.2 (yP hi).2);simp only [(yP hi).1,Bool.and_eq_true,ha,hb,hm] at h1;have hl:Nat.blt i j=true:=(zW _ _).2 hlt;simpa [hl] using h1.1
 ·have:=key j oj hj;simp only [(yP hj).1,Bool.and_eq_true] at this;have h3:=List.all_eq_true.1 this.2 i (List.mem_range.2 (yP hi).2);simp only [(yP hi).1,Bool.and_eq_true] at h3;have hb:Nat.beq i j=false:=by rw [Bool.eq_false_iff];intro e;exact hne (Nat.eq_of_beq_eq_true e)
  simpa [hb,yIM,h1,h2] using h3.2

section
variable {ops:Array Oper} (D:DrawOk ops)
include D
def yIS (ops:Array Oper) (X:Nat→Prop):Prop:=∀ (j:Nat) (o:Oper),X j→ops[j]?=some o→∀ e∈o.after.toList,Region.binds .any e=true→X e.on
theorem yGN {X:Nat→Prop} (hX:yIS ops X):∀ (j:Nat) (o:Oper),ops[j]?=some o→(∀ e∈o.after.toList,Region.binds .any e=true→X e.on)→∀ i,pre (CheckFast.beforeF ops) i j=true→X i:=by
 intro j;induction j using Nat.strongRecOn with
 | _ j ih =>
  intro o ho hdep i hp;obtain ⟨e,h1,h2,h3⟩:=xHP ho (D.back j o ho) hp;have hx:=hdep e h1 h2;rcases h3 with rfl | h3
  ·exact hx
  ·have hlt:=D.back j o ho e h1 h2;have hlt2:j<ops.size:=(yP ho).2;have ho2:ops[e.on]?=some ops[e.on]:=by simp
   exact ih e.on hlt _ ho2 (fun e' he' hb'=>hX e.on _ hx ho2 e' he' hb') i h3
theorem yGM (i j:Nat) (hj:j<ops.size) (hp:pre (CheckFast.beforeF ops) i j=true):i<j:=by
 have ho:ops[j]?=some ops[j]:=by simp [hj]
 have:=yGN D (X:=fun i=>i<j) (fun k o hk ho e he hb=>Nat.lt_trans (D.back k o ho e he hb) hk) j _ ho (fun e he hb=>D.back j _ ho e he hb) i hp;exact this
end

def zLU (f:Tm) (dst:Option Tmp) (v:Value):Tm:=match dst with | some d=>f.set d v | none=>f
theorem vN {β:Type} (f:Tm) (dst:Option Tmp) (v:Value) (k:Tm→β):xHO f dst v k=k (zLU f dst v):=by
 cases dst with
 | none=>rfl
 | some d=>exact Tm.put_eq f d v k

def frL (l:List Seen) (t:Tm) (i:Nat):Tm:=match l[i]? with | some s=>s.f | none=>t
def stL (l:List Seen) (τ:St) (i:Nat):St:=match l[i]? with | some s=>s.before | none=>τ

structure SeqD (P:Program) (rec:Rec) (ops:Array Oper) (rest:List Oper) (l:List Seen) (t:Tm) (τ:St):Prop where
 len:l.length=rest.length
 step:∀ (i:Nat) (o:Oper),rest[i]?=some o→∃ s,l[i]?=some s∧s.f=frL l t i∧s.before=stL l τ i∧s.after=stL l τ (i+1)∧frL l t (i+1)=zLU (frL l t i) o.dst s.v∧zEX ops (frL l t i) o=some s.want ∧
  (s.want=true→opA P rec (yG (frL l t i)) (stL l τ i) o.op=some (s.v,stL l τ (i+1)))∧(s.want=false→s.v=undef∧stL l τ (i+1)=stL l τ i)

theorem zMX {P:Program} {rec:Rec} {ops:Array Oper}:∀ (rest:List Oper) (f:Tm) (σ:St) (l:List Seen) (t:Tm) (τ:St),zAP P rec ops rest f σ=some (l,t,τ) →
  frL l t 0=f∧stL l τ 0=σ∧SeqD P rec ops rest l t τ
 | [],f,σ,l,t,τ,h=>by
  simp [zAP] at h;obtain ⟨rfl,rfl,rfl⟩:=h;exact ⟨rfl,rfl,rfl,fun i o h=>by simp at h⟩
 | o::rest,f,σ,l,t,τ,h=>by
  have fin:∀ (v:Value) (want:Bool) (σ':St) (l':List Seen),zEX ops f o=some want→(want=true→opA P rec (yG f) σ o.op=some (v,σ'))→(want=false→v=undef∧σ'=σ) →
    zAP P rec ops rest (zLU f o.dst v) σ'=some (l',t,τ)→l=⟨f,v,want,σ,σ'⟩::l'→frL l t 0=f∧stL l τ 0=σ∧SeqD P rec ops (o::rest) l t τ:=by
   intro v want σ' l' hg h1 h2 hrec hl
   obtain ⟨e1,e2,e3⟩:=zMX rest _ _ _ _ _ hrec
   subst hl
   refine ⟨rfl,rfl,by simp [e3.len],fun i o' ho'=>?_⟩
   cases i with
   | zero =>
    simp at ho';subst ho';have f1:frL (⟨f,v,want,σ,σ'⟩::l') t (0+1)=zLU f o.dst v:=e1;have s1:stL (⟨f,v,want,σ,σ'⟩::l') τ (0+1)=σ':=e2;rw [f1,s1];exact ⟨_,rfl,rfl,rfl,rfl,rfl,hg,h1,h2⟩
   | succ i =>
    exact e3.step i o' (by simpa using ho')
  unfold zAP at h;split at h
  ·rename_i hg;split at h
   ·rename_i v σ' hop;rw [zJS,vN] at h;split at h
    ·rename_i l' t' τ' hs;simp at h;obtain ⟨rfl,rfl,rfl⟩:=h;exact fin v true σ' l' hg (fun _=>hop) (fun h=>by cases h) hs rfl
    ·cases h
   ·cases h
  ·rename_i hg;rw [vN] at h;split at h
   ·rename_i l' t' τ' hs;simp at h;obtain ⟨rfl,rfl,rfl⟩:=h;exact fin undef false σ l' hg (fun h=>by cases h) (fun _=>⟨rfl,rfl⟩) hs rfl
   ·cases h
  ·cases h

theorem zQZ {P:Program} {rec:Rec} {ops:Array Oper}:∀ (rest:List Oper) (f:Tm) (σ:St) (t:Tm) (τ:St),zLV P rec ops rest f σ=some (t,τ)→∃ l,zAP P rec ops rest f σ=some (l,t,τ)
 | [],f,σ,t,τ,h=>by simp [zLV] at h;obtain ⟨rfl,rfl⟩:=h;exact ⟨[],rfl⟩
 | o::rest,f,σ,t,τ,h=>by
  unfold zLV at h;split at h
  ·rename_i hg;split at h
   ·rename_i v σ' hop;rw [vN] at h;obtain ⟨l,hl⟩:=zQZ rest _ _ _ _ h;exact ⟨⟨f,v,true,σ,σ'⟩::l,by simp [zAP,hg,hop,zJS,vN,hl]⟩
   ·cases h
  ·rename_i hg;rw [vN] at h;obtain ⟨l,hl⟩:=zQZ rest _ _ _ _ h;exact ⟨⟨f,undef,false,σ,σ⟩::l,by simp [zAP,hg,vN,hl]⟩
  ·cases h

theorem xUL (f:Tm) (d:Option Tmp) (v:Value):(zLU f d v).n=f.n:=by cases d <;> simp [zLU]
theorem zWJ (f:Tm) (d:Option Tmp) (v:Value) (t:Nat):(zLU f d v).nth t=if d=some t∧t<f.n then v else f.nth t:=by
 cases d with
 | none=>simp [zLU]
 | some i =>
  simp only [zLU,Tm.nth_set];by_cases h:t=i
  ·subst h;simp
  ·rw [if_neg (fun x=>h x.1),if_neg (fun x=>h (by simpa using x.1.symm))]

section
variable {P:Program} {rec:Rec} {ops:Array Oper} {l:List Seen} {t:Tm} {τ:St} (S:SeqD P rec ops ops.toList l t τ)
include S
theorem SeqD.at {i:Nat} {o:Oper} (ho:ops[i]?=some o):∃ s,l[i]?=some s∧s.f=frL l t i∧s.before=stL l τ i∧s.after=stL l τ (i+1)∧frL l t (i+1)=zLU (frL l t i) o.dst s.v∧zEX ops (frL l t i) o=some s.want ∧
  (s.want=true→opA P rec (yG (frL l t i)) (stL l τ i) o.op=some (s.v,stL l τ (i+1)))∧(s.want=false→s.v=undef∧stL l τ (i+1)=stL l τ i):=S.step i o (by simpa using ho)
theorem SeqD.frn:∀ i,i≤ops.size→(frL l t i).n=(frL l t 0).n
 | 0,_=>rfl
 | i+1,h=>by
  obtain ⟨s,_,_,_,_,hf,_⟩:=S.at (i:=i) (o:=ops[i]) (by simp)
  rw [hf,xUL,SeqD.frn i (by omega)]
theorem SeqD.mono:∀ (i j:Nat),i≤j→j≤ops.size→(stL l τ i).y≤(stL l τ j).y:=by
 intro i j hij;induction hij with
 | refl=>intro _;exact Nat.le_refl _
 | step h ih =>
  rename_i m;intro hm;have hm':m+1≤ops.size:=hm;refine Nat.le_trans (ih (by omega)) ?_
  obtain ⟨s,_,_,_,_,_,_,h1,h2⟩:=S.at (i:=m) (o:=ops[m]) (by simp)
  cases hw:s.want with
  | true=>exact xIV (h1 hw)
  | false=>rw [(h2 hw).2];exact Nat.le_refl _
theorem SeqD.last (t0:Nat) (h0:t0<(frL l t 0).n):∀ j,j≤ops.size →
  (∃ i s,i<j∧(ops[i]?).bind (·.dst)=some t0∧l[i]?=some s∧(frL l t j).nth t0=s.v∧∀ i',i<i'→i' < j→(ops[i']?).bind (·.dst)≠some t0) ∨
  ((∀ i,i<j→(ops[i]?).bind (·.dst)≠some t0)∧(frL l t j).nth t0=(frL l t 0).nth t0)
 | 0,_=>.inr ⟨fun i h=>absurd h (Nat.not_lt_zero _),rfl⟩
 | j+1,hj=>by
  have ho:ops[j]?=some ops[j]:=by simp
  obtain ⟨s,hs,_,_,_,hf,_⟩:=S.at ho;have hn:=S.frn j (by omega);rw [hf];by_cases hd:ops[j].dst=some t0
  ·refine .inl ⟨j,s,by omega,by rw [ho];exact hd,hs, ?_,fun i' h1 h2=>by omega⟩;rw [zWJ,if_pos ⟨hd,by omega⟩]
  ·rw [zWJ,if_neg (fun x=>hd x.1)];rcases SeqD.last t0 h0 j (by omega) with ⟨i,s',h1,h2,h3,h4,h5⟩ | ⟨h1,h2⟩
   ·refine .inl ⟨i,s',by omega,h2,h3,h4,fun i' h6 h7=>?_⟩;by_cases he:i'=j
    ·subst he;rw [ho];exact hd
    ·exact h5 i' h6 (by omega)
   ·refine .inr ⟨fun i hi=>?_,h2⟩;by_cases he:i=j
    ·subst he;rw [ho];exact hd
    ·exact h1 i (by omega)
end
end Go.Lay

namespace Go.Lay
open Go

theorem zQJ:∀ (n:Nat) (a b:Value),veq n a b=true→a=b:=by
 intro n;induction n with
 | zero=>intro a b h;simp [veq] at h
 | succ n ih =>
  have lists:∀ (l l':List Value),veq.veqs n l l'=true→l=l':=by
   intro l;induction l with
   | nil=>intro l' h;cases l' with | nil=>rfl | cons _ _=>simp [veq.veqs] at h
   | cons x l ihl =>
    intro l' h;cases l' with
    | nil=>simp [veq.veqs] at h
    | cons y l' =>
     simp only [veq.veqs,Bool.and_eq_true] at h;rw [ih x y h.1,ihl l' h.2]
  intro a b h;unfold veq at h;split at h;all_goals first | (rename_i hq;cases hq) | skip
  ·have:=eq_of_beq h;rw [this]
  ·simp only [Bool.and_eq_true] at h;have h1:=zSS h.1;have h2:=h.2;rw [yHN] at h2;have h3:=eq_of_beq h2;rw [h1,h3]
  ·rename_i a b;have:=of_decide_eq_true h;have:a=b:=by apply ByteArray.ext;apply Array.ext';exact this
   rw [this]
  ·rw [of_decide_eq_true h]
  ·simp only [Bool.and_eq_true] at h;rw [of_decide_eq_true h.1.1,Nat.eq_of_beq_eq_true h.1.2,Nat.eq_of_beq_eq_true h.2]
  ·rw [of_decide_eq_true h]
  ·rfl
  ·rfl
  ·have h1:=lists _ _ h;congr 1;apply Array.ext';exact h1
  ·have h1:=lists _ _ h;congr 1;apply Array.ext';exact h1
  ·simp only [Bool.and_eq_true] at h;have h1:=lists _ _ h.1.2;have h2:=lists _ _ h.2;have h3:=Nat.eq_of_beq_eq_true h.1.1;rw [h3];congr 1 <;> (apply Array.ext';assumption)
  ·simp only [Bool.and_eq_true] at h;have h3:=Nat.eq_of_beq_eq_true h.1;rw [h3,ih _ _ h.2]
  all_goals cases h

theorem xY (a b:Nat):Nat.blt a b=true↔a<b:=zW (a+1) b

theorem VR.lower {κ κ':Inj} {m:Nat} (hloc:∀ b s L,b<m→κ.loc b s=some L→κ'.loc b s=some L) (hsz:∀ b s L,κ.loc b s=some L→κ'.csz L.c=κ.csz L.c) :
  ∀ (d:Nat) {v v':Value},yX d m v=true→VR κ v v'→VR κ' v v':=by
 intro d;induction d with
 | zero=>intro v v' h;simp [yX] at h
 | succ d ih =>
  intro v v' hb h;have arr:∀ {c c':Array Value},(∀ (i:Nat) (v v':Value),c[i]?=some v→c'[i]?=some v'→VR κ v v')→c.toList.all (yX d m)=true→(∀ (i:Nat) (v v':Value),c[i]?=some v→c'[i]?=some v'→VR κ' v v'):=by
   intro c c' hh hall i v v' h1 h2;exact ih (List.all_eq_true.1 hall _ (by simp [Array.mem_of_getElem? h1])) (hh i v v' h1 h2)
  cases h with
  | any h=>exact .any h
  | atom h=>exact .atom h
  | ptr h hlo=>exact .ptr (hloc _ _ _ ((xY _ _).1 (by simpa [yX] using hb)) h) hlo
  | slice h hlo hA hc hs=>exact .slice (hloc _ _ _ ((xY _ _).1 (by simpa [yX] using hb)) h) hlo hA hc (by rw [hsz _ _ _ h];exact hs)
  | map h=>exact .map (hloc _ _ _ ((xY _ _).1 (by simpa [yX] using hb)) h)
  | func hf s1 h1 s2 h2 =>
   cases hf with
   | func f =>
    simp only [yX,Bool.and_eq_true] at hb;exact .func (.func f) s1 (arr h1 hb.1.2) s2 (arr h2 hb.2)
   | yield hl =>
    simp only [yX,Bool.and_eq_true] at hb;exact .func (.yield (hloc _ _ _ ((xY _ _).1 hb.1.1) hl)) s1 (arr h1 hb.1.2) s2 (arr h2 hb.2)
  | iface h=>simp only [yX] at hb;exact .iface (ih hb h)
  | agg s h=>simp only [yX] at hb;exact .agg s (arr h hb)
  | tuple s h=>simp only [yX] at hb;exact .tuple s (arr h hb)

def Inj.plus (ι:Inj) (pend:Nat→Option Loc):Inj :=
 {ι with loc:=fun b s=>if s=0 then (match pend b with | some L=>some L | none=>ι.loc b 0) else ι.loc b s }
def cut (pend:Nat→Option Loc) (n:Nat):Nat→Option Loc:=fun b=>if b<n then pend b else none
def Inj.owned (ι:Inj) (c b:Nat):Inj:={ ι with own:=fun c'=>if c'=c then some b else ι.own c' }
def Inj.commit (ι:Inj) (b:Nat) (L:Loc):Inj :=
 {ι with loc:=fun b' s=>if b'=b∧s=0 then some L else ι.loc b' s,own:=fun c'=>if c'=L.c then some b else ι.own c' }

theorem zFK {ι ι':Inj} {pend pend':Nat→Option Loc} (h:Sub ι ι') (hp:∀ b L,pend b=some L→pend' b=some L) (hn:∀ b L L',pend b=none→pend' b=some L→ι.loc b 0=some L'→L'=L)
  (hs:∀ b L,pend b=some L→ι'.csz L.c=ι.csz L.c):Sub (ι.plus pend) (ι'.plus pend'):=by
 refine ⟨fun b s L hL=>?_,fun b s L hL=>?_⟩
 ·simp only [Inj.plus] at hL ⊢;by_cases h0:s=0
  ·subst h0;rw [if_pos rfl] at hL ⊢;cases hb:pend b with
   | some L1=>rw [hb] at hL;simp only [hp b L1 hb];exact hL
   | none =>
    rw [hb] at hL;cases hb':pend' b with
    | some L1=>simp only;rw [hn b L1 L hb hb' hL]
    | none=>exact h.loc _ _ _ hL
  ·rw [if_neg h0] at hL ⊢;exact h.loc _ _ _ hL
 ·simp only [Inj.plus] at hL;by_cases h0:s=0
  ·subst h0;rw [if_pos rfl] at hL;cases hb:pend b with
   | some L1=>rw [hb] at hL;cases hL;exact hs b L hb
   | none=>rw [hb] at hL;exact h.sz _ _ _ hL
  ·rw [if_neg h0] at hL;exact h.sz _ _ _ hL

section
variable (ops:Array Oper) (l:List Seen) (f0:Tm)
structure FrOk (X:Nat→Prop) (κ:Inj) (tmps:Array Value):Prop where
 size:f0.n=tmps.size
 val:∀ t0,t0<f0.n →
  (∃ i s,X i∧(ops[i]?).bind (·.dst)=some t0∧l[i]?=some s∧(∀ i',X i'→(ops[i']?).bind (·.dst)=some t0→i'≤i)∧VR κ s.v (tmps.getD t0 undef)) ∨
  ((∀ i,X i→(ops[i]?).bind (·.dst)≠some t0)∧VR κ (f0.nth t0) (tmps.getD t0 undef))
 out:∀ t0,¬ t0<f0.n→VR κ (f0.nth t0) undef
variable {ops l f0}
theorem FrOk.sub {X:Nat→Prop} {κ κ':Inj} {tmps:Array Value} (h:FrOk ops l f0 X κ tmps) (e:Sub κ κ'):FrOk ops l f0 X κ' tmps :=
 ⟨h.size,fun t0 h0=>(h.val t0 h0).imp (fun ⟨i,s,a,b,c,d,v⟩=>⟨i,s,a,b,c,d,v.sub e⟩) (fun ⟨a,v⟩=>⟨a,v.sub e⟩),fun t0 h0=>(h.out t0 h0).sub e⟩
theorem FrOk.put {X:Nat→Prop} {κ:Inj} {a:Act} (h:FrOk ops l f0 X κ a.tmps) {j:Nat} {o:Oper} {s:Seen} {v':Value} (ho:ops[j]?=some o) (hs:l[j]?=some s)
  (hmax:∀ i t0,X i→o.dst=some t0→(ops[i]?).bind (·.dst)=some t0→i<j) (hv:VR κ s.v v'):FrOk ops l f0 (fun i=>X i∨i=j) κ (a.put o.dst v').tmps:=by
 refine ⟨?_,fun t0 h0=>?_,h.out⟩
 ·rw [h.size];unfold Act.put;split <;> simp
 ·by_cases hd:o.dst=some t0
  ·refine .inl ⟨j,s,.inr rfl,by rw [ho];exact hd,hs,fun i' hi' hd'=>?_, ?_⟩
   ·rcases hi' with hi' | rfl
    ·exact Nat.le_of_lt (hmax i' t0 hi' hd hd')
    ·exact Nat.le_refl _
   ·have hlt:t0<a.tmps.size:=by rw [← h.size];exact h0
    simp only [Act.put,hd];simpa [Array.getD,hlt] using hv
  ·have hsame:(a.put o.dst v').tmps.getD t0 undef=a.tmps.getD t0 undef:=by
    unfold Act.put;split
    ·rename_i d hdd;have hne:d≠t0:=fun e=>hd (by rw [hdd,e])
     simp [Array.getElem?_setIfInBounds_ne hne]
    ·rfl
   rw [hsame];rcases h.val t0 h0 with ⟨i,s',a1,a2,a3,a4,a5⟩ | ⟨a1,a2⟩
   ·refine .inl ⟨i,s',.inl a1,a2,a3,fun i' hi' hd'=>?_,a5⟩;rcases hi' with hi' | rfl
    ·exact a4 i' hi' hd'
    ·rw [ho] at hd';exact absurd hd' hd
   ·refine .inr ⟨fun i hi=>?_,a2⟩;rcases hi with hi | rfl
    ·exact a1 i hi
    ·rw [ho];exact hd
theorem FrOk.match {P:Program} {rec:Rec} {t:Tm} {τ:St} (S:SeqD P rec ops ops.toList l t τ) {X:Nat→Prop} {κ:Inj} {tmps:Array Value} (h:FrOk ops l (frL l t 0) X κ tmps) {j:Nat} (hj:j≤ops.size) {t0:Nat}
  (hX:∀ i,(ops[i]?).bind (·.dst)=some t0→(X i↔i<j)):VR κ ((frL l t j).nth t0) (tmps.getD t0 undef):=by
 by_cases h0:t0<(frL l t 0).n
 ·rcases S.last t0 h0 j hj with ⟨i,s,a1,a2,a3,a4,a5⟩ | ⟨a1,a2⟩
  ·rcases h.val t0 h0 with ⟨i',s',b1,b2,b3,b4,b5⟩ | ⟨b1,_⟩
   ·have hi:i=i':=by
     have h1:=b4 i ((hX i a2).2 a1) a2;have h2:=(hX i' b2).1 b1;by_cases he:i=i'
     ·exact he
     ·exact absurd b2 (a5 i' (by omega) h2)
    subst hi;rw [a3] at b3;cases b3;rw [a4];exact b5
   ·exact absurd a2 (b1 i ((hX i a2).2 a1))
  ·rcases h.val t0 h0 with ⟨i',s',b1,b2,b3,b4,b5⟩ | ⟨_,b2⟩
   ·exact absurd b2 (a1 i' ((hX i' b2).1 b1))
   ·rw [a2];exact b2
 ·have hn:(frL l t j).nth t0=(frL l t 0).nth t0:=by
   have hle:(frL l t 0).n≤t0:=Nat.le_of_not_lt h0;clear hX h;induction j with
   | zero=>rfl
   | succ j ih =>
    obtain ⟨s,_,_,_,_,hf,_⟩:=S.at (i:=j) (o:=ops[j]) (by simp)
    have:=S.frn j (by omega);rw [hf,zWJ,if_neg (by omega),ih (by omega)]
  have hsz:¬ t0<tmps.size:=by rw [← h.size];exact h0
  rw [hn];have:tmps.getD t0 undef=undef:=by simp [Array.getD,hsz]
  rw [this];exact h.out t0 h0
end

theorem xJJ {P:Program} {o:Op} {ev:Operand→Value} {σ σ':St} {v:Value} (hm:vT o=true) (h:zQ P ev σ o=some (v,σ')) :
  ∃ y,σ'=σ.add y∧∀ σ₂:St,σ₂.y=σ.y→zQ P ev σ₂ o=some (v,σ₂.add y):=by
 unfold zQ at h;split at h
 ·split at h
  ·rename_i z hz;rw [wG,yO] at h;simp at h;obtain ⟨rfl,rfl⟩:=h;exact ⟨_,rfl,fun σ₂ h2=>by unfold zQ;simp only [hz,wG,yO,h2];simp⟩
  ·cases h
 ·rw [wG,yO] at h;simp at h;obtain ⟨rfl,rfl⟩:=h;exact ⟨_,rfl,fun σ₂ h2=>by unfold zQ;simp only [wG,yO,h2];simp⟩
 ·split at h
  ·rename_i e n hes;split at h
   ·rename_i z hz;obtain ⟨hc,h⟩:=xX h;split at h
    ·rename_i cs hf;rw [yO] at h;simp at h;obtain ⟨rfl,rfl⟩:=h;exact ⟨_,rfl,fun σ₂ h2=>by unfold zQ;simp only [hes,hz,hc,cond_true,hf,yO,h2]⟩
    ·cases h
   ·cases h
  ·cases h
 ·split at h
  ·split at h
   ·rename_i ke hmo;rw [St.new_eq] at h;simp at h;obtain ⟨rfl,rfl⟩:=h;exact ⟨_,rfl,fun σ₂ h2=>by unfold zQ;simp only [hmo,St.new_eq,h2]⟩
   ·cases h
  ·split at h
   ·rename_i hmo hx;rw [St.new_eq] at h;simp at h;obtain ⟨rfl,rfl⟩:=h;exact ⟨_,rfl,fun σ₂ h2=>by unfold zQ;simp only [hmo,hx,St.new_eq,h2]⟩
   ·cases h
 ·split at h
  ·rename_i hes hl hc;split at h
   ·rename_i hz hi;obtain ⟨hcond,h⟩:=xX h;rw [yO] at h;simp at h;obtain ⟨rfl,rfl⟩:=h;exact ⟨_,rfl,fun σ₂ h2=>by unfold zQ;simp only [hes,hl,hc,hz,hi,hcond,cond_true,yO,h2]⟩
   ·cases h
  ·cases h
 all_goals (exfalso;simp_all [vT])
end Go.Lay

namespace Go.Lay
open Go

abbrev BF (ops:Array Oper):Array Nat:=CheckFast.beforeF ops

structure Pend (ι:Inj) (pend:Nat→Option Loc) (N0:Nat) (w:World) (n:Nat) (y:Blk) (L:Loc):Prop where
 get:pend n=some L
 ge:N0≤L.c
 lt:L.c<w.heap.size
 own:ι.own L.c=none
 off:∀ b s L',ι.loc b s=some L'→L'.c≠L.c
 blk:BlkR ((ι.plus (cut pend (n+1))).owned L.c n) w n y

structure Inv (ops:Array Oper) (l:List Seen) (t:Tm) (τ:St) (ι0:Inj) (w0:World) (ds:List Deferred) (X:Nat→Prop) (a:Act) (w:World) (q:Nat) (ι:Inj) (pend:Nat→Option Loc):Prop where
 hq:q≤ops.size
 ahead:∀ (j:Nat) (o:Oper),ops[j]?=some o→xT o.op=true→j<q→X j
 beyond:∀ (j:Nat) (o:Oper),ops[j]?=some o→xT o.op=true→q≤j→X j→wL ops (BF ops) j=true
 good:Good ι0 (stL l τ 0) w0 ι (stL l τ q) w
 keys:∀ b L,pend b=some L→(b<(stL l τ q).y∧ι.loc b 0=some L)∨(∃ j o s,q≤j∧X j∧ops[j]?=some o∧l[j]?=some s∧s.want=true∧wL ops (BF ops) j=true∧b=(stL l τ j).y)
 pok:∀ (j:Nat) (o:Oper) (s:Seen),q≤j→X j→ops[j]?=some o→xT o.op=true→l[j]?=some s→s.want=true→∃ y L,stL l τ (j+1)=(stL l τ j).add y∧Pend ι pend w0.heap.size w (stL l τ j).y y L
 inj:∀ b b' L L',pend b=some L→pend b'=some L'→L.c=L'.c→b=b'
 fr:FrOk ops l (frL l t 0) X (ι.plus pend) a.tmps
 ds:a.defers=ds
 fast:(∀ j,wL ops (BF ops) j=false)→∀ b,pend b=none

theorem zNJ {o:Op} (h:vT o=true):xT o=true:=by cases o <;> first | rfl | (simp [vT] at h)
theorem zHC {ops:Array Oper} {B:Array Nat} {j:Nat} {o:Oper} (ho:ops[j]?=some o) (h:wL ops B j=true):vT o.op=true:=by
 unfold wL at h;rw [(yP ho).1,Bool.and_eq_true] at h;exact h.1

theorem zJU {pend:Nat→Option Loc} {n b:Nat} {L:Loc} (h:cut pend n b=some L):b<n∧pend b=some L:=by
 unfold cut at h;split at h
 ·rename_i hlt;exact ⟨hlt,h⟩
 ·cases h
theorem wE {ι:Inj} {pend:Nat→Option Loc} {b:Nat} {L:Loc} (h:pend b=some L):(ι.plus pend).loc b 0=some L:=by simp [Inj.plus,h]
theorem wF {ι:Inj} {pend:Nat→Option Loc} {b s:Nat} (h:s≠0):(ι.plus pend).loc b s=ι.loc b s:=by simp [Inj.plus,h]
theorem wV {ι:Inj} {pend:Nat→Option Loc} {b:Nat} (s:Nat) (h:pend b=none):(ι.plus pend).loc b s=ι.loc b s:=by
 simp only [Inj.plus,h];split
 ·rename_i h0;rw [h0]
 ·rfl

section
variable {P:Program} {rec:Rec} {ops:Array Oper} {l:List Seen} {t:Tm} {τ:St} {ι0:Inj} {w0:World} {ds:List Deferred} {X:Nat→Prop} {a:Act} {w:World} {q:Nat} {ι:Inj} {pend:Nat→Option Loc}

theorem Inv.lt_size (I:Inv ops l t τ ι0 w0 ds X a w q ι pend) {b:Nat} {L:Loc} (h:pend b=some L):L.c<w.heap.size:=by
 rcases I.keys b L h with ⟨_,h1⟩ | ⟨j,o,s,h1,h2,h3,h4,h5,h6,rfl⟩
 ·exact I.good.rep.lt _ _ _ h1
 ·obtain ⟨y,L',_,hp⟩:=I.pok j o s h1 h2 h3 (zNJ (zHC h3 h6)) h4 h5;rw [hp.get] at h;cases h;exact hp.lt

theorem Inv.sub_plus (S:SeqD P rec ops ops.toList l t τ) (I:Inv ops l t τ ι0 w0 ds X a w q ι pend) (hX:∀ j,X j→j<ops.size):Sub ι (ι.plus pend):=by
 refine ⟨fun b s L h=>?_,fun _ _ _ _=>rfl⟩
 by_cases h0:s=0
 ·subst h0;cases hp:pend b with
  | none=>rw [wV _ hp];exact h
  | some L1 =>
   rw [wE hp];rcases I.keys b L1 hp with ⟨_,h1⟩ | ⟨j,o,s,h1,h2,h3,h4,h5,h6,rfl⟩
   ·rw [h] at h1;exact h1.symm
   ·have:=S.mono q j h1 (Nat.le_of_lt (hX j h2));rw [I.good.rep.fresh _ _ this] at h;cases h
 ·rw [wF h0];exact h

theorem Inv.lower (S:SeqD P rec ops ops.toList l t τ) (I:Inv ops l t τ ι0 w0 ds X a w q ι pend) (hX:∀ j,X j→j<ops.size) {f:Tm} {o:Oper} (hb:(∀ j,wL ops (BF ops) j=false)∨zCQ (stL l τ q).y f o=true) {x:Operand} (hx:x∈o.op.operands) {v':Value}
  (h:VR (ι.plus pend) (yG f x) v'):VR ι (yG f x) v':=by
 rcases hb with hb | hb
 ·refine VR.sub (ι:=ι.plus pend) (ι':=ι) ⟨fun b s L hL=>?_,fun _ _ _ _=>rfl⟩ h;rw [wV _ (I.fast hb b)] at hL;exact hL
 ·refine VR.lower (κ:=ι.plus pend) (κ':=ι) (m:=(stL l τ q).y) (fun b s L hlt hL=>?_) (fun _ _ _ _=>rfl) RD (List.all_eq_true.1 hb x (by simpa using hx)) h;by_cases h0:s=0
  ·subst h0;cases hp:pend b with
   | none=>rw [wV _ hp] at hL;exact hL
   | some L1 =>
    rw [wE hp] at hL;cases hL;rcases I.keys b L hp with ⟨_,h1⟩ | ⟨j,o',s,h1,h2,_,_,_,_,rfl⟩
    ·exact h1
    ·have:=S.mono q j h1 (Nat.le_of_lt (hX j h2));omega
  ·rw [wF h0] at hL;exact hL

theorem Pend.keep {ι':Inj} {pend':Nat→Option Loc} {w':World} {N0 n:Nat} {y:Blk} {L:Loc} (h:Pend ι pend N0 w n y L) (hget:pend' n=some L) (hlt:w.heap.size≤w'.heap.size) (hown:ι'.own L.c=none)
  (hoff:∀ b s L',ι'.loc b s=some L'→L'.c≠L.c) (hs:Sub (ι.plus (cut pend (n+1))) (ι'.plus (cut pend' (n+1)))) (hfr:∀ s,s≠0→ι.loc n s=none∧ι'.loc n s=none) (hw:w'.heap[L.c]?=w.heap[L.c]?) :
  Pend ι' pend' N0 w' n y L:=by
 refine ⟨hget,h.ge,Nat.lt_of_lt_of_le h.lt hlt,hown,hoff, ?_⟩
 have hl:∀ s L1,((ι.plus (cut pend (n+1))).owned L.c n).loc n s=some L1→L1=L:=fun s L1 hL=>by
  by_cases h0:s=0
  ·subst h0;have:(ι.plus (cut pend (n+1))).loc n 0=some L:=wE (by simp [cut,h.get]);rw [show ((ι.plus (cut pend (n+1))).owned L.c n).loc n 0=(ι.plus (cut pend (n+1))).loc n 0 from rfl,this] at hL;cases hL;rfl
  ·rw [show ((ι.plus (cut pend (n+1))).owned L.c n).loc n s=(ι.plus (cut pend (n+1))).loc n s from rfl,wF h0,(hfr s h0).1] at hL;cases hL
 refine h.blk.keepS ⟨hs.loc,hs.sz⟩ (fun s L1 hL=>?_) (fun s L1 hL _=>?_) (fun cs esz log next ro hy s hs'=>?_)
 ·rw [hl s L1 hL];simp [Inj.owned]
 ·rw [hl s L1 hL];exact hw
 ·have hb:=h.blk;subst hy;cases hb with
  | cells _ _ _ fresh =>
   have:=fresh s hs';by_cases h0:s=0
   ·subst h0;have h2:(ι.plus (cut pend (n+1))).loc n 0=some L:=wE (by simp [cut,h.get]);rw [show ((ι.plus (cut pend (n+1))).owned L.c n).loc n 0=(ι.plus (cut pend (n+1))).loc n 0 from rfl,h2] at this;cases this
   ·rw [show ((ι'.plus (cut pend' (n+1))).owned L.c n).loc n s=(ι'.plus (cut pend' (n+1))).loc n s from rfl,wF h0];exact (hfr s h0).2

theorem Inv.advance1 (S:SeqD P rec ops ops.toList l t τ) (I:Inv ops l t τ ι0 w0 ds X a w q ι pend) (hX:∀ j,X j→j<ops.size) {o:Oper} (ho:ops[q]?=some o) (hact:xT o.op=true→X q) :
    ∃ ι',Inv ops l t τ ι0 w0 ds X a w (q+1) ι' pend:=by
  obtain ⟨s,hs,_,_,_,_,hg,h1,h2⟩:=S.at ho;have hq1:q+1≤ops.size:=(yP ho).2;have stay:stL l τ (q+1)=stL l τ q→(∀ (sx:Seen),l[q]?=some sx→sx.want=true→wL ops (BF ops) q=true→False)→∃ ι',Inv ops l t τ ι0 w0 ds X a w (q+1) ι' pend:=fun hst hno =>
    ⟨ι, hq1,fun j o' hj ha hlt=>by
        by_cases he:j=q
        · subst he;rw [ho] at hj;cases hj;exact hact ha
        · exact I.ahead j o' hj ha (by omega),
      fun j o' hj ha hle hx=>I.beyond j o' hj ha (by omega) hx,by rw [hst];exact I.good,
      fun b L hp=>by
        rw [hst];refine (I.keys b L hp).imp id (fun ⟨j,o',s',x1,x2,x3,x4,x5,x6,x7⟩=>⟨j,o',s', ?_,x2,x3,x4,x5,x6,x7⟩);by_cases he:j=q
        · subst he;exact (hno s' x4 x5 x6).elim
        · omega,
      fun j o' s' hle hx hj ha hs' hw=>I.pok j o' s' (by omega) hx hj ha hs' hw,I.inj,I.fr,I.ds,I.fast⟩
  cases hact':xT o.op with
  | false =>
    refine stay ?_ (fun sx _ _ hfree=>?_)
    · cases hw:s.want with
      | false=>exact (h2 hw).2
      | true => rcases zJI (h1 hw) with ⟨ha,_⟩ | ⟨_,_,_,he⟩ | ⟨_,_,_,he⟩
                · rw [hact'] at ha;cases ha
                · exact he
                · exact he
    · have:=zNJ (zHC ho hfree);rw [hact'] at this;cases this
  | true =>
    have hXq:=hact hact';cases hw:s.want with
    | false=>exact stay (h2 hw).2 (fun sx hsx hwx _=>by rw [hs] at hsx;cases hsx;rw [hw] at hwx;cases hwx)
    | true =>
      obtain ⟨y,L,hst,hp⟩:=I.pok q o s (Nat.le_refl _) hXq ho hact' hs hw;have hfree:=I.beyond q o ho hact' (Nat.le_refl _) hXq;have hfrn:=I.good.rep.fresh (stL l τ q).y;have hnone:∀ s,ι.loc (stL l τ q).y s=none:=fun s=>hfrn s (Nat.le_refl _)
      have hbig:∀ j,q+1≤j→j≤ops.size→(stL l τ q).y+1≤(stL l τ j).y:=fun j hj hj2=>by
        have:=S.mono (q+1) j hj hj2;rw [hst,St.add_next] at this;exact this
      have hsub:Sub ι (ι.commit (stL l τ q).y L):=by
        refine ⟨fun b s0 L0 h0=>?_,fun _ _ _ _=>rfl⟩
        simp only [Inj.commit];rw [if_neg];exact h0;rintro ⟨rfl,rfl⟩;rw [hnone 0] at h0;cases h0
      have hgood:=I.good;have rep:Rep (ι.commit (stL l τ q).y L) ((stL l τ q).add y) w:=by
        refine ⟨fun b y' hb=>?_,fun b s0 L0 h0=>?_,fun c b h0=>?_,fun b s0 h0=>?_⟩
        · rw [St.add_get] at hb;by_cases hbn:b=(stL l τ q).y
          · rw [if_pos hbn] at hb;cases hb;subst hbn;refine ⟨by simp,hp.blk.keepS ⟨fun b s0 L0 h0=>?_,fun _ _ _ _=>rfl⟩ (fun _ _ _=>rfl) (fun _ _ _ _=>rfl) (fun cs esz log next ro hy s0 hs0=>?_)⟩
            · have h0:(ι.plus (cut pend ((stL l τ q).y+1))).loc b s0=some L0:=h0;by_cases hz:s0=0
              · subst hz;cases hc:cut pend ((stL l τ q).y+1) b with
                | none=>rw [wV _ hc] at h0;exact hsub.loc _ _ _ h0
                | some L1 =>
                  rw [wE hc] at h0;cases h0;obtain ⟨hlt,hpb⟩:=zJU hc;by_cases hbe:b=(stL l τ q).y
                  · subst hbe;rw [hp.get] at hpb;cases hpb;simp [Inj.commit]
                  · rcases I.keys b L0 hpb with ⟨_,x⟩ | ⟨j,_,_,x1,x2,_,_,_,_,x7⟩
                    · exact hsub.loc _ _ _ x
                    · have:=S.mono q j x1 (Nat.le_of_lt (hX j x2));omega
              · rw [wF hz] at h0;exact hsub.loc _ _ _ h0
            · have hb:=hp.blk;subst hy;cases hb with
              | cells _ _ _ fresh =>
                have hh:=fresh s0 hs0;by_cases hz:s0=0
                · subst hz;have h2:(ι.plus (cut pend ((stL l τ q).y+1))).loc (stL l τ q).y 0=some L:=wE (by simp [cut,hp.get]);rw [show ((ι.plus (cut pend ((stL l τ q).y+1))).owned L.c (stL l τ q).y).loc (stL l τ q).y 0=(ι.plus (cut pend ((stL l τ q).y+1))).loc (stL l τ q).y 0 from rfl,h2] at hh;cases hh
                · simp only [Inj.commit];rw [if_neg (fun x=>hz x.2)];exact hnone s0
          · rw [if_neg hbn] at hb;have h:=hgood.rep.blk b y' hb;refine ⟨by simp;omega,h.2.keepS hsub (fun s0 L0 h0=>?_) (fun _ _ _ _=>rfl) (fun cs esz log next ro hy s0 hs0=>?_)⟩
            · simp only [Inj.commit];rw [if_neg (hp.off _ _ _ h0)]
            · subst hy;simp only [Inj.commit];rw [if_neg (fun x=>hbn x.1)];cases h.2 with | cells _ _ _ fresh=>exact fresh s0 hs0
        · simp only [Inj.commit] at h0;split at h0
          · cases h0;exact hp.lt
          · exact hgood.rep.lt _ _ _ h0
        · simp only [Inj.commit] at h0;split at h0
          · rename_i hc;cases h0;rw [hc];exact ⟨hp.lt,by simp⟩
          · have:=hgood.rep.ownlt _ _ h0;exact ⟨this.1,by simp;omega⟩
        · simp at h0;simp only [Inj.commit];rw [if_neg (by omega)];exact hgood.rep.fresh b s0 (by omega)
      have good:Good ι0 (stL l τ 0) w0 (ι.commit (stL l τ q).y L) (stL l τ (q+1)) w:=by
        rw [hst];refine ⟨⟨fun b s0 L0 h0=>hsub.loc _ _ _ (hgood.ext.loc _ _ _ h0),hgood.ext.sz,fun b s0 h0 hb=>?_,fun c hc=>?_,hgood.ext.csz,fun b s0 L0 h0 hc=>?_⟩,rep,hgood.pres,hgood.low,Nat.le_trans hgood.y (by simp)⟩
        · simp at hb;simp only [Inj.commit];rw [if_neg (by omega)];exact hgood.ext.fresh b s0 h0 (by omega)
        · simp only [Inj.commit];rw [if_neg (by have:=hp.ge;omega)];exact hgood.ext.own c hc
        · simp only [Inj.commit] at h0;split at h0
          · cases h0;have:=hp.ge;omega
          · exact hgood.ext.old _ _ _ h0 hc
      have hps:∀ m,Sub (ι.plus (cut pend m)) ((ι.commit (stL l τ q).y L).plus (cut pend m)):=fun m =>
        zFK hsub (fun _ _ h=>h) (fun b L1 L2 h1 h2=>by rw [h1] at h2;cases h2) (fun _ _ _=>rfl)
      refine ⟨ι.commit (stL l τ q).y L,hq1,fun j o' hj ha hlt=>?_,fun j o' hj ha hle hx=>I.beyond j o' hj ha (by omega) hx,good,fun b L1 hpb=>?_,fun j o' s' hle hx hj ha hs' hw'=>?_,I.inj, ?_,I.ds,I.fast⟩
      · by_cases he:j=q
        · subst he;exact hXq
        · exact I.ahead j o' hj ha (by omega)
      · rw [hst];rcases I.keys b L1 hpb with ⟨x1,x2⟩ | ⟨j,o',s',x1,x2,x3,x4,x5,x6,x7⟩
        · exact .inl ⟨by simp;omega,hsub.loc _ _ _ x2⟩
        · by_cases he:j=q
          · subst he;subst x7;rw [hp.get] at hpb;cases hpb;exact .inl ⟨by simp,by simp [Inj.commit]⟩
          · exact .inr ⟨j,o',s',by omega,x2,x3,x4,x5,x6,x7⟩
      · obtain ⟨y',L',e1,hp'⟩:=I.pok j o' s' (by omega) hx hj ha hs' hw';have hb:=hbig j hle (Nat.le_of_lt (yP hj).2);have hne:L'.c≠L.c:=fun e=>by
          have:=I.inj _ _ _ _ hp'.get hp.get e;omega
        refine ⟨y',L',e1,hp'.keep hp'.get (Nat.le_refl _) ?_ (fun b s0 L0 h0=>?_) (hps _) (fun s0 hs0=>?_) rfl⟩
        · simp only [Inj.commit];rw [if_neg hne];exact hp'.own
        · simp only [Inj.commit] at h0;split at h0
          · cases h0;exact fun e=>hne e.symm
          · exact hp'.off _ _ _ h0
        · have hn:=hgood.rep.fresh (stL l τ j).y s0 (by omega);exact ⟨hn,by simp only [Inj.commit];rw [if_neg (fun x=>hs0 x.2)];exact hn⟩
      · refine I.fr.sub (zFK hsub (fun _ _ h=>h) (fun b L1 L2 h1 h2=>by rw [h1] at h2;cases h2) (fun _ _ _=>rfl))
end
end Go.Lay

namespace Go.Lay
open Go

section
variable {P:Program} {rec:Rec} {ops:Array Oper} {l:List Seen} {t:Tm} {τ:St} {ι0:Inj} {w0:World} {ds:List Deferred} {X:Nat→Prop} {a:Act} {w:World} {q:Nat} {ι:Inj} {pend:Nat→Option Loc}

theorem Inv.advance (S:SeqD P rec ops ops.toList l t τ) (hX:∀ j,X j→j<ops.size):∀ (n:Nat) {q:Nat} {ι:Inj},Inv ops l t τ ι0 w0 ds X a w q ι pend→q+n≤ops.size→(∀ (j:Nat) (o:Oper),ops[j]?=some o→q≤j→j<q+n→xT o.op=true→X j) →
  ∃ ι',Inv ops l t τ ι0 w0 ds X a w (q+n) ι' pend
 | 0,q,ι,I,_,_=>⟨ι,I⟩
 | n+1,q,ι,I,hn,hall=>by
  have ho:ops[q]?=some ops[q]:=by simp
  obtain ⟨ι₁,I₁⟩:=I.advance1 S hX ho (fun ha=>hall q _ ho (Nat.le_refl _) (by omega) ha);obtain ⟨ι₂,I₂⟩:=Inv.advance S hX n I₁ (by omega) (fun j o hj h1 h2 ha=>hall j o hj (by omega) (by omega) ha);exact ⟨ι₂,by rw [show q+(n+1)=q+1+n by omega];exact I₂⟩
theorem Inv.advanceTo (S:SeqD P rec ops ops.toList l t τ) (hX:∀ j,X j→j<ops.size) (I:Inv ops l t τ ι0 w0 ds X a w q ι pend) {m:Nat} (hqm:q≤m) (hm:m≤ops.size)
  (hall:∀ (j:Nat) (o:Oper),ops[j]?=some o→j<m→xT o.op=true→X j):∃ ι',Inv ops l t τ ι0 w0 ds X a w m ι' pend:=by
 obtain ⟨ι',I'⟩:=I.advance S hX (m-q) (by omega) (fun j o hj _ h2 ha=>hall j o hj (by omega) ha);exact ⟨ι',by rw [show m=q+(m-q) by omega];exact I'⟩

structure Rdy (ops:Array Oper) (X:Nat→Prop) (i:Nat) (o:Oper):Prop where
 op:ops[i]?=some o
 not:¬ X i
 dep:∀ e∈o.after.toList,Region.binds .any e=true→X e.on

section
variable (D:DrawOk ops) (hC:yIS ops X) {i:Nat} {o:Oper} (R:Rdy ops X i o)
include D hC R
theorem Rdy.pre {k:Nat} (h:pre (BF ops) k i=true):X k:=yGN D hC i o R.op R.dep k h
theorem Rdy.apart {k:Nat} {ok:Oper} (hk:ops[k]?=some ok) (hne:k≠i) (hx:¬ (X k∧k<i)) (hx2:¬ (¬ X k∧i<k)):Oper.apart ops ok o=true∧Oper.apart ops o ok=true:=by
 have h1:Go.Lay.pre (BF ops) k i=false:=by
  rw [Bool.eq_false_iff];intro h;exact hx ⟨R.pre D hC h,yGM D k i (yP R.op).2 h⟩
 have h2:Go.Lay.pre (BF ops) i k=false:=by
  rw [Bool.eq_false_iff];intro h;have hlt:=yGM D i k (yP hk).2 h;refine hx2 ⟨fun hxk=>?_,hlt⟩;exact R.not (yGN D hC k ok hk (fun e he hb=>hC k ok hxk hk e he hb) i h)
 exact ⟨D.apart k i ok o hk R.op hne h1 h2,D.apart i k o ok R.op hk (Ne.symm hne) h2 h1⟩
theorem Rdy.writer {k t0:Nat} (ht:t0∈o.looksAt ops) (hk:(ops[k]?).bind (·.dst)=some t0):X k↔k<i:=by
 cases hok:ops[k]? with
 | none=>rw [hok] at hk;simp at hk
 | some ok =>
  rw [hok] at hk;simp at hk;by_cases hne:k=i
  ·subst hne;exact ⟨fun h=>absurd h R.not,fun h=>absurd h (Nat.lt_irrefl _)⟩
  ·have no:¬ (Oper.apart ops ok o=true):=fun h=>(Oper.apart_spec h).1 t0 hk ht
   by_cases hx:X k
   ·refine ⟨fun _=>?_,fun _=>hx⟩
    by_cases hlt:k<i
    ·exact hlt
    ·exact absurd (R.apart D hC hok hne (fun h=>hlt h.2) (fun h=>h.1 hx)).1 no
   ·refine ⟨fun h=>absurd h hx,fun hlt=>?_⟩
    exact absurd (R.apart D hC hok hne (fun h=>hx h.1) (fun h=>by omega)).1 no
theorem Rdy.max {k t0:Nat} (hx:X k) (ht:o.dst=some t0) (hk:(ops[k]?).bind (·.dst)=some t0):k<i:=by
 cases hok:ops[k]? with
 | none=>rw [hok] at hk;simp at hk
 | some ok =>
  rw [hok] at hk;simp at hk;have hne:k≠i:=fun e=>R.not (e ▸ hx)
  by_cases hlt:k<i
  ·exact hlt
  ·exact absurd ht ((Oper.apart_spec (R.apart D hC hok hne (fun h=>hlt h.2) (fun h=>h.1 hx)).1).2.1 t0 hk)

theorem Rdy.operand (S:SeqD P rec ops ops.toList l t τ) (I:Inv ops l t τ ι0 w0 ds X a w q ι pend) (hok:zJH o=true) {x:Operand} (hx:x∈o.op.operands):VR (ι.plus pend) (yG (frL l t i) x) (a.eval x):=by
 cases x with
 | tmp t0 =>
  have hl:t0∈o.looksAt ops:=List.mem_append_left _ (List.mem_filterMap.2 ⟨.tmp t0,by simpa using hx,rfl⟩);exact I.fr.match S (Nat.le_of_lt (yP R.op).2) (fun k hk=>R.writer D hC hl hk)
 | const v=>exact .refl_rigid _ (xTM hok hx)
 | global g=>exact .any rfl
 | func g=>exact .func (.func g) rfl (fun i v v' h=>by simp at h) rfl (fun i v v' h=>by simp at h)
theorem Rdy.guard (S:SeqD P rec ops ops.toList l t τ) (I:Inv ops l t τ ι0 w0 ds X a w q ι pend) {b:Bool} (hg:zEX ops (frL l t i) o=some b):Region.wanted o (yielded ops a.tmps)=b:=by
 refine zHB (ι:=ι.plus pend) hg (fun j want d hgd hd=>?_);have hl:d∈o.looksAt ops:=List.mem_append_right _ (by simp [hgd,hd]);exact I.fr.match S (Nat.le_of_lt (yP R.op).2) (fun k hk=>R.writer D hC hl hk)
end

structure Ask (P:Program) (ops:Array Oper) (l:List Seen) (t:Tm) (τ:St):Prop where
 low:∀ (i:Nat) (o:Oper) (s:Seen),ops[i]?=some o→l[i]?=some s→s.want=true→(xT o.op || zBP o.op)=true→(∀ j,wL ops (BF ops) j=false)∨zCQ (stL l τ i).y (frL l t i) o=true
 steady:∀ (i k:Nat) (oi ok:Oper) (si:Seen),ops[i]?=some oi→ops[k]?=some ok→i≠k→l[i]?=some si→si.want=true→zBP oi.op=true→xT ok.op=true→pre (BF ops) i k=false→pre (BF ops) k i=false →
  (xP P (yG (frL l t i)) (stL l τ k) oi.op=some si.v∧zCQ (stL l τ k).y (frL l t i) oi=true)∧(xP P (yG (frL l t i)) (stL l τ (k+1)) oi.op=some si.v∧zCQ (stL l τ (k+1)).y (frL l t i) oi=true)

section
variable (hz:zAH P) (hrec:RecSound P rec) (D:DrawOk ops) (S:SeqD P rec ops ops.toList l t τ) (A:Ask P ops l t τ) (hC:yIS ops X) (hX:∀ j,X j→j<ops.size) (hok:∀ (j:Nat) (o:Oper),ops[j]?=some o→zJH o=true)
variable {i:Nat} {o:Oper} (R:Rdy ops X i o) {rd:Option Nat} {n:Nat} {Q:Exit→Act→World→Prop}

theorem Inv.stepWith (I:Inv ops l t τ ι0 w0 ds X a w q ι pend) {s:Seen} (hs:l[i]?=some s) (ho:ops[i]?=some o) (hnx:¬ X i) (hmax:∀ k t0,X k→o.dst=some t0→(ops[k]?).bind (·.dst)=some t0→k<i)
  (hact:xT o.op=false) {v':Value} (hv:VR (ι.plus pend) s.v v'):Inv ops l t τ ι0 w0 ds (fun j=>X j∨j=i) (a.put o.dst v') w q ι pend:=by
 have hi:∀ {j:Nat} {o':Oper},ops[j]?=some o'→xT o'.op=true→j≠i:=fun hj ha e=>by subst e;rw [ho] at hj;cases hj;rw [hact] at ha;cases ha
 refine ⟨I.hq,fun j o' hj ha hlt=>.inl (I.ahead j o' hj ha hlt),fun j o' hj ha hle hx=>I.beyond j o' hj ha hle (hx.resolve_right (hi hj ha)),I.good,fun b L hp=>?_,
  fun j o' s' hle hx hj ha hs' hw=>I.pok j o' s' hle (hx.resolve_right (hi hj ha)) hj ha hs' hw,I.inj,I.fr.put ho hs hmax hv, ?_,I.fast⟩
 ·exact (I.keys b L hp).imp id (fun ⟨j,o',s',x1,x2,x3⟩=>⟨j,o',s',x1,.inl x2,x3⟩)
 ·rw [← I.ds];unfold Act.put;split <;> rfl

include S in
theorem Inv.stepIdle (I:Inv ops l t τ ι0 w0 ds X a w q ι pend) {s:Seen} (hs:l[i]?=some s) (ho:ops[i]?=some o) (hnx:¬ X i) (hmax:∀ k t0,X k→o.dst=some t0→(ops[k]?).bind (·.dst)=some t0→k<i)
  (hw:s.want=false) (hqi:q=i∨wL ops (BF ops) i=true):∃ q',Inv ops l t τ ι0 w0 ds (fun j=>X j∨j=i) (a.put o.dst undef) w q' ι pend:=by
 obtain ⟨s0,hs0,_,_,_,_,_,_,h2⟩:=S.at ho;rw [hs] at hs0;cases hs0;obtain ⟨hv,hst⟩:=h2 hw;have hfr:FrOk ops l (frL l t 0) (fun j=>X j∨j=i) (ι.plus pend) (a.put o.dst undef).tmps:=I.fr.put ho hs hmax (by rw [hv];exact .undef);have hds:(a.put o.dst undef).defers=ds:=by rw [← I.ds];unfold Act.put;split <;> rfl
 by_cases hf:wL ops (BF ops) i=true
 ·refine ⟨q,I.hq,fun j o' hj ha hlt=>.inl (I.ahead j o' hj ha hlt),fun j o' hj ha hle hx=>?_,I.good,fun b L hp=>?_,fun j o' s' hle hx hj ha hs' hw'=>?_,I.inj,hfr,hds,I.fast⟩
  ·rcases hx with hx | rfl
   ·exact I.beyond j o' hj ha hle hx
   ·exact hf
  ·exact (I.keys b L hp).imp id (fun ⟨j,o',s',x1,x2,x3⟩=>⟨j,o',s',x1,.inl x2,x3⟩)
  ·rcases hx with hx | rfl
   ·exact I.pok j o' s' hle hx hj ha hs' hw'
   ·rw [hs] at hs';cases hs';rw [hw] at hw';cases hw'
 ·have hqi:q=i:=hqi.resolve_right hf;subst hqi;refine ⟨q+1,(yP ho).2,fun j o' hj ha hlt=>?_,fun j o' hj ha hle hx=>?_,by rw [hst];exact I.good,fun b L hp=>?_,fun j o' s' hle hx hj ha hs' hw'=>?_,I.inj,hfr,hds,I.fast⟩
  ·by_cases he:j=q
   ·exact .inr he
   ·exact .inl (I.ahead j o' hj ha (by omega))
  ·exact I.beyond j o' hj ha (by omega) (hx.resolve_right (by omega))
  ·rw [hst];refine (I.keys b L hp).imp id (fun ⟨j,o',s',x1,x2,x3⟩=>⟨j,o',s', ?_,.inl x2,x3⟩);have:j≠q:=fun e=>hnx (e ▸ x2)
   omega
  ·exact I.pok j o' s' (by omega) (hx.resolve_right (by omega)) hj ha hs' hw'

include S in
theorem Inv.stepAct (I:Inv ops l t τ ι0 w0 ds X a w i ι pend) {s:Seen} (hs:l[i]?=some s) (ho:ops[i]?=some o) (hnx:¬ X i) (hmax:∀ k t0,X k→o.dst=some t0→(ops[k]?).bind (·.dst)=some t0→k<i)
  {v':Value} {w':World} {ι':Inj} (hv:VR ι' s.v v') (hg:Good ι (stL l τ i) w ι' (stL l τ (i+1)) w'):Inv ops l t τ ι0 w0 ds (fun j=>X j∨j=i) (a.put o.dst v') w' (i+1) ι' pend:=by
 have hmono:=S.mono i (i+1) (by omega) (yP ho).2;have hps:∀ m,Sub (ι.plus (cut pend m)) (ι'.plus (cut pend m)):=fun m =>
  zFK hg.ext.sub (fun _ _ h=>h) (fun b L1 L2 h1 h2=>by rw [h1] at h2;cases h2) (fun b L h=>hg.ext.csz _ (I.lt_size (zJU h).2))
 have keys:∀ b L,pend b=some L→(b<(stL l τ (i+1)).y∧ι'.loc b 0=some L)∨(∃ j o s,i+1≤j∧(X j∨j=i)∧ops[j]?=some o∧l[j]?=some s∧s.want=true∧wL ops (BF ops) j=true∧b=(stL l τ j).y):=by
  intro b L hp;rcases I.keys b L hp with ⟨x1,x2⟩ | ⟨j,o',s',x1,x2,x3⟩
  ·exact .inl ⟨by omega,hg.ext.loc _ _ _ x2⟩
  ·refine .inr ⟨j,o',s', ?_,.inl x2,x3⟩;have:j≠i:=fun e=>hnx (e ▸ x2)
   omega
 refine ⟨(yP ho).2,fun j o' hj ha hlt=>?_,fun j o' hj ha hle hx=>I.beyond j o' hj ha (by omega) (hx.resolve_right (by omega)),I.good.trans hg,keys,fun j o' s' hle hx hj ha hs' hw'=>?_,I.inj, ?_, ?_,I.fast⟩
 ·by_cases he:j=i
  ·exact .inr he
  ·exact .inl (I.ahead j o' hj ha (by omega))
 ·obtain ⟨y,L,e1,hp⟩:=I.pok j o' s' (by omega) (hx.resolve_right (by omega)) hj ha hs' hw';have hnj:=S.mono (i+1) j hle (Nat.le_of_lt (yP hj).2);refine ⟨y,L,e1,hp.keep hp.get hg.pres.size (by rw [hg.ext.own _ hp.lt];exact hp.own) (fun b s0 L0 h0 e=>?_) (hps _) (fun s0 hs0=>?_) (hg.pres.same _ hp.lt (fun b hb=>by rw [hp.own] at hb;cases hb))⟩
  ·obtain ⟨b',s',L',g1,g2⟩:=hg.ext.old _ _ _ h0 (by rw [e];exact hp.lt);exact hp.off _ _ _ g1 (g2.trans e)
  ·have hn:=I.good.rep.fresh (stL l τ j).y s0 (by omega);exact ⟨hn,hg.ext.fresh _ _ hn (by omega)⟩
 ·have h1:Sub (ι.plus pend) (ι'.plus pend):=zFK hg.ext.sub (fun _ _ h=>h) (fun b L1 L2 h1 h2=>by rw [h1] at h2;cases h2) (fun b L h=>hg.ext.csz _ (I.lt_size h));refine (I.fr.sub h1).put ho hs hmax (VR.sub (ι:=ι') (ι':=ι'.plus pend) ⟨fun b s0 L0 h0=>?_,fun _ _ _ _=>rfl⟩ hv);by_cases hz0:s0=0
  ·subst hz0;cases hp:pend b with
   | none=>rw [wV _ hp];exact h0
   | some L1 =>
    rw [wE hp];rcases keys b L1 hp with ⟨_,x⟩ | ⟨j,o',s',x1,x2,x3,x4,x5,x6,rfl⟩
    ·rw [h0] at x;exact x.symm
    ·have hnj:=S.mono (i+1) j x1 (Nat.le_of_lt (yP x3).2);rw [hg.rep.fresh _ _ hnj] at h0;cases h0
  ·rw [wF hz0];exact h0
 ·rw [← I.ds];unfold Act.put;split <;> rfl

include hz hrec D S A hC hX hok R in
theorem Inv.step (I:Inv ops l t τ ι0 w0 ds X a w q ι pend) :
    wpOpIn (Fw rd) n P ops Q i (fun a' w'=>∃ q' ι' pend',Inv ops l t τ ι0 w0 ds (fun j=>X j∨j=i) a' w' q' ι' pend') a w:=by
  obtain ⟨s,hs,_,_,_,_,hg,h1,h2⟩:=S.at R.op;have ho:=R.op;have hlti:=(yP ho).2;have hmax:∀ k t0,X k→o.dst=some t0→(ops[k]?).bind (·.dst)=some t0→k<i:=fun k t0 hx hd hk=>R.max D hC hx hd hk
  have hoi:=hok i o ho;unfold wpOpIn;rw [ho];simp only;rw [R.guard D hC S I hg];have front:xT o.op=true→wL ops (BF ops) i=false→∃ ι',Inv ops l t τ ι0 w0 ds X a w i ι' pend:=by
    intro ha hf;have hall:∀ (j:Nat) (o':Oper),ops[j]?=some o'→j<i→xT o'.op=true→X j:=by
      intro j o' hj hlt haj;refine R.pre D hC ?_
      cases hm:vT o.op with
      | false=>exact D.acts j i o' o hj ho hlt haj ha hm
      | true =>
        unfold wL at hf;rw [(yP ho).1,hm,Bool.true_and] at hf;have hf:=List.any_eq_false.1 hf j (List.mem_range.2 hlt);rw [(yP hj).1,haj] at hf;simpa using hf
    have hqi:q≤i:=by
      refine Nat.le_of_not_lt (fun h=>R.not (I.ahead i o ho ha h))
    exact I.advanceTo S hX hqi (Nat.le_of_lt hlti) hall
  cases hw:s.want with
  | false =>
    rw [if_neg (by simp)];refine ⟨fun f _=>yFK rd f, ?_⟩
    cases ha:xT o.op with
    | false=>exact ⟨q,ι,pend,I.stepWith hs ho R.not hmax ha (by rw [(h2 hw).1];exact .undef)⟩
    | true =>
      cases hf:wL ops (BF ops) i with
      | true =>
        obtain ⟨q',h⟩:=I.stepIdle S hs ho R.not hmax hw (.inr hf);exact ⟨q',ι,pend,h⟩
      | false =>
        obtain ⟨ι',I'⟩:=front ha hf;obtain ⟨q',h⟩:=I'.stepIdle S hs ho R.not hmax hw (.inl rfl);exact ⟨q',ι',pend,h⟩
  | true =>
    rw [if_pos rfl];have hop:=h1 hw;rcases zJI hop with ⟨ha,hcase⟩ | ⟨ha,hlk,hsee,_⟩ | ⟨ha,_,hval,_⟩
    · cases hf:wL ops (BF ops) i with
      | false =>
        obtain ⟨ι₁,I₁⟩:=front ha hf;refine yCZ hz hrec hop I₁.good.rep (fun x hx=>?_) (fun v' w' ι' hv hgd=>⟨i+1,ι',pend,I₁.stepAct S hs ho R.not hmax hv hgd⟩);exact I₁.lower S hX (A.low i o s ho hs hw (by rw [ha];rfl)) hx (R.operand D hC S I₁ hoi hx)
      | true =>
        have hm:=zHC ho hf;have hqi:q≤i:=Nat.le_of_not_lt (fun h=>R.not (I.ahead i o ho ha h));have heff:zQ P (yG (frL l t i)) (stL l τ i) o.op=some (s.v,stL l τ (i+1)):=by
          rcases hcase with ⟨c,_,_,_,hc,_⟩ | h | ⟨h,_⟩
          · rw [hc] at hm;simp [vT] at hm
          · exact h
          · exfalso;cases hoo:o.op <;> rw [hoo] at hm h <;> first | (simp [vT] at hm;done) | (simp [xW] at h;done)
        obtain ⟨y,hst,hany⟩:=xJJ hm heff;have hbel:zCQ (stL l τ i).y (frL l t i) o=true:=by
          rcases A.low i o s ho hs hw (by rw [ha];rfl) with h | h
          · rw [h i] at hf;cases hf
          · exact h
        have hqn:=S.mono q i hqi (Nat.le_of_lt hlti);have hpn:pend (stL l τ i).y=none:=by
          cases hp:pend (stL l τ i).y with
          | none=>rfl
          | some L =>
            exfalso;rcases I.keys _ L hp with ⟨x,_⟩ | ⟨j,o',s',x1,x2,x3,x4,x5,x6,x7⟩
            · omega
            · have hji:j≠i:=fun e=>R.not (e ▸ x2)
              obtain ⟨yj,_,ej,_⟩:=I.pok j o' s' x1 x2 x3 (zNJ (zHC x3 x6)) x4 x5;rcases Nat.lt_or_ge j i with hlt | hge
              · have:=S.mono (j+1) i hlt (Nat.le_of_lt hlti);rw [ej,St.add_next] at this;omega
              · have:=S.mono (i+1) j (by omega) (Nat.le_of_lt (hX j x2));rw [hst,St.add_next] at this;omega
        have hlocn:∀ s,ι.loc (stL l τ i).y s=none:=fun s=>I.good.rep.fresh _ _ hqn
        let N:=(stL l τ i).y;let κ:=ι.plus (cut pend N);let σ₂:St:=⟨.leaf,N,N⟩;have hlt2:∀ b s L,κ.loc b s=some L→L.c<w.heap.size:=fun b s0 L h0=>by
          by_cases hz0:s0=0
          · subst hz0;cases hc:cut pend N b with
            | none=>rw [show κ.loc b 0=ι.loc b 0 from wV _ hc] at h0;exact I.good.rep.lt _ _ _ h0
            | some L1=>rw [show κ.loc b 0=some L1 from wE hc] at h0;cases h0;exact I.lt_size (zJU hc).2
          · rw [show κ.loc b s0=ι.loc b s0 from wF hz0] at h0;exact I.good.rep.lt _ _ _ h0
        have hrep:Rep κ σ₂ w:=by
          refine ⟨fun b y0 hb=>?_,hlt2,fun c b hcb=>⟨(I.good.rep.ownlt c b hcb).1,Nat.lt_of_lt_of_le (I.good.rep.ownlt c b hcb).2 hqn⟩,fun b s0 hb=>?_⟩
          · simp [σ₂,yK,Tr.getP_leaf] at hb
          · have hb:N≤b:=hb;have hc:cut pend N b=none:=by unfold cut;rw [if_neg (by omega)]
            rw [show κ.loc b s0=ι.loc b s0 from wV _ hc];exact I.good.rep.fresh _ _ (Nat.le_trans hqn hb)
        have hevκ:∀ x∈o.op.operands,VR κ (yG (frL l t i) x) (a.eval x):=fun x hx=>by
          refine VR.lower (κ:=ι.plus pend) (κ':=κ) (m:=N) (fun b s0 L hlt hL=>?_) (fun _ _ _ _=>rfl) RD (List.all_eq_true.1 hbel x (by simpa using hx)) (R.operand D hC S I hoi hx);have hcb:cut pend N b=pend b:=by unfold cut;rw [if_pos hlt]
          by_cases hz0:s0=0
          · subst hz0;cases hp:pend b with
            | none=>rw [show κ.loc b 0=ι.loc b 0 from wV _ (hcb.trans hp)];rw [wV _ hp] at hL;exact hL
            | some L1=>rw [show κ.loc b 0=some L1 from wE (hcb.trans hp)];rw [wE hp] at hL;exact hL
          · rw [show κ.loc b s0=ι.loc b s0 from wF hz0];rw [wF hz0] at hL;exact hL
        obtain ⟨nx,v',obj,y2,m,z,hrun,hnv,hv,hy2,hgd⟩:=zYB hz hm (hany σ₂ rfl) hrep hevκ;have hyy:yK (σ₂.add y).heap N=some y:=by rw [St.add_get,if_pos rfl]
        have hblk:=(hgd.rep.blk N y hyy).2;have hd:∀ c,o.op≠.defer c:=fun c hc=>by rw [hc] at hm;simp [vT] at hm
        refine zKP hd hrun hnv ?_
        let ι₁:Inj:={ ι with csz:=fun c=>if c=w.heap.size then m else ι.csz c };let pend₁:Nat→Option Loc:=fun b=>if b=N then some ⟨w.heap.size,0,0,z⟩ else pend b
        have hι₁:Sub ι ι₁:=⟨fun _ _ _ h=>h,fun b s0 L h=>by
          have:=I.good.rep.lt _ _ _ h;have hne:L.c≠w.heap.size:=by omega
          simp [ι₁,hne]⟩
        have hpp:∀ b L,pend b=some L→pend₁ b=some L:=fun b L h=>by
          have:b≠N:=fun e=>by subst e;rw [hpn] at h;cases h
          simp [pend₁,this,h]
        have hnew:∀ b L L',pend b=none→pend₁ b=some L→ι.loc b 0=some L'→L'=L:=fun b L L' h1 h2 h3=>by
          by_cases e:b=N
          · subst e;rw [hlocn 0] at h3;cases h3
          · simp [pend₁,e,h1] at h2
        have hszp:∀ b L,pend b=some L→ι₁.csz L.c=ι.csz L.c:=fun b L h=>by
          have:=I.lt_size h;have hne:L.c≠w.heap.size:=by omega
          simp [ι₁,hne]
        have hsubA:Sub (ι.plus pend) (ι₁.plus pend₁):=zFK hι₁ hpp hnew hszp;have hsubC:∀ k,Sub (ι.plus (cut pend k)) (ι₁.plus (cut pend₁ k)):=fun k =>
          zFK hι₁ (fun b L h=>by obtain ⟨h1,h2⟩:=zJU h;unfold cut;rw [if_pos h1];exact hpp b L h2)
            (fun b L L' h1 h2 h3=>by
              obtain ⟨g1,g2⟩:=zJU h2;refine hnew b L L' ?_ g2 h3;unfold cut at h1;rw [if_pos g1] at h1;exact h1)
            (fun b L h=>hszp b L (zJU h).2)
        have hadd : ∀ (pd:Nat→Option Loc),(∀ b L,cut pend N b=some L→pd b=some L)→(∀ b,b<N→pend b=none→pd b=none)→pd N=some ⟨w.heap.size,0,0,z⟩→Sub (κ.add N w.heap.size m z) (ι₁.plus pd):=by
          intro pd hp1 hp2 hp3;refine ⟨fun b s0 L h0=>?_,fun b s0 L _=>rfl⟩
          simp only [Inj.add] at h0;split at h0
          · rename_i hc;obtain ⟨rfl,rfl⟩:=hc;cases h0;exact wE hp3
          · rename_i hc;by_cases hz0:s0=0
            · subst hz0;have hbn:b≠N:=fun e=>hc ⟨e,rfl⟩
              cases hcp:cut pend N b with
              | some L1 =>
                rw [show κ.loc b 0=some L1 from wE hcp] at h0;cases h0;exact wE (hp1 b L hcp)
              | none =>
                rw [show κ.loc b 0=ι.loc b 0 from wV _ hcp] at h0;have hblt:b<N:=by
                  rcases Nat.lt_or_ge b N with h | h
                  · exact h
                  · rw [I.good.rep.fresh _ _ (Nat.le_trans hqn h)] at h0;cases h0
                have hpb:pend b=none:=by unfold cut at hcp;rw [if_pos hblt] at hcp;exact hcp
                rw [wV _ (hp2 b hblt hpb)];exact h0
            · rw [show κ.loc b s0=ι.loc b s0 from wF hz0] at h0;rw [wF hz0];exact h0
        have hkn:∀ s0,s0≠0→κ.loc N s0=none:=fun s0 hs0=>by rw [show κ.loc N s0=ι.loc N s0 from wF hs0];exact hlocn s0
        refine ⟨q,ι₁,pend₁,I.hq,fun j o' hj ha' hlt=>.inl (I.ahead j o' hj ha' hlt),fun j o' hj ha' hle hx=>?_, ?_,fun b L hp=>?_,fun j o' s' hle hx hj ha' hs' hw'=>?_,fun b b' L L' hb hb' he=>?_, ?_, ?_,fun hno=>?_⟩
        · rcases hx with hx | rfl
          · exact I.beyond j o' hj ha' hle hx
          · exact hf
        · have hgo:=I.good;refine ⟨⟨hgo.ext.loc,fun b s0 L h0=>?_,hgo.ext.fresh,hgo.ext.own,fun c hc=>?_,hgo.ext.old⟩,⟨fun b y' hb=>?_,fun b s0 L h0=>?_,fun c b hc=>?_,hgo.rep.fresh⟩,⟨?_,fun c hc hown=>?_,hgo.pres.tape,hgo.pres.os,hgo.pres.output,hgo.pres.fr.trans hgd.pres.fr⟩,hgo.low,hgo.y⟩
          · have e1:=hgo.ext.sz _ _ _ h0;have:=hgo.rep.lt _ _ _ (hgo.ext.loc _ _ _ h0);have hne:L.c≠w.heap.size:=by omega
            simpa [ι₁,hne] using e1
          · have e1:=hgo.ext.csz c hc;have:=hgo.pres.size;have hne:c≠w.heap.size:=by omega
            simpa [ι₁,hne] using e1
          · have hb:=hgo.rep.blk b y' hb;refine ⟨hb.1,hb.2.keepS hι₁ (fun _ _ _=>rfl) (fun s0 L h0 _=>World.push_old w obj (hgo.rep.lt _ _ _ h0)) (fun cs esz log next ro hy s0 hs0=>?_)⟩
            have hb2:=hb.2;subst hy;cases hb2 with | cells _ _ _ fresh=>exact fresh s0 hs0
          · have:=hgo.rep.lt b s0 L h0;simp;omega
          · have:=hgo.rep.ownlt c b hc;exact ⟨by simp;omega,this.2⟩
          · have:=hgo.pres.size;simp;omega
          · rw [World.push_old w obj (Nat.lt_of_lt_of_le hc hgo.pres.size)];exact hgo.pres.same c hc hown
        · by_cases hbn:b=N
          · subst hbn;exact .inr ⟨i,o,s,hqi,.inr rfl,ho,hs,hw,hf,rfl⟩
          · have hp':pend b=some L:=by simpa [pend₁,hbn] using hp
            exact (I.keys b L hp').imp id (fun ⟨j,o',s',x1,x2,x3⟩=>⟨j,o',s',x1,.inl x2,x3⟩)
        · by_cases hji:j=i
          · subst hji;refine ⟨y,⟨w.heap.size,0,0,z⟩,hst,by simp [pend₁,N],I.good.pres.size,by simp, ?_,fun b s0 L h0 e=>?_, ?_⟩
            · show ι.own w.heap.size=none;cases hown:ι.own w.heap.size with
              | none=>rfl
              | some b=>have:=(I.good.rep.ownlt _ _ hown).1;omega
            · have:=I.good.rep.lt b s0 L h0;simp at e;omega
            · have hs1:=hadd (cut pend₁ (N+1)) (fun b L h=>by obtain ⟨h1,h2⟩:=zJU h;unfold cut;rw [if_pos (by omega)];exact hpp b L h2)
                (fun b h1 h2 => by unfold cut;rw [if_pos (by omega)];have:b≠N:=by omega
                                   simp [pend₁,this,h2]) (by unfold cut;rw [if_pos (by omega)];simp [pend₁])
              refine hblk.keepS (ι':=(ι₁.plus (cut pend₁ (N+1))).owned w.heap.size N) ⟨hs1.loc,hs1.sz⟩ (fun s0 L h0=>?_) (fun _ _ _ _=>rfl) (fun cs esz log next ro hy s0 hs0=>?_)
              · have:L.c=w.heap.size:=by
                  simp only [Inj.add] at h0;split at h0
                  · cases h0;rfl
                  · rename_i hc;rw [hkn s0 (fun e=>hc ⟨rfl,e⟩)] at h0;cases h0
                rw [this];simp [Inj.owned,Inj.add,σ₂]
              · have hb2:=hblk;subst hy;cases hb2 with
                | cells _ _ _ fresh =>
                  have:=fresh s0 hs0;by_cases hz0:s0=0
                  · subst hz0;simp [Inj.add,σ₂] at this
                  · rw [show ((ι₁.plus (cut pend₁ (N+1))).owned w.heap.size N).loc N s0=ι.loc N s0 from wF (ι:=ι₁) hz0];exact hlocn s0
          · have hxj:=hx.resolve_right hji;obtain ⟨yj,Lj,ej,hp⟩:=I.pok j o' s' hle hxj hj ha' hs' hw';refine ⟨yj,Lj,ej,hp.keep (hpp _ _ hp.get) (by simp) hp.own hp.off (hsubC _) (fun s0 _=>?_) (World.push_old w obj hp.lt)⟩
            have hn:=I.good.rep.fresh (stL l τ j).y s0 (S.mono q j hle (Nat.le_of_lt (hX j hxj)));exact ⟨hn,hn⟩
        · by_cases hbn:b=N
          · by_cases hbn':b'=N
            · rw [hbn,hbn']
            · exfalso;have h1:L=⟨w.heap.size,0,0,z⟩:=by simpa [pend₁,hbn] using hb.symm
              have h2:pend b'=some L':=by simpa [pend₁,hbn'] using hb'
              have:=I.lt_size h2;rw [← he,h1] at this;simp at this
          · have h1:pend b=some L:=by simpa [pend₁,hbn] using hb
            by_cases hbn':b'=N
            · exfalso;have h2:L'=⟨w.heap.size,0,0,z⟩:=by simpa [pend₁,hbn'] using hb'.symm
              have:=I.lt_size h1;rw [he,h2] at this;simp at this
            · exact I.inj b b' L L' h1 (by simpa [pend₁,hbn'] using hb') he
        · refine (I.fr.sub hsubA).put ho hs hmax (hv.sub (hadd pend₁ (fun b L h=>hpp b L (zJU h).2) (fun b h1 h2=>?_) (by simp [pend₁])));have:b≠N:=by omega
          simp [pend₁,this,h2]
        · rw [← I.ds];unfold Act.put;split <;> rfl
        · rw [hno i] at hf;cases hf
    ·
      obtain ⟨m,hqm,hm,hall,hend⟩:∃ m,q≤m∧m≤ops.size∧(∀ (j:Nat) (o':Oper),ops[j]?=some o'→j<m→xT o'.op=true→X j)∧(m=ops.size∨∃ om,ops[m]?=some om∧xT om.op=true∧¬ X m):=by
        have key:∀ (k q:Nat),q+k=ops.size→(∀ (j:Nat) (o':Oper),ops[j]?=some o'→j<q→xT o'.op=true→X j) →
            ∃ m,q≤m∧m≤ops.size∧(∀ (j:Nat) (o':Oper),ops[j]?=some o'→j<m→xT o'.op=true→X j)∧(m=ops.size∨∃ om,ops[m]?=some om∧xT om.op=true∧¬ X m):=by
          intro k
          induction k with
          | zero=>intro q hq hall;exact ⟨q,Nat.le_refl _,by omega,hall,.inl (by omega)⟩
          | succ k ih =>
            intro q hq hall;have hoq:ops[q]?=some ops[q]:=by simp
            by_cases hbad:xT ops[q].op=true∧¬ X q
            · exact ⟨q,Nat.le_refl _,by omega,hall,.inr ⟨_,hoq,hbad.1,hbad.2⟩⟩
            · obtain ⟨m,m1,m2,m3,m4⟩:=ih (q+1) (by omega) (fun j o' hj hlt ha'=>by
                by_cases he:j=q
                · subst he;rw [hoq] at hj;cases hj;exact Classical.byContradiction fun hx=>hbad ⟨ha',hx⟩
                · exact hall j o' hj (by omega) ha')
              exact ⟨m,by omega,m2,m3,m4⟩
        obtain ⟨m,m1,m2,m3,m4⟩:=key (ops.size-q) q (by have:=I.hq;omega) (fun j o' hj hlt haj=>I.ahead j o' hj haj hlt);exact ⟨m,m1,m2,m3,m4⟩
      obtain ⟨ι₁,I₁⟩:=I.advanceTo S hX hqm hm hall;have hlow:=A.low i o s ho hs hw (by rw [ha,hlk];rfl);have climb:∀ k,i+k≤m→xP P (yG (frL l t i)) (stL l τ (i+k)) o.op=some s.v∧((∀ j,wL ops (BF ops) j=false)∨zCQ (stL l τ (i+k)).y (frL l t i) o=true):=by
        intro k;induction k with
        | zero=>intro _;exact ⟨hsee,hlow⟩
        | succ k ih =>
          intro hk;obtain ⟨g1,g2⟩:=ih (by omega);have hok':ops[i+k]?=some ops[i+k]:=by simp
          obtain ⟨sk,hsk,_,_,_,_,_,k1,k2⟩:=S.at hok';have same:stL l τ (i+k+1)=stL l τ (i+k)→xP P (yG (frL l t i)) (stL l τ (i+(k+1))) o.op=some s.v∧((∀ j,wL ops (BF ops) j=false)∨zCQ (stL l τ (i+(k+1))).y (frL l t i) o=true):=fun e=>by
            rw [show i+(k+1)=i+k+1 by omega,e];exact ⟨g1,g2⟩
          cases hak:xT ops[i+k].op with
          | false =>
            refine same ?_
            cases hwk:sk.want with
            | false=>exact (k2 hwk).2
            | true =>
              rcases zJI (k1 hwk) with ⟨h,_⟩ | ⟨_,_,_,h⟩ | ⟨_,_,_,h⟩
              · rw [hak] at h;cases h
              · exact h
              · exact h
          | true =>
            have hk0:k≠0:=fun e=>by
              have h5:ops[i+k]?=some o:=by rw [e,Nat.add_zero];exact ho
              rw [hok'] at h5;rw [Option.some.inj h5,ha] at hak;cases hak
            have hxk:=hall (i+k) _ hok' (by omega) hak;have p1:pre (BF ops) i (i+k)=false:=by
              rw [Bool.eq_false_iff];intro h;exact R.not (yGN D hC (i+k) _ hok' (fun e he hb=>hC _ _ hxk hok' e he hb) i h)
            have p2:pre (BF ops) (i+k) i=false:=by
              rw [Bool.eq_false_iff];intro h;have:=yGM D (i+k) i hlti h;omega
            obtain ⟨_,h3,h4⟩:=A.steady i (i+k) o _ s ho hok' (by omega) hs hw hlk hak p1 p2;exact ⟨by rw [show i+(k+1)=i+k+1 by omega];exact h3,.inr (by rw [show i+(k+1)=i+k+1 by omega];exact h4)⟩
      have hsm:xP P (yG (frL l t i)) (stL l τ m) o.op=some s.v∧((∀ j,wL ops (BF ops) j=false)∨zCQ (stL l τ m).y (frL l t i) o=true):=by
        rcases Nat.lt_or_ge m i with hmi | hmi
        · rcases hend with he | ⟨om,hom,ham,hxm⟩
          · omega
          · have p1:pre (BF ops) i m=false:=by
              rw [Bool.eq_false_iff];intro h;have:=yGM D i m (yP hom).2 h;omega
            have p2:pre (BF ops) m i=false:=by
              rw [Bool.eq_false_iff];intro h;exact hxm (R.pre D hC h)
            obtain ⟨⟨h3,h4⟩,_⟩:=A.steady i m o om s ho hom (by omega) hs hw hlk ham p1 p2;exact ⟨h3,.inr h4⟩
        · have:=climb (m-i) (by omega);rwa [show i+(m-i)=m by omega] at this
      refine yJZ hz hsm.1 I₁.good.rep (fun x hx=>I₁.lower S hX hsm.2 hx (R.operand D hC S I₁ hoi hx)) (fun v' hv=>?_);exact ⟨m,ι₁,pend,I₁.stepWith hs ho R.not hmax ha (hv.sub (I₁.sub_plus S hX))⟩
    · exact zOG hz hval (fun x hx=>R.operand D hC S I hoi hx) (fun v' hv=>⟨q,ι,pend,I.stepWith hs ho R.not hmax ha hv⟩)
end
end
end Go.Lay

namespace Go.Lay
open Go

theorem yEL:∀ (l:List Nat) (p p':Nat→Bool),(∀ x∈l,p' x=true→p x=true)→(∃ x,x∈l∧p x=true∧p' x=false)→(l.filter p').length<(l.filter p).length
 | [],_,_,_,h=>by obtain ⟨x,h,_⟩:=h;cases h
 | y::l,p,p',h1,h2=>by
  have le:∀ (l:List Nat),(∀ x∈l,p' x=true→p x=true)→(l.filter p').length≤(l.filter p).length:=by
   intro l;induction l with
   | nil=>intro _;simp
   | cons z l ih =>
    intro h;have:=ih (fun x hx=>h x (by simp [hx]));have hz:=h z (by simp);simp only [List.filter_cons];cases hp':p' z with
    | true=>rw [hz hp',if_pos rfl,if_pos rfl];simp;omega
    | false=>rw [if_neg (by simp)];split <;> simp <;> omega
  have hl:=le l (fun x hx=>h1 x (by simp [hx]));obtain ⟨x,hx,a,b⟩:=h2;simp only [List.filter_cons];rcases List.mem_cons.1 hx with rfl | hx
  ·rw [a,b,if_neg (by simp),if_pos rfl];simp;omega
  ·have:=yEL l p p' (fun x hx=>h1 x (by simp [hx])) ⟨x,hx,a,b⟩;have hy:=h1 y (by simp);cases hp':p' y with
   | true=>rw [hy hp',if_pos rfl,if_pos rfl];simp;omega
   | false=>rw [if_neg (by simp)];split <;> simp <;> omega

theorem xLM {ops:Array Oper} {B:Array Nat} {j:Nat} (h:ops.size≤j):wL ops B j=false:=by
 have h1:ops.getD j default=default:=by simp [Array.getD,Nat.not_lt.2 h]
 unfold wL;rw [h1];rfl

theorem zMN:∀ (os:List Oper) (ss:List Seen),zFZ os ss=true→∀ (i:Nat) (o:Oper) (s:Seen),os[i]?=some o→ss[i]?=some s→s.want=true→(xT o.op || zBP o.op)=true→zCQ s.before.y s.f o=true
 | [],_,_,i,o,s,h,_,_,_=>by simp at h
 | _::_,[],_,i,o,s,_,h,_,_=>by simp at h
 | o0::os,s0::ss,h,i,o,s,ho,hs,hw,hal=>by
  simp only [zFZ,Bool.and_eq_true] at h;cases i with
  | zero =>
   simp at ho hs;subst ho;subst hs;have:=h.1;rw [hw,hal] at this;simpa using this
  | succ i=>exact zMN os ss h.2 i o s (by simpa using ho) (by simpa using hs) hw hal

theorem yDB {ops:Array Oper} {B:Array Nat} {i k:Nat} {oi ok:Oper} (hi:ops[i]?=some oi) (hk:ops[k]?=some ok) (hne:i≠k) (hl:zBP oi.op=true) (ha:xT ok.op=true) (h1:pre B i k=false) (h2:pre B k i=false) :
  (i,k)∈zXQ ops B:=by
 unfold zXQ;refine List.mem_flatMap.2 ⟨i,List.mem_range.2 (yP hi).2, ?_⟩;rw [(yP hi).1,if_pos hl];refine List.mem_map.2 ⟨k,List.mem_filter.2 ⟨List.mem_range.2 (yP hk).2, ?_⟩,rfl⟩;have hb:Nat.beq i k=false:=by rw [Bool.eq_false_iff];intro e;exact hne (Nat.eq_of_beq_eq_true e)
 rw [(yP hk).1,ha,yIM,h1,h2,hb];rfl

section
variable {P:Program} {rec:Rec} {ops:Array Oper} {ι:Inj} {σ:St} {w:World}

theorem yUL {f t:Tm} {τ:St} (h:zZC P rec ops f σ=some (t,τ)):DrawOk ops∧∃ l,zAP P rec ops ops.toList f σ=some (l,t,τ)∧Ask P ops l t τ:=by
 unfold zZC at h;obtain ⟨hd,h⟩:=xX h;refine ⟨yNM hd, ?_⟩
 split at h
 ·rename_i hp hf;obtain ⟨l,hl⟩:=zQZ _ _ _ _ _ h;refine ⟨l,hl,fun i o s _ _ _ _=>.inl (fun j=>?_),fun i k oi ok si hi hk hne _ _ hlk hak h1 h2=>?_⟩
  ·rcases Nat.lt_or_ge j ops.size with hj | hj
   ·have:=List.any_eq_false.1 hf j (List.mem_range.2 hj);simpa using this
   ·exact xLM hj
  ·have:=yDB hi hk hne hlk hak h1 h2;rw [hp] at this;cases this
 ·rename_i ps _ _;split at h
  ·rename_i l t' τ' hl;obtain ⟨hc,h⟩:=xX h;simp at h;obtain ⟨rfl,rfl⟩:=h;simp only [Bool.and_eq_true] at hc;obtain ⟨_,_,S⟩:=zMX _ _ _ _ _ _ hl;refine ⟨l,hl,fun i o s ho hs hw hal=>.inr ?_,fun i k oi ok si hi hk hne hsi hw hlk hak h1 h2=>?_⟩
   ·have:=zMN _ _ hc.1 i o s (by simpa using ho) hs hw hal;obtain ⟨s',hs',e1,e2,_⟩:=S.at ho;rw [hs] at hs';cases hs';rw [← e1,← e2];exact this
   ·have hm:=yDB hi hk hne hlk hak h1 h2;have:=List.all_eq_true.1 hc.2 _ hm;obtain ⟨sk,hsk,_,k2,k3,_⟩:=S.at hk;obtain ⟨si',hsi',i1,_⟩:=S.at hi;rw [hsi] at hsi';cases hsi';simp only [yGX,hi,hsi,hsk,Bool.and_eq_true] at this;rw [k2,k3] at this;have one:∀ σ,steady P oi si σ=true→xP P (yG (frL l t' i)) σ oi.op=some si.v∧zCQ σ.y (frL l t' i) oi=true:=by
     intro σ hs;unfold steady at hs;rw [hw,cond_true,Bool.and_eq_true] at hs;obtain ⟨hs1,hs2⟩:=hs;rw [i1] at hs1 hs2;refine ⟨?_,hs1⟩
     split at hs2
     ·rename_i v hv;have:=zQJ _ _ _ hs2;subst this;exact hv
     ·cases hs2
    exact ⟨one _ this.1,one _ this.2⟩
  ·cases h

theorem yKN (hm:P.follows .mixedOrders=true) (hz:zAH P) (hrec:RecSound P rec) {f t:Tm} {τ:St} {id:Nat} {rd:Option Nat} {n:Nat} {Q:Exit→Act→World→Prop} {a:Act} (hok:ops.toList.all zJH=true)
  (h:zZC P rec ops f σ=some (t,τ)) (hr:Rep ι σ w) (hf:TmR ι f a.tmps)
  (hQ:∀ ι' a' w',Good ι σ w ι' τ w'→TmR ι' t a'.tmps→a'.defers=a.defers→Q .normal a' w'):(Code.region id ops true).wpIn (Fw rd) n P Q a w:=by
 obtain ⟨D,l,hl,A⟩:=yUL h;obtain ⟨e1,e2,S⟩:=zMX _ _ _ _ _ _ hl;refine wpIn_region_any hm ?_
 have hoks:∀ (j:Nat) (o:Oper),ops[j]?=some o→zJH o=true:=fun j o ho=>List.all_eq_true.1 hok o (by
  have:ops.toList[j]?=some o:=by simpa using ho
  exact List.mem_of_getElem? this)
 have hS:=S;have fin:∀ (X:Nat→Prop) (a':Act) (w':World),(∀ j,X j→j<ops.size)→(∀ j,j<ops.size→X j)→(∃ q ι' pend,Inv ops l t τ ι w a.defers X a' w' q ι' pend)→Q .normal a' w':=by
  intro X a' w' hX hall ⟨q,ι',pend,I⟩;obtain ⟨ι₁,I₁⟩:=I.advanceTo S hX I.hq (Nat.le_refl _) (fun j o hj _ _=>hall j (yP hj).2);have hlen:l.length=ops.size:=by rw [S.len];simp
  have hend:stL l τ ops.size=τ:=by simp [stL,hlen]
  have hfend:frL l t ops.size=t:=by simp [frL,hlen]
  have hg:=I₁.good;rw [e2,hend] at hg;have hsub:Sub (ι₁.plus pend) ι₁:=by
   refine ⟨fun b s L hL=>?_,fun _ _ _ _=>rfl⟩
   by_cases h0:s=0
   ·subst h0;cases hp:pend b with
    | none=>rw [wV _ hp] at hL;exact hL
    | some L1 =>
     rw [wE hp] at hL;cases hL;rcases I₁.keys b L hp with ⟨_,x⟩ | ⟨j,_,_,x1,x2,_⟩
     ·exact x
     ·have:=hX j x2;omega
   ·rw [wF h0] at hL;exact hL
  refine hQ ι₁ a' w' hg ⟨?_,fun t0=>?_⟩ I₁.ds
  ·have:=S.frn ops.size (Nat.le_refl _);rw [hfend] at this;rw [this];exact I₁.fr.size
  ·have:=I₁.fr.match S (Nat.le_refl _) (t0:=t0) (fun i _=>⟨fun h=>hX i h,fun h=>hall i h⟩);rw [hfend] at this;exact this.sub hsub
 have key:∀ (fuel:Nat) (listed:Array Bool) (a':Act) (w':World),listed.size=ops.size→yIS ops (fun j=>listed.getD j false=true)→((List.range ops.size).filter fun j=>!listed.getD j false).length≤fuel →
   (∃ q ι' pend,Inv ops l t τ ι w a.defers (fun j=>listed.getD j false=true) a' w' q ι' pend)→wpAnyIn (Fw rd) n P .any ops Q fuel listed a' w':=by
  intro fuel
  induction fuel with
  | zero =>
   intro listed a' w' hsz hC hcnt hI;have hall:∀ j,j<ops.size→listed.getD j false=true:=by
    intro j hj;cases hlj:listed.getD j false with
    | true=>rfl
    | false =>
     have:j∈(List.range ops.size).filter fun j=>!listed.getD j false:=List.mem_filter.2 ⟨List.mem_range.2 hj,by rw [hlj];rfl⟩
     have h0:=List.eq_nil_of_length_eq_zero (Nat.le_zero.1 hcnt);rw [h0] at this;cases this
   refine ⟨?_,fin _ a' w' (fun j hj=>?_) hall hI⟩
   ·refine List.eq_nil_iff_forall_not_mem.2 (fun j hj=>?_);obtain ⟨h0,o,ho,_⟩:=mem_ready.1 hj;have hlt:=(yP ho).2;have:=hall j hlt;simp [Array.getD,hsz,hlt] at this h0;rw [this] at h0;cases h0
   ·rcases Nat.lt_or_ge j ops.size with hlt | hge
    ·exact hlt
    ·simp [Array.getD,hsz,Nat.not_lt.2 hge] at hj
  | succ fuel ih =>
   intro listed a' w' hsz hC hcnt hI;have hX:∀ j,listed.getD j false=true→j<ops.size:=fun j hj=>by
    rcases Nat.lt_or_ge j ops.size with hlt | hge
    ·exact hlt
    ·simp [Array.getD,hsz,Nat.not_lt.2 hge] at hj
   refine ⟨fun hnil=>fin _ a' w' hX (fun j=>?_) hI,fun i hi=>?_⟩
   ·induction j using Nat.strongRecOn with
    | _ j ihj =>
     intro hj;cases hlj:listed.getD j false with
     | true=>rfl
     | false =>
      have ho:ops[j]?=some ops[j]:=by simp [hj]
      have:j∈Region.ready .any ops listed:=by
       refine mem_ready.2 ⟨by simpa [Array.getD,hsz,hj] using hlj,_,ho,fun e he hb=>?_⟩;have hlt:=D.back j _ ho e (by simpa using he) hb;exact ihj e.on hlt (by omega)
      rw [hnil] at this;cases this
   ·obtain ⟨h0,o,ho,hdep⟩:=mem_ready.1 hi;have hlt:=(yP ho).2;have hn:listed.getD i false=false:=by simpa [Array.getD,hsz,hlt] using h0
    have hset:∀ j,((listed.setIfInBounds i true).getD j false=true)↔(listed.getD j false=true∨j=i):=by
     intro j;by_cases hji:j=i
     ·subst hji;simp [Array.getD,hsz,hlt]
     ·have:=getD_set_ne (listed:=listed) false (Ne.symm hji);rw [this];simp [hji]
    obtain ⟨q,ι',pend,I⟩:=hI;have R:Rdy ops (fun j=>listed.getD j false=true) i o:=⟨ho,by rw [hn];simp,fun e he hb=>hdep e (by simpa using he) hb⟩;refine wpOpIn_mono (fun a₂ w₂ hI₂=>ih _ a₂ w₂ (by simpa using hsz) ?_ ?_ ?_) (I.step hz hrec D hS A hC hX hoks R)
    ·intro j o' hj ho' e he hb;rw [hset] at hj ⊢;rcases hj with hj | rfl
     ·exact .inl (hC j o' hj ho' e he hb)
     ·rw [ho] at ho';cases ho';exact .inl (hdep e (by simpa using he) hb)
    ·have:=yEL (List.range ops.size) (fun j=>!listed.getD j false) (fun j=>!(listed.setIfInBounds i true).getD j false) (fun x _ hx=>?_) ⟨i,List.mem_range.2 hlt,by rw [hn];rfl, ?_⟩
     ·omega
     ·cases hlx:listed.getD x false with
      | false=>rfl
      | true=>rw [(hset x).2 (.inl hlx)] at hx;cases hx
     ·rw [(hset i).2 (.inr rfl)];rfl
    ·obtain ⟨q',ι₂,pend₂,I₂⟩:=hI₂;refine ⟨q',ι₂,pend₂, ?_⟩
     have:(fun j=>(listed.setIfInBounds i true).getD j false=true)=(fun j=>listed.getD j false=true∨j=i):=funext fun j=>propext (hset j)
     rw [this];exact I₂
 have hno:∀ j,¬ (Array.replicate ops.size false).getD j false=true:=fun j=>by
  by_cases hj:j<ops.size <;> simp [Array.getD,hj]
 refine key ops.size _ a (drew w) (by simp) (fun j o hj=>absurd hj (hno j)) ?_ ⟨0,ι,fun _=>none, ?_⟩
 ·exact Nat.le_trans (List.length_filter_le _ _) (by simp)
 ·have hpl:Sub ι (ι.plus fun _=>none):=⟨fun b s L hL=>by rw [wV _ rfl];exact hL,fun _ _ _ _=>rfl⟩;refine ⟨Nat.zero_le _,fun j o _ _ h=>absurd h (Nat.not_lt_zero _),fun j o _ _ _ hx=>absurd hx (hno j),by rw [e2];exact Good.drew hr,fun b L h=>by simp at h,fun j o s _ hx=>absurd hx (hno j),fun b b' L L' h=>by simp at h, ?_,rfl,fun _ _=>rfl⟩
  rw [e1];refine ⟨hf.1,fun t0 _=>.inr ⟨fun i hi=>absurd hi (hno i),(hf.2 t0).sub hpl⟩,fun t0 h0=>?_⟩
  have:=(hf.2 t0).sub hpl;have hlt:¬ t0<a.tmps.size:=by rw [← hf.1];exact h0
  simpa [Array.getD,hlt] using this

theorem yXX (hz:zAH P) (hrec:RecSound P rec) {ι0:Inj} {σ0:St} {w0:World} {rd:Option Nat} {n:Nat} {Q:Exit→Act→World→Prop} {ds:List Deferred} :
  ∀ (rest:List Oper) (k:Nat) {f t:Tm} {σ τ:St} {ι:Inj} {w:World} {a:Act},zLV P rec ops rest f σ=some (t,τ)→(∀ i,i<rest.length→ops[k+i]?=rest[i]?)→k+rest.length=ops.size→rest.all zJH=true →
  Good ι0 σ0 w0 ι σ w→TmR ι f a.tmps→a.defers=ds→(∀ ι' a' w',Good ι0 σ0 w0 ι' τ w'→TmR ι' t a'.tmps→a'.defers=ds→Q .normal a' w')→wpOpsIn (Fw rd) n P ops Q ((List.range rest.length).map (k+·)) a w
 | [],k,f,t,σ,τ,ι,w,a,h,_,_,_,hg,hf,hd,hQ=>by
  simp [zLV] at h;obtain ⟨rfl,rfl⟩:=h;exact hQ ι a w hg hf hd
 | o::rest,k,f,t,σ,τ,ι,w,a,h,hget,hk,hok,hg,hf,hd,hQ=>by
  simp only [List.all_cons,Bool.and_eq_true] at hok;have hl:(List.range (o::rest).length).map (k+·)=k::(List.range rest.length).map (k+1+·):=by
   rw [List.length_cons,List.range_succ_eq_map,List.map_cons,List.map_map];congr 1;refine List.map_congr_left (fun i _=>?_);simp;omega
  rw [hl];have ho:ops[k]?=some o:=by have:=hget 0 (by simp);simpa using this
  have go:∀ (v v':Value) (σ':St) (ι':Inj) (w':World),zLV P rec ops rest (zLU f o.dst v) σ'=some (t,τ)→VR ι' v v'→Good ι σ w ι' σ' w'→wpOpsIn (Fw rd) n P ops Q ((List.range rest.length).map (k+1+·)) (a.put o.dst v') w':=by
   intro v v' σ' ι' w' h' hv hg';refine yXX hz hrec rest (k+1) h' (fun i hi=>?_) (by simp at hk;omega) hok.2 (hg.trans hg') ?_ ?_ hQ
   ·have:=hget (i+1) (by simp;omega);simpa [Nat.add_assoc,Nat.add_comm 1 i] using this
   ·unfold zLU Act.put;cases o.dst with
    | none=>exact hf.ext hg'.ext
    | some d=>exact (hf.ext hg'.ext).set d hv
   ·rw [← hd];unfold Act.put;split <;> rfl
  simp only [wpOpsIn,ho];unfold zLV at h;split at h
  ·rename_i hgd;rw [zHB hgd (fun j want d _ _=>hf.2 d),if_pos rfl];split at h
   ·rename_i v σ' hop;rw [vN] at h;exact yCZ hz hrec hop hg.rep (fun x hx=>zKH hf (xTM hok.1 hx)) (fun v' w' ι' hv hg'=>go v v' σ' ι' w' h hv hg')
   ·cases h
  ·rename_i hgd;rw [zHB hgd (fun j want d _ _=>hf.2 d),if_neg (by simp)];rw [vN] at h;exact ⟨fun f _=>yFK rd f,go undef undef σ ι w h .undef (.refl hg.rep)⟩
  ·cases h

theorem yKM (hz:zAH P) (hrec:RecSound P rec) {f t:Tm} {τ:St} {id:Nat} {rd:Option Nat} {n:Nat} {Q:Exit→Act→World→Prop} {a:Act} (hok:ops.toList.all zJH=true)
  (h:zLV P rec ops ops.toList f σ=some (t,τ)) (hr:Rep ι σ w) (hf:TmR ι f a.tmps)
  (hQ:∀ ι' a' w',Good ι σ w ι' τ w'→TmR ι' t a'.tmps→a'.defers=a.defers→Q .normal a' w'):(Code.region id ops false).wpIn (Fw rd) n P Q a w:=by
 refine wpIn_region ?_
 have:=yXX (rd:=rd) (n:=n) (Q:=Q) hz hrec ops.toList 0 h (fun i _=>by simp) (by simp) hok (.refl hr) hf rfl hQ;simpa using this
end
end Go.Lay

namespace Go.Lay
open Go

section
variable {F:Fence} {n:Nat} {P:Program} {Q:Exit→Act→World→Prop} {a:Act} {w:World}
theorem zAO {b:Frame} {k:List Item} {cs:List Frame} {c:Code}:step P (lone (b.atR a (.code (.scope c)::k)) cs w)=.next (lone (b.atR a (.code c::.inScope c::k)) cs w) :=
 step_lone_go (by simp [stepG,stepG.exec,Frame.atR])
theorem yAU {b:Frame} {k:List Item} {cs:List Frame} {c:Code}:step P (lone (b.atR a (.inScope c::k)) cs w)=.next (lone (b.atR a k) cs w) :=
 step_lone_go (by simp [stepG,stepG.exec,Frame.atR])
theorem yJF {c:Code} (h:c.wpIn F n P (fun e a w=>(∀ l,e≠.goto l)∧Q e a w) a w):(Code.scope c).wpIn F n P Q a w:=by
 intro b k cs hro hb hr;have h0:(lone (b.atR a (.code (.scope c)::k)) cs w).fenced P F:=fenced_calm hb hr rfl;obtain ⟨e,a₁,w₁,⟨hg,hq⟩,harr⟩:=h b (.inScope c::k) cs hro hb hr;cases e with
 | normal=>exact ⟨.normal,a₁,w₁,hq,.head h0 zAO (StepsIn.trans harr (.one (fenced_calm hb hr rfl) yAU))⟩
 | exit id =>
  exact ⟨.exit id,a₁,w₁,hq,fun k' hk=>.head h0 zAO (harr.1 k' hk),fun hr' hk=>let ⟨k₁,h1,h2⟩:=harr.2 hr' hk;⟨k₁,h1,.head h0 zAO h2⟩⟩
 | goto l=>exact absurd rfl (hg l)
 | ret=>exact ⟨_,a₁,w₁,hq,.of_steps (.one h0 zAO) harr⟩
 | panic ch=>exact ⟨_,a₁,w₁,hq,.of_steps (.one h0 zAO) harr⟩
 | outgrown=>exact ⟨_,a₁,w₁,hq,.of_steps (.one h0 zAO) harr⟩
theorem yPO {c:Code} (J:Nat→Act→World→Prop) {N:Nat} (h₀:J N a w)
  (round:∀ m a w,J m a w→c.wpIn F n P (Exit.then (fun a' w'=>∃ m',m' < m∧J m' a' w') Q) a w):(Code.loop c).wpIn F n P Q a w:=by
 intro b k cs hro hb hr;have key:∀ j a w,J j a w→∃ e a' w',Q e a' w'∧ArrivesIn (Machine.fenced P F) P (lone (b.atR a (.code c::.inLoop c::k)) cs w) b k cs e a' w':=by
  intro j;induction j using Nat.strongRecOn with
  | _ j ih =>
   intro a w hJ;obtain ⟨e,a₁,w₁,hq,harr⟩:=round j a w hJ b (.inLoop c::k) cs hro hb hr;cases e with
   | normal =>
    obtain ⟨m',hlt,hJ'⟩:=hq;obtain ⟨e₂,a₂,w₂,hq₂,harr₂⟩:=ih m' hlt a₁ w₁ hJ';exact ⟨e₂,a₂,w₂,hq₂,.of_steps (StepsIn.trans harr (.one (fenced_calm hb hr rfl) stepR_inLoop)) harr₂⟩
   | exit id=>exact ⟨_,a₁,w₁,hq,.pass (x:=.inLoop c) rfl (fun _ _=>.inl (by simp)) harr⟩
   | goto l=>exact ⟨_,a₁,w₁,hq,.pass (x:=.inLoop c) rfl (fun _ _=>.inl (by simp)) harr⟩
   | ret=>exact ⟨_,a₁,w₁,hq,.pass (x:=.inLoop c) rfl (fun _ _=>.inl (by simp)) harr⟩
   | panic ch=>exact ⟨_,a₁,w₁,hq,.pass (x:=.inLoop c) rfl (fun _ _=>.inl (by simp)) harr⟩
   | outgrown=>exact ⟨_,a₁,w₁,hq,.pass (x:=.inLoop c) rfl (fun _ _=>.inl (by simp)) harr⟩
 obtain ⟨e,a',w',hq,harr⟩:=key N a w h₀;exact ⟨e,a',w',hq,.of_steps (.one (fenced_calm hb hr rfl) stepR_loop) harr⟩
end

def yTD (c:Nat):Deferred:={ target:=.collected c,args:=#[] }
inductive DefR (ι:Inj):List Nat→List Deferred→Prop
 | nil:DefR ι [] []
 | cons {m:Nat} {L:Loc} {ms:List Nat} {ds:List Deferred} (h:ι.loc m 0=some L) (t:DefR ι ms ds):DefR ι (m::ms) (yTD L.c::ds)
theorem DefR.sub {ι ι':Inj} (e:Sub ι ι') {ms:List Nat} {ds:List Deferred} (h:DefR ι ms ds):DefR ι' ms ds:=by
 induction h with
 | nil=>exact .nil
 | cons h _ ih=>exact .cons (e.loc _ _ _ h) ih
structure FrR (ι:Inj) (fr:Fr) (a:Act):Prop where
 tms:TmR ι fr.f a.tmps
 defs:DefR ι fr.marks a.defers
theorem FrR.sub {ι ι':Inj} (e:Sub ι ι') {fr:Fr} {a:Act} (h:FrR ι fr a):FrR ι' fr a:=⟨h.tms.sub e,h.defs.sub e⟩
inductive RdR (ι:Inj):Option Nat→Option Nat→Prop
 | none:RdR ι none none
 | some {r:Nat} {L:Loc} (h:ι.loc r 0=some L):RdR ι (some r) (some L.c)
theorem RdR.sub {ι ι':Inj} (e:Sub ι ι') {rd rd':Option Nat} (h:RdR ι rd rd'):RdR ι' rd rd':=by
 cases h with
 | none=>exact .none
 | some h=>exact .some (e.loc _ _ _ h)

section
variable {P:Program} {rec:Rec} {ι:Inj} {σ:St} {w:World}

theorem zFP {l:Nat} {tm:Tm} {ps:List Tmp} {as bo:Code} {st st':LoopState} {pend pend':Option Code} {db:Nat} (hr:Rep ι σ w) (hb:yK σ.heap l=some (.loop tm ps as bo st pend db)) :
  ∃ L r,ι.loc l 0=some L∧w.heap[L.c]?=some (.loop r)∧r.state=st∧r.pending=pend∧TmR ι tm r.tmps∧r.params=ps.toArray∧r.assign=as∧r.body=bo∧wQ as=true∧wQ bo=true∧(∃ Ld,ι.loc db 0=some Ld∧r.defers=Ld.c) ∧
   Good ι σ w ι (σ.put l (.loop tm ps as bo st' pend' db)) (w.putObj L.c (.loop { r with state:=st',pending:=pend' })):=by
 cases (hr.blk _ _ hb).2 with
 | loop loc own locd row tms oka okb =>
  rename_i fn L Ld;have hlt:=hr.lt _ _ _ loc;refine ⟨L,_,loc,row,rfl,rfl,tms,rfl,rfl,rfl,oka,okb,⟨Ld,locd,rfl⟩, ?_⟩
  refine Good.putBlk hr hb (Ext.refl _ _ _) (fun _ _ _=>rfl) (fun b s L h=>by simpa using hr.lt b s L h) (fun c b h=>by simpa using hr.ownlt c b h) (by simp)
   (fun c _ hc=>World.putObj_heap_other (fun e=>hc (by rw [e];exact own))) ⟨rfl,rfl,rfl⟩ (.one L.c (fun c hc=>World.putObj_heap_other hc) (fun _ _ _ h=>by rw [World.putObj_heap_same hlt] at h;cases h)) ?_
  exact .loop loc own locd (World.putObj_heap_same hlt) tms oka okb

theorem xAF {d:Nat} (hr:Rep ι σ w) (hb:yK σ.heap d=some .defd):∃ L,ι.loc d 0=some L∧w.heap[L.c]?=some (.deferred (some []))∧Good ι σ w ι (σ.shut d) (w.putObj L.c (.deferred none)):=by
 have hbd:=hr.blk _ _ hb;cases hbd.2 with
 | defd loc own row =>
  rename_i L;refine ⟨L,loc,row,Ext.refl _ _ _,⟨fun b y hby=>?_,fun b s L h=>by simpa using hr.lt b s L h,fun c b h=>by simpa using hr.ownlt c b h,hr.fresh⟩,⟨by simp,fun c hc ho=>?_,rfl,rfl,rfl,.one L.c (fun c hc=>World.putObj_heap_other hc) (fun _ _ _ h=>by rw [World.putObj_heap_same (hr.lt _ _ _ loc)] at h;cases h)⟩,by simp;omega,by simp⟩
  ·rw [St.shut_get] at hby;by_cases hbe:b=d
   ·rw [if_pos hbe] at hby;cases hby
   ·rw [if_neg hbe] at hby;have h:=hr.blk b y hby;refine ⟨h.1,h.2.keep (Ext.refl ι w.heap.size 0) hr.lt (fun c hc ho=>World.putObj_heap_other (fun e=>?_)) (fun cs esz log next ro hy s hs=>?_)⟩
    ·subst e;rcases ho with ho | ho
     ·rw [own] at ho;cases ho;exact hbe rfl
     ·rw [own] at ho;cases ho
    ·have h2:=h.2;subst hy;cases h2 with | cells _ _ _ fresh=>exact fresh s hs
  ·refine World.putObj_heap_other (fun e=>?_);subst e;have:=ho d own;simp at this;omega

theorem yFZ {l:Nat} {fr fr':Fr} {e:Exit} {σ':St} (h:zDQ l fr σ=some (e,fr',σ')):∃ tm ps as bo st pend db,yK σ.heap l=some (.loop tm ps as bo st pend db)∧st≠.busy∧fr'=fr ∧
  σ'=σ.put l (.loop tm ps as bo .exhausted pend db)∧((pend=none∧e=.normal)∨(pend=some .ret∧e=.ret)∨∃ id,pend=some (.exit id)∧e=.exit id):=by
 unfold zDQ at h;split at h
 ·rename_i tm ps as bo st pend db hb;refine ⟨tm,ps,as,bo,st,pend,db,hb, ?_⟩
  split at h
  ·cases h
  ·rename_i hst;rw [St.write_eq] at h;refine ⟨fun e=>hst e, ?_⟩
   split at h
   ·simp at h;obtain ⟨rfl,rfl,rfl⟩:=h;exact ⟨rfl,rfl,.inl ⟨rfl,rfl⟩⟩
   ·simp at h;obtain ⟨rfl,rfl,rfl⟩:=h;exact ⟨rfl,rfl,.inr (.inl ⟨rfl,rfl⟩)⟩
   ·simp at h;obtain ⟨rfl,rfl,rfl⟩:=h;exact ⟨rfl,rfl,.inr (.inr ⟨_,rfl,rfl⟩)⟩
   ·cases h
 ·cases h

theorem zWW {l:Nat} {fr fr':Fr} {e:Exit} {σ':St} (h:zDQ l fr σ=some (e,fr',σ')) (hr:Rep ι σ w) {a:Act} {rd:Option Nat} {n:Nat} {Q:Exit→Act→World→Prop} {L:Loc} (hl:ι.loc l 0=some L)
  (hQ:∀ w',Good ι σ w ι σ' w'→fr'=fr→Q e a w'):∃ jump w₄,(Instr.endLoop L.c).run P w=.ok jump w₄∧(match jump with | none=>Q .normal a w₄ | some c=>c.wpIn (Fw rd) n P Q a w₄):=by
 obtain ⟨tm,ps,as,bo,st,pend,db,hb,hst,rfl,rfl,hcase⟩:=yFZ h;obtain ⟨L',r,h1,h2,h3,h4,_,_,_,_,_,_,_,hg⟩:=zFP (st':=.exhausted) (pend':=pend) hr hb;rw [hl] at h1;cases h1;have hq:=hQ _ hg rfl;refine ⟨r.pending,_,run_endLoop h2 (by rw [h3];exact hst), ?_⟩
 have hr2:(w.putObj L.c (.loop { r with state:=.exhausted }))=(w.putObj L.c (.loop { r with state:=.exhausted,pending:=pend })):=by rw [← h4]
 rw [hr2,h4];rcases hcase with ⟨hp,he⟩ | ⟨hp,he⟩ | ⟨id,hp,he⟩
 ·rw [hp] at hq ⊢;rw [he] at hq;exact hq
 ·rw [hp] at hq ⊢;rw [he] at hq;exact wpIn_ret hq
 ·rw [hp] at hq ⊢;rw [he] at hq;exact wpIn_exit hq

theorem zMF (hrec:RecSound P rec) {g:Operand} {ps:Array Tmp} {as bo:Code} {db:Nat} {fr fr':Fr} {e:Exit} {σ':St} (h:zGP rec g ps as bo db fr σ=some (e,fr',σ')) (hr:Rep ι σ w) {a:Act} (hf:FrR ι fr a)
  (hgk:zHG g=true) (ha:wQ as=true) (hb:wQ bo=true) {Ld:Loc} (hd:ι.loc db 0=some Ld) (fn:FuncId) {rd:Option Nat} {n:Nat} {Q:Exit→Act→World→Prop}
  (hQ:∀ ι' w',Good ι σ w ι' σ' w'→FrR ι' fr' a→Q e a w') :
  let w₁:=w.alloc (.loop { state:=.ready,pending:=none,fn,tmps:=a.tmps,params:=ps,assign:=as,body:=bo,defers:=Ld.c })
  ∃ d f args,(resolve a.eval (rangeCall g w.heap.size) 0).run P w₁=.ok d w₁∧(invoke d.target d.args).run P w₁=.ok (.enter f args) w₁∧CallsIn (Fw rd) (n-1) P f args w₁ (rangePost (Fw rd) n P w.heap.size Q a):=by
 intro w₁;unfold zGP at h;rw [St.new_eq] at h;have e0:=Inj.add_ext (n:=0) (z:=0) hr (hr.free _);have hg1:Good ι σ w (ι.add σ.y w.heap.size 0 0) (σ.add (.loop fr.f ps.toList as bo .ready none db)) w₁ :=
  Good.addBlk hr (hr.free _) (fun _ _ _ h=>by cases h) (.loop (fn:=fn) (Inj.add_loc _ _ _ _) (by simp [Inj.add]) (e0.loc _ _ _ hd) (by rw [World.push_new]) (hf.tms.ext e0) ha hb)
 split at h
 ·rename_i hh args href;have hev:VR (ι.add σ.y w.heap.size 0 0) (yG fr.f g) (a.eval g):=(zKH hf.tms hgk).ext hg1.ext;have harg:VRs (ι.add σ.y w.heap.size 0 0) [.func (.yield σ.y) #[] #[]] [.func (.yield w.heap.size) #[] #[]] :=
   .cons (.func (.yield (L:=⟨w.heap.size,0,0,0⟩) (Inj.add_loc _ _ _ _)) rfl (fun i v v' h=>by simp at h) rfl (fun i v v' h=>by simp at h)) .nil
  obtain ⟨as',hvs,hcase⟩:=zZU (P:=P) href hev harg;rcases hcase with ⟨f,cap,hfe,d,hd1,hd2,hd3⟩ | ⟨l0,_,_,hfe,_⟩
  ·cases hfe
   split at h
   ·rename_i v₃ σ₃ hc;obtain ⟨⟨fn',hfn,hbody,hname⟩,hcall⟩:=zZV hrec hc hg1.rep hvs;refine ⟨d,hh,⟨as'⟩, ?_, ?_,CallsIn.mono (hcall rd _) (fun e' w₃ hR=>?_)⟩
    ·have:=hd1 w₁;simpa [resolve,Act.eval] using this
    ·have hb:fn'.body≠none:=by cases hb:fn'.body <;> simp_all
     rw [hd2];simp [invoke,callFunc,hfn,hb,hname,hd3]
    ·cases e' with
     | returned v' =>
      obtain ⟨ι₃,_,hg3⟩:=hR;have hl3:ι₃.loc σ.y 0=some ⟨w.heap.size,0,0,0⟩:=hg3.ext.loc _ _ _ (Inj.add_loc _ _ _ _);obtain ⟨jump,w₄,h1,h2⟩:=zWW (P:=P) (rd:=rd) (n:=n) (Q:=Q) (a:=a) h hg3.rep hl3 (fun w' hg4 hfr=>hQ ι₃ w' ((hg1.trans hg3).trans hg4) (by rw [hfr];exact (hf.sub hg1.ext.sub).sub hg3.ext.sub));exact ⟨jump,w₄,h1,h2⟩
     | panicked _=>exact hR.elim
     | outgrown=>exact hR.elim
   ·cases h
  ·cases hfe
 ·cases h

theorem yGA (hrec:RecSound P rec) {g:Operand} {ps:Array Tmp} {as bo:Code} {fr fr':Fr} {e:Exit} {σ':St} {r:Option Nat} (h:zNA rec r g ps as bo fr σ=some (e,fr',σ')) (hr:Rep ι σ w) {a:Act} (hf:FrR ι fr a)
  {rd:Option Nat} (hrd:RdR ι r rd) (hgk:zHG g=true) (ha:wQ as=true) (hb:wQ bo=true) {n:Nat} {Q:Exit→Act→World→Prop}
  (hQ:∀ ι' a' w',Good ι σ w ι' σ' w'→FrR ι' fr' a'→Q e a' w'):(Code.rangeFunc g ps as bo).wpIn (Fw rd) n P Q a w:=by
 refine wpIn_rangeFunc (fun fn _=>?_);unfold zNA at h;cases hrd with
 | none =>
  simp only [St.new_eq] at h;have hg1:Good ι σ w (ι.add σ.y w.heap.size 0 0) (σ.add .defd) (w.alloc (.deferred (some []))) :=
   Good.addBlk hr (hr.free _) (fun _ _ _ h=>by cases h) (.defd (Inj.add_loc _ _ _ _) (by simp [Inj.add]) (World.push_new _ _))
  have hf1:FrR (ι.add σ.y w.heap.size 0 0) ⟨fr.f,σ.y::fr.marks⟩ { a with defers:=yTD w.heap.size::a.defers } :=
   ⟨hf.tms.ext hg1.ext,.cons (L:=⟨w.heap.size,0,0,0⟩) (Inj.add_loc _ _ _ _) (hf.defs.sub hg1.ext.sub)⟩
  obtain ⟨d,f,args,h1,h2,h3⟩:=zMF hrec h hg1.rep hf1 hgk ha hb (Ld:=⟨w.heap.size,0,0,0⟩) (Inj.add_loc _ _ _ _) fn (rd:=none) (n:=n) (Q:=Q) (fun ι' w' hg hf'=>hQ ι' _ w' (hg1.trans hg) hf');have e1:(w.alloc (.deferred (some []))).heap.size=w.heap.size+1:=World.push_size w _;rw [e1] at h1 h3;exact ⟨_,[yTD w.heap.size],_,d,_,f,args,_,run_enterLoop_outer fn a.tmps ps as bo,h1,fun _ _=>yFK none _,h2,fun hs=>zQF none hs n,h3⟩
 | @some r0 L hl =>
  simp only at h;split at h
  ·rename_i hbk;obtain ⟨L',rr,k1,k2,_,_,_,_,_,_,_,_,⟨Ld,k3,k4⟩,_⟩:=zFP (st':=.ready) (pend':=none) hr hbk;rw [hl] at k1;cases k1;obtain ⟨d,f,args,h1,h2,h3⟩:=zMF hrec h hr hf hgk ha hb k3 fn (rd:=some L.c) (n:=n) (Q:=Q) (fun ι' w' hg hf'=>hQ ι' _ w' hg hf');refine ⟨w.heap.size,[],_,d,_,f,args,_, ?_,h1,fun _ _=>yFK _ _,h2,fun hs=>zQF _ hs n,h3⟩
   show (Instr.enterLoop fn a.tmps ps as bo (some L.c)).run P w=_;simp only [Instr.enterLoop,Sem.run_bind,run_getLoop k2,Result.andThen_ok,Sem.run_pure,run_newObj_alloc,k4]
  ·cases h

theorem yHX (fuel:Nat) (rd:Option Nat):∀ (c:Code) (fr:Fr) (σ:St) (e:Exit) (fr':Fr) (σ':St),yY P rec fuel rd c fr σ=some (e,fr',σ')→∀ l,e≠.goto l:=by
 intro c;induction c with
 | skip=>intro fr σ e fr' σ' h l;simp [yY] at h;rw [← h.1];simp
 | label _=>intro fr σ e fr' σ' h l;simp [yY] at h;rw [← h.1];simp
 | ret=>intro fr σ e fr' σ' h l;simp [yY] at h;rw [← h.1];simp
 | exit _=>intro fr σ e fr' σ' h l;simp [yY] at h;rw [← h.1];simp
 | goto _=>intro fr σ e fr' σ' h;simp [yY] at h
 | refuse _=>intro fr σ e fr' σ' h;simp [yY] at h
 | seq x y ihx ihy =>
  intro fr σ e fr' σ' h;simp only [yY,xGS] at h;split at h
  ·exact ihy _ _ _ _ _ h
  ·exact ihx _ _ _ _ _ h
 | cond c x y ihx ihy =>
  intro fr σ e fr' σ' h;simp only [yY,yNO] at h;split at h
  ·split at h
   ·exact ihx _ _ _ _ _ h
   ·exact ihy _ _ _ _ _ h
  ·cases h
 | block id c ih =>
  intro fr σ e fr' σ' h l;simp only [yY,zSF] at h;split at h
  ·rcases zBY h with ⟨_,h⟩ | ⟨_,h⟩ <;> (simp at h;rw [← h.1];simp)
  ·exact ih _ _ _ _ _ h l
 | scope c ih=>intro fr σ e fr' σ' h;exact ih _ _ _ _ _ h
 | loop c ih =>
  intro fr σ e fr' σ' h;simp only [yY] at h;have key:∀ n fr σ,zDS (yY P rec fuel rd c) n fr σ=some (e,fr',σ')→∀ l,e≠.goto l:=by
   intro n;induction n with
   | zero=>intro fr σ h;simp [zDS] at h
   | succ n ihn =>
    intro fr σ h;simp only [zDS] at h;split at h
    ·exact ihn _ _ h
    ·exact ih _ _ _ _ _ h
  exact key _ _ _ h
 | region id ops draw =>
  intro fr σ e fr' σ' h l;simp only [yY,zKU] at h;split at h
  ·simp at h;rw [← h.1];simp
  ·cases h
 | rangeFunc g ps as bo _ _ =>
  intro fr σ e fr' σ' h l;have endn:∀ (l0:Nat) (fr:Fr) (σ:St),zDQ l0 fr σ=some (e,fr',σ')→e≠.goto l:=by
   intro l0 fr σ h;unfold zDQ at h;split at h
   ·split at h
    ·cases h
    ·rw [St.write_eq] at h;split at h <;> first | (simp at h;rw [← h.1];simp) | cases h
   ·cases h
  have gon:∀ (db:Nat) (fr:Fr) (σ:St),zGP rec g ps as bo db fr σ=some (e,fr',σ')→e≠.goto l:=by
   intro db fr σ h;unfold zGP at h;rw [St.new_eq] at h;split at h
   ·split at h
    ·exact endn _ _ _ h
    ·cases h
   ·cases h
  simp only [yY,zNA] at h;split at h
  ·rw [St.new_eq] at h;exact gon _ _ _ h
  ·split at h
   ·exact gon _ _ _ h
   ·cases h

theorem vY (hm:P.follows .mixedOrders=true) (hz:zAH P) (hrec:RecSound P rec) (fuel:Nat) (r:Option Nat):∀ (c:Code),wQ c=true→∀ (fr:Fr) (σ:St) (e:Exit) (fr':Fr) (σ':St),yY P rec fuel r c fr σ=some (e,fr',σ') →
  ∀ (ι:Inj) (w:World) (a:Act) (rd:Option Nat) (n:Nat) (Q:Exit→Act→World→Prop),Rep ι σ w→FrR ι fr a→RdR ι r rd→(∀ ι' a' w',Good ι σ w ι' σ' w'→FrR ι' fr' a'→Q e a' w')→c.wpIn (Fw rd) n P Q a w:=by
 intro c;induction c with
 | skip=>intro _ fr σ e fr' σ' h ι w a rd n Q hr hf _ hQ;simp [yY] at h;obtain ⟨rfl,rfl,rfl⟩:=h;exact wpIn_skip (hQ ι a w (.refl hr) hf)
 | label _=>intro _ fr σ e fr' σ' h ι w a rd n Q hr hf _ hQ;simp [yY] at h;obtain ⟨rfl,rfl,rfl⟩:=h;exact wpIn_label (hQ ι a w (.refl hr) hf)
 | ret=>intro _ fr σ e fr' σ' h ι w a rd n Q hr hf _ hQ;simp [yY] at h;obtain ⟨rfl,rfl,rfl⟩:=h;exact wpIn_ret (hQ ι a w (.refl hr) hf)
 | exit _=>intro _ fr σ e fr' σ' h ι w a rd n Q hr hf _ hQ;simp [yY] at h;obtain ⟨rfl,rfl,rfl⟩:=h;exact wpIn_exit (hQ ι a w (.refl hr) hf)
 | goto _=>intro _ fr σ e fr' σ' h;simp [yY] at h
 | refuse _=>intro _ fr σ e fr' σ' h;simp [yY] at h
 | seq x y ihx ihy =>
  intro hok fr σ e fr' σ' h ι w a rd n Q hr hf hrd hQ;simp only [wQ,Bool.and_eq_true] at hok;simp only [yY,xGS] at h;refine wpIn_seq ?_
  split at h
  ·rename_i fr₁ σ₁ h1;refine ihx hok.1 _ _ _ _ _ h1 ι w a rd n _ hr hf hrd (fun ι₁ a₁ w₁ hg1 hf1=>?_);exact ihy hok.2 _ _ _ _ _ h ι₁ w₁ a₁ rd n Q hg1.rep hf1 (hrd.sub hg1.ext.sub) (fun ι₂ a₂ w₂ hg2 hf2=>hQ ι₂ a₂ w₂ (hg1.trans hg2) hf2)
  ·rename_i hno;refine ihx hok.1 _ _ _ _ _ h ι w a rd n _ hr hf hrd (fun ι₁ a₁ w₁ hg1 hf1=>?_);cases e with
   | normal=>exact absurd h (hno _ _)
   | _=>exact hQ ι₁ a₁ w₁ hg1 hf1
 | cond c x y ihx ihy =>
  intro hok fr σ e fr' σ' h ι w a rd n Q hr hf hrd hQ;simp only [wQ,Bool.and_eq_true] at hok;simp only [yY,yNO] at h;have hc:=zKH hf.tms hok.1.1;split at h
  ·rename_i t ht;rw [ht] at hc;have hcb:=hc.bool_inv;cases t with
   | true=>exact wpIn_cond_true hcb (ihx hok.1.2 _ _ _ _ _ h ι w a rd n Q hr hf hrd hQ)
   | false=>exact wpIn_cond_false hcb (ihy hok.2 _ _ _ _ _ h ι w a rd n Q hr hf hrd hQ)
  ·cases h
 | block id c ih =>
  intro hok fr σ e fr' σ' h ι w a rd n Q hr hf hrd hQ;simp only [yY,zSF] at h;refine wpIn_block ?_
  split at h
  ·rename_i i fr₁ σ₁ h1;refine ih hok _ _ _ _ _ h1 ι w a rd n _ hr hf hrd (fun ι₁ a₁ w₁ hg1 hf1=>?_);rcases zBY h with ⟨hi,h⟩ | ⟨hi,h⟩
   ·simp at h;obtain ⟨rfl,rfl,rfl⟩:=h;simp only [Exit.inBlock];rw [if_pos (Nat.eq_of_beq_eq_true hi)];exact hQ ι₁ a₁ w₁ hg1 hf1
   ·simp at h;obtain ⟨rfl,rfl,rfl⟩:=h;simp only [Exit.inBlock];rw [if_neg (fun e=>by rw [e,Nat.beq_refl] at hi;cases hi)];exact hQ ι₁ a₁ w₁ hg1 hf1
  ·rename_i hno;refine ih hok _ _ _ _ _ h ι w a rd n _ hr hf hrd (fun ι₁ a₁ w₁ hg1 hf1=>?_);cases e with
   | exit i=>exact absurd h (hno _ _ _)
   | _=>exact hQ ι₁ a₁ w₁ hg1 hf1
 | scope c ih =>
  intro hok fr σ e fr' σ' h ι w a rd n Q hr hf hrd hQ;refine yJF (ih hok _ _ _ _ _ h ι w a rd n _ hr hf hrd (fun ι₁ a₁ w₁ hg1 hf1=>⟨yHX fuel r c _ _ _ _ _ h,hQ ι₁ a₁ w₁ hg1 hf1⟩))
 | loop c ih =>
  intro hok fr σ e fr' σ' h ι w a rd n Q hr hf hrd hQ;simp only [yY] at h;refine yPO (fun m a₁ w₁=>∃ fr₁ σ₁ ι₁,zDS (yY P rec fuel r c) m fr₁ σ₁=some (e,fr',σ')∧Good ι σ w ι₁ σ₁ w₁∧FrR ι₁ fr₁ a₁) ⟨fr,σ,ι,h,.refl hr,hf⟩ (fun m a₁ w₁ ⟨fr₁,σ₁,ι₁,hl,hg1,hf1⟩=>?_);cases m with
  | zero=>simp [zDS] at hl
  | succ m =>
   simp only [zDS] at hl;split at hl
   ·rename_i fr₂ σ₂ h2;exact ih hok _ _ _ _ _ h2 ι₁ w₁ a₁ rd n _ hg1.rep hf1 (hrd.sub hg1.ext.sub) (fun ι₂ a₂ w₂ hg2 hf2=>⟨m,by omega,fr₂,σ₂,ι₂,hl,hg1.trans hg2,hf2⟩)
   ·rename_i hno;refine ih hok _ _ _ _ _ hl ι₁ w₁ a₁ rd n _ hg1.rep hf1 (hrd.sub hg1.ext.sub) (fun ι₂ a₂ w₂ hg2 hf2=>?_);cases e with
    | normal=>exact absurd hl (hno _ _)
    | _=>exact hQ ι₂ a₂ w₂ (hg1.trans hg2) hf2
 | region id ops draw =>
  intro hok fr σ e fr' σ' h ι w a rd n Q hr hf hrd hQ;simp only [wQ] at hok;simp only [yY,zKU] at h;split at h
  ·rename_i f₁ σ₁ h1;simp at h;obtain ⟨rfl,rfl,rfl⟩:=h;have fin:∀ ι' a' w',Good ι σ w ι' σ₁ w'→TmR ι' f₁ a'.tmps→a'.defers=a.defers→Q .normal a' w':=fun ι' a' w' hg ht hd=>hQ ι' a' w' hg ⟨ht,by rw [hd];exact hf.defs.sub hg.ext.sub⟩
   cases draw with
   | true=>exact yKN hm hz hrec hok h1 hr hf.tms fin
   | false=>exact yKM hz hrec hok h1 hr hf.tms fin
  ·cases h
 | rangeFunc g ps as bo _ _ =>
  intro hok fr σ e fr' σ' h ι w a rd n Q hr hf hrd hQ;simp only [wQ,Bool.and_eq_true] at hok;exact yGA hrec h hr hf hrd hok.1.1 hok.1.2 hok.2 hQ
end
end Go.Lay

namespace Go.Lay
open Go

structure ProgOk (P:Program):Prop where
 mixed:P.follows .mixedOrders=true
 zero:zAH P
 code : ∀ (f : FuncId) (fn : Func) (c : Code), P.funcs[f]? = some fn → fn.body = some c → wQ c = true ∧ fn.name ≠ "runtime.NumGoroutine"

theorem Tm.puts_eq {β:Type}:∀ (l:List (Nat × Value)) (f:Tm) (k:Tm→β),Tm.puts l f k=k (l.foldl (fun f p=>f.set p.1 p.2) f)
 | [],_,_=>rfl
 | (i,v)::l,f,k=>by rw [Tm.puts,Tm.put_eq,Tm.puts_eq l];rfl

section
variable {P:Program} {ι:Inj} {σ:St} {w:World}

theorem yOS:∀ (args args':List Value) (k:Nat) (f:Tm) (tm:Array Value),VRs ι args args'→TmR ι f tm→TmR ι ((Tm.args k args).foldl (fun f p=>f.set p.1 p.2) f) ((Tm.args k args').foldl (fun t p=>t.setIfInBounds p.1 p.2) tm)
 | [],[],_,_,_,_,h=>h
 | [],_::_,_,_,_,h,_=>by cases h
 | _::_,[],_,_,_,h,_=>by cases h
 | v::l,v'::l',k,f,tm,h,ht=>by
  cases h with
  | cons hv hl=>exact yOS l l' (k+1) _ _ hl (ht.set k hv)

theorem yAA:∀ (l:List Value) (k:Nat) (tm:Array Value),k+l.length≤tm.size→((Tm.args k l).foldl (fun (t:Array Value) p=>t.setIfInBounds p.1 p.2) tm).toList=tm.toList.take k++(l++tm.toList.drop (k+l.length))
 | [],k,tm,_=>by simp [Tm.args]
 | v::l,k,tm,h=>by
  simp only [List.length_cons] at h;simp only [Tm.args,List.foldl_cons];rw [yAA l (k+1) _ (by simp;omega)];have hlt:k<tm.toList.length:=by simp;omega
  simp only [Array.toList_setIfInBounds,List.length_cons];have e1:(tm.toList.set k v).take (k+1)=tm.toList.take k++[v]:=by
   rw [List.take_succ_eq_append_getElem (by simpa using hlt),List.take_set_of_le (Nat.le_refl _)];simp
  have e2:(tm.toList.set k v).drop (k+1+l.length)=tm.toList.drop (k+(l.length+1)):=by
   rw [List.drop_set_of_lt (by omega)];congr 1;omega
  rw [e1,e2];simp

theorem yEG:∀ (p:List Bool) (d:Nat),Tr.getP p (yND d)=none∨Tr.getP p (yND d)=some undef
 | p,0=>.inl (Tr.getP_leaf p)
 | [],d+1=>.inr rfl
 | b::p,d+1=>by cases b <;> exact yEG p d
theorem xDP (n i:Nat):(fresh n).nth i=undef:=by
 unfold fresh Tm.nth;rcases yEG (way i) ((way n).length+1) with h | h <;> simp only [h]

theorem yEM {args args':List Value} (h:VRs ι args args') (N:Nat) :
  TmR ι ((Tm.args 0 args).foldl (fun f p=>f.set p.1 p.2) (fresh (args.length+(N-args.length)))) ((⟨args'⟩:Array Value)++Array.replicate (N-(⟨args'⟩:Array Value).size) undef):=by
 have h0:TmR ι (fresh (args.length+(N-args.length))) (Array.replicate (args'.length+(N-args'.length)) undef):=by
  refine ⟨by simp [fresh,h.length],fun i=>?_⟩
  have e1:(fresh (args.length+(N-args.length))).nth i=undef:=xDP _ _;have e2:(Array.replicate (args'.length+(N-args'.length)) undef).getD i undef=undef:=by
   by_cases hi:i<args'.length+(N-args'.length) <;> simp [Array.getD,hi]
  rw [e1,e2];exact .undef
 have h1:=yOS args args' 0 _ _ h h0;have h2:((Tm.args 0 args').foldl (fun (t:Array Value) p=>t.setIfInBounds p.1 p.2) (Array.replicate (args'.length+(N-args'.length)) undef))=(⟨args'⟩:Array Value)++Array.replicate (N-(⟨args'⟩:Array Value).size) undef:=by
  apply Array.ext';rw [yAA args' 0 _ (by simp)];simp
 rw [h2] at h1;exact h1

theorem yWO:∀ (ps:List Nat) (args args':List Value) (f:Tm) (tm:Array Value),VRs ι args args'→TmR ι f tm→TmR ι ((ps.zip args).foldl (fun f p=>f.set p.1 p.2) f) ((ps.zip args').foldl (fun t p=>t.setIfInBounds p.1 p.2) tm)
 | [],_,_,_,_,_,h=>by simpa using h
 | p::ps,[],[],_,_,_,h=>by simpa using h
 | p::ps,[],_::_,_,_,h,_=>by cases h
 | p::ps,_::_,[],_,_,h,_=>by cases h
 | p::ps,v::l,v'::l',f,tm,h,ht=>by
  cases h with
  | cons hv hl=>exact yWO ps l l' _ _ hl (ht.set p hv)

def zQN (tms:Array Value):ResultVar→Sem Value
 | .tmp t=>pure (tms.getD t undef)
 | .cell a t=>do loadVar t (← asAddr (tms.getD a undef))
theorem yQQ (fn:Func) (tms:Array Value):results fn tms=(do let vs ← fn.results.mapM (zQN tms);pure (if h:vs.size=1 then vs[0] else .tuple vs)):=rfl
theorem zMD {f:Tm} {tms:Array Value} (hr:Rep ι σ w) (ht:TmR ι f tms):∀ (rs:List ResultVar) (vs:List Value),uU P f σ rs=some vs →
  ∃ vs',VRs ι vs vs'∧(rs.mapM (zQN tms)).run P w=.ok vs' w
 | [],vs,h=>by simp [uU] at h;subst h;exact ⟨[],.nil,by simp⟩
 | r::rs,vs,h=>by
  simp only [uU] at h;split at h
  ·rename_i v hv;split at h
   ·rename_i vs0 hvs;simp at h;subst h;obtain ⟨vs',h1,h2⟩:=zMD hr ht rs vs0 hvs;cases r with
    | tmp t =>
     simp [zON] at hv;subst hv;refine ⟨tms.getD t undef::vs',.cons (ht.2 t) h1, ?_⟩
     rw [List.mapM_cons];simp only [zQN,Sem.run_bind,Sem.run_pure,Result.andThen_ok,h2]
    | cell a t =>
     simp only [zON] at hv;split at hv
     ·rename_i a0 ha0;have hp:=ht.2 a;rw [ha0] at hp;obtain ⟨L,hl,hlo,e⟩:=hp.ptr_inv;obtain ⟨v',g1,g2⟩:=zTQ (P:=P) hv hr hl hlo;refine ⟨v'::vs',.cons g2 h1, ?_⟩
      have g0:(zQN tms (.cell a t)).run P w=.ok v' w:=by
       simp only [zQN,e,asAddr,Sem.run_bind,Sem.run_pure,Result.andThen_ok,g1]
      rw [List.mapM_cons];simp only [Sem.run_bind,Sem.run_pure,Result.andThen_ok,g0,h2]
     ·cases hv
   ·cases h
  ·cases h

theorem yKL {fn:Func} {f:Tm} {tms:Array Value} {v:Value} (hr:Rep ι σ w) (ht:TmR ι f tms) (h:zFG P fn f σ=some v):∃ v',(results fn tms).run P w=.ok v' w∧VR ι v v':=by
 unfold zFG at h;have key:∀ vs,uU P f σ fn.results.toList=some vs→∃ vs',VRs ι vs vs'∧(results fn tms).run P w=.ok (if h:(⟨vs'⟩:Array Value).size=1 then (⟨vs'⟩:Array Value)[0] else .tuple ⟨vs'⟩) w:=by
  intro vs hvs;obtain ⟨vs',h1,h2⟩:=zMD hr ht _ _ hvs;refine ⟨vs',h1, ?_⟩
  have h3:(fn.results.mapM (zQN tms)).run P w=.ok ⟨vs'⟩ w:=by
   rw [Array.mapM_eq_mapM_toList];simp [h2]
  rw [yQQ,Sem.run_bind,h3];rfl
 split at h
 ·rename_i v0 hv;simp at h;subst h;obtain ⟨vs',h1,h2⟩:=key _ hv;cases h1 with
  | cons hv0 hn =>
   cases hn
   rename_i v';refine ⟨v', ?_,hv0⟩
   rw [h2];simp
 ·rename_i vs hne hv;simp at h;subst h;obtain ⟨vs',h1,h2⟩:=key _ hv;have hlen:=h1.length;have hl1:¬ (⟨vs'⟩:Array Value).size=1:=by
   intro e;have e:vs'.length=1:=e;rw [← hlen] at e;obtain ⟨x,hx⟩:=List.length_eq_one_iff.1 e;exact hne x hx
  refine ⟨.tuple ⟨vs'⟩, ?_,.tuple' h1⟩
  rw [h2,dif_neg hl1]
 ·cases h

theorem zGX {fn:Func} {f:Tm} {tms:Array Value} {v:Value} {n:Nat} {R:Ending→World→Prop}:∀ (marks:List Nat) (ds:List Deferred) (σ:St) (w:World) (σ₁:St),zBV marks σ=some σ₁→DefR ι marks ds→Rep ι σ w→TmR ι f tms →
  zFG P fn f σ₁=some v→(∀ v' w',VR ι v v'→Good ι σ w ι σ₁ w'→R (.returned v') w')→LeavesInM (Fw none) n P fn tms R ds .returning w
 | [],ds,σ,w,σ₁,h,hd,hr,ht,hres,hR=>by
  cases hd
  simp [zBV] at h;subst h;obtain ⟨v',h1,h2⟩:=yKL hr ht hres;exact ⟨v',h1,hR v' w h2 (.refl hr)⟩
 | m::ms,ds,σ,w,σ₁,h,hd,hr,ht,hres,hR=>by
  cases hd with
  | cons hl hds =>
   rename_i L ds;simp only [zBV] at h;split at h
   ·rename_i hb;rw [St.drop_eq] at h;obtain ⟨L',h1,h2,hg⟩:=xAF hr hb;rw [hl] at h1;cases h1;refine ⟨by simp,.inl ⟨L.c,_,rfl,run_takeDeferred h2, ?_⟩⟩
    exact zGX ms ds _ _ σ₁ h hds hg.rep ht hres (fun v' w' hv hg'=>hR v' w' hv (hg.trans hg'))
   ·cases h

theorem zGO (hP:ProgOk P):∀ n,RecSound P (zX P n)
 | 0=>⟨fun f args σ v σ' h=>by simp [zX] at h,fun l args σ v σ' h=>by simp [zX] at h⟩
 | n+1=>by
  have ih:=zGO hP n;refine ⟨fun f args σ v σ' h ι w args' hr ha=>?_,fun l args σ v σ' h ι w args' L hr ha hl m=>?_⟩
  ·simp only [zX] at h;split at h
   ·rename_i fn hfn;split at h
    ·rename_i c hc;rw [Tm.puts_eq] at h;obtain ⟨hok,hname⟩:=hP.code f fn c hfn hc;refine ⟨⟨fn,hfn,by rw [hc];rfl,hname⟩,fun m=>?_⟩
     have fin:∀ (e:Exit) (fr':Fr) (σ₁:St),(e=.normal∨e=.ret)→zTU P fn fr' σ₁=some (v,σ')→∀ ι' a' w',Good ι σ w ι' σ₁ w'→FrR ι' fr' a'→bodyPostM (Fw none) m P fn (zKJ ι σ w v σ') e a' w':=by
      intro e fr' σ₁ he hd ι' a' w' hg hf;have:LeavesInM (Fw none) m P fn a'.tmps (zKJ ι σ w v σ') a'.defers .returning w':=by
       unfold zTU at hd;split at hd
       ·rename_i σ₂ hdr;split at hd
        ·rename_i v0 hres;rw [zJS] at hd;simp at hd;obtain ⟨rfl,rfl⟩:=hd;exact zGX fr'.marks a'.defers σ₁ w' σ₂ hdr hf.defs hg.rep hf.tms hres (fun v' w₂ hv hg2=>⟨ι',hv,hg.trans hg2⟩)
        ·cases hd
       ·cases hd
      rcases he with rfl | rfl <;> exact this
     refine callsIn_of_wp_marks hfn hc trivial ?_
     have hfr0:FrR ι ⟨(Tm.args 0 args).foldl (fun f p=>f.set p.1 p.2) (fresh (args.length+(fn.ntmps-args.length))),[]⟩ { tmps:=(⟨args'⟩:Array Value)++Array.replicate (fn.ntmps-(⟨args'⟩:Array Value).size) undef,defers:=[] } :=
      ⟨yEM ha fn.ntmps,.nil⟩
     unfold xLX at h;split at h
     ·rename_i fr' σ₁ hcode;exact vY hP.mixed hP.zero ih n none c hok _ _ _ _ _ hcode ι w _ none m _ hr hfr0 .none (fin _ fr' σ₁ (.inl rfl) h)
     ·rename_i fr' σ₁ hcode;exact vY hP.mixed hP.zero ih n none c hok _ _ _ _ _ hcode ι w _ none m _ hr hfr0 .none (fin _ fr' σ₁ (.inr rfl) h)
     ·cases h
    ·cases h
   ·cases h
  ·simp only [zX] at h;split at h
   ·rename_i tm ps as bo st pend db hb;obtain ⟨hlen,h⟩:=xX h;have hlen:=Nat.eq_of_beq_eq_true hlen;rw [Tm.puts_eq] at h;obtain ⟨L',r,h1,h2,h3,_,h5,h6,h7,h8,oka,okb,_,_⟩:=zFP (st':=st) (pend':=pend) hr hb;rw [hl] at h1;cases h1;have hsz:(⟨args'⟩:Array Value).size=r.params.size:=by rw [h6];simp;rw [← ha.length];exact hlen
    refine ⟨r.fn,_,r.assign,r.body,run_yield h2 hsz, ?_⟩
    rw [h7,h8];refine roundIn_of_wpIn trivial ?_
    have htm:TmR ι ((ps.zip args).foldl (fun f p=>f.set p.1 p.2) tm) ((r.params.zip (⟨args'⟩:Array Value)).foldl (fun tmps (t,a)=>tmps.setIfInBounds t a) r.tmps):=by
     have:=yWO ps args args' tm r.tmps ha h5;rw [h6,← Array.foldl_toList,Array.toList_zip];exact this
    unfold zKT at h;split at h
    ·rename_i fr₁ σ₁ hcode;split at h
     ·rename_i tm1 ps1 as1 bo1 pend1 db1 hb1;rw [St.write_eq] at h;refine vY hP.mixed hP.zero ih n (some l) as oka _ _ _ _ _ hcode ι w _ (some L.c) m _ hr ⟨htm,.nil⟩ (.some hl) (fun ι₁ a₁ w₁ hg1 hf1=>?_);obtain ⟨L1,r1,k1,k2,k3,k4,_,_,_,_,_,_,_,hg2⟩:=zFP (st':=.busy) (pend':=pend1) hg1.rep hb1;have hl1:=hg1.ext.loc _ _ _ hl;rw [hl1] at k1;cases k1;have hw:w₁.putObj L.c (.loop { r1 with state:=.busy })=w₁.putObj L.c (.loop { r1 with state:=.busy,pending:=pend1 }):=by rw [← k4]
      refine ⟨_,run_beginRound k2 k3, ?_⟩
      rw [hw];have fin:∀ (jump:Option Code) (σ₂:St),zDP l jump σ₂=some (v,σ')→∀ ι₂ w₂,Good ι₁ (σ₁.put l (.loop tm1 ps1 as1 bo1 .busy pend1 db1)) (w₁.putObj L.c (.loop { r1 with state:=.busy,pending:=pend1 })) ι₂ σ₂ w₂ →
        ∃ v' w',(Instr.endRound L.c jump).run P w₂=.ok v' w'∧zKJ ι σ w v σ' (.returned v') w':=by
       intro jump σ₂ hend ι₂ w₂ hg3
       have hl2:=hg3.ext.loc _ _ _ hl1
       unfold zDP at hend
       split at hend
       ·rename_i hb2;cases jump with
        | none =>
         simp only [St.write_eq] at hend;simp at hend;obtain ⟨rfl,rfl⟩:=hend;obtain ⟨L2,r2,q1,q2,_,_,_,_,_,_,_,_,_,hg4⟩:=zFP (st':=.ready) (pend':=none) hg3.rep hb2;rw [hl2] at q1;cases q1;exact ⟨_,_,run_endRound none q2,ι₂,.bool true,((hg1.trans hg2).trans hg3).trans hg4⟩
        | some c =>
         simp only [St.write_eq] at hend;simp at hend;obtain ⟨rfl,rfl⟩:=hend;obtain ⟨L2,r2,q1,q2,_,_,_,_,_,_,_,_,_,hg4⟩:=zFP (st':=.done) (pend':=some c) hg3.rep hb2;rw [hl2] at q1;cases q1;exact ⟨_,_,run_endRound (some c) q2,ι₂,.bool false,((hg1.trans hg2).trans hg3).trans hg4⟩
       ·cases hend
      unfold zKS at h;split at h
      ·rename_i fr₂ σ₂ hbody;refine vY hP.mixed hP.zero ih n (some l) bo okb _ _ _ _ _ hbody ι₁ _ _ (some L.c) m _ hg2.rep hf1 (.some hl1) (fun ι₂ a₂ w₂ hg3 _=>?_);exact fin none σ₂ h ι₂ w₂ hg3
      ·rename_i fr₂ σ₂ hbody;refine vY hP.mixed hP.zero ih n (some l) bo okb _ _ _ _ _ hbody ι₁ _ _ (some L.c) m _ hg2.rep hf1 (.some hl1) (fun ι₂ a₂ w₂ hg3 _=>?_);exact fin (some .ret) σ₂ h ι₂ w₂ hg3
      ·rename_i id fr₂ σ₂ hbody;refine vY hP.mixed hP.zero ih n (some l) bo okb _ _ _ _ _ hbody ι₁ _ _ (some L.c) m _ hg2.rep hf1 (.some hl1) (fun ι₂ a₂ w₂ hg3 _=>?_);exact fin (some (.exit id)) σ₂ h ι₂ w₂ hg3
      ·cases h
     ·cases h
    ·cases h
   ·cases h

end
end Go.Lay

namespace Go.Lay
open Go

def xON (P:Program):Bool:=P.types.toList.all fun i=>match i.zero with | some z=>zV RD z | none=>true
def xLL (fn : Func) : Bool := match fn.body with | some c => wQ c && !(fn.name == "runtime.NumGoroutine") | none => true
def xRD (P:Program):Bool:=P.funcs.toList.all xLL
theorem xBE {P:Program} (h1:P.follows .mixedOrders=true) (h2:xON P=true) (h3:xRD P=true):ProgOk P:=by
 refine ⟨h1,fun t z hz=>?_,fun f fn c hf hc=>?_⟩
 ·unfold uZ at hz;cases hi:P.types[t]? with
  | none=>rw [hi] at hz;simp at hz
  | some i =>
   rw [hi] at hz;simp at hz;have hm:i∈P.types.toList:=List.mem_of_getElem? (by simpa using hi);have:=List.all_eq_true.1 h2 i hm;rw [hz] at this;exact this
 ·have hm:fn∈P.funcs.toList:=List.mem_of_getElem? (by simpa using hf);have:=List.all_eq_true.1 h3 fn hm;unfold xLL at this;rw [hc] at this;simp only [Bool.and_eq_true,Bool.not_eq_true'] at this;exact ⟨this.1,by simpa using this.2⟩

def yXZ:Inj:={ loc:=fun _ _=>none,own:=fun _=>none,csz:=fun _=>0 }
def xJC:St:=⟨.leaf,0,0⟩
theorem xUP (w:World):Rep yXZ xJC w :=
 ⟨fun b y h=>by simp [xJC,yK,Tr.getP_leaf] at h,fun _ _ _ h=>by simp [yXZ] at h,fun _ _ h=>by simp [yXZ] at h,fun _ _ _=>rfl⟩

theorem xLB {ι ι':Inj} {σ σ':St} {w w':World} (h:Good ι σ w ι' σ' w') (ho:∀ c,ι.own c=none):RowKit.Grown w w':=by
 have hs:∀ c,c<w.heap.size→w'.heap[c]?=w.heap[c]?:=fun c hc=>h.pres.same c hc (fun b hb=>by rw [ho c] at hb;cases hb)
 refine ⟨⟨h.pres.os,h.pres.output,fun i hi=>?_⟩,fun a=>?_,h.pres.size⟩
 ·rw [hs i hi];split <;> rename_i h1 h2
  ·rw [h1] at h2;cases h2;exact ⟨rfl,rfl,rfl,fun _ _=>rfl⟩
  ·rw [h1] at h2;cases h2;exact .inr ⟨rfl,rfl⟩
  ·rfl
 ·rcases Nat.lt_or_ge a.block w.heap.size with hlt | hge
  ·simp only [World.frozen?,hs _ hlt]
  ·have e1:w.heap[a.block]?=none:=by simp [hge]
   have e2:w.frozen? a=false:=by simp only [World.frozen?,e1]
   rw [e2];unfold World.frozen?;split
   ·rename_i arr elem lo hi hc;rcases h.pres.fr _ _ _ _ hc with ⟨arr',elem',hc'⟩ | hf
    ·rw [e1] at hc';cases hc'
    ·simp at hf;obtain ⟨rfl,rfl⟩:=hf;simp
   ·rfl

def okB:Option (Value × St)→Bool
 | some (.bool b,_)=>b
 | _=>false
theorem xJA {r:Option (Value × St)} (h:okB r=true):∃ σ',r=some (.bool true,σ'):=by
 unfold okB at h;split at h
 ·rename_i b σ';exact ⟨σ',by rw [h]⟩
 ·cases h

end Go.Lay

namespace Go.Lay
open Go

section
variable {P:Program} {rec:Rec} {ι:Inj} {σ:St} {w:World}
def zHY (P:Program) (rec:Rec) (N:Nat) (f:FuncId) (args:List Value) (σ:St):Option (Value × St) :=
 match P.funcs[f]? with
 | some fn=>match fn.body with
  | some c=>Tm.puts (Tm.args 0 args) (fresh (args.length+(fn.ntmps-args.length))) fun tm=>xLX P fn (yY P rec N none c ⟨tm,[]⟩ σ)
  | none=>none
 | none=>none
theorem zEN (hP:ProgOk P) (ih:RecSound P rec) {n:Nat} {f:FuncId} {args args':List Value} {v:Value} {σ':St} (h:zHY P rec n f args σ=some (v,σ')) (hr:Rep ι σ w) (ha:VRs ι args args') :
  (∃ fn, P.funcs[f]? = some fn ∧ fn.body.isSome = true ∧ fn.name ≠ "runtime.NumGoroutine") ∧ ∀ m, CallsIn (Fw none) m P f ⟨args'⟩ w (zKJ ι σ w v σ') := by
 unfold zHY at h;split at h
 ·rename_i fn hfn;split at h
  ·rename_i c hc;rw [Tm.puts_eq] at h;obtain ⟨hok,hname⟩:=hP.code f fn c hfn hc;refine ⟨⟨fn,hfn,by rw [hc];rfl,hname⟩,fun m=>?_⟩
   have fin:∀ (e:Exit) (fr':Fr) (σ₁:St),(e=.normal∨e=.ret)→zTU P fn fr' σ₁=some (v,σ')→∀ ι' a' w',Good ι σ w ι' σ₁ w'→FrR ι' fr' a'→bodyPostM (Fw none) m P fn (zKJ ι σ w v σ') e a' w':=by
    intro e fr' σ₁ he hd ι' a' w' hg hf;have:LeavesInM (Fw none) m P fn a'.tmps (zKJ ι σ w v σ') a'.defers .returning w':=by
     unfold zTU at hd;split at hd
     ·rename_i σ₂ hdr;split at hd
      ·rename_i v0 hres;rw [zJS] at hd;simp at hd;obtain ⟨rfl,rfl⟩:=hd;exact zGX fr'.marks a'.defers σ₁ w' σ₂ hdr hf.defs hg.rep hf.tms hres (fun v' w₂ hv hg2=>⟨ι',hv,hg.trans hg2⟩)
      ·cases hd
     ·cases hd
    rcases he with rfl | rfl <;> exact this
   refine callsIn_of_wp_marks hfn hc trivial ?_
   have hfr0:FrR ι ⟨(Tm.args 0 args).foldl (fun f p=>f.set p.1 p.2) (fresh (args.length+(fn.ntmps-args.length))),[]⟩ { tmps:=(⟨args'⟩:Array Value)++Array.replicate (fn.ntmps-(⟨args'⟩:Array Value).size) undef,defers:=[] } :=
    ⟨yEM ha fn.ntmps,.nil⟩
   unfold xLX at h;split at h
   ·rename_i fr' σ₁ hcode;exact vY hP.mixed hP.zero ih n none c hok _ _ _ _ _ hcode ι w _ none m _ hr hfr0 .none (fin _ fr' σ₁ (.inl rfl) h)
   ·rename_i fr' σ₁ hcode;exact vY hP.mixed hP.zero ih n none c hok _ _ _ _ _ hcode ι w _ none m _ hr hfr0 .none (fin _ fr' σ₁ (.inr rfl) h)
   ·cases h
  ·cases h
 ·cases h
def xOO {α:Type} (eq:α→α→Bool):Tr α→Tr α→Bool
 | .leaf,.leaf=>true
 | .node (some a) l m,.node (some b) l' m'=>eq a b && xOO eq l l' && xOO eq m m'
 | .node none l m,.node none l' m'=>xOO eq l l' && xOO eq m m'
 | _,_=>false
def yDE:List (Nat × Nat)→List (Nat × Nat)→Bool
 | [],[]=>true
 | (a,b)::l,(a',b')::l'=>Nat.beq a a' && Nat.beq b b' && yDE l l'
 | _,_=>false
theorem xJL:∀ (l l':List (Nat × Nat)),yDE l l'=true→l=l':=by
 intro l;induction l with
 | nil=>intro l' h;cases l' <;> simp_all [yDE]
 | cons x l ih =>
  intro l' h;cases l' with
  | nil=>simp [yDE] at h
  | cons y l'=>simp only [yDE,Bool.and_eq_true,Nat.beq_eq] at h;rw [ih _ h.2];obtain ⟨⟨h1,h2⟩,_⟩:=h;cases x;cases y;simp_all
def yJJ:List Value→List Value→Bool
 | [],[]=>true
 | a::l,b::l'=>veq RD a b && yJJ l l'
 | _,_=>false
theorem yWR:∀ (l l':List Value),yJJ l l'=true→l=l':=by
 intro l;induction l with
 | nil=>intro l' h;cases l' <;> simp_all [yJJ]
 | cons x l ih =>
  intro l' h;cases l' with
  | nil=>simp [yJJ] at h
  | cons y l'=>simp only [yJJ,Bool.and_eq_true] at h;rw [zQJ _ _ _ h.1,ih _ h.2]
def yDC:List (Value × Value)→List (Value × Value)→Bool
 | [],[]=>true
 | (a,b)::l,(a',b')::l'=>veq RD a a' && veq RD b b' && yDC l l'
 | _,_=>false
theorem xJH:∀ (l l':List (Value × Value)),yDC l l'=true→l=l':=by
 intro l;induction l with
 | nil=>intro l' h;cases l' <;> simp_all [yDC]
 | cons x l ih =>
  intro l' h;cases l' with
  | nil=>simp [yDC] at h
  | cons y l' =>
   cases x;cases y
   simp only [yDC,Bool.and_eq_true] at h;rw [zQJ _ _ _ h.1.1,zQJ _ _ _ h.1.2,ih _ h.2]
def xML:Blk→Blk→Bool
 | .cells c e l n ro,.cells c' e' l' n' ro'=>yJJ c c' && Nat.beq e e' && yDE l l' && Nat.beq n n' && (ro == ro')
 | .map m,.map m'=>yDC m m'
 | .defd,.defd=>true
 | _,_=>false
theorem yOJ (a b:Blk) (h:xML a b=true):a=b:=by
 cases a <;> cases b <;> simp only [xML,Bool.and_eq_true,Bool.false_eq_true,Nat.beq_eq,beq_iff_eq] at h
 ·obtain ⟨⟨⟨⟨h1,h2⟩,h3⟩,h4⟩,h5⟩:=h;rw [yWR _ _ h1,xJL _ _ h3];simp_all
 ·rw [xJH _ _ h]
 ·rfl
def zUL {α:Type} (eq:α→α→Bool):Tr α→Tr α→Bool
 | _,.leaf=>true
 | .node (some a) l m,.node (some b) l' m'=>eq a b && zUL eq l l' && zUL eq m m'
 | .node _ l m,.node none l' m'=>zUL eq l l' && zUL eq m m'
 | _,_=>false
theorem yJN {α:Type} {eq:α→α→Bool} (he:∀ a b,eq a b=true→a=b):∀ (t t':Tr α),zUL eq t t'=true→∀ p y,Tr.getP p t'=some y→Tr.getP p t=some y:=by
 intro t t';induction t' generalizing t with
 | leaf=>intro _ p y h;cases p <;> simp [Tr.getP] at h
 | node v' l' m' ihl ihm =>
  intro h p y hy;cases t with
  | leaf=>cases v' <;> simp [zUL] at h
  | node v l m =>
   have hs:(∀ b,v'=some b→v=some b)∧zUL eq l l'=true∧zUL eq m m'=true:=by
    cases v' with
    | none=>cases v <;> (simp only [zUL,Bool.and_eq_true] at h;exact ⟨fun _ hb=>(by cases hb),h.1,h.2⟩)
    | some b =>
     cases v with
     | none=>simp [zUL] at h
     | some a =>
      simp only [zUL,Bool.and_eq_true] at h;exact ⟨fun _ hb=>(by cases hb;rw [he _ _ h.1.1]),h.1.2,h.2⟩
   cases p with
   | nil=>simp only [Tr.getP] at hy ⊢;exact hs.1 _ hy
   | cons b p =>
    simp only [Tr.getP] at hy ⊢;cases b with
    | true=>exact ihm _ hs.2.2 _ _ hy
    | false=>exact ihl _ hs.2.1 _ _ hy
def zII (σ τ:St):Bool:=Nat.beq σ.y τ.y && Nat.beq σ.low τ.low && zUL xML σ.heap τ.heap
theorem Good.sub {ι ι':Inj} {σ τ τ':St} {w w':World} (h:Good ι σ w ι' τ w') (hs:zII τ τ'=true):Good ι σ w ι' τ' w':=by
 simp only [zII,Bool.and_eq_true,Nat.beq_eq] at hs;obtain ⟨⟨h1,h2⟩,h3⟩:=hs;refine ⟨h1 ▸ h.ext,⟨fun b y hb=>?_,fun b s L hl=>h.rep.lt b s L hl,fun c b hb=>?_,fun b s hb=>?_⟩,h2 ▸ h.pres,h2 ▸ h.low,h1 ▸ h.y⟩
 ·have:=h.rep.blk b y (yJN yOJ _ _ h3 _ _ hb);exact ⟨h1 ▸ this.1,this.2⟩
 ·have:=h.rep.ownlt c b hb;exact ⟨this.1,h1 ▸ this.2⟩
 ·exact h.rep.fresh b s (h1 ▸ hb)

structure Ent where
 keep:Bool
 f:Nat
 args:List Value
 σ:St
 v:Value
 σ':St
def ins:Tr Blk→List (Nat × Blk)→Tr Blk
 | t,[]=>t
 | t,(i,y)::l=>Tr.setP (way i) t (some y) fun t=>ins t l
def Ent.out (e:Ent) (σ:St):St:=bif e.keep then σ else e.σ'
def yNG:List Ent→Nat→List Value→St→Option (Value × St)
 | [],_,_,_=>none
 | e::l,f,args,σ=>bif Nat.beq e.f f && Nat.beq e.σ.y σ.y && yJJ e.args args && zII σ e.σ then some (e.v,e.out σ) else yNG l f args σ
def yMA (l:List Ent) (rec:Rec):Rec:=fun r args σ =>
 match r with
 | .func f=>match yNG l f args σ with
  | some x=>some x
  | none=>rec (.func f) args σ
 | .yield y=>rec (.yield y) args σ
theorem yUD:∀ {l:List Ent} {f args σ x},yNG l f args σ=some x→∃ e∈l,e.f=f∧e.args=args∧zII σ e.σ=true∧x=(e.v,e.out σ):=by
 intro l;induction l with
 | nil=>intro f args σ x h;cases h
 | cons e l ih =>
  intro f args σ x h;unfold yNG at h;cases hb:(Nat.beq e.f f && Nat.beq e.σ.y σ.y && yJJ e.args args && zII σ e.σ) with
  | true =>
   rw [hb] at h;simp only [Bool.and_eq_true,Nat.beq_eq] at hb;simp only [cond_true,Option.some.injEq] at h;exact ⟨e,List.mem_cons_self,hb.1.1.1,yWR _ _ hb.1.2,hb.2,h.symm⟩
  | false =>
   rw [hb] at h;obtain ⟨e',he,hx⟩:=ih h;exact ⟨e',List.mem_cons_of_mem _ he,hx⟩
theorem Rep.sub {σ σs:St} {w:World} (h:Rep ι σ w) (hs:zII σ σs=true):Rep ι σs w:=by
 simp only [zII,Bool.and_eq_true,Nat.beq_eq] at hs;obtain ⟨⟨h1,_⟩,h3⟩:=hs;refine ⟨fun b y hb=>?_,h.lt,fun c b hb=>?_,fun b s hb=>h.fresh b s (h1 ▸ hb)⟩
 ·have:=h.blk b y (yJN yOJ _ _ h3 _ _ hb);exact ⟨h1 ▸ this.1,this.2⟩
 ·have:=h.ownlt c b hb;exact ⟨this.1,h1 ▸ this.2⟩
def zCC (P:Program) (e:Ent):Prop:=∀ (ι:Inj) (σ:St) (w:World) (args':List Value),zII σ e.σ=true→Rep ι σ w→VRs ι e.args args' →
  (∃ fn, P.funcs[e.f]? = some fn ∧ fn.body.isSome = true ∧ fn.name ≠ "runtime.NumGoroutine") ∧ ∀ n, CallsIn (Fw none) n P e.f ⟨args'⟩ w (zKJ ι σ w e.v (e.out σ))
def zKI (P:Program) (l:List Ent):Prop:=∀ e∈l,zCC P e
theorem zCD:zKI P []:=fun _ h=>by cases h
theorem zAX {e:Ent} {l:List Ent} (h:zCC P e) (hl:zKI P l):zKI P (e::l):=fun x hx=>by
 rcases List.mem_cons.1 hx with rfl | hx
 ·exact h
 ·exact hl _ hx
theorem zNI (hP:ProgOk P) {l:List Ent} (h:zKI P l) (N:Nat):RecSound P (yMA l (zX P N)):=by
 refine ⟨fun f args σ v σ' hx ι w args' hr ha=>?_,fun y args σ v σ' hx=>(zGO hP N).yield y args σ v σ' hx⟩
 simp only [yMA] at hx;cases hf:yNG l f args σ with
 | some y =>
  rw [hf] at hx;obtain ⟨e,he,rfl,rfl,hs,rfl⟩:=yUD hf;cases hx
  exact h e he ι σ w args' hs hr ha
 | none=>rw [hf] at hx;exact (zGO hP N).func f args σ v σ' hx ι w args' hr ha

def xTP (e:Ent):Option (Value × St)→Bool
 | some (v,τ)=>veq RD v e.v && zII τ e.σ' && !e.keep
 | none=>false
theorem zDX (hP:ProgOk P) {l:List Ent} (hl:zKI P l) (N:Nat) {e:Ent} (h:xTP e (zHY P (yMA l (zX P N)) N e.f e.args e.σ)=true):zCC P e:=by
 intro ι σ w args' hs hr ha;unfold xTP at h;split at h
 ·rename_i v τ hb;simp only [Bool.and_eq_true,Bool.not_eq_true'] at h;obtain ⟨h1,h2⟩:=zEN hP (zNI hP hl N) hb (hr.sub hs) ha;refine ⟨h1,fun n=>CallsIn.mono (h2 n) (fun e' w' hR=>?_)⟩
  cases e' with
  | returned v' =>
   obtain ⟨ι',hv,hg⟩:=hR;have hg:=hg.sub h.1.2;simp only [zII,Bool.and_eq_true,Nat.beq_eq] at hs;refine ⟨ι',zQJ _ _ _ h.1.1 ▸ hv, ?_⟩
   simp only [Ent.out,h.2,cond_false];exact ⟨hg.ext,hg.rep,hg.pres,hs.1.2 ▸ hg.low,hs.1.1 ▸ hg.y⟩
  | panicked _=>exact hR.elim
  | outgrown=>exact hR.elim
 ·cases h
def xTK (e:Ent):Option (Value × St)→Bool
 | some (v,τ)=>veq RD v e.v && Nat.ble e.σ.y τ.low && zV RD e.v && e.keep
 | none=>false
theorem yNJ (hP:ProgOk P) {l:List Ent} (hl:zKI P l) (N:Nat) {e:Ent} (h:xTK e (zHY P (yMA l (zX P N)) N e.f e.args e.σ)=true):zCC P e:=by
 intro ι σ w args' hs hr ha;unfold xTK at h;split at h
 ·rename_i v τ hb;simp only [Bool.and_eq_true] at h;obtain ⟨h1,h2⟩:=zEN hP (zNI hP hl N) hb (hr.sub hs) ha;refine ⟨h1,fun n=>CallsIn.mono (h2 n) (fun e' w' hR=>?_)⟩
  have hn:σ.y=e.σ.y:=by simp only [zII,Bool.and_eq_true,Nat.beq_eq] at hs;exact hs.1.1
  cases e' with
  | returned v' =>
   obtain ⟨ι',hv,hg⟩:=hR;have hv1:=zQJ _ _ _ h.1.1.1;subst hv1;have hlow':=(zW _ _).1 h.1.1.2;have he:=hv.rigid _ h.1.2;subst he;have hsame:∀ c,c<w.heap.size→(∀ b,ι.own c=some b→b<σ.y)→w'.heap[c]?=w.heap[c]?:=fun c hcs ho =>
    hg.pres.same c hcs (fun b hb=>Nat.lt_of_lt_of_le (hn ▸ ho b hb) hlow')
   simp only [Ent.out,h.2,cond_true];refine ⟨ι,.refl_rigid _ h.1.2,Ext.refl _ _ _,⟨fun b y hb=>⟨(hr.blk b y hb).1,(hr.blk b y hb).2.keep (Ext.refl ι w.heap.size 0) hr.lt (fun c hcs ho=>?_) (fun cs esz log next ro hy s hs'=>?_)⟩,fun b s L hl=>?_,fun c b hb=>?_,hr.fresh⟩,
    ⟨hg.pres.size,fun c hcs ho=>hsame c hcs (fun b hb=>(hr.ownlt c b hb).2),hg.pres.tape,hg.pres.os,hg.pres.output,hg.pres.fr⟩,Nat.le_refl _,Nat.le_refl _⟩
   ·refine hsame c hcs (fun b' hb'=>?_);rcases ho with ho | ho
    ·exact (hr.ownlt c b' hb').2
    ·rw [ho] at hb';cases hb'
   ·have:=(hr.blk b y hb).2;subst hy;cases this with | cells _ _ _ fresh=>exact fresh s hs'
   ·exact Nat.lt_of_lt_of_le (hr.lt b s L hl) hg.pres.size
   ·exact ⟨Nat.lt_of_lt_of_le (hr.ownlt c b hb).1 hg.pres.size,(hr.ownlt c b hb).2⟩
  | panicked _=>exact hR.elim
  | outgrown=>exact hR.elim
 ·cases h
end
end Go.Lay
