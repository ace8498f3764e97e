
import Derived.Test.YtgfiniccfpfplaaGreatSK
import Derived.Test.YtgfiniccfpfplaaGreatXP
namespace Go.Proofs.YtgfiniccfpfplaaGreat
open Go Go.Lay
open Tryz renaming prog -> Pg
set_option linter.unusedVariables false
set_option linter.unusedSimpArgs false
set_option maxRecDepth 20000
structure GvK where
 K:PlK
 D:Nat
 r:Nat
 st0:Nat->Std
 pu:Option Addr
 cu:Nat
 Bu:Nat
 Bq:Nat
 Bs:Nat
 Bo:Nat
 Bg:Nat
 By:Nat
 n1:Nat
abbrev GvK.du (G:GvK):List Nat:=yC G.K.w G.D G.K.l
abbrev GvK.args (G:GvK):List Value:=[.pointer (some ⟨G.Bu,0,none⟩),.pointer (some ⟨G.Bq,0,none⟩),.pointer (some ⟨G.Bs,0,none⟩),.pointer (some ⟨G.Bo,0,none⟩),.pointer (some ⟨G.Bg,0,none⟩),.pointer (some ⟨G.By,0,none⟩)]
structure GvK.Ok (G:GvK):Prop where
 ok:G.K.Ok
 dr:G.D+(G.r+1)=G.K.n
 f0:G.K.Zf.next<=G.Bo
 f1:G.K.Zf.next<=G.n1
 lt:G.Bu<G.n1/\G.Bq<G.n1/\G.Bs<G.n1/\G.Bo<G.n1/\G.Bg<G.n1/\G.By<G.n1/\G.K.Bp<G.n1/\G.K.bm<G.n1
 no:G.Bo≠G.Bu/\G.Bo≠G.Bq/\G.Bo≠G.Bs/\G.Bo≠G.Bg/\G.Bo≠G.By/\G.Bo≠G.K.Bp/\G.Bo≠G.K.bm
 nm:G.K.bm≠G.Bu/\G.K.bm≠G.Bq/\G.K.bm≠G.Bs/\G.K.bm≠G.Bg/\G.K.bm≠G.By
structure GvW (G:GvK) (z:St) (F:Key->Option EndR) (X:Nat->Prop) (e:EndR):Prop where
 w:PlW G.K z F X
 ou:Row z ⟨G.Bu,0,none⟩ [.slice G.pu G.du.length G.cu]
 du:yG z G.pu G.du.length (zPI G.du)
 ux:∀ b,AtP G.pu b->X b
 oq:Row z ⟨G.Bq,0,none⟩ [.pointer (some ⟨G.K.Bp,0,none⟩)]
 os:Row z ⟨G.Bs,0,none⟩ (iV (G.D:Int)::stL G.st0)
 og:Row z ⟨G.Bg,0,none⟩ [.func (.func 100) ⟨[]⟩ ⟨G.args⟩]
 oy:Row z ⟨G.By,0,none⟩ [.func (.func 99) ⟨[.pointer (some ⟨G.K.Bp,0,none⟩)]⟩ ⟨[]⟩]
 oo:Own z G.Bo (zFB e) 8
 xo:∀ b,X b->b≠G.Bo
 nz:G.n1<=z.next
section
variable {G:GvK} {z z':St} {F:Key->Option EndR} {X:Nat->Prop} {e:EndR}
theorem GvW.le (h:GvW G z F X e) (k:Le z z'):GvW G z' F X e :=
 ⟨h.w.le k,h.ou.le k,SlV.le h.du k,h.ux,h.oq.le k,h.os.le k,h.og.le k,h.oy.le k,h.oo.le k,h.xo,Nat.le_trans h.nz k.next⟩
theorem GvW.only {S:Nat->Prop} (ok:G.Ok) (h:GvW G z F X e) (k:Only S z z') (hS:∀ b,S b->G.n1<=b/\¬ X b):GvW G z' F X e:=by
 obtain ⟨l1,l2,l3,l4,l5,l6,l7,l8⟩:=ok.lt;have no:∀ b,b<G.n1->¬ S b:=fun b hb hs=>by have:=(hS b hs).1;omega
 have f1:=ok.f1;exact ⟨h.w.only k (fun b hs=>by have:=(hS b hs).1;omega) (no _ l7) (no _ l8) (fun b hb hs=>(hS b hs).2 hb),k.rw' h.ou (no _ l1),k.slv' h.du (fun a e hs=>(hS _ hs).2 (h.ux _ ⟨a,e,rfl⟩)),h.ux,k.rw' h.oq (no _ l2),k.rw' h.os (no _ l3),k.rw' h.og (no _ l5),k.rw' h.oy (no _ l6),k.own' h.oo (no _ l4),h.xo,Nat.le_trans h.nz k.next⟩
theorem GvW.best {F':Key->Option EndR} {X':Nat->Prop} (ok:G.Ok) (h:GvW G z F X e) (k:Only (·=G.K.bm) z z') (hw:PlW G.K z' F' X') (h1:∀ b,X b->X' b) (h2:∀ b,X' b->X b\/z.next<=b):GvW G z' F' X' e:=by
 obtain ⟨n1,n2,n3,n4,n5⟩:=ok.nm;obtain ⟨o1,o2,o3,o4,o5,o6,o7⟩:=ok.no;obtain ⟨l1,l2,l3,l4,l5,l6,l7,l8⟩:=ok.lt;have hnz:=h.nz;exact ⟨hw,k.rw' h.ou (fun e=>n1 e.symm),k.slv' h.du (fun a e hs=>(h.w.xb _ (h.ux _ ⟨a,e,rfl⟩)).2 hs),fun b hb=>h1 b (h.ux b hb),k.rw' h.oq (fun e=>n2 e.symm),k.rw' h.os (fun e=>n3 e.symm),k.rw' h.og (fun e=>n4 e.symm),k.rw' h.oy (fun e=>n5 e.symm),k.own' h.oo o7,fun b hb=>by
  rcases h2 b hb with h3 | h3
  ·exact h.xo b h3
  ·omega,Nat.le_trans h.nz k.next⟩
structure GvR (G:GvK) (z:St) (F:Key->Option EndR) (X:Nat->Prop) (e:EndR) (o:Option (List Int × List Int)) (C:zJR) (z':St) (F':Key->Option EndR) (X':Nat->Prop) (e':EndR) (o':Option (List Int × List Int)):Prop where
 w:GvW G z' F' X' e'
 ep:EndP z' X' e' o'
 bo:xO 6 C o'
 x1:∀ b,X b->X' b
 x2:∀ b,X' b->X b\/z.next<=b
 lo:z'.low<=G.Bo\/z'.low<=G.K.bm\/(F'=F/\X'=X/\e'=e/\o'=o)
def zRO (K:PlK) (r:Nat):Prop:=∀ (z:St) (F:Key->Option EndR) (X:Nat->Prop) (D:Nat) (st:Nat->Std),D+r=K.n->PlW K z F X->(∀ k,k<K.m->StG (st k)) ->
 ∃ z' e o F' X',zD Pg 84 [.pointer (some ⟨K.Bp,0,none⟩),.agg ⟨iV (D:Int)::stL st⟩] z (zDB e) z'/\Only (·=K.bm) z z'/\PlW K z' F' X'/\EndP z' X' e o/\xO 6 (K.ch r D st) o/\(∀ b,X b->X' b)/\(∀ b,X' b->X b\/z.next<=b)/\(z'.low<=K.bm\/(F'=F/\X'=X))
abbrev GvK.give (G:GvK) (l:List Nat) (who:List Int) (st:Nat->Std):zJR:=zSZ G.K.w G.K.leaves G.K.wf G.r G.D l who st
theorem who_ok {xs:List Int}:∀ v∈xs.map yB,zIS Pg 3 1 v/\v.cells.toList=[v]:=by
 intro v hv;obtain ⟨x,_,rfl⟩:=List.mem_map.1 hv;exact ⟨zAX x,rfl⟩
theorem GvR.low {o:Option (List Int × List Int)} {C:zJR} {F':Key->Option EndR} {X':Nat->Prop} {e':EndR} {o':Option (List Int × List Int)} {m:Nat} (hm:m<=z'.low) (h:GvR G z F X e o C z' F' X' e' o'):GvR G z F X e o C ⟨z'.heap,z'.next,m⟩ F' X' e' o':=by
 have k:Le z' ⟨z'.heap,z'.next,m⟩:=⟨Nat.le_refl _,fun _ _=>rfl⟩;refine ⟨h.w.le k,h.ep.le k,h.bo,h.x1,h.x2, ?_⟩
 rcases h.lo with h1 | h1 | h1
 ·exact .inl (Nat.le_trans hm h1)
 ·exact .inr (.inl (Nat.le_trans hm h1))
 ·exact .inr (.inr h1)
theorem pick_some {b u a v:List Int}:pick (some (b,u)) a v=if wS v u then some (a,v) else some (b,u):=rfl
theorem belK (ok:G.Ok) {m:Nat} (h:G.n1<=m):yU RD m G.K.wfv=true:=ok.ok.bel m (Nat.le_trans ok.f1 h)
theorem yG.lt {Z:St} {p:Option Addr} {l:Nat} {xs:List Int} (h:yG Z p l xs) (b:Nat) (hb:AtP p b):b<Z.next:=by
 obtain ⟨a,rfl,rfl⟩:=hb;exact (show Row Z a _ from h.1.2).lt
theorem Ch_len {w:Wk} {leaves:Bool} {wf:Nat->List Int->List Int} (hl:w.duties.length<=12):∀ {r D:Nat} {st:Nat->Std} {c v:List Int},Ch w leaves wf r D st c v->c.length<=12*r
 | 0,_,_,_,_,h=>by rw [h.1];simp
 | r+1,D,st,c,v,h=>by
  obtain ⟨a,b,u,x,h1,h2,h3,h4⟩:=h;have:=(zDP h1).1;have hd:=zDO (w:=w) (D:=D) (j:=w.duties.length);have:=Ch_len hl h2;rw [h3,List.length_append];omega
theorem zLM {n l c:Nat} {p:Option Addr} {a0 a1 a2 a3 a4 a5:Int} {b:Bool} (h:∀ a,p=some a->a.block<n):yU RD n (.agg ⟨endC a0 a1 a2 a3 a4 a5 p l c b⟩)=true:=by
 have h1:yU RD n (.slice p l c)=true:=xH h;cases p with
 | none=>exact yJ rfl
 | some a =>
  show (true && (true && (true && (true && (true && (true && (Nat.blt a.block n && (true && true))))))))=true;rw [(xW _ _).2 (h a rfl)];rfl
theorem GvW.put {pw:Option Addr} {lw cw:Nat} {v:List Int} {who:List Int} (ok:G.Ok) (h:GvW G z F X e) (hv:v.length=6) (hb:Bd 100 v) (hi:yG z pw lw who) (hf:∀ b,AtP pw b->G.n1<=b/\b<z.next) :
  ∃ z',zQ Pg (evL [.pointer (some ⟨G.Bo,0,none⟩),zDB ⟨v,pw,lw,cw,true⟩]) z (.store 130 (.tmp 0) (.tmp 1))=some (undef,z')/\Only (·=G.Bo) z z'/\z'.low<=G.Bo/\z'.low<=z.low/\GvW G z' F (fun b=>X b\/AtP pw b) ⟨v,pw,lw,cw,true⟩/\EndP z' (fun b=>X b\/AtP pw b) ⟨v,pw,lw,cw,true⟩ (some (who,v)):=by
 obtain ⟨l1,l2,l3,l4,l5,l6,l7,l8⟩:=ok.lt;obtain ⟨o1,o2,o3,o4,o5,o6,o7⟩:=ok.no;have f0:=ok.f0;have st:=h.oo.store (P:=Pg) (k:=0) (t:=130) (v:=zDB ⟨v,pw,lw,cw,true⟩) (vs:=zFB ⟨v,pw,lw,cw,true⟩) (ds:=zFB ⟨v,pw,lw,cw,true⟩) rfl vR rfl (by simp) rfl;have k:Only (·=G.Bo) z (z.own G.Bo (zFB ⟨v,pw,lw,cw,true⟩) 8):=Only.own (.inr rfl);have w':=h.w.only k (fun b e=>by subst e;exact f0) (fun e=>o6 e.symm) (fun e=>o7 e.symm) h.xo;have hk:=k.slv' hi (fun a ea e=>by have:=(hf _ ⟨a,ea,rfl⟩).1;omega);have w8:PlW G.K (z.own G.Bo (zFB ⟨v,pw,lw,cw,true⟩) 8) F (fun b=>X b\/AtP pw b):=w'.mono (fun b hb=>.inl hb) (fun b hb=>by
  rcases hb with hb | hb
  ·exact w'.xb b hb
  ·have h1:=hf b hb;exact ⟨h1.2,by omega⟩)
 refine ⟨_,st,k,by simp [St.own];omega,by simp [St.own];omega,⟨w8,k.rw' h.ou (fun e=>o1 e.symm),k.slv' h.du (fun a e hs=>h.xo _ (h.ux _ ⟨a,e,rfl⟩) hs),fun b hb=>.inl (h.ux b hb),k.rw' h.oq (fun e=>o2 e.symm),k.rw' h.os (fun e=>o3 e.symm),k.rw' h.og (fun e=>o4 e.symm),k.rw' h.oy (fun e=>o5 e.symm),h.oo.put,fun b hb=>?_,h.nz⟩,⟨hv,hb,fun b hb=>.inr hb,rfl,rfl,hk⟩⟩
 rcases hb with hb | hb
 ·exact h.xo b hb
 ·have:=(hf b hb).1;omega
theorem yNU (ok:G.Ok) (hb:zRO G.K G.r) {F:Key->Option EndR} {X:Nat->Prop} {e:EndR} {o:Option (List Int × List Int)} {C:zJR} {who:List Int} {pl:Option Addr} {lc:Nat} {sf:List (Nat × Nat)} {st:Nat->Std}
  (W:GvW G z F X e) (ep:EndP z X e o) (bo:xO 6 C o) (hC:∀ a v,C a v->v.length=6) (S:Stk z G.n1 pl who.length lc (who.map yB) sf) (hX:∀ b,AtP pl b->¬ X b) (hw:who.length=G.du.length) (hst:∀ k,k<G.K.m->StG (st k)) :
  ∃ z',zD Pg 100 (.slice pl who.length lc::.agg ⟨stL st⟩::G.args) z (.tuple ⟨[]⟩) z'/\Only (fun b=>b=G.K.bm\/b=G.Bo) z z'/\∃ F' X' e' o',GvR G z F X e o (fun c v=>C c v\/G.give [] who st c v) z' F' X' e' o':=by
 suffices hmain:zO Pg 100 (.slice pl who.length lc::.agg ⟨stL st⟩::G.args) z.re fun v s=>Only (fun b=>b=G.K.bm\/b=G.Bo) z.re s/\(s.low<z.next\/zV RD v=false\/(v=.tuple ⟨[]⟩/\∃ F' X' e' o',GvR G z F X e o (fun c v=>C c v\/G.give [] who st c v) z F' X' e' o'))/\(v=.tuple ⟨[]⟩/\∃ F' X' e' o',GvR G z F X e o (fun c v=>C c v\/G.give [] who st c v) s F' X' e' o') by
  obtain ⟨v,s,h1,h2,rfl,h3⟩:=mut6 (Q:=fun v s=>v=.tuple ⟨[]⟩/\∃ F' X' e' o',GvR G z F X e o (fun c v=>C c v\/G.give [] who st c v) s F' X' e' o') hmain (by
   rintro v s m hm ⟨h1,F',X',e',o',h2⟩;exact ⟨h1,F',X',e',o',h2.low hm⟩)
  exact ⟨s,h1,h2,h3⟩
 have zr:z.re.next=z.next:=rfl;have n7:=ok.ok.n7;have dr:=ok.dr;have hD:G.D<=6:=by omega
 obtain ⟨l1,l2,l3,l4,l5,l6,l7,l8⟩:=ok.lt;have hnz:=W.nz;have hl12:who.length<=12:=by
  have h1:=zDO (w:=G.K.w) (D:=G.D) (j:=G.K.l);have h2:=ok.ok.sn.l12;have h3:who.length=(yC G.K.w G.D G.K.l).length:=hw;omega
 have hAt:∀ b,AtP pl b->G.n1<=b/\b<z.next:=fun b hb=>S.bd b hb
 obtain ⟨τ1,hτ1⟩:∃ τ1,τ1=z.re.row (stL st) 4:=⟨_,rfl⟩;have N1:New z.re τ1:=by rw [hτ1];exact New.row _ _ _
 have nx1:τ1.next=z.next+1:=by rw [hτ1];rfl
 have oN1:Own τ1 z.next (stL st) 4:=by rw [hτ1];exact zC _ _ _
 have L1:Le z τ1:=(le0 z).trans N1.le;have W1:=W.le L1;have S1:=S.le L1;have c5:=past_c (D:=G.D) (st:=st) W1.w.pr ok.ok.wk.len.2 ok.ok.sn.m6 (by omega) ok.ok.sn.rest;obtain ⟨z2,e2,o2,F2,X2,c6,k2,w2,ep2,bo2,x21,x22,lo2⟩:=hb τ1 F X (G.D+1) (zCH G.K.w G.D st) (by omega) W1.w (fun k hk=>by
  unfold zCH;split
  ·exact (hst k hk).past hD ok.ok.sn.rest
  ·exact hst k hk)
 rw [show ((G.D+1:Nat):Int)=(G.D:Int)+1 by omega] at c6;have W2:=W1.best ok k2 w2 x21 x22;have nx2:=k2.next;have hlow2:=zET c6;have S2:Stk z2 G.n1 pl who.length lc (who.map yB) sf:=S1.only k2 (fun b hb e=>by have:=(hAt b hb).1;omega);have oN2:=k2.own' oN1 (show ¬ z.next=G.K.bm by omega);have EP2:EndP z2 X2 e o:=((ep.le L1).only k2 (fun b hb=>(W1.w.xb b hb).2)).mono x21;obtain ⟨τ3,hτ3⟩:∃ τ3,τ3=(z2.row (endC 0 0 0 0 0 0 none 0 0 false) 8).own z2.next (zFB e2) 8:=⟨_,rfl⟩;have N3:New z2 τ3:=by rw [hτ3];exact (New.row _ _ _).own (Nat.le_refl _)
 have nx3:τ3.next=z2.next+1:=by rw [hτ3];rfl
 have oR3:Own τ3 z2.next (zFB e2) 8:=by rw [hτ3];exact (zC _ _ _).put
 have W3:=W2.le N3.le;have S3:=S2.le N3.le;have c19:=ok.ok.wfc τ3 W3.w.fl G.D pl who.length lc who (S3.slv who_ok) hl12;have wvl:=ok.ok.wfl G.D who;have wvb:=ok.ok.wfb G.D who hl12;have gl:=give_leaf (w:=G.K.w) (leaves:=G.K.leaves) (wf:=G.K.wf) (r:=G.r) (D:=G.D) (who:=who) (st:=st) ok.ok.wfl bo2 bo hC;have c20:=plus_c (Z:=τ3) ep2.len wvl (ep2.bd.mono (by decide)) (wvb.mono (by decide));have hpl:(vB e2.v (G.K.wf G.D who)).length=6:=by rw [zME (by rw [ep2.len,wvl]),ep2.len]
 have hpb:∀ b u,o2=some (b,u)->Bd 100 (vB e2.v (G.K.wf G.D who)):=by
  rintro b u rfl;have ht:_/\_/\_:=ep2.tell;have h1:=Ch_bd ok.ok.wfb ok.ok.dl bo2.1;rw [<- ht.2.1] at h1;exact (h1.plus wvb).mono (by omega)
 obtain ⟨pv,hpv⟩:∃ pv,pv=vB e2.v (G.K.wf G.D who):=⟨_,rfl⟩;rw [<- hpv] at c20 hpl hpb;rw [uZ] at c19;rw [uZ,uZ,uZ] at c20;obtain ⟨τ5,hτ5⟩:∃ τ5,τ5=(τ3.row (zH 0 0 0 0 0 0) 1).own τ3.next (zH (pv.getD 0 0) (pv.getD 1 0) (pv.getD 2 0) (pv.getD 3 0) (pv.getD 4 0) (pv.getD 5 0)) 1:=⟨_,rfl⟩;have N5:New τ3 τ5:=by rw [hτ5];exact (New.row _ _ _).own (Nat.le_refl _)
 have nx5:τ5.next=τ3.next+1:=by rw [hτ5];rfl
 have oM5:Own τ5 τ3.next (six pv) 1:=by rw [hτ5];exact (zC _ _ _).put
 have W5:=W3.le N5.le;have S5:=S3.le N5.le;have oR5:=oR3.le N5.le;have EP5:=(EP2.le N3.le).le N5.le;have hlow5:τ5.low<=z2.low:=by rw [hτ5,hτ3];simp [St.own];omega
 have k5:Only (fun b=>b=G.K.bm\/b=G.Bo) z.re τ5:=((N1.only.trans' k2 (fun b _ e=>.inl (.inl e))).trans' N3.only (S:=fun b=>b=G.K.bm\/b=G.Bo) (T:=fun _=>False) (fun b _ h=>h.elim)).trans' N5.only (T:=fun _=>False) (fun b _ h=>h.elim);have lq:∀ u,Row u ⟨G.Bq,0,none⟩ [.pointer (some ⟨G.K.Bp,0,none⟩)]->zB Pg u 125 ⟨G.Bq,0,none⟩=some (.pointer (some ⟨G.K.Bp,0,none⟩)):=fun u o=>o.ld uG rfl
 have ls:∀ u,Row u ⟨G.Bs,0,none⟩ (iV (G.D:Int)::stL G.st0)->zB Pg u 3 ⟨G.Bs,0,none⟩=some (iV (G.D:Int)):=fun u o=>o.ld zS rfl
 have l7':∀ u,Row u ⟨G.K.Bp,0,none⟩ G.K.row->zB Pg u 99 (zM ⟨G.K.Bp,0,none⟩ 7)=some G.K.wfv:=fun u o=>o.load1 agg99 rfl
 have lv:∀ (u:St) (b:Nat) (e:EndR),Own u b (zFB e) 8->zB Pg u 98 ⟨b,0,none⟩=some (.agg ⟨zH (e.v.getD 0 0) (e.v.getD 1 0) (e.v.getD 2 0) (e.v.getD 3 0) (e.v.getD 4 0) (e.v.getD 5 0)⟩):=fun u b e o=>o.rw.ldN zCS xX (k:=0) rfl rfl (nle rfl)
 have gw:=ok.ok.good;have ld1:zB Pg τ1 26 ⟨G.Bu,0,none⟩=some (.slice G.pu G.du.length G.cu):=W1.ou.ld yS rfl;have hb7:∀ m,G.n1<=m->zJ m [.pointer (some ⟨G.K.Bp,0,none⟩),iV (G.D:Int),.agg ⟨stL st⟩]:=fun m hm=>zE (zP (by show G.K.Bp<m;omega)) (zE rfl (zE (yJ rfl) zI))
 have hb8:∀ m (f:Nat->Std),G.n1<=m->zJ m [.pointer (some ⟨G.K.Bp,0,none⟩),.agg ⟨iV ((G.D:Int)+1)::stL f⟩]:=fun m f hm=>zE (zP (by show G.K.Bp<m;omega)) (zE (yJ rfl) zI)
 obtain ⟨τ2,hτ2⟩:∃ τ2,τ2=z2.row (endC 0 0 0 0 0 0 none 0 0 false) 8:=⟨_,rfl⟩;have nx2':τ2.next=z2.next+1:=by rw [hτ2];rfl
 have N2':New z2 τ2:=by rw [hτ2];exact New.row _ _ _
 have oN2':=oN2.le N2'.le;have oN3:=oN2.le N3.le;obtain ⟨τ4,hτ4⟩:∃ τ4,τ4=τ3.row (zH 0 0 0 0 0 0) 1:=⟨_,rfl⟩;have nx4:τ4.next=τ3.next+1:=by rw [hτ4];rfl
 have N4:New τ3 τ4:=by rw [hτ4];exact New.row _ _ _
 have oR4:=oR3.le N4.le;have W2':=W2.le N2'.le;have W4:=W3.le N4.le;have h1:=ld1;have h2:=lq τ1 W1.oq;have h3:=ls τ1 W1.os;have h4:=vZ oN1;have h7:=hb7 τ1.next (by omega);have h8:=hb8 τ1.next (zCH G.K.w G.D st) (by omega);have h9:zJ τ2.next [.pointer (some ⟨z2.next,0,none⟩),.agg ⟨zFB e2⟩]:=(zE (zP (show z2.next<τ2.next by omega)) (zE (zLM fun a e=>(show a.block<τ2.next by have:=(w2.xb a.block (ep2.bl a.block ⟨a,e,rfl⟩)).1;omega)) zI));have h10:=(⟨⟨show G.Bq<z2.next by omega,rfl⟩,lq z2 W2.oq⟩:(G.Bq<z2.next/\zN RD (.pointer (some ⟨G.K.Bp,0,none⟩))=true)/\_);have h11:=(⟨⟨show G.Bq<τ2.next by omega,rfl⟩,lq τ2 W2'.oq⟩:(G.Bq<τ2.next/\zN RD (.pointer (some ⟨G.K.Bp,0,none⟩))=true)/\_);have h12:=(⟨⟨show G.Bs<z2.next by omega,rfl⟩,ls z2 W2.os⟩:(G.Bs<z2.next/\zN RD (iV (G.D:Int))=true)/\_);have h13:=(⟨⟨show G.Bs<τ2.next by omega,rfl⟩,ls τ2 W2'.os⟩:(G.Bs<τ2.next/\zN RD (iV (G.D:Int))=true)/\_);have h14:=(⟨⟨show z.next<z2.next by omega,rfl⟩,vZ oN2⟩:(z.next<z2.next/\zN RD (.agg ⟨stL st⟩)=true)/\_);have h15:=(⟨⟨show z.next<τ2.next by omega,rfl⟩,vZ oN2'⟩:(z.next<τ2.next/\zN RD (.agg ⟨stL st⟩)=true)/\_);have h16:=lq τ3 W3.oq;have h17:=l7' τ3 W3.w.pr;have h18:=ls τ3 W3.os;have h21:zJ τ3.next [.pointer (some ⟨z2.next,0,none⟩)]:=(zE (zP (show z2.next<τ3.next by omega)) zI);have h22:zJ τ3.next [.pointer (some ⟨G.Bq,0,none⟩)]:=(zE (zP (show G.Bq<τ3.next by omega)) zI);have h23:zJ τ3.next [.pointer (some (zM ⟨G.K.Bp,0,none⟩ 7))]:=(zE (zP (show G.K.Bp<τ3.next by omega)) zI);have h24:zJ τ3.next [.pointer (some ⟨G.Bs,0,none⟩)]:=(zE (zP (show G.Bs<τ3.next by omega)) zI);have h25:zJ τ3.next [G.K.wfv,iV (G.D:Int),.slice pl who.length lc]:=(zE (belK ok (by omega)) (zE rfl (zE (xH fun a e=>(show a.block<τ3.next by have:=(S3.bd a.block ⟨a,e,rfl⟩).2;omega)) zI)));have h26:zJ τ4.next [.pointer (some ⟨τ3.next,0,none⟩),.agg ⟨zH (pv.getD 0 0) (pv.getD 1 0) (pv.getD 2 0) (pv.getD 3 0) (pv.getD 4 0) (pv.getD 5 0)⟩]:=(zE (zP (show τ3.next<τ4.next by omega)) (zE (yJ rfl) zI));have h27:=(⟨⟨show z2.next<τ3.next by omega,rfl⟩,lv τ3 z2.next e2 oR3⟩:(z2.next<τ3.next/\zN RD (.agg ⟨zH (e2.v.getD 0 0) (e2.v.getD 1 0) (e2.v.getD 2 0) (e2.v.getD 3 0) (e2.v.getD 4 0) (e2.v.getD 5 0)⟩)=true)/\_);have h28:=h27;have h29:=(⟨⟨show z2.next<τ4.next by omega,rfl⟩,lv τ4 z2.next e2 oR4⟩:(z2.next<τ4.next/\zN RD (.agg ⟨zH (e2.v.getD 0 0) (e2.v.getD 1 0) (e2.v.getD 2 0) (e2.v.getD 3 0) (e2.v.getD 4 0) (e2.v.getD 5 0)⟩)=true)/\_);have h30:=(⟨⟨show G.Bq<τ3.next by omega,rfl⟩,lq τ3 W3.oq⟩:(G.Bq<τ3.next/\zN RD (.pointer (some ⟨G.K.Bp,0,none⟩))=true)/\_);have h31:=(⟨⟨show G.Bq<τ4.next by omega,rfl⟩,lq τ4 W4.oq⟩:(G.Bq<τ4.next/\zN RD (.pointer (some ⟨G.K.Bp,0,none⟩))=true)/\_);have h32:=(⟨⟨show G.K.Bp<τ3.next by omega,gw⟩,l7' τ3 W3.w.pr⟩:((zM ⟨G.K.Bp,0,none⟩ 7).block<τ3.next/\zN RD G.K.wfv=true)/\_);have h33:=(⟨⟨show G.K.Bp<τ4.next by omega,gw⟩,l7' τ4 W4.w.pr⟩:((zM ⟨G.K.Bp,0,none⟩ 7).block<τ4.next/\zN RD G.K.wfv=true)/\_);have h34:=(⟨⟨show G.Bs<τ3.next by omega,rfl⟩,ls τ3 W3.os⟩:(G.Bs<τ3.next/\zN RD (iV (G.D:Int))=true)/\_);have h35:=(⟨⟨show G.Bs<τ4.next by omega,rfl⟩,ls τ4 W4.os⟩:(G.Bs<τ4.next/\zN RD (iV (G.D:Int))=true)/\_);have h36:zB Pg τ5 4 ⟨z2.next,7,none⟩=some (.bool e2.can):=oR5.rw.ld agg4 rfl;have h37:zB Pg τ5 4 (zM ⟨G.Bo,0,none⟩ 7)=some (.bool e.can):=W5.oo.rw.load1 agg4 rfl;have h38:=lv τ5 G.Bo e W5.oo;have h40:zB Pg τ5 26 ⟨z2.next,6,none⟩=some (.slice e2.p e2.l e2.c):=oR5.rw.ld yS rfl;have u2:I6 ((G.D:Int)+1):=⟨by omega,by omega⟩;have b1:G.Bq<z.re.next:=by show G.Bq<z.next;omega
 have b2:G.Bs<z.re.next:=by show G.Bs<z.next;omega
 have keep:xO 6 (fun c v=>C c v\/G.give [] who st c v) o->(Only (fun b=>b=G.K.bm\/b=G.Bo) z.re τ5/\(τ5.low<z.next\/zV RD (.tuple ⟨[]⟩)=false\/((.tuple ⟨[]⟩:Value)=.tuple ⟨[]⟩/\∃ F' X' e' o',GvR G z F X e o (fun c v=>C c v\/G.give [] who st c v) z F' X' e' o'))/\((.tuple ⟨[]⟩:Value)=.tuple ⟨[]⟩/\∃ F' X' e' o',GvR G z F X e o (fun c v=>C c v\/G.give [] who st c v) τ5 F' X' e' o')):=fun hbo=>by
  refine ⟨k5, ?_,rfl,F2,X2,e,o,W5,EP5,hbo,x21,fun b hb=>?_, ?_⟩
  ·rcases lo2 with h | ⟨rfl,rfl⟩
   ·exact .inl (by omega)
   ·exact .inr (.inr ⟨rfl,F2,X2,e,o,W,ep,hbo,fun _ h=>h,fun _ h=>.inl h,.inr (.inr ⟨rfl,rfl,rfl,rfl⟩)⟩)
  ·rcases x22 b hb with h | h
   ·exact .inl h
   ·exact .inr (by omega)
  ·rcases lo2 with h | ⟨rfl,rfl⟩
   ·exact .inr (.inl (by omega))
   ·exact .inr (.inr ⟨rfl,rfl,rfl,rfl⟩)
 cases hc2:e2.can with
 | false =>
  rw [hc2] at h36;have hn:o2=none:=by
   cases o2 with
   | none=>rfl
   | some q=>have ht:=ep2.tell;simp only [hc2] at ht;exact absurd ht.1 (by decide)
  subst hn;have nx:=keep gl;subst hτ5 hτ4 hτ3 hτ2 hτ1;exact best1_rd h1 h2 h3 h4 c5 c6 h7 h8 h9 h10 h11 h12 h13 h14 h15 h16 h17 h18 c19 c20 h21 h22 h23 h24 h25 h26 h27 h28 h29 h30 h31 h32 h33 h34 h35 h36 nx (by rw [hw]) u2 b1 b2
 | true =>
 rw [hc2] at h36;obtain ⟨b,u,rfl⟩:∃ b u,o2=some (b,u):=by
  cases o2 with
  | none=>have ht:e2.can=false:=ep2.tell;rw [hc2] at ht;cases ht
  | some q=>exact ⟨q.1,q.2,rfl⟩
 have ht:e2.can=true/\e2.v=u/\yG z2 e2.p e2.l b:=ep2.tell;have hev:=ht.2.1;subst hev;have gl:xO 6 (fun c v=>C c v\/G.give [] who st c v) (pick o (who++b) pv):=by rw [hpv];exact gl
 obtain ⟨τ6,hτ6⟩:∃ τ6,τ6=τ5.row [.slice pl who.length lc,.slice e2.p e2.l e2.c] 1:=⟨_,rfl⟩;have nx6:τ6.next=τ5.next+1:=by rw [hτ6];rfl
 have N6:New τ5 τ6:=by rw [hτ6];exact New.row _ _ _
 have ib:yG τ6 e2.p e2.l b:=SlV.le (SlV.le ht.2.2 N3.le) (N5.le.trans N6.le);have lb:e2.l=b.length:=ib.len.symm;have rw6:zRL τ6 (some ⟨τ5.next,0,none⟩) 2 [who,b]:=by
  have r6:Row τ6 ⟨τ5.next,0,none⟩ [.slice pl who.length lc,.slice e2.p e2.l e2.c]:=by rw [hτ6];exact xP _ _ _
  refine ⟨[.slice pl who.length lc,.slice e2.p e2.l e2.c],⟨⟨rfl,r6⟩,rfl,fun v hv=>?_⟩,rfl,fun i r hi=>?_⟩
  ·rcases List.mem_cons.1 hv with rfl | hv
   ·exact .inl ⟨yS,rfl,rfl⟩
   ·rw [List.mem_singleton.1 hv];exact .inl ⟨yS,rfl,rfl⟩
  ·match i,hi with
   | 0,hi=>cases hi;exact ⟨pl,lc,rfl,(S5.le N6.le).slv who_ok⟩
   | 1,hi=>cases hi;exact ⟨e2.p,e2.c,by rw [<- lb];rfl,by rw [<- lb];exact ib⟩
 have hflat:[who,b].flatten=who++b:=by simp
 have hb7l:(who++b).length<=1073741824:=by
  have:=Ch_len ok.ok.dl bo2.1;rw [List.length_append];omega
 obtain ⟨p7,c7,τ7,k7,N7,I7,f7⟩:=concI_c (c:=2) rw6 (by decide) (by rw [hflat];exact hb7l);rw [hflat] at k7 I7;have W7:=(W5.le N6.le).le N7.le;have nx7:=N7.nx;obtain ⟨τ8,st8,k8,lo8,lo8',W8,EP8⟩:=W7.put (cw:=c7) ok hpl (hpb b _ rfl) I7 (fun x hx=>⟨by have:=f7 x hx;omega,I7.lt x hx⟩);have low75:τ7.low<=τ5.low:=by
  have h1:=zET k7;have h2:τ6.low=τ5.low:=by rw [hτ6];rfl
  omega
 have store:xO 6 (fun c v=>C c v\/G.give [] who st c v) (some (who++b,pv))->(Only (fun b=>b=G.K.bm\/b=G.Bo) z.re τ8/\(τ8.low<z.next\/zV RD (.tuple ⟨[]⟩)=false\/((.tuple ⟨[]⟩:Value)=.tuple ⟨[]⟩/\∃ F' X' e' o',GvR G z F X e o (fun c v=>C c v\/G.give [] who st c v) z F' X' e' o'))/\((.tuple ⟨[]⟩:Value)=.tuple ⟨[]⟩/\∃ F' X' e' o',GvR G z F X e o (fun c v=>C c v\/G.give [] who st c v) τ8 F' X' e' o')):=fun hbo=>by
  refine ⟨((k5.trans' N6.only (T:=fun _=>False) (fun b _ h=>h.elim)).trans' N7.only (T:=fun _=>False) (fun b _ h=>h.elim)).trans' k8 (fun b _ h=>.inl (.inr h)),.inl (by omega),rfl,F2,_,_,_,W8,EP8,hbo,fun b hb=>.inl (x21 b hb),fun b hb=>?_,.inl lo8⟩
  rcases hb with hb | hb
  ·rcases x22 b hb with h | h
   ·exact .inl h
   ·exact .inr (by omega)
  ·exact .inr (by have:=f7 b hb;omega)
 have m5:zJ τ5.next [.pointer (some ⟨τ3.next,0,none⟩)]:=(zE (zP (show τ3.next<τ5.next by omega)) zI);have m6:zJ τ5.next [.pointer (some ⟨z2.next,6,none⟩)]:=(zE (zP (show z2.next<τ5.next by omega)) zI);have m7:zJ τ5.next [.slice pl who.length lc,.slice e2.p e2.l e2.c]:=(zE (xH fun a e=>(show a.block<τ5.next by have:=(S5.bd a.block ⟨a,e,rfl⟩).2;omega)) (zE (xH fun a e=>(show a.block<τ5.next by have:=(w2.xb a.block (ep2.bl a.block ⟨a,e,rfl⟩)).1;omega)) zI));have m8:zJ τ6.next [.slice (some ⟨τ5.next,0,none⟩) 2 2]:=(zE (xH fun a e=>by cases e;show τ5.next<τ6.next;omega) zI);have m9:zJ τ7.next [.pointer (some ⟨G.Bo,0,none⟩),zDB ⟨pv,p7,(who++b).length,c7,true⟩]:=(zE (zP (show G.Bo<τ7.next by omega)) (zE (zLM fun a e=>I7.lt a.block ⟨a,e,rfl⟩) zI));have oM6:=oM5.le N6.le;have oM7:=oM6.le N7.le;have q5:=(⟨⟨show τ3.next<τ5.next by omega,rfl⟩,oM5.rw.ldN zCS xX (k:=0) rfl rfl (nle rfl)⟩:(τ3.next<τ5.next/\zN RD (.agg ⟨zH (pv.getD 0 0) (pv.getD 1 0) (pv.getD 2 0) (pv.getD 3 0) (pv.getD 4 0) (pv.getD 5 0)⟩)=true)/\zB Pg τ5 98 ⟨τ3.next,0,none⟩=some (.agg ⟨zH (pv.getD 0 0) (pv.getD 1 0) (pv.getD 2 0) (pv.getD 3 0) (pv.getD 4 0) (pv.getD 5 0)⟩));have q6:=(⟨⟨show τ3.next<τ6.next by omega,rfl⟩,oM6.rw.ldN zCS xX (k:=0) rfl rfl (nle rfl)⟩:(τ3.next<τ6.next/\zN RD (.agg ⟨zH (pv.getD 0 0) (pv.getD 1 0) (pv.getD 2 0) (pv.getD 3 0) (pv.getD 4 0) (pv.getD 5 0)⟩)=true)/\zB Pg τ6 98 ⟨τ3.next,0,none⟩=some (.agg ⟨zH (pv.getD 0 0) (pv.getD 1 0) (pv.getD 2 0) (pv.getD 3 0) (pv.getD 4 0) (pv.getD 5 0)⟩));have q7:=(⟨⟨show τ3.next<τ7.next by omega,rfl⟩,oM7.rw.ldN zCS xX (k:=0) rfl rfl (nle rfl)⟩:(τ3.next<τ7.next/\zN RD (.agg ⟨zH (pv.getD 0 0) (pv.getD 1 0) (pv.getD 2 0) (pv.getD 3 0) (pv.getD 4 0) (pv.getD 5 0)⟩)=true)/\zB Pg τ7 98 ⟨τ3.next,0,none⟩=some (.agg ⟨zH (pv.getD 0 0) (pv.getD 1 0) (pv.getD 2 0) (pv.getD 3 0) (pv.getD 4 0) (pv.getD 5 0)⟩));cases hc:e.can with
 | false =>
  rw [hc] at h37;have hn:o=none:=by
   cases o with
   | none=>rfl
   | some q=>have ht:=ep.tell;simp only [hc] at ht;exact absurd ht.1 (by decide)
  subst hn;have nx:=store gl;subst hτ6 hτ5 hτ4 hτ3 hτ2 hτ1;exact best1_rc h1 h2 h3 h4 c5 c6 h7 h8 h9 h10 h11 h12 h13 h14 h15 h16 h17 h18 c19 c20 h21 h22 h23 h24 h25 h26 h27 h28 h29 h30 h31 h32 h33 h34 h35 h36 h37 h40 k7 st8 m5 m6 m7 m8 m9 q5 q6 q7 nx (by rw [hw]) u2 b1 b2
 | true =>
  rw [hc] at h37;obtain ⟨b',u',rfl⟩:∃ b u,o=some (b,u):=by
   cases o with
   | none=>have ht:e.can=false:=ep.tell;rw [hc] at ht;cases ht
   | some q=>exact ⟨q.1,q.2,rfl⟩
  have ht':e.can=true/\e.v=u'/\yG z e.p e.l b':=ep.tell;have hev:=ht'.2.1;subst hev;have c39:=more_c (Z:=τ5) hpl ep.len;rw [uZ,uZ] at c39;rw [pick_some] at gl;cases hm:wS pv e.v with
  | false =>
   rw [hm] at gl c39;have nx:=keep gl;subst hτ5 hτ4 hτ3 hτ2 hτ1;exact best1_rb h1 h2 h3 h4 c5 c6 h7 h8 h9 h10 h11 h12 h13 h14 h15 h16 h17 h18 c19 c20 h21 h22 h23 h24 h25 h26 h27 h28 h29 h30 h31 h32 h33 h34 h35 h36 h37 h38 c39 nx (by rw [hw]) u2 b1 b2
  | true =>
   rw [hm] at gl c39;have nx:=store gl;subst hτ6 hτ5 hτ4 hτ3 hτ2 hτ1;exact best1_ra h1 h2 h3 h4 c5 c6 h7 h8 h9 h10 h11 h12 h13 h14 h15 h16 h17 h18 c19 c20 h21 h22 h23 h24 h25 h26 h27 h28 h29 h30 h31 h32 h33 h34 h35 h36 h37 h38 c39 h40 k7 st8 m5 m6 m7 m8 m9 q5 q6 q7 nx (by rw [hw]) u2 b1 b2
end
end Go.Proofs.YtgfiniccfpfplaaGreat
