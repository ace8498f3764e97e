
import Derived.Test.YtgfiniccfpfplaaGreatSM
import Derived.Test.YtgfiniccfpfplaaGreatXO
namespace Go.Proofs.YtgfiniccfpfplaaGreat
open Go Go.Lay
open Tryz renaming prog -> Pg
set_option linter.unusedVariables false
set_option linter.unusedSimpArgs false
set_option maxRecDepth 20000
section
variable {K:PlK} {z:St} {F:Key->Option EndR} {X:Nat->Prop}
def zHJ (K:PlK) (r D:Nat) (st:Nat->Std) (z:St) (F:Key->Option EndR) (X:Nat->Prop) (v:Value) (s:St):Prop:=∃ e o F' X',v=zDB e/\PlW K s F' X'/\EndP s X' e o/\xO 6 (K.ch r D st) o/\(∀ b,X b->X' b)/\(∀ b,X' b->X b\/z.next<=b)/\(s.low<=K.bm\/(F'=F/\X'=X))
theorem zHJ.low {r D:Nat} {st:Nat->Std} {v:Value} {s:St} {m:Nat} (hm:m<=s.low) (h:zHJ K r D st z F X v s):zHJ K r D st z F X v ⟨s.heap,s.next,m⟩:=by
 obtain ⟨e,o,F',X',h1,h2,h3,h4,h5,h6,h7⟩:=h;have k:Le s ⟨s.heap,s.next,m⟩:=⟨Nat.le_refl _,fun _ _=>rfl⟩;refine ⟨e,o,F',X',h1,h2.le k,h3.le k,h4,h5,h6, ?_⟩
 rcases h7 with h | h
 ·exact .inl (Nat.le_trans hm h)
 ·exact .inr h
theorem yZL {b n:Nat} (h:b<n):yU RD n (.map (some b))=true:=by
 show Nat.blt b n=true;exact (xW _ _).2 h
theorem yZK (r:Nat) (h:∀ (z:St) (F:Key->Option EndR) (X:Nat->Prop) (D:Nat) (st:Nat->Std),D+r=K.n->PlW K z F X->(∀ k,k<K.m->StG (st k))->zO Pg 84 [.pointer (some ⟨K.Bp,0,none⟩),.agg ⟨iV (D:Int)::stL st⟩] z.re fun v s=>Only (·=K.bm) z.re s/\(s.low<z.next\/zV RD v=false\/zHJ K r D st z F X v z)/\zHJ K r D st z F X v s):zRO K r:=by
 intro z F X D st hr W hst;obtain ⟨v,s,h1,h2,e,o,F',X',rfl,h3⟩:=mut6 (h z F X D st hr W hst) (fun v s m hm q=>q.low hm);exact ⟨s,e,o,F',X',h1,h2,h3⟩
theorem best_zero (ok:K.Ok):zRO K 0:=by
 refine yZK 0 fun z F X D st hr W hst=>?_
 have zr:z.re.next=z.next:=rfl;obtain ⟨τ1,hτ1⟩:∃ τ1,τ1=((z.re.row [.pointer (some ⟨K.Bp,0,none⟩)] 1).row (iV (D:Int)::stL st) (iV (D:Int)::stL st:List Value).length).row [iV 0,iV 0,iV 0,iV 0,iV 0,iV 0,.slice none 0 0,.bool false] 8:=⟨_,rfl⟩;have N1:New z.re τ1:=by rw [hτ1];exact ((New.row _ _ _).row').row'
 have o1:Own τ1 (z.next+1) (iV (D:Int)::stL st) (iV (D:Int)::stL st:List Value).length:=by rw [hτ1];exact (zC _ _ _).row
 have h1:zB Pg τ1 3 ⟨z.re.next+1,0,none⟩=some (iV (D:Int)):=o1.ld (k:=0) rfl zS rfl;have h2:zB Pg τ1 3 ⟨K.Bp,0,none⟩=some (iV K.w.days):=(W.pr.le ((le0 z).trans N1.le)).ld zS rfl;obtain ⟨τ2,hτ2⟩:∃ τ2,τ2=τ1.own (z.re.next+2) (zFB ⟨zCQ,none,0,0,true⟩) 8:=⟨_,rfl⟩;have N2:New z.re τ2:=by rw [hτ2];exact N1.own (by omega)
 have L2:Le z τ2:=(le0 z).trans N2.le;have eo:∀ s,EndP s X ⟨zCQ,none,0,0,true⟩ (some ([],zCQ)):=fun s=>⟨rfl,(fun x hx=>by simp [zCQ] at hx;omega),(fun b hb=>by obtain ⟨a,e,_⟩:=hb;cases e),rfl,rfl,⟨SlP.nil _ _,rfl,fun v hv=>by cases hv⟩⟩
 have hb:xO 6 (K.ch 0 D st) (some ([],zCQ)):=⟨⟨rfl,rfl⟩,rfl,fun b u hc=>by rw [hc.2];exact zIE _⟩;have key:∀ s,Le z s->zHJ K 0 D st z F X (zDB ⟨zCQ,none,0,0,true⟩) s:=fun s hs=>⟨_,_,F,X,rfl,W.le hs,eo s,hb,fun _ h=>h,fun _ h=>.inl h,.inr ⟨rfl,rfl⟩⟩
 have nx:Only (·=K.bm) z.re τ2/\(τ2.low<z.next\/zV RD (zDB ⟨zCQ,none,0,0,true⟩)=false\/zHJ K 0 D st z F X (zDB ⟨zCQ,none,0,0,true⟩) z)/\zHJ K 0 D st z F X (zDB ⟨zCQ,none,0,0,true⟩) τ2:=⟨N2.only,.inr (.inr (key z (Le.refl _))),key τ2 L2⟩;have u1:(D:Int)=K.w.days:=by have:=ok.dn;omega
 subst hτ2 hτ1;exact best_ra h1 h2 nx u1
theorem best_succ (ok:K.Ok) {r:Nat} (ih:zRO K r):zRO K (r+1):=by
 refine yZK (r+1) fun z F X D st hr W hst=>?_
 have zr:z.re.next=z.next:=rfl;have hbp:=W.pr.lt;have hbp:K.Bp<z.next:=hbp;have hbm:K.bm<z.next:=W.mp.1;have hln:=ok.wk.len;have hn7:=ok.n7;obtain ⟨τ1,hτ1⟩:∃ τ1,τ1=z.re.row [.pointer (some ⟨K.Bp,0,none⟩)] 1:=⟨_,rfl⟩;have n1:τ1.next=z.next+1:=by rw [hτ1];rfl
 have M1:New z.re τ1:=by rw [hτ1];exact New.row _ _ _
 have q1:Own τ1 z.next [.pointer (some ⟨K.Bp,0,none⟩)] 1:=by rw [hτ1];exact zC z.re _ _
 obtain ⟨τ2,hτ2⟩:∃ τ2,τ2=τ1.row (iV (D:Int)::stL st) (iV (D:Int)::stL st:List Value).length:=⟨_,rfl⟩;have n2:τ2.next=z.next+2:=by rw [hτ2];show τ1.next+1=_;omega
 have M2:New z.re τ2:=by rw [hτ2];exact M1.row'
 have o2:Own τ2 (z.next+1) (iV (D:Int)::stL st) (iV (D:Int)::stL st:List Value).length:=by rw [hτ2,<- n1];exact zC _ _ _
 have q2:Own τ2 z.next [.pointer (some ⟨K.Bp,0,none⟩)] 1:=by rw [hτ2];exact q1.row
 obtain ⟨τ3,hτ3⟩:∃ τ3,τ3=τ2.row [iV 0,iV 0,iV 0,iV 0,iV 0,iV 0,.slice none 0 0,.bool false] 8:=⟨_,rfl⟩;have n3:τ3.next=z.next+3:=by rw [hτ3];show τ2.next+1=_;omega
 have M3:New z.re τ3:=by rw [hτ3];exact M2.row'
 have r3:Own τ3 (z.next+2) [iV 0,iV 0,iV 0,iV 0,iV 0,iV 0,.slice none 0 0,.bool false] 8:=by rw [hτ3,<- n2];exact zC _ _ _
 have o3:Own τ3 (z.next+1) (iV (D:Int)::stL st) (iV (D:Int)::stL st:List Value).length:=by rw [hτ3];exact o2.row
 have q3:Own τ3 z.next [.pointer (some ⟨K.Bp,0,none⟩)] 1:=by rw [hτ3];exact q2.row
 obtain ⟨τ4,hτ4⟩:∃ τ4,τ4=τ3.row [iV 0,iV 0,iV 0,iV 0,iV 0,iV 0,.slice none 0 0,.bool false] 8:=⟨_,rfl⟩;have n4:τ4.next=z.next+4:=by rw [hτ4];show τ3.next+1=_;omega
 have M4:New z.re τ4:=by rw [hτ4];exact M3.row'
 have l4:Own τ4 (z.next+3) [iV 0,iV 0,iV 0,iV 0,iV 0,iV 0,.slice none 0 0,.bool false] 8:=by rw [hτ4,<- n3];exact zC _ _ _
 have o4:Own τ4 (z.next+1) (iV (D:Int)::stL st) (iV (D:Int)::stL st:List Value).length:=by rw [hτ4];exact o3.row
 have q4:Own τ4 z.next [.pointer (some ⟨K.Bp,0,none⟩)] 1:=by rw [hτ4];exact q3.row
 have L:∀ {s},New z.re s->Le z s:=fun h=>(le0 z).trans h.le
 have ldD:∀ s,Own s (z.next+1) (iV (D:Int)::stL st) (iV (D:Int)::stL st:List Value).length->zB Pg s 3 ⟨z.next+1,0,none⟩=some (iV (D:Int)):=fun s o=>o.ld (k:=0) rfl zS rfl
 have lds:∀ s,Own s (z.next+1) (iV (D:Int)::stL st) (iV (D:Int)::stL st:List Value).length->zB Pg s 133 ⟨z.next+1,0,none⟩=some (.agg ⟨iV (D:Int)::stL st⟩):=fun s o=>o.rw.ldN agg133 size133 (k:=0) rfl rfl (nle rfl)
 have ldn:∀ s,Row s ⟨K.Bp,0,none⟩ K.row->zB Pg s 3 ⟨K.Bp,0,none⟩=some (iV K.w.days):=fun s o=>o.ld zS rfl
 have ldm:∀ s,Row s ⟨K.Bp,0,none⟩ K.row->zB Pg s 126 (zM ⟨K.Bp,0,none⟩ 8)=some (.map (some K.bm)):=fun s o=>o.load1 agg126 rfl
 have ldq:∀ s,Own s z.next [.pointer (some ⟨K.Bp,0,none⟩)] 1->zB Pg s 125 ⟨z.next,0,none⟩=some (.pointer (some ⟨K.Bp,0,none⟩)):=fun s o=>o.ld (k:=0) rfl uG rfl
 have h1:=ldD τ3 o3;have h2:=ldn τ3 (W.pr.le (L M3));have h3:=ldm τ3 (W.pr.le (L M3));have h4:=lds τ3 o3;have h6:zJ τ3.next [.map (some K.bm),.agg ⟨iV (D:Int)::stL st⟩]:=(zE (yZL (by omega)) (zE (yJ rfl) zI));have h6':zJ τ4.next [.map (some K.bm),.agg ⟨iV (D:Int)::stL st⟩]:=(zE (yZL (by omega)) (zE (yJ rfl) zI));have h8:=ldq τ4 q4;have h9:=ldm τ4 (W.pr.le (L M4));have h10:=lds τ4 o4;have u1:¬ (D:Int)=K.w.days:=by have:=ok.dn;omega
 have bp:K.Bp<z.re.next:=hbp;have mp3:=W.mp.le (L M3);have mp4:=W.mp.le (L M4);have zt:uQ Pg 130=some (.agg ⟨[iV 0,iV 0,iV 0,iV 0,iV 0,iV 0,.slice none 0 0,.bool false]⟩):=by kernel_rfl
 cases hF:F (zKW (D:Int) st) with
 | some e =>
  obtain ⟨o,eo,bo⟩:=W.kn D st e hF (r+1) hr;have h5:=mp3.look1 zEM mapE zt hF;have h5':=mp4.look1 zEM mapE zt hF;rw [yHT] at h5 h5';have h7:zJ τ4.next [.pointer (some ⟨z.next+3,0,none⟩),zDB e]:=(zE (zP (show z.next+3<τ4.next by omega)) (zE (zLM fun a h=>(show a.block<τ4.next by have:=(W.xb a.block (eo.bl a.block ⟨a,h,rfl⟩)).1;omega)) zI));have h11:((zJ τ3.next [.map (some K.bm),.agg ⟨iV (D:Int)::stL st⟩]/\zN RD (.tuple ⟨[zDB e,.bool true]⟩)=true)/\_):=⟨⟨h6,rfl⟩,h5⟩;have h12:((zJ τ4.next [.map (some K.bm),.agg ⟨iV (D:Int)::stL st⟩]/\zN RD (.tuple ⟨[zDB e,.bool true]⟩)=true)/\_):=⟨⟨h6',rfl⟩,h5'⟩;obtain ⟨τ5,hτ5⟩:∃ τ5,τ5=(τ4.own (z.re.next+3) (zFB e) 8).own (z.re.next+2) (zFB e) 8:=⟨_,rfl⟩;have M5:New z.re τ5:=by rw [hτ5];exact (M4.own (by omega)).own (by omega)
  have key:∀ s,Le z s->zHJ K (r+1) D st z F X (zDB e) s:=fun s hs=>⟨e,o,F,X,rfl,W.le hs,eo.le hs,bo,fun _ h=>h,fun _ h=>.inl h,.inr ⟨rfl,rfl⟩⟩
  have nx:Only (·=K.bm) z.re τ5/\(τ5.low<z.next\/zV RD (zDB e)=false\/zHJ K (r+1) D st z F X (zDB e) z)/\zHJ K (r+1) D st z F X (zDB e) τ5:=⟨M5.only,.inr (.inr (key z (Le.refl _))),key τ5 (L M5)⟩;subst hτ5 hτ4 hτ3 hτ2 hτ1;exact best_rb h1 h2 h3 h4 h5 h6 h7 h8 h9 h10 h11 h12 nx u1 bp
 | none =>
  have h5:=mp3.look0 zEM mapE zt hF;have h5':=mp4.look0 zEM mapE zt hF;rw [yHT] at h5 h5';have h7:zJ τ4.next [.pointer (some ⟨z.next+3,0,none⟩),.agg ⟨[iV 0,iV 0,iV 0,iV 0,iV 0,iV 0,.slice none 0 0,.bool false]⟩]:=(zE (zP (show z.next+3<τ4.next by omega)) (zE (yJ rfl) zI));have h11:((zJ τ3.next [.map (some K.bm),.agg ⟨iV (D:Int)::stL st⟩]/\zN RD (.tuple ⟨[.agg ⟨[iV 0,iV 0,iV 0,iV 0,iV 0,iV 0,.slice none 0 0,.bool false]⟩,.bool false]⟩)=true)/\_):=⟨⟨h6,rfl⟩,h5⟩;have h12:((zJ τ4.next [.map (some K.bm),.agg ⟨iV (D:Int)::stL st⟩]/\zN RD (.tuple ⟨[.agg ⟨[iV 0,iV 0,iV 0,iV 0,iV 0,iV 0,.slice none 0 0,.bool false]⟩,.bool false]⟩)=true)/\_):=⟨⟨h6',rfl⟩,h5'⟩;obtain ⟨τ5,hτ5⟩:∃ τ5,τ5=τ4.own (z.re.next+3) [iV 0,iV 0,iV 0,iV 0,iV 0,iV 0,.slice none 0 0,.bool false] 8:=⟨_,rfl⟩;have n5:τ5.next=z.next+4:=by rw [hτ5];exact n4
  have M5:New z.re τ5:=by rw [hτ5];exact M4.own (by omega)
  have k5:Only (·=z.next+3) τ4 τ5:=by rw [hτ5];exact Only.own (.inr rfl)
  have q5:=k5.own' q4 (show ¬ z.next=z.next+3 by omega);have o5:=k5.own' o4 (show ¬ z.next+1=z.next+3 by omega);have r5:=k5.own' (show Own τ4 (z.next+2) [iV 0,iV 0,iV 0,iV 0,iV 0,iV 0,.slice none 0 0,.bool false] 8 by rw [hτ4];exact r3.row) (show ¬ z.next+2=z.next+3 by omega);have ldw:∀ s,Row s ⟨K.Bp,0,none⟩ K.row->zB Pg s 34 ⟨K.Bp,0,none⟩=some (.agg ⟨[iV K.w.days,.slice K.p K.l K.c,.slice K.q K.m K.d,iV K.w.rest,iV K.w.run,iV K.w.hours]⟩):=fun s o=>o.ldN xM yT (k:=0) rfl rfl (nle rfl)
  have W5:=W.le (L M5);have h13:=ldw τ5 W5.pr;have h14:=ldD τ5 o5;obtain ⟨p6,c6,τ6,c15,M6,I6',f6⟩:=yOG (Z:=τ5) (D:=D) (c:=K.c) (d:=K.d) (ok.wk.le W5.fl) (by have:=ok.sn.l12;omega);have n6:=M6.nx;have wk5:=ok.wk.le W5.fl;have pab:∀ a,K.p=some a->a.block<τ5.next:=vE wk5.dty;have qab:∀ a,K.q=some a->a.block<τ5.next:=by obtain ⟨vs,g,_⟩:=wk5.drv;exact vE g
  have h16:zJ τ5.next [.agg ⟨[iV K.w.days,.slice K.p K.l K.c,.slice K.q K.m K.d,iV K.w.rest,iV K.w.run,iV K.w.hours]⟩,iV (D:Int)]:=(zE (zSX pab qab) (zE rfl zI));obtain ⟨τ7,hτ7⟩:∃ τ7,τ7=τ6.row [.slice none 0 0] 1:=⟨_,rfl⟩;have n7:τ7.next=τ6.next+1:=by rw [hτ7];rfl
  have M7:New τ6 τ7:=by rw [hτ7];exact New.row _ _ _
  have h17:zJ τ7.next [.pointer (some ⟨τ6.next,0,none⟩),.slice p6 (yC K.w D K.l).length c6]:=(zE (zP (show τ6.next<τ7.next by omega)) (zE (xH fun a h=>(show a.block<τ7.next by have:=I6'.lt a.block ⟨a,h,rfl⟩;omega)) zI));have q6:=q5.le M6.le;have q7:=q6.le M7.le;have o6:=o5.le M6.le;have o7:=o6.le M7.le;have W6:=W5.le M6.le;have W7:=W6.le M7.le;have h18:=(⟨⟨show z.next<τ6.next by omega,rfl⟩,ldq τ6 q6⟩:(z.next<τ6.next/\zN RD (.pointer (some ⟨K.Bp,0,none⟩))=true)/\_);have h19:=(⟨⟨show z.next<τ7.next by omega,rfl⟩,ldq τ7 q7⟩:(z.next<τ7.next/\zN RD (.pointer (some ⟨K.Bp,0,none⟩))=true)/\_);have h20:=(⟨⟨show K.Bp<τ6.next by omega,rfl⟩,ldw τ6 W6.pr⟩:(K.Bp<τ6.next/\zN RD (.agg ⟨[iV K.w.days,.slice K.p K.l K.c,.slice K.q K.m K.d,iV K.w.rest,iV K.w.run,iV K.w.hours]⟩)=true)/\_);have h21:=(⟨⟨show K.Bp<τ7.next by omega,rfl⟩,ldw τ7 W7.pr⟩:(K.Bp<τ7.next/\zN RD (.agg ⟨[iV K.w.days,.slice K.p K.l K.c,.slice K.q K.m K.d,iV K.w.rest,iV K.w.run,iV K.w.hours]⟩)=true)/\_);have h22:=(⟨⟨show z.next+1<τ6.next by omega,rfl⟩,ldD τ6 o6⟩:(z.next+1<τ6.next/\zN RD (iV (D:Int))=true)/\_);have h23:=(⟨⟨show z.next+1<τ7.next by omega,rfl⟩,ldD τ7 o7⟩:(z.next+1<τ7.next/\zN RD (iV (D:Int))=true)/\_);let G:GvK:=⟨K,D,r,st,p6,c6,τ6.next,z.next,z.next+1,τ6.next+2,τ6.next+3,τ6.next+1,τ6.next+4⟩;obtain ⟨τ8,hτ8⟩:∃ τ8,τ8=τ7.own τ6.next [.slice p6 (yC K.w D K.l).length c6] 1:=⟨_,rfl⟩;have n8:τ8.next=τ6.next+1:=by rw [hτ8];exact n7
  have M8:New τ6 τ8:=by rw [hτ8];exact M7.own (Nat.le_refl _)
  have u8:Own τ8 τ6.next [.slice p6 (yC K.w D K.l).length c6] 1:=by rw [hτ8,hτ7];exact (zC _ _ _).put
  have h24:=ldq τ8 (q6.le M8.le);obtain ⟨τ9,hτ9⟩:∃ τ9,τ9=(τ8.row [.nilFunc] 1).own (τ6.next+1) [.func (.func 99) ⟨[.pointer (some ⟨K.Bp,0,none⟩)]⟩ ⟨[]⟩] 1:=⟨_,rfl⟩;have n9:τ9.next=τ6.next+2:=by rw [hτ9];show τ8.next+1=_;omega
  have M9:New τ6 τ9:=by rw [hτ9];exact M8.row'.own (by omega)
  have y9:Own τ9 (τ6.next+1) [.func (.func 99) ⟨[.pointer (some ⟨K.Bp,0,none⟩)]⟩ ⟨[]⟩] 1:=by rw [hτ9,<- n8];exact (zC _ _ _).put
  have u9:Own τ9 τ6.next [.slice p6 (yC K.w D K.l).length c6] 1:=by rw [hτ9];exact u8.row.own (by omega)
  obtain ⟨τa,hτa⟩:∃ τa,τa=(τ9.row [iV 0,iV 0,iV 0,iV 0,iV 0,iV 0,.slice none 0 0,.bool false] 8).row [.nilFunc] 1:=⟨_,rfl⟩;have na:τa.next=τ6.next+4:=by rw [hτa];show τ9.next+1+1=_;omega
  have Ma:New τ6 τa:=by rw [hτa];exact M9.row'.row'
  obtain ⟨τb,hτb⟩:∃ τb,τb=τa.own (τ6.next+3) [.func (.func 100) ⟨[]⟩ ⟨G.args⟩] 1:=⟨_,rfl⟩;have nb:τb.next=τ6.next+4:=by rw [hτb];exact na
  have Mb:New τ6 τb:=by rw [hτb];exact Ma.own (by omega)
  have gb:Own τb (τ6.next+3) [.func (.func 100) ⟨[]⟩ ⟨G.args⟩] 1:=by
   rw [hτb,hτa,show τ6.next+3=(τ9.row [iV 0,iV 0,iV 0,iV 0,iV 0,iV 0,.slice none 0 0,.bool false] 8).next by show _=τ9.next+1;omega];exact (zC _ _ _).put
  have eb:Own τb (τ6.next+2) [iV 0,iV 0,iV 0,iV 0,iV 0,iV 0,.slice none 0 0,.bool false] 8:=by
   rw [hτb,hτa];refine Own.own ?_ (by omega);rw [<- n9];exact (zC _ _ _).row
  have yb:Own τb (τ6.next+1) [.func (.func 99) ⟨[.pointer (some ⟨K.Bp,0,none⟩)]⟩ ⟨[]⟩] 1:=by rw [hτb,hτa];exact y9.row.row.own (by omega)
  have ub:Own τb τ6.next [.slice p6 (yC K.w D K.l).length c6] 1:=by rw [hτb,hτa];exact u9.row.row.own (by omega)
  have ob:=o6.le Mb.le;have qb:=q6.le Mb.le;have Wb:=W6.le Mb.le;have Ib:yG τb p6 (yC K.w D K.l).length (zPI (yC K.w D K.l)):=SlV.le I6' Mb.le;have okG:G.Ok:=⟨ok,by show D+(r+1)=K.n;exact hr,by show K.Zf.next<=τ6.next+2;have:=W.fl.next;omega,by show K.Zf.next<=τ6.next+4;have:=W.fl.next;omega,⟨by show τ6.next<τ6.next+4;omega,by show z.next<τ6.next+4;omega,by show z.next+1<τ6.next+4;omega,by show τ6.next+2<τ6.next+4;omega,by show τ6.next+3<τ6.next+4;omega,by show τ6.next+1<τ6.next+4;omega,by show K.Bp<τ6.next+4;omega,by show K.bm<τ6.next+4;omega⟩,⟨by show τ6.next+2≠τ6.next;omega,by show τ6.next+2≠z.next;omega,by show τ6.next+2≠z.next+1;omega,by show τ6.next+2≠τ6.next+3;omega,by show τ6.next+2≠τ6.next+1;omega,by show τ6.next+2≠K.Bp;omega,by show τ6.next+2≠K.bm;omega⟩,⟨by show K.bm≠τ6.next;omega,by show K.bm≠z.next;omega,by show K.bm≠z.next+1;omega,by show K.bm≠τ6.next+3;omega,by show K.bm≠τ6.next+1;omega⟩⟩;have hx6:∀ b,AtP p6 b->τ5.next<=b/\b<τ6.next:=fun b hb=>⟨f6 b hb,I6'.lt b hb⟩
  have Wg:PlW K τb F (fun b=>X b\/AtP p6 b):=Wb.mono (fun b h=>.inl h) (fun b h=>by
   rcases h with h | h
   ·exact Wb.xb b h
   ·have:=hx6 b h;exact ⟨by omega,by omega⟩)
  have GW:GvW G τb F (fun b=>X b\/AtP p6 b) ⟨zCQ,none,0,0,false⟩:=⟨Wg,ub.rw,Ib,fun b h=>.inr h,qb.rw,ob.rw,gb.rw,yb.rw,eb,fun b h=>by
   show b≠τ6.next+2;rcases h with h | h
   ·have:=(W.xb b h).1;omega
   ·have:=hx6 b h;omega,by show τ6.next+4<=τb.next;omega⟩
  have e0:EndP τb (fun b=>X b\/AtP p6 b) ⟨zCQ,none,0,0,false⟩ none:=⟨rfl,(fun x hx=>by simp [zCQ] at hx;omega),(fun b hb=>by obtain ⟨a,e,_⟩:=hb;cases e),rfl⟩;obtain ⟨τc,c26,kc,F',X',e',o',R,_⟩:=give_c okG ih G.du (who:=[]) (pl:=none) (lc:=0) (sf:=[]) (st:=st) (C:=fun _ _=>False) (o:=none) GW e0 (fun _ _ h=>h) (fun _ _ h=>h.elim) Stk.nil (fun b hb=>by obtain ⟨a,e,_⟩:=hb;cases e) ⟨[],rfl,rfl⟩ hst;have nc:=kc.next;have noS:∀ b,b≠K.bm->b≠τ6.next+2->¬ zOW G none b:=fun b h1 h2 h=>by
   rcases h with h | h | ⟨a,h,_⟩
   ·exact h1 h
   ·exact h2 h
   ·cases h
  have bo':xO 6 (K.ch (r+1) D st) o':=R.bo.iff fun a v=>by
   show (False\/zSZ K.w K.leaves K.wf r D (yC K.w D K.l) [] st a v)↔Ch K.w K.leaves K.wf (r+1) D st a v;rw [Ch_give,hln.1];simp
  have qc:Own τc z.next [.pointer (some ⟨K.Bp,0,none⟩)] 1:=kc.own' qb (noS _ (by omega) (by omega));have oc:=kc.own' ob (noS _ (by omega) (by omega));have rc':=kc.own' ((r5.le M6.le).le Mb.le) (noS _ (by omega) (by omega));have h25:zB Pg τb 109 ⟨z.next+1,1,none⟩=some (.agg ⟨stL st⟩):=ob.rw.ldN agg109 yGI (k:=1) (ds:=stL st) rfl rfl (by simp [stL]);have h27:=ldq τc qc;have h28:=ldm τc R.w.w.pr;have h29:=lds τc oc;have lde:∀ s b,Own s b (zFB e') 8->zB Pg s 130 ⟨b,0,none⟩=some (zDB e'):=fun s b o=>o.rw.ldN yJD vR (k:=0) rfl rfl (nle rfl)
  have h30:=lde τc (τ6.next+2) R.w.oo;obtain ⟨τd,h31,kd,lod,lod',Wd⟩:=R.w.w.set ok hr R.ep bo';have nd:=kd.next;have ed:Own τd (τ6.next+2) (zFB e') 8:=kd.own' R.w.oo (show ¬ τ6.next+2=K.bm by omega);have h32:=lde τd (τ6.next+2) ed;have rd:=kd.own' rc' (show ¬ z.next+2=K.bm by omega);have h33:=rd.store (P:=Pg) (k:=0) (t:=130) (v:=zDB e') (vs:=zFB e') (ds:=zFB e') rfl vR rfl (nle rfl) rfl;obtain ⟨τe,hτe⟩:∃ τe,τe=τd.own (z.next+2) (zFB e') 8:=⟨_,rfl⟩;have re:Own τe (z.next+2) (zFB e') 8:=by rw [hτe];exact rd.put
  have ke:Only (·=z.next+2) τd τe:=by rw [hτe];exact Only.own (.inr rfl)
  have loe:τe.low<=τd.low:=by rw [hτe];simp [St.own];omega
  rw [<- hτe] at h33;have h34:=lde τe (z.next+2) re;have hxd:∀ b,X' b->b≠z.next+2:=fun b hb h=>by
   rcases R.x2 b hb with g | g
   ·rcases g with g | g
    ·have:=(W.xb b g).1;omega
    ·have:=hx6 b g;omega
   ·omega
  have We:=Wd.only ke (fun b h=>by have:=W.fl.next;omega) (show ¬ K.Bp=z.next+2 by omega) (show ¬ K.bm=z.next+2 by omega) hxd;have Ee:EndP τe X' e' o':=(R.ep.only kd (fun b hb=>(R.w.w.xb b hb).2)).only ke hxd;have kAll:Only (·=K.bm) z.re τe:=((((M5.only.trans' M6.only (T:=fun _=>False) (fun b _ h=>h.elim)).trans' Mb.only (T:=fun _=>False) (fun b _ h=>h.elim)).trans' kc (fun b _ h=>by
   rcases h with h | h | ⟨a,h,_⟩
   ·exact .inl h
   ·exact .inr (by have h:b=τ6.next+2:=h;omega)
   ·cases h)).trans' kd (fun b _ h=>.inl h)).trans' ke (fun b _ h=>.inr (by omega))
  have nx:Only (·=K.bm) z.re τe/\(τe.low<z.next\/zV RD (zDB e')=false\/zHJ K (r+1) D st z F X (zDB e') z)/\zHJ K (r+1) D st z F X (zDB e') τe:=⟨kAll,.inl (by omega),e',o',_,X',rfl,We,Ee,bo',fun b hb=>R.x1 b (.inl hb),fun b hb=>by
   rcases R.x2 b hb with (g | g) | g
   ·exact .inl g
   ·exact .inr (by have:=hx6 b g;omega)
   ·exact .inr (by omega),.inl (by omega)⟩
  subst hτb hτa hτ9 hτ8 hτ7 hτ5 hτ4 hτ3 hτ2 hτ1;exact best_rc h1 h2 h3 h4 h5 h6 h7 h8 h9 h10 h11 h12 h13 h14 c15 h16 h17 h18 h19 h20 h21 h22 h23 h24 h25 c26 h27 h28 h29 h30 h31 h32 h33 h34 nx u1 bp
theorem best_c (ok:K.Ok):∀ r,zRO K r
 | 0=>best_zero ok
 | r+1=>best_succ ok (best_c ok r)
end
end Go.Proofs.YtgfiniccfpfplaaGreat
