
import Derived.Test.YtgfiniccfpfplaaGreatSO
namespace Go.Proofs.YtgfiniccfpfplaaGreat
open Go Go.Lay
open Tryz renaming prog -> Pg
set_option linter.unusedVariables false
set_option linter.unusedSimpArgs false
set_option maxRecDepth 20000
theorem appT_dtys:AppT Pg 31 31 85 5:=zRI (by kernel_rfl)
theorem appT_drvs:AppT Pg 32 32 88 6:=zRI (by kernel_rfl)
theorem elOk_dty (x:Dty):zIS Pg 85 5 (zBT x):=.inr ⟨zOU,vX,_,rfl,rfl⟩
theorem elOk_drv (p q r:Option Addr) (l c m d n e:Nat) (x y z:Int):zIS Pg 88 6 (.agg ⟨zL p l c q m d r n e x y z⟩):=.inr ⟨yFP,zFZ,_,rfl,rfl⟩
section
variable {Z:St} {w:Wk} {p q r t:Option Addr} {l m c d rl rc tl tc:Nat} {rs ts:List Int}
def yAS (τ:St) (S:Nat->Prop) (v:Value) (x:Drv):Prop:=∃ p l c q m d r n e,v=.agg ⟨zL p l c q m d r n e x.off x.row x.used⟩/\yG τ p l x.knows/\yG τ q m x.leave/\yG τ r n x.wish/\∀ b,AtP p b\/AtP q b\/AtP r b->¬ S b
theorem yAS.v {τ:St} {S:Nat->Prop} {v:Value} {x:Drv} (h:yAS τ S v x):zVG τ v x:=by
 obtain ⟨p,l,c,q,m,d,r,n,e,h1,h2,h3,h4,_⟩:=h;exact ⟨p,l,c,q,m,d,r,n,e,h1,h2,h3,h4⟩
theorem yAS.only {τ τ':St} {S T:Nat->Prop} {v:Value} {x:Drv} (h:yAS τ S v x) (k:Only S τ τ') (hT:∀ b,b<τ.next->T b->S b):yAS τ' T v x:=by
 obtain ⟨p,l,c,q,m,d,r,n,e,h1,h2,h3,h4,h5⟩:=h;refine ⟨p,l,c,q,m,d,r,n,e,h1,k.slv' h2 (fun a e=>h5 _ (.inl ⟨a,e,rfl⟩)),k.slv' h3 (fun a e=>h5 _ (.inr (.inl ⟨a,e,rfl⟩))),k.slv' h4 (fun a e=>h5 _ (.inr (.inr ⟨a,e,rfl⟩))), ?_⟩
 intro b hb ht;have hlt:b<τ.next:=by
  rcases hb with ⟨a,e,rfl⟩ | ⟨a,e,rfl⟩ | ⟨a,e,rfl⟩
  ·exact vE h2 a e
  ·exact vE h3 a e
  ·exact vE h4 a e
 exact h5 b hb (hT b hlt ht)
theorem yJE (h:WkP Z 92 76 w p l q m) (hl:l<=1000) (hm:m<=1000) (hsh:zAQ w):∃ p' c' q' d' Z',zD Pg 17 [.agg ⟨wkc w.days p l c q m d w.rest w.run w.hours⟩] Z (.agg ⟨wkc w.days p' l c' q' m d' w.rest w.run w.hours⟩) Z'/\New Z Z'/\WkP Z' 85 88 w p' l q' m:=by
 have hl1:=h.len.1;have hl2:=h.len.2;obtain ⟨B,hB⟩:∃ B,B=Z.re.next:=⟨_,rfl⟩;obtain ⟨τ0,hτ0⟩:∃ τ0,τ0=((((Z.re.row (wkc w.days p l c q m d w.rest w.run w.hours) 6).row (wkc 0 none 0 0 none 0 0 0 0 0) 6).row (wkc 0 none 0 0 none 0 0 0 0 0) 6).own (Z.re.next+2) (wkc w.days none 0 0 none 0 0 w.rest w.run w.hours) 6):=⟨_,rfl⟩;have o1:Own τ0 B (wkc w.days p l c q m d w.rest w.run w.hours) 6:=by rw [hτ0,hB];exact (zC Z.re _ _).row.row.own (by show Z.next≠Z.next+2;omega)
 have o2:Own τ0 (B+1) (wkc 0 none 0 0 none 0 0 0 0 0) 6:=by rw [hτ0,hB];exact (zC (Z.re.row (wkc w.days p l c q m d w.rest w.run w.hours) 6) _ _).row.own (by show Z.next+1≠Z.next+2;omega)
 have o3:Own τ0 (B+2) (wkc w.days none 0 0 none 0 0 w.rest w.run w.hours) 6:=by rw [hτ0,hB];exact (zC ((Z.re.row (wkc w.days p l c q m d w.rest w.run w.hours) 6).row (wkc 0 none 0 0 none 0 0 0 0 0) 6) (wkc 0 none 0 0 none 0 0 0 0 0) 6).put
 have hN0:New Z.re τ0:=by rw [hτ0];exact ((New.row _ _ _).row'.row').own (by show Z.next<=Z.next+2;omega)
 have hn0:τ0.next=B+3:=by rw [hτ0,hB];rfl
 have key:zO Pg 17 [.agg ⟨wkc w.days p l c q m d w.rest w.run w.hours⟩] Z.re fun v s=>New Z.re s/\∃ p' c' q' d',v=.agg ⟨wkc w.days p' l c' q' m d' w.rest w.run w.hours⟩/\WkP s 85 88 w p' l q' m:=by
  refine Week_ra (P0:=fun τ=>New Z.re τ/\∃ ps cs,Own τ B (wkc w.days p l c q m d w.rest w.run w.hours) 6/\Own τ (B+1) (wkc 0 none 0 0 none 0 0 0 0 0) 6/\Own τ (B+2) (wkc w.days ps l cs none 0 0 w.rest w.run w.hours) 6/\SlV Pg τ 85 5 ps l (w.duties.map zBT)/\(∀ b,AtP ps b->B+3<=b/\b<τ.next)) ?_ ?_
  ·rw [<- hτ0];have:=yWW (BA:=B) (BB:=B+1) (BC:=B+2) (Inv:=fun k i4 τ=>New Z.re τ/\∃ i:Nat,i4=i/\i+k=l/\∃ ps cs,Own τ B (wkc w.days p l c q m d w.rest w.run w.hours) 6/\Own τ (B+1) (wkc 0 none 0 0 none 0 0 0 0 0) 6/\Own τ (B+2) (wkc w.days ps i cs none 0 0 w.rest w.run w.hours) 6/\Gr Pg τ (B+3) 85 5 ps i cs ((w.duties.take i).map zBT)/\B+3<=τ.next)
    (Q0:=fun τ=>New Z.re τ/\∃ ps cs,Own τ B (wkc w.days p l c q m d w.rest w.run w.hours) 6/\Own τ (B+1) (wkc 0 none 0 0 none 0 0 0 0 0) 6/\Own τ (B+2) (wkc w.days ps l cs none 0 0 w.rest w.run w.hours) 6/\SlV Pg τ 85 5 ps l (w.duties.map zBT)/\(∀ b,AtP ps b->B+3<=b/\b<τ.next)) ?_ l 0 τ0
    ⟨hN0,0,rfl,by omega,none,0,o1,o2,o3,by simpa using Gr.nil,by omega⟩
   ·subst hB;exact this
   rintro k i4 τ ⟨hN,i,rfl,hk,ps,cs,w1,w2,w3,hg,hnx⟩;by_cases hi:i<l
   ·obtain ⟨a,rfl,x,hx,ld⟩:=vF (SlV.le h.dty ((le0 Z).trans hN.le)) hi;have hcp:New τ ((τ.row (zF 0 0 0 0 0) 5).own τ.next (zF x.day x.on x.lo x.hi x.route) 5):=(New.row _ _ _).own (Nat.le_refl _);have k3:=(w3.row (ds:=zF 0 0 0 0 0) (m:=5)).own (ds:=zF x.day x.on x.lo x.hi x.route) (m:=5) (show B+2≠τ.next by have:=w3.lt;omega);obtain ⟨p4,c4,τ2,g1,g2,g3,g4⟩:=yNP (zBT x) (τ:=(τ.row (zF 0 0 0 0 0) 5).own τ.next (zF x.day x.on x.lo x.hi x.route) 5) appT_dtys hg hcp.le (elOk_dty x) (by omega) hnx;have hS:∀ b,AtP ps b->B+3<=b:=fun b hb=>(hg.bd hb).1
    have hO:Only (AtP ps) τ τ2:=((hcp.row').only (S:=AtP ps)).trans g3 (fun _ _ x=>x) (by intro m' h1 h2 b h3 h4;have:=hg.bd h4;exact h2 b this.2 h4);have v1:=hO.own' w1 (fun x=>by have:=hS _ x;omega);have v2:=hO.own' w2 (fun x=>by have:=hS _ x;omega);have v3:=hO.own' w3 (fun x=>by have:=hS _ x;omega);have e5:∀ b,AtP p4 b->B+3<=b:=fun b hb=>(g2.bd hb).1
    have hN2:New Z.re (τ2.own (B+2) (wkc w.days p4 (i+1) c4 none 0 0 w.rest w.run w.hours) 6):=(hN.of_only hO (fun b hb=>by have:=hS b hb;omega)).own (by omega);have hn2:τ.next<=τ2.next:=hO.next;refine Week_s1a (w1.ld rfl zCU (k:=1) rfl) ld (k3.ld rfl zBB (k:=1) rfl) g1 (v3.store (k:=1) (vs:=[.slice p4 (i+1) c4]) (ds:=wkc w.days p4 (i+1) c4 none 0 0 w.rest w.run w.hours) rfl size31 rfl (by simp) rfl)
     ⟨k-1,by omega,hN2,i+1,by omega,by omega,p4,c4,v1.own (by omega),v2.own (by omega),v3.put, ?_,by show B+3<=τ2.next;omega⟩ (by omega) (by omega) (by omega)
    rw [wP hx,List.map_append];exact g2.only (S:=(·=B+2)) (Only.own (.inr rfl)) (by rintro b hb rfl;have:=e5 _ hb;omega)
   ·have:i=l:=by omega
    subst this;rw [List.take_of_length_le (by omega)] at hg;exact Week_s1b (w1.ld rfl zCU (k:=1) rfl) ⟨hN,ps,cs,w1,w2,w3,hg.slv,fun b hb=>hg.bd hb⟩ (by omega)
  ·rintro τ1 ⟨hN1,ps,cs,x1,x2,x3,hs1,hsb⟩;have hz:Z.re.next=B:=hB.symm;rw [hz];refine yWU (P2:=fun τ=>New Z.re τ/\∃ qs ds,Own τ (B+1) (wkc 0 none 0 0 none 0 0 0 0 0) 6/\Own τ (B+2) (wkc w.days ps l cs qs m ds w.rest w.run w.hours) 6/\SlV Pg τ 85 5 ps l (w.duties.map zBT)/\(∀ b,AtP ps b->B+3<=b)/\(∃ vs,SlV Pg τ 88 6 qs m vs/\∀ (i:Nat) (x:Drv),w.drivers[i]?=some x->∃ v,vs[i]?=some v/\yAS τ (·<=B+2) v x)/\(∀ b,AtP qs b->B+3<=b))
    (yWV (Inv:=fun k i6 τ=>New Z.re τ/\∃ i:Nat,i6=i/\i+k=m/\∃ qs ds vs,Own τ B (wkc w.days p l c q m d w.rest w.run w.hours) 6/\Own τ (B+1) (wkc 0 none 0 0 none 0 0 0 0 0) 6/\Own τ (B+2) (wkc w.days ps l cs qs i ds w.rest w.run w.hours) 6/\SlV Pg τ 85 5 ps l (w.duties.map zBT)/\(∀ b,AtP ps b->¬ AtP qs b/\b<τ.next) /\
     Gr Pg τ (B+3) 88 6 qs i ds vs/\(∀ (j:Nat) (x:Drv),j<i->w.drivers[j]?=some x->∃ v,vs[j]?=some v/\yAS τ (fun b=>AtP qs b\/b<=B+2) v x)) ?_ m 0 τ1 ⟨hN1,0,rfl,by omega,none,0,[],x1,x2,x3,hs1,fun b hb=>⟨AtP.none,(hsb b hb).2⟩,Gr.nil,fun j x hj=>by omega⟩) ?_
   ·rintro k i6 τ ⟨hN,i,rfl,hk,qs,ds,vs,w1,w2,w3,hs,hd,hg,hrow⟩;have hnx:B+3<=τ.next:=w3.lt;have hvl:=hg.len_eq;by_cases hi:i<m
    ·obtain ⟨a,rfl,p',l',c',r',n',d',s',j',e',ld,hkn,hlv,hws,_⟩:=(h.le ((le0 Z).trans hN.le)).vld agg76 uY hi;have hx:w.drivers[i]?=some (drv w i):=by
      unfold drv;rw [List.getD_eq_getElem?_getD,List.getElem?_eq_getElem (by omega)];rfl
     obtain ⟨t1,ht1⟩:∃ t1,t1=(τ.row (zL none 0 0 none 0 0 none 0 0 0 0 0) 6).own τ.next (zL p' l' c' r' n' d' s' j' e' (drv w i).off (drv w i).row (drv w i).used) 6:=⟨_,rfl⟩;have hcp:New τ t1:=by rw [ht1];exact (New.row _ _ _).own (Nat.le_refl _)
     have nx1:t1.next=τ.next+1:=by rw [ht1];rfl
     have oD:Own t1 τ.next (zL p' l' c' r' n' d' s' j' e' (drv w i).off (drv w i).row (drv w i).used) 6:=by rw [ht1];exact (zC τ (zL none 0 0 none 0 0 none 0 0 0 0 0) 6).put
     have k3:=w3.le hcp.le;have hsx:=hsh _ (zNN (by omega:i<w.drivers.length));have en1:=hkn.len;have en2:=hlv.len;have en3:=hws.len;obtain ⟨q1,d1,t2,c2,n2,i2,f2⟩:=zYK (c:=c') (SlV.le hkn hcp.le) (by omega);obtain ⟨q3,d3,t4,c4,n4,i4,f4⟩:=zYK (c:=d') (SlV.le (SlV.le hlv hcp.le) n2.le) (by omega);obtain ⟨q5,d5,t6,c6,n6,i6,f6⟩:=zYK (c:=e') (SlV.le (SlV.le (SlV.le hws hcp.le) n2.le) n4.le) (by omega);have n16:New τ t6:=((hcp.trans n2).trans n4).trans n6;have oD2:=oD.le n2.le;have oD4:=oD2.le n4.le;have oD6:=oD4.le n6.le;have k32:=k3.le n2.le;have k34:=k32.le n4.le;have k36:=k34.le n6.le;have J2:=SlV.le (SlV.le i2 n4.le) n6.le;have J4:=SlV.le i4 n6.le;obtain ⟨p8,c8,t8,g1,g2,g3,g4⟩:=yNP (.agg ⟨zL q1 l' d1 q3 n' d3 q5 j' d5 (drv w i).off (drv w i).row (drv w i).used⟩) (τ:=t6) appT_drvs hg n16.le (elOk_drv _ _ _ _ _ _ _ _ _ _ _ _) (by omega) hnx;have hS:∀ b,AtP qs b->B+3<=b:=fun b hb=>(hg.bd hb).1
     have hO:Only (AtP qs) τ t8:=((n16.row').only (S:=AtP qs)).trans g3 (fun _ _ x=>x) (by intro m' h1 h2 b h3 h4;have:=hg.bd h4;exact h2 b this.2 h4);have hOx:Only (fun b=>AtP qs b\/b<=B+2) τ t8:=hO.mono (fun _ _ x=>.inl x);have v1:=hO.own' w1 (fun x=>by have:=hS _ x;omega);have v2:=hO.own' w2 (fun x=>by have:=hS _ x;omega);have v3:=hO.own' w3 (fun x=>by have:=hS _ x;omega);have e5:∀ b,AtP p8 b->B+3<=b:=fun b hb=>(g2.bd hb).1
     obtain ⟨t9,ht9⟩:∃ t9,t9=t8.own (B+2) (wkc w.days ps l cs p8 (i+1) c8 w.rest w.run w.hours) 6:=⟨_,rfl⟩;have k9:Only (·=B+2) t8 t9:=by rw [ht9];exact Only.own (.inr rfl)
     have hN9:New Z.re t9:=(hN.of_only hO (fun b hb=>by have:=hS b hb;omega)).of_only k9 (by rintro b rfl;omega);have n2x:=n2.nx;have n4x:=n4.nx;have n6x:=n6.nx;have hn8:=hO.next;have g3n:=g3.next;have g3n':t6.next+1<=t8.next:=g3n;have st:=v3.store (P:=Pg) (k:=2) (t:=32) (v:=.slice p8 (i+1) c8) (vs:=[.slice p8 (i+1) c8]) (ds:=wkc w.days ps l cs p8 (i+1) c8 w.rest w.run w.hours) rfl size32 rfl (by simp) rfl;have bqs:∀ {n:Nat},τ.next<=n->yU RD n (.slice qs i ds)=true:=fun hn=>xH (fun a e=>by have:=(hg.bd ⟨a,e,rfl⟩).2;omega)
     have lk:∀ {z:St},Own z τ.next (zL p' l' c' r' n' d' s' j' e' (drv w i).off (drv w i).row (drv w i).used) 6->zB Pg z 26 ⟨τ.next,1,none⟩=some (.slice r' n' d'):=fun o=>o.rw.ld yS rfl
     have lk2:∀ {z:St},Own z τ.next (zL p' l' c' r' n' d' s' j' e' (drv w i).off (drv w i).row (drv w i).used) 6->zB Pg z 26 ⟨τ.next,2,none⟩=some (.slice s' j' e'):=fun o=>o.rw.ld yS rfl
     have lk3:∀ {z:St},Own z τ.next (zL p' l' c' r' n' d' s' j' e' (drv w i).off (drv w i).row (drv w i).used) 6->zB Pg z 3 ⟨τ.next,3,none⟩=some (iV (drv w i).off):=fun o=>o.rw.ld zS rfl
     have lk4:∀ {z:St},Own z τ.next (zL p' l' c' r' n' d' s' j' e' (drv w i).off (drv w i).row (drv w i).used) 6->zB Pg z 3 ⟨τ.next,4,none⟩=some (iV (drv w i).row):=fun o=>o.rw.ld zS rfl
     have lk5:∀ {z:St},Own z τ.next (zL p' l' c' r' n' d' s' j' e' (drv w i).off (drv w i).row (drv w i).used) 6->zB Pg z 3 ⟨τ.next,5,none⟩=some (iV (drv w i).used):=fun o=>o.rw.ld zS rfl
     have lw:∀ {z:St},Own z (B+2) (wkc w.days ps l cs qs i ds w.rest w.run w.hours) 6->zB Pg z 32 ⟨B+2,2,none⟩=some (.slice qs i ds):=fun o=>o.rw.ld uV rfl
     have hlv':∀ a,r'=some a->a.block<τ.next:=vE hlv;have hws':∀ a,s'=some a->a.block<τ.next:=vE hws;have fin:zWA B (B+1) (B+2) (i:Int) τ (fun i6' Z'=>∃ k',k' < k/\(New Z.re Z'/\∃ i:Nat,i6'=i/\i+k'=m/\∃ qs ds vs,Own Z' B (wkc w.days p l c (some a) m d w.rest w.run w.hours) 6/\Own Z' (B+1) (wkc 0 none 0 0 none 0 0 0 0 0) 6/\Own Z' (B+2) (wkc w.days ps l cs qs i ds w.rest w.run w.hours) 6/\SlV Pg Z' 85 5 ps l (w.duties.map zBT)/\(∀ b,AtP ps b->¬ AtP qs b/\b<Z'.next) /\
     Gr Pg Z' (B+3) 88 6 qs i ds vs/\(∀ (j:Nat) (x:Drv),j<i->w.drivers[j]?=some x->∃ v,vs[j]?=some v/\yAS Z' (fun b=>AtP qs b\/b<=B+2) v x))) (fun τ=>New Z.re τ/\∃ qs ds,Own τ (B+1) (wkc 0 none 0 0 none 0 0 0 0 0) 6/\Own τ (B+2) (wkc w.days ps l cs qs m ds w.rest w.run w.hours) 6/\SlV Pg τ 85 5 ps l (w.duties.map zBT)/\(∀ b,AtP ps b->B+3<=b)/\(∃ vs,SlV Pg τ 88 6 qs m vs/\∀ (i:Nat) (x:Drv),w.drivers[i]?=some x->∃ v,vs[i]?=some v/\yAS τ (·<=B+2) v x)/\(∀ b,AtP qs b->B+3<=b)):=by
      rw [ht1] at c2 oD;refine Week_s2a (w1.ld rfl zHG (k:=2) rfl) ld (by rw [<- ht1];exact lw k3) c2 (lk oD2) c4 (lk2 oD4) c6 (lk3 oD6) (lk4 oD6) (lk5 oD6) g1 st
       (zE (zP oD2.lt) zI) (zE (xH fun a e=>by have:=hlv' a e;omega) zI) (zE (zP oD4.lt) zI) (zE (xH fun a e=>by have:=hws' a e;omega) zI)
       (zE (zP oD6.lt) zI) (zE (zP oD6.lt) zI) (zE (zP oD6.lt) zI)
       (zE (yWL (vE J2) (vE J4) (vE i6)) zI)
       (zE (bqs (by show τ.next<=t6.next+1;omega)) (zE (zPP (by show t6.next<t6.next+1;omega)) zI))
       (zE (zP (by show B+2<t8.next;omega)) (zE (xH fun a e=>(g2.bd ⟨a,e,rfl⟩).2) zI))
       ⟨⟨k32.lt,rfl⟩,lw k32⟩ ⟨⟨k34.lt,rfl⟩,lw k34⟩ ⟨⟨k36.lt,rfl⟩,lw k36⟩ ⟨⟨(k36.row (ds:=zL q1 l' d1 q3 n' d3 q5 j' d5 (drv w i).off (drv w i).row (drv w i).used) (m:=6)).lt,rfl⟩,lw k36.row⟩
       (lk oD) ⟨⟨oD2.lt,rfl⟩,lk oD2⟩ (lk2 oD) ⟨⟨oD2.lt,rfl⟩,lk2 oD2⟩ ⟨⟨oD4.lt,rfl⟩,lk2 oD4⟩
       (lk3 oD) ⟨⟨oD2.lt,rfl⟩,lk3 oD2⟩ ⟨⟨oD4.lt,rfl⟩,lk3 oD4⟩ ⟨⟨oD6.lt,rfl⟩,lk3 oD6⟩
       (lk4 oD) ⟨⟨oD2.lt,rfl⟩,lk4 oD2⟩ ⟨⟨oD4.lt,rfl⟩,lk4 oD4⟩ ⟨⟨oD6.lt,rfl⟩,lk4 oD6⟩
       (lk5 oD) ⟨⟨oD2.lt,rfl⟩,lk5 oD2⟩ ⟨⟨oD4.lt,rfl⟩,lk5 oD4⟩ ⟨⟨oD6.lt,rfl⟩,lk5 oD6⟩
       (vE hkn)
       ⟨k-1,by omega,by rw [<- ht9];exact hN9,i+1,by omega,by omega,p8,c8,_, ?_, ?_, ?_, ?_, ?_,by rw [<- ht9];exact g2.only k9 (by rintro b hb rfl;have:=e5 _ hb;omega), ?_⟩ (by omega) (by omega) (by omega) (by omega)
      ·exact v1.own (by omega)
      ·exact v2.own (by omega)
      ·exact v3.put
      ·refine (hO.slv' hs (fun a e hb=>(hd a.block ⟨a,e,rfl⟩).1 hb)).own (.inr fun a e hb=>?_);have:=(hsb a.block ⟨a,e,rfl⟩).1;omega
      ·intro b hb;refine ⟨fun h4=>?_,by have:=(hd b hb).2;show b<t8.next;omega⟩
       rcases g4 b h4 with h5 | h5
       ·exact (hd b hb).1 h5
       ·have:=(hd b hb).2;have:=n16.nx;omega
      ·intro j x hj hxj;rw [<- ht9];have fromOld:∀ b,b<τ.next->(AtP p8 b\/b<=B+2)->(AtP qs b\/b<=B+2):=by
        rintro b hb (h4 | h4)
        ·rcases g4 b h4 with h5 | h5
         ·exact .inl h5
         ·have:=n16.nx;omega
        ·exact .inr h4
       have k9':Only (fun b=>AtP p8 b\/b<=B+2) t8 t9:=k9.mono (fun _ _ e=>.inr (by omega));by_cases hji:j<i
       ·obtain ⟨v,hv,hdo⟩:=hrow j x hji hxj;refine ⟨v,by rw [List.getElem?_append_left (by omega)];exact hv, ?_⟩
        have h8:yAS t8 (fun b=>AtP p8 b\/b<=B+2) v x:=hdo.only hOx fromOld;exact h8.only k9' (fun _ _ e=>e)
       ·have:j=i:=by omega
        subst this;rw [hx] at hxj;cases hxj
        refine ⟨_,by rw [List.getElem?_append_right (by omega),hvl,Nat.sub_self];rfl, ?_⟩
        have hnew:∀ b,τ.next<=b->b<t6.next->¬ (AtP p8 b\/b<=B+2):=by
         rintro b h1 h2 (h4 | h4)
         ·rcases g4 b h4 with h5 | h5
          ·have:=(hg.bd h5).2;omega
          ·omega
         ·omega
        have hqs:∀ b,τ.next<=b->¬ AtP qs b:=fun b h1 h5=>by have:=(hg.bd h5).2;omega
        have tr:Only (AtP qs) t6 t8:=(Only.row t6 _ 6:Only (AtP qs) t6 _).trans g3 (fun _ _ x=>x) (by intro m' h1 h2 b h3 h4;have:=hg.bd h4;exact h2 b (by have:=n16.nx;omega) h4);have b1:∀ b,AtP q1 b->τ.next<=b/\b<t6.next:=fun b hb=>⟨by have:=f2 b hb;omega,by obtain ⟨a,e,rfl⟩:=hb;exact vE J2 a e⟩
        have b3:∀ b,AtP q3 b->τ.next<=b/\b<t6.next:=fun b hb=>⟨by have:=f4 b hb;omega,by obtain ⟨a,e,rfl⟩:=hb;exact vE J4 a e⟩
        have b5:∀ b,AtP q5 b->τ.next<=b/\b<t6.next:=fun b hb=>⟨by have:=f6 b hb;omega,by obtain ⟨a,e,rfl⟩:=hb;exact vE i6 a e⟩
        have h8:yAS t8 (fun b=>AtP p8 b\/b<=B+2) (.agg ⟨zL q1 l' d1 q3 n' d3 q5 j' d5 (drv w j).off (drv w j).row (drv w j).used⟩) (drv w j):=by
         refine ⟨q1,l',d1,q3,n',d3,q5,j',d5,rfl,tr.slv' J2 (fun a e=>hqs _ (b1 _ ⟨a,e,rfl⟩).1),tr.slv' J4 (fun a e=>hqs _ (b3 _ ⟨a,e,rfl⟩).1),tr.slv' i6 (fun a e=>hqs _ (b5 _ ⟨a,e,rfl⟩).1), ?_⟩
         rintro b (hb | hb | hb)
         ·exact hnew b (b1 b hb).1 (b1 b hb).2
         ·exact hnew b (b3 b hb).1 (b3 b hb).2
         ·exact hnew b (b5 b hb).1 (b5 b hb).2
        exact h8.only k9' (fun _ _ e=>e)
     exact fin
    ·have:i=m:=by omega
     subst this;exact Week_s2b (w1.ld rfl zHG (k:=2) rfl) ⟨hN,qs,ds,w2,w3,hs,fun b hb=>(hsb b hb).1,⟨vs,hg.slv,fun j x hx=>by
      obtain ⟨v,h1,h2⟩:=hrow j x (by have:=(List.getElem?_eq_some_iff.1 hx).1;omega) hx;exact ⟨v,h1,h2.only (Only.refl _ _) (fun b _ e=>.inr e)⟩⟩,fun b hb=>(hg.bd hb).1⟩ (by omega)
   ·rintro τ ⟨hN,qs,ds,w2,w3,hs,e1,⟨vs,hv,hrow⟩,e2⟩;have hlt3:=w3.lt;have k9:Only (fun b=>b=B+1) τ (τ.own (B+1) (wkc w.days ps l cs qs m ds w.rest w.run w.hours) 6):=Only.own (.inr rfl);refine yWT (w3.ldN xM yT (k:=0) rfl rfl (by simp)) (w2.store (vs:=wkc w.days ps l cs qs m ds w.rest w.run w.hours) (ds:=wkc w.days ps l cs qs m ds w.rest w.run w.hours) rfl yT rfl (by simp) rfl) (w2.put.rw.ldN xM yT (k:=0) rfl rfl (by simp)) ⟨hN.own (by omega),ps,cs,qs,ds,rfl, ?_, ?_⟩
    ·exact hs.own (.inr fun a e hb=>by have:=e1 a.block ⟨a,e,rfl⟩;omega)
    ·refine ⟨vs,hv.own (.inr fun a e hb=>by have:=e2 a.block ⟨a,e,rfl⟩;omega),by omega,fun i x hx=>?_⟩
     obtain ⟨v,h1,h2⟩:=hrow i x hx;exact ⟨v,h1,(h2.only (k9.mono (T:=(·<=B+2)) (fun _ _ e=>by omega)) (fun _ _ e=>e)).v⟩
 obtain ⟨v,Z',h1,h2,p',c',q',d',rfl,h3⟩:=zO.new (Q:=fun v s=>∃ p' c' q' d',v=.agg ⟨wkc w.days p' l c' q' m d' w.rest w.run w.hours⟩/\WkP s 85 88 w p' l q' m) key (by rintro v s s' ⟨p',c',q',d',rfl,g⟩ hle;exact ⟨p',c',q',d',rfl,g.le hle⟩) (by
  rintro v s hv ⟨p',c',q',d',rfl,g⟩;cases p' with
  | some a=>exact Bool.noConfusion (show false=true from hv)
  | none=>cases q' with
   | some a=>exact Bool.noConfusion (show false=true from hv)
   | none =>
    obtain ⟨vs,g1,g2,g3⟩:=g.drv;have hm0:m=0:=by
     have:=g1.1.2;have h2:=g1.1.1;by_cases e:m=0
     ·exact e
     ·obtain ⟨a,ea,_⟩:=g1.some (show 0<m by omega);cases ea
    refine ⟨none,c',none,d',rfl,zGI g.dty,vs,zGI g1,g2,fun i x hx=>?_⟩
    have:=(List.getElem?_eq_some_iff.1 hx).1;omega)
 exact ⟨p',c',q',d',Z',h1,h2,h3⟩
end
end Go.Proofs.YtgfiniccfpfplaaGreat
