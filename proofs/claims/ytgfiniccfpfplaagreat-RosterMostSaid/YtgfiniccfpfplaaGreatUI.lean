
import Derived.Test.YtgfiniccfpfplaaGreatUH
import Derived.Test.YtgfiniccfpfplaaGreatXG
namespace Go.Proofs.YtgfiniccfpfplaaGreat
open Go Go.Lay
set_option linter.unusedVariables false
set_option linter.unusedSimpArgs false
set_option maxRecDepth 20000
open Go.Sort (swp PermIn SortedIn Below SWO)
theorem xQ.perm {V:Rec->Prop} {d d':Array Rec} {a B:Nat} (h:xQ V d) (hB:B<=d.size) (hp:PermIn a B d d'):xQ V d':=by
 intro i hi;rw [hp.1] at hi;by_cases hr:a<=i/\i<B
 ·exact Go.Sort.permIn_all d d' a B V hB hp (fun j h1 h2=>h j (by omega)) i hr.1 hr.2
 ·rw [hp.2.1 i (by omega)];exact h i hi
section
variable {b c:Nat} {s:Option Nat} {g:FuncId} {gc:List Value} {lt:Rec->Rec->Bool} {V:Rec->Prop}
theorem pdq_c (hS:SWO lt) (hc:Cmp g gc lt V):∀ (n:Nat) (Z:St) (d:Array Rec) (a B:Nat) (limit:Int),B-a<=n->Dt Z b s d->xQ V d->a<=B->B<=d.size->d.size<=60000->Below lt a B d->0<=limit/\limit<=100 ->
  ∃ d',PermIn a B d d'/\SortedIn lt a B d'/\uH 97 [.slice (some ⟨b,0,s⟩) d.size c,iV (a:Int),iV (B:Int),iV limit,.func (.func g) ⟨[]⟩ ⟨gc⟩] (.tuple ⟨[]⟩) Z b s d d':=by
 intro n;induction n using Nat.strongRecOn with
 | _ n ih =>
 intro Z d a B limit hn hd hv ha hB hsz hbel hlim;suffices hmain:zO Tryz.prog 97 [.slice (some ⟨b,0,s⟩) d.size c,iV (a:Int),iV (B:Int),iV limit,.func (.func g) ⟨[]⟩ ⟨gc⟩] Z.re fun v τ=>v=.tuple ⟨[]⟩/\∃ d',W Z τ b s d d'/\PermIn a B d d'/\SortedIn lt a B d' by
  obtain ⟨v,τ,hN,e,d',w,r1,r2⟩:=hmain
  exact ⟨d',r1,r2,uH.of hd ⟨v,τ,hN,e,w⟩⟩
 refine pdq_ra (Pr:=fun τ=>∃ d',W Z τ b s d d'/\PermIn a B d d'/\SortedIn lt a B d') (yCY (Inv:=fun k i1 i2 i3 t10 t11 τ=>∃ (p q:Nat) (dk:Array Rec),i1=p/\i2=q/\k=q-p/\a<=p/\p<=q/\q<=B/\(0<=i3/\i3<=100)/\W Z τ b s d dk/\dk.size=d.size/\xQ V dk/\Below lt p q dk/\(∀ R,PermIn p q dk R->SortedIn lt p q R->PermIn a B d R/\SortedIn lt a B R)) ?_ (B-a) _ _ _ _ _ Z.re ⟨a,B,d,rfl,rfl,rfl,Nat.le_refl _,ha,Nat.le_refl _,hlim,W.start hd,rfl,hv,hbel,fun R h1 h2=>⟨h1,h2⟩⟩) (fun τ h=>yCX ⟨rfl,h⟩);rintro k i1 i2 i3 t10 t11 τ ⟨p,q,dk,rfl,rfl,hk,hap,hpq,hqB,hi3,w,hdk,hall,hbk,hJ⟩;suffices hgo:∀ (NX:Int->Int->Int->Bool->Bool->St->Prop) (QR:St->Prop),(∀ (p' q':Nat) (dk':Array Rec) (i3':Int) (t10' t11':Bool) (τ':St),q' - p' < k->a<=p'->p'<=q'->q'<=B->(0<=i3'/\i3'<=100)->W Z τ' b s d dk'->dk'.size=d.size->xQ V dk'->Below lt p' q' dk'->(∀ R,PermIn p' q' dk' R->SortedIn lt p' q' R->PermIn a B d R/\SortedIn lt a B R)->NX (p':Int) (q':Int) i3' t10' t11' τ') ->
   (∀ (τ':St) (d':Array Rec),W Z τ' b s d d'->PermIn a B d d'/\SortedIn lt a B d'->QR τ')->zRX (some ⟨b,0,s⟩) d.size c g gc (p:Int) (q:Int) i3 t10 t11 τ NX QR from
  hgo _ _ (fun p' q' dk' i3' t10' t11' τ' h1 h2 h3 h4 h5 h6 h7 h8 h9 h10=>⟨q' - p',h1,p',q',dk',rfl,rfl,rfl,h2,h3,h4,h5,h6,h7,h8,h9,h10⟩) (fun τ' d' h1 h2=>⟨d',h1,h2.1,h2.2⟩)
 intro NX QR hNX hQR;have hqs:q<=dk.size:=by omega
 by_cases h12:q-p<=12
 ·have hins:=Go.Sort.insertionSort_holds (lt:=lt) hS dk p q hpq hqs;obtain ⟨τ',k1,w1⟩:=w.call (insS_c (c:=c) (a:=p) (B:=q) w.dt hc hall hqs (by omega) (by omega));rw [hdk] at k1;exact yXV k1 (hQR _ _ w1 (hJ _ hins.1 hins.2)) (by omega) (by omega)
 by_cases h0:i3=0
 ·have hheap:=Go.Sort.heapSort_holds (lt:=lt) hS dk p q hpq hqs;obtain ⟨τ',k1,w1⟩:=w.call (heapS_c (c:=c) (a:=p) (B:=q) w.dt hc hall hpq hqs (by omega));rw [hdk] at k1;exact pdq_s1b k1 (hQR _ _ w1 (hJ _ hheap.1 hheap.2)) (by omega) (by omega) h0
 have k8:IntKind.wrap .i64 (Int.tdiv ((q:Int)-(p:Int)) 8)=Int.tdiv ((q:Int)-(p:Int)) 8:=by
  have e8:Int.tdiv ((q:Int)-(p:Int)) 8=(((q-p) / 8:Nat):Int):=by rw [Int.tdiv_eq_ediv_of_nonneg (by omega)];omega
  rw [<- vT,e8,zWF (by omega) (by omega)]
 have stepN:∀ (i3':Int) (t10 t11:Bool) (x:Nat) (h97:Bool) (d3:Array Rec) (τ3:St),(0<=i3'/\i3'<=100)->p<=x->x<q->W Z τ3 b s d d3->PermIn p q dk d3->xQ V d3 ->
   wH (some ⟨b,0,s⟩) d.size c (q:Int) i3' g gc t10 t11 ((q:Int)-(p:Int)) (x:Int) h97 (p:Int) τ3 NX QR:=by
  intro i3' t10 t11 x h97 d3 τ3 hi3' hx1 hx2 w3 hp3 hall3
  have hd3:d3.size=d.size:=by rw [hp3.1,hdk]
  have hq3:q<=d3.size:=by omega
  have hb3:Below lt p q d3:=Go.Sort.Below.permA Go.Sort.permIn_all hqs hbk hp3
  have hJ3:∀ R,PermIn p q d3 R->SortedIn lt p q R->PermIn a B d R/\SortedIn lt a B R:=fun R h1 h2=>hJ R (Go.Sort.permIn_trans _ _ _ p q hp3 h1) h2
  obtain ⟨mid,hmid⟩:∃ mid,mid=(Go.Sort.partition lt d3 p q x).1:=⟨_,rfl⟩
  obtain ⟨ap,hap'⟩:∃ ap,ap=(Go.Sort.partition lt d3 p q x).2.1:=⟨_,rfl⟩
  obtain ⟨d4,hd4⟩:∃ d4,d4=(Go.Sort.partition lt d3 p q x).2.2:=⟨_,rfl⟩
  have hpt:Go.Sort.partition lt d3 p q x=(mid,ap,d4):=by rw [hmid,hap',hd4]
  obtain ⟨m1,m2,m3,m4,m5,m6,m7⟩:=Go.Sort.round_part hS (Go.Sort.partition_holds lt) hx1 hx2 hq3 hb3 hpt
  have hpc:=part_c (c:=c) w3.dt hc hall3 hx1 hx2 hq3 (by omega)
  rw [<- hmid,<- hap',<- hd4] at hpc
  obtain ⟨τ4,kp,w4⟩:=w3.call hpc
  rw [hd3] at kp
  have hd4s:d4.size=d.size:=by omega
  have hall4:xQ V d4:=by
   have:=(Go.Sort.partition_holds lt hS d3 p q x hx1 hx2 hq3).2.2.1;rw [hpt] at this;exact hall3.perm hq3 this
  by_cases hlr:mid-p<q-mid
  ·obtain ⟨L,hL1,hL2,hL3⟩:=ih (mid-p) (by omega) τ4 d4 p mid i3' (Nat.le_refl _) w4.dt hall4 m1 (by omega) (by omega) m4 hi3';obtain ⟨τ5,k5,w5⟩:=w4.call hL3;rw [hd4s] at k5;obtain ⟨n1,n2⟩:=m6 L hL1 hL2;have go:∀ t,NX ((mid:Int)+1) (q:Int) i3' t ap τ5:=fun t=>by
    rw [show (mid:Int)+1=((mid+1:Nat):Int) by omega];exact hNX _ _ L _ _ _ _ (by omega) (by omega) (by omega) hqB hi3' w5 (by rw [hL1.1,hd4s]) (hall4.perm (by omega) hL1) n1 (fun R h1 h2=>hJ3 R (n2 R h1 h2).1 (n2 R h1 h2).2)
   refine pdq_t4xna kp k8 (Pn:=fun i1 i2 t τ'=>i1=(mid:Int)+1/\i2=(q:Int)/\τ'=τ5) ?_ (fun i1 i2 t τ' ⟨e1,e2,e3⟩=>by subst e1 e2 e3;exact yCV (go t)) (by omega);by_cases hT:Int.tdiv ((q:Int)-(p:Int)) 8<=(mid:Int)-(p:Int)
   ·exact pdq_s5a k5 ⟨rfl,rfl,rfl⟩ hT
   ·exact pdq_s5b k5 ⟨rfl,rfl,rfl⟩ hT
  ·obtain ⟨L,hL1,hL2,hL3⟩:=ih (q-(mid+1)) (by omega) τ4 d4 (mid+1) q i3' (Nat.le_refl _) w4.dt hall4 (by omega) (by omega) (by omega) m5 hi3';obtain ⟨τ5,k5,w5⟩:=w4.call hL3;rw [hd4s,show ((mid+1:Nat):Int)=(mid:Int)+1 by omega] at k5;obtain ⟨n1,n2⟩:=m7 L hL1 hL2;have go:∀ t,NX (p:Int) (mid:Int) i3' t ap τ5:=fun t=>hNX _ _ L _ _ _ _ (by omega) (by omega) (by omega) (by omega) hi3' w5 (by rw [hL1.1,hd4s]) (hall4.perm (by omega) hL1) n1 (fun R h1 h2=>hJ3 R (n2 R h1 h2).1 (n2 R h1 h2).2)
   refine pdq_t4xnb kp k8 (Pn:=fun i1 i2 t τ'=>i1=(p:Int)/\i2=(mid:Int)/\τ'=τ5) ?_ (fun i1 i2 t τ' ⟨e1,e2,e3⟩=>by subst e1 e2 e3;exact yCV (go t)) (by omega);by_cases hT:Int.tdiv ((q:Int)-(p:Int)) 8<=(q:Int)-(mid:Int)
   ·exact pdq_s5c k5 ⟨rfl,rfl,rfl⟩ hT
   ·exact pdq_s5d k5 ⟨rfl,rfl,rfl⟩ hT
 have stepE:∀ (i3':Int) (t10 t11:Bool) (x:Nat) (d3:Array Rec) (τ3:St),(0<=i3'/\i3'<=100)->p<=x->x<q->W Z τ3 b s d d3->PermIn p q dk d3->xQ V d3->0<p->lt d3[p-1]! d3[x]! = false ->
   ∃ (me:Nat) (τ5:St),zD Tryz.prog 112 [.slice (some ⟨b,0,s⟩) d.size c,iV (p:Int),iV (q:Int),iV (x:Int),.func (.func g) ⟨[]⟩ ⟨gc⟩] τ3 (iV (me:Int)) τ5/\NX (me:Int) (q:Int) i3' t10 t11 τ5:=by
  intro i3' t10 t11 x d3 τ3 hi3' hx1 hx2 w3 hp3 hall3 hp0 hl
  have hd3:d3.size=d.size:=by rw [hp3.1,hdk]
  have hq3:q<=d3.size:=by omega
  have hb3:Below lt p q d3:=Go.Sort.Below.permA Go.Sort.permIn_all hqs hbk hp3
  have hJ3:∀ R,PermIn p q d3 R->SortedIn lt p q R->PermIn a B d R/\SortedIn lt a B R:=fun R h1 h2=>hJ R (Go.Sort.permIn_trans _ _ _ p q hp3 h1) h2
  obtain ⟨me,hme⟩:∃ me,me=(Go.Sort.partitionEqual lt d3 p q x).1:=⟨_,rfl⟩
  obtain ⟨de,hde⟩:∃ de,de=(Go.Sort.partitionEqual lt d3 p q x).2:=⟨_,rfl⟩
  have hpe:Go.Sort.partitionEqual lt d3 p q x=(me,de):=by rw [hme,hde]
  obtain ⟨e1,e2,e3,e4,e5⟩:=Go.Sort.round_eq hS (Go.Sort.partitionEqual_holds lt) hp0 hx1 hx2 hq3 hb3 hl hpe
  have hpc:=partEq_c (c:=c) w3.dt hc hall3 hx1 hx2 hq3 (by omega)
  rw [<- hme,<- hde] at hpc
  obtain ⟨τ5,k5,w5⟩:=w3.call hpc
  rw [hd3] at k5
  have hge:∀ i,p<=i->i<q->lt d3[i]! d3[x]! = false:=fun i hi hi'=>by
   rcases hb3 with h0 | hB'
   ·omega
   ·exact hS.ntrans _ _ _ (hB' i hi hi') hl
  have hperm:=(Go.Sort.partitionEqual_holds lt hS d3 p q x hx1 hx2 hq3 hge).2.2.1
  rw [hpe] at hperm
  exact ⟨me,τ5,k5,hNX _ _ de _ _ _ _ (by omega) (by omega) e2 hqB hi3' w5 (by omega) (hall3.perm hq3 hperm) e4 (fun R h1 h2=>hJ3 R (e5 R h1 h2).1 (e5 R h1 h2).2)⟩
 have stepK:∀ (i3':Int) (t10 t11 h56:Bool) (x:Nat) (i14:Int) (d2:Array Rec) (τ2:St),(0<=i3'/\i3'<=100)->p<=x->x<q->W Z τ2 b s d d2->PermIn p q dk d2->xQ V d2 ->
   xY (some ⟨b,0,s⟩) d.size c (p:Int) (q:Int) i3' g gc t10 t11 ((q:Int)-(p:Int)) h56 (x:Int) i14 τ2 NX QR:=by
  intro i3' t10 t11 h56 x i14 d2 τ2 hi3' hx1 hx2 w2 hp2 hall2
  have hd2:d2.size=d.size:=by rw [hp2.1,hdk]
  have hq2:q<=d2.size:=by omega
  have hb2:Below lt p q d2:=Go.Sort.Below.permA Go.Sort.permIn_all hqs hbk hp2
  have out1:∀ (t10 t11 h97:Bool) (i1:Int) (τ':St),NX i1 (q:Int) i3' t10 t11 τ'->wV (some ⟨b,0,s⟩) d.size c (q:Int) i3' g gc t10 t11 ((q:Int)-(p:Int)) (x:Int) h97 i1 τ' NX QR:=fun t10 t11 h97 i1 τ' h=>pdq_t4x1a h
  have eq:∀ (t10 t11:Bool) (d3:Array Rec) (τ3:St),W Z τ3 b s d d3->PermIn p q dk d3->xQ V d3->0<p->lt d3[p-1]! d3[x]! = false->uO (some ⟨b,0,s⟩) d.size c (q:Int) i3' g gc t10 t11 ((q:Int)-(p:Int)) (x:Int) true (p:Int) τ3 (fun i1 τ'=>NX i1 (q:Int) i3' t10 t11 τ') (fun i1 τ'=>i1=(p:Int)/\τ'=τ3):=by
   intro t10 t11 d3 τ3 w3 hp3 hall3 hp0 hl;obtain ⟨me,τ5,k5,h5⟩:=stepE i3' t10 t11 x d3 τ3 hi3' hx1 hx2 w3 hp3 hall3 hp0 hl;exact pdq_s4a k5 h5
  have nq:∀ (t10 t11:Bool) (τ3:St),uO (some ⟨b,0,s⟩) d.size c (q:Int) i3' g gc t10 t11 ((q:Int)-(p:Int)) (x:Int) false (p:Int) τ3 (fun i1 τ'=>NX i1 (q:Int) i3' t10 t11 τ') (fun i1 τ'=>i1=(p:Int)/\τ'=τ3):=fun t10 t11 τ3=>pdq_s4b ⟨rfl,rfl⟩
  have outN:∀ (t10 t11 h97:Bool) (d3:Array Rec) (τ3:St),W Z τ3 b s d d3->PermIn p q dk d3->xQ V d3->∀ (i1:Int) (τ':St),(i1=(p:Int)/\τ'=τ3)->wH (some ⟨b,0,s⟩) d.size c (q:Int) i3' g gc t10 t11 ((q:Int)-(p:Int)) (x:Int) h97 i1 τ' NX QR:=by
   rintro t10 t11 h97 d3 τ3 w3 hp3 hall3 i1 τ' ⟨rfl,rfl⟩;exact stepN i3' t10 t11 x h97 d3 _ hi3' hx1 hx2 w3 hp3 hall3
  have ldp:∀ (d3:Array Rec) (τ3:St),W Z τ3 b s d d3->d3.size=d.size->0<p->zB Tryz.prog τ3 45 (zM ⟨b,0,s⟩ (Int.toNat ((p:Int)-1)*3))=some (zFA d3[p-1]!):=fun d3 τ3 w3 hd3 hp0=>w3.dt.ldN (by omega) (by omega)
  have ldx:∀ (d3:Array Rec) (τ3:St),W Z τ3 b s d d3->d3.size=d.size->zB Tryz.prog τ3 45 (zM ⟨b,0,s⟩ (Int.toNat (x:Int)*3))=some (zFA d3[x]!):=fun d3 τ3 w3 hd3=>w3.dt.ldN rfl (by omega)
  by_cases hp0:0<p
  ·cases t10 with
   | false =>
    obtain ⟨m,cm,⟨g1,hl⟩ | ⟨g1,hl⟩⟩:=hc.at_ (τ:=τ2) hall2 (i:=p-1) (j:=x) (by omega) (by omega)
    ·exact pdq_t3xnk (ldp _ _ w2 hd2 hp0) (ldx _ _ w2 hd2) cm (nq _ _ _) (fun i1 τ' h=>out1 _ _ _ _ _ h) (outN _ _ _ _ _ w2 hp2 hall2)
    ·exact pdq_t3xnl (ldp _ _ w2 hd2 hp0) (ldx _ _ w2 hd2) cm (eq _ _ _ _ w2 hp2 hall2 hp0 hl) (fun i1 τ' h=>out1 _ _ _ _ _ h) (outN _ _ _ _ _ w2 hp2 hall2)
   | true =>
   cases t11 with
   | false =>
    obtain ⟨m,cm,⟨g1,hl⟩ | ⟨g1,hl⟩⟩:=hc.at_ (τ:=τ2) hall2 (i:=p-1) (j:=x) (by omega) (by omega)
    ·exact pdq_t3xnh (ldp _ _ w2 hd2 hp0) (ldx _ _ w2 hd2) cm (nq _ _ _) (fun i1 τ' h=>out1 _ _ _ _ _ h) (outN _ _ _ _ _ w2 hp2 hall2)
    ·exact pdq_t3xni (ldp _ _ w2 hd2 hp0) (ldx _ _ w2 hd2) cm (eq _ _ _ _ w2 hp2 hall2 hp0 hl) (fun i1 τ' h=>out1 _ _ _ _ _ h) (outN _ _ _ _ _ w2 hp2 hall2)
   | true =>
   by_cases h14:i14=1;rotate_left
   ·obtain ⟨m,cm,⟨g1,hl⟩ | ⟨g1,hl⟩⟩:=hc.at_ (τ:=τ2) hall2 (i:=p-1) (j:=x) (by omega) (by omega)
    ·exact pdq_t3xne (ldp _ _ w2 hd2 hp0) (ldx _ _ w2 hd2) cm (nq _ _ _) (fun i1 τ' h=>out1 _ _ _ _ _ h) (outN _ _ _ _ _ w2 hp2 hall2)
    ·exact pdq_t3xnf (ldp _ _ w2 hd2 hp0) (ldx _ _ w2 hd2) cm (eq _ _ _ _ w2 hp2 hall2 hp0 hl) (fun i1 τ' h=>out1 _ _ _ _ _ h) (outN _ _ _ _ _ w2 hp2 hall2)
   have hpi:=Go.Sort.partialInsertionSort_holds (lt:=lt) hS d2 p q (by omega) hq2 hb2;have hpc:=yYJ (c:=c) (a:=p) (B:=q) w2.dt hc hall2 (by omega) hq2 (by omega);obtain ⟨R,hR⟩:∃ R,R=Go.Sort.partialInsertionSort lt d2 p q:=⟨_,rfl⟩;rw [<- hR] at hpi hpc;obtain ⟨τ3,k3,w3⟩:=w2.call hpc;rw [hd2] at k3;have hp3:=Go.Sort.permIn_trans _ _ _ p q hp2 hpi.1;have hall3:=hall2.perm hq2 hpi.1;have hd3:R.1.size=d.size:=by rw [hp3.1,hdk]
   cases hR2:R.2 with
   | true=>rw [hR2] at k3 hpi;exact yCW k3 (hQR _ _ w3 (hJ _ hp3 (hpi.2 rfl))) h14
   | false =>
    rw [hR2] at k3;obtain ⟨m,cm,⟨g1,hl⟩ | ⟨g1,hl⟩⟩:=hc.at_ (τ:=τ3) hall3 (i:=p-1) (j:=x) (by omega) (by omega)
    ·exact pdq_t3xnb k3 (ldp _ _ w3 hd3 hp0) (ldx _ _ w3 hd3) cm (nq _ _ _) (fun i1 τ' h=>out1 _ _ _ _ _ h) (outN _ _ _ _ _ w3 hp3 hall3)
    ·exact pdq_t3xnc k3 (ldp _ _ w3 hd3 hp0) (ldx _ _ w3 hd3) cm (eq _ _ _ _ w3 hp3 hall3 hp0 hl) (fun i1 τ' h=>out1 _ _ _ _ _ h) (outN _ _ _ _ _ w3 hp3 hall3)
  ·cases t10 with
   | false=>exact pdq_t3xnm (nq _ _ _) (fun i1 τ' h=>out1 _ _ _ _ _ h) (outN _ _ _ _ _ w2 hp2 hall2)
   | true =>
   cases t11 with
   | false=>exact pdq_t3xnj (nq _ _ _) (fun i1 τ' h=>out1 _ _ _ _ _ h) (outN _ _ _ _ _ w2 hp2 hall2)
   | true =>
   by_cases h14:i14=1;rotate_left
   ·exact pdq_t3xng (nq _ _ _) (fun i1 τ' h=>out1 _ _ _ _ _ h) (outN _ _ _ _ _ w2 hp2 hall2) h14
   have hpi:=Go.Sort.partialInsertionSort_holds (lt:=lt) hS d2 p q (by omega) hq2 hb2;have hpc:=yYJ (c:=c) (a:=p) (B:=q) w2.dt hc hall2 (by omega) hq2 (by omega);obtain ⟨R,hR⟩:∃ R,R=Go.Sort.partialInsertionSort lt d2 p q:=⟨_,rfl⟩;rw [<- hR] at hpi hpc;obtain ⟨τ3,k3,w3⟩:=w2.call hpc;rw [hd2] at k3;have hp3:=Go.Sort.permIn_trans _ _ _ p q hp2 hpi.1;have hall3:=hall2.perm hq2 hpi.1;cases hR2:R.2 with
   | true=>rw [hR2] at k3 hpi;exact yCW k3 (hQR _ _ w3 (hJ _ hp3 (hpi.2 rfl))) h14
   | false =>
    rw [hR2] at k3;exact pdq_t3xnd k3 (nq _ _ _) (fun i1 τ' h=>out1 _ _ _ _ _ h) (outN _ _ _ _ _ w3 hp3 hall3) h14
 have stepP:∀ (i3':Int) (t10 t11 h39:Bool) (d1:Array Rec) (τ1:St),(0<=i3'/\i3'<=100)->W Z τ1 b s d d1->PermIn p q dk d1->xQ V d1 ->
   zKN (some ⟨b,0,s⟩) d.size c (p:Int) (q:Int) g gc t10 t11 ((q:Int)-(p:Int)) h39 i3' τ1 NX QR:=by
  intro i3' t10 t11 h39 d1 τ1 hi3' w1 hp1 hall1
  have hd1:d1.size=d.size:=by rw [hp1.1,hdk]
  have hq1:q<=d1.size:=by omega
  obtain ⟨x,kk,hx1,hx2,kc⟩:=chooseP_c (c:=c) (a:=p) (B:=q) w1.dt hc hall1 (by omega) hq1 (by omega)
  rw [hd1] at kc
  have go:∀ (i13 i14:Int) (h56:Bool) (τ2:St),(∃ (x:Nat) (d2:Array Rec),i13=x/\p<=x/\x<q/\W Z τ2 b s d d2/\PermIn p q dk d2/\xQ V d2)->xY (some ⟨b,0,s⟩) d.size c (p:Int) (q:Int) i3' g gc t10 t11 ((q:Int)-(p:Int)) h56 i13 i14 τ2 NX QR:=by
   rintro i13 i14 h56 τ2 ⟨x,d2,rfl,hx1,hx2,w2,hp2,hall2⟩;exact stepK _ _ _ _ _ _ _ _ hi3' hx1 hx2 w2 hp2 hall2
  by_cases hk2:kk=2
  ·have hrev:=Go.Sort.reverseRange_holds (α:=Rec) d1 p q hpq hq1;obtain ⟨τ2,k2,w2⟩:=w1.call (revR_c (c:=c) (g:=g) (gc:=gc) (a:=p) (B:=q) w1.dt hall1 (by omega) hq1 (by omega));rw [hd1] at k2;exact pdq_t2xna kc (Pn:=fun i13 i14 τ2=>∃ (x:Nat) (d2:Array Rec),i13=x/\p<=x/\x<q/\W Z τ2 b s d d2/\PermIn p q dk d2/\xQ V d2) (pdq_s3a k2 ⟨(q-1)-(x-p),_,by omega,by omega,by omega,w2,Go.Sort.permIn_trans _ _ _ p q hp1 hrev,hall1.perm hq1 hrev⟩ (by omega) (by omega) (by omega)) (fun i13 i14 τ2 h=>go _ _ _ _ h) hk2
  ·exact pdq_t2xnb kc (Pn:=fun i13 i14 τ2=>∃ (x:Nat) (d2:Array Rec),i13=x/\p<=x/\x<q/\W Z τ2 b s d d2/\PermIn p q dk d2/\xQ V d2) (pdq_s3b ⟨x,d1,rfl,hx1,hx2,w1,hp1,hall1⟩) (fun i13 i14 τ2 h=>go _ _ _ _ h) hk2
 cases t10 with
 | true=>exact pdq_s1c (Pn:=fun i3' τ'=>(0<=i3'/\i3'<=100)/\∃ d1,W Z τ' b s d d1/\PermIn p q dk d1/\xQ V d1) (pdq_s2b ⟨hi3,dk,w,Go.Sort.permIn_refl _ _ _,hall⟩) (fun i3' τ' ⟨h1,d1,h2,h3,h4⟩=>stepP _ _ _ _ _ _ h1 h2 h3 h4) (by omega) (by omega) h0
 | false =>
  obtain ⟨d1,hp1,hall1,hs1⟩:=breakP_c (c:=c) (g:=g) (gc:=gc) (a:=p) (B:=q) w.dt hpq hqs (by omega) hall;obtain ⟨τ1,k1,w1⟩:=w.call hs1;rw [hdk] at k1;exact pdq_s1d (Pn:=fun i3' τ'=>(0<=i3'/\i3'<=100)/\∃ d1,W Z τ' b s d d1/\PermIn p q dk d1/\xQ V d1) (pdq_s2a k1 ⟨by omega,d1,w1,hp1,hall1⟩ (by omega)) (fun i3' τ' ⟨h1,d1,h2,h3,h4⟩=>stepP _ _ _ _ _ _ h1 h2 h3 h4) (by omega) (by omega) h0
end
end Go.Proofs.YtgfiniccfpfplaaGreat
