
import Derived.Test.YtgfiniccfpfplaaGreatUD
namespace Go.Proofs.YtgfiniccfpfplaaGreat
open Go Go.Lay
set_option linter.unusedVariables false
set_option linter.unusedSimpArgs false
set_option maxRecDepth 20000
open Go.Sort (swp)
section
variable {Z:St} {b c:Nat} {s:Option Nat} {d:Array Rec} {g:FuncId} {gc:List Value} {lt:Rec->Rec->Bool} {V:Rec->Prop}
theorem partEq_c {a B pivot:Nat} (h:Dt Z b s d) (hc:Cmp g gc lt V) (hv:xQ V d) (ha:a<=pivot) (hp:pivot<B) (hB:B<=d.size) (hn:d.size<=1000000) :
  uH 112 [.slice (some ⟨b,0,s⟩) d.size c,iV (a:Int),iV (B:Int),iV (pivot:Int),.func (.func g) ⟨[]⟩ ⟨gc⟩] (iV ((Go.Sort.partitionEqual lt d a B pivot).1:Int)) Z b s d (Go.Sort.partitionEqual lt d a B pivot).2:=by
 have w0:=W.start h;obtain ⟨τ1,τ2,s1,s2,w1⟩:=w0.swapN (i:=(a:Int)) (j:=(pivot:Int)) (p:=a) (q:=pivot) rfl rfl (by omega) (by omega);have l0:=w0.dt.ldN (i:=(pivot:Int)) (k:=pivot) rfl (by omega);have l0':=w0.dt.ldN (i:=(a:Int)) (k:=a) rfl (by omega);obtain ⟨R,hR⟩:∃ R,R=Go.Sort.partitionEqual lt d a B pivot:=⟨_,rfl⟩;rw [<- hR];refine uH.of h (partEq_ra l0 l0' s1 s2 (P0:=fun i τ=>i=(R.1:Int)/\W Z τ b s d R.2)
  (yHL (Inv:=fun k i j τ=>∃ (p q:Nat) (dk:Array Rec),i=p/\j=q/\k=q+1-p/\a+1<=p/\q<B/\a<=q/\p<=q+2/\dk.size=d.size/\xQ V dk/\W Z τ b s d dk/\Go.Sort.partEqLoop lt a p q dk=R) ?_ (B-1+1-(a+1)) _ _ τ2 ⟨a+1,B-1,_,by omega,by omega,rfl,by omega,by omega,by omega,by omega,yX _ _ _,hv.swp (by omega) (by omega),w1,by rw [hR];rfl⟩)
  (fun i τ h=>yHI ⟨by rw [h.1],h.2⟩))
 rintro k i j τ ⟨p,q,dk,rfl,rfl,hk,hap,hqB,haq,hpq,hsz,hall,w,ht⟩;obtain ⟨i2,hi2⟩:∃ i2,i2=Go.Sort.scanUp (fun x=>!lt dk[a]! x) dk q p:=⟨_,rfl⟩;obtain ⟨j2,hj2⟩:∃ j2,j2=Go.Sort.scanDown (fun x=>lt dk[a]! x) dk i2 q:=⟨_,rfl⟩;have hstep:Go.Sort.partEqLoop lt a p q dk=if i2 > j2 then (i2,dk) else if (j2-1)+1-(i2+1)<q+1-p then Go.Sort.partEqLoop lt a (i2+1) (j2-1) (swp dk i2 j2) else (i2,dk):=by
  conv=>lhs;unfold Go.Sort.partEqLoop
  simp only [dite_eq_ite,<- hi2,<- hj2]
 refine yTM (P2:=fun i τ=>i=(i2:Int)/\p<=i2/\i2<=q+2/\(i2<=q+1\/i2=p)/\W Z τ b s d dk)
  (yHK (Inv:=fun k i τ=>∃ u:Nat,i=u/\u+k=q+2/\p<=u/\(u<=q+1\/u=p)/\W Z τ b s d dk/\Go.Sort.scanUp (fun x=>!lt dk[a]! x) dk q u=i2) ?_ (q+2-p) _ τ ⟨p,rfl,by omega,Nat.le_refl _,.inr rfl,w,hi2.symm⟩) ?_
 ·rintro k i τ ⟨u,rfl,hk,hpu,huq,w,ht⟩;by_cases hpj:u<=q;rotate_left
  ·rw [Go.Sort.scanUp,if_neg (by simp;omega)] at ht;exact yTJ ⟨by rw [ht],by omega,by omega,by omega,w⟩ (by omega)
  have lp:=w.dt.ldN (i:=(u:Int)) (k:=u) rfl (by omega);have la:=w.dt.ldN (i:=(a:Int)) (k:=a) rfl (by omega);obtain ⟨n,cn,⟨m1,hl⟩ | ⟨m1,hl⟩⟩:=hc.at_ (τ:=τ) hall (i:=a) (j:=u) (by omega) (by omega)
  ·rw [Go.Sort.scanUp,if_neg (by simp [hl])] at ht;exact yTL la lp cn ⟨by rw [ht],by omega,by omega,by omega,w⟩
  ·rw [Go.Sort.scanUp,if_pos (by simp [hl];omega)] at ht;exact yTK la lp cn ⟨k-1,by omega,u+1,by omega,by omega,by omega,by omega,w,ht⟩
 rintro i τ ⟨rfl,hpi,hiq,hiq2,w⟩;refine yHH (P4:=fun j τ=>j=(j2:Int)/\j2<=q/\(i2<=j2+1\/j2=q)/\W Z τ b s d dk)
  (yHJ (Inv:=fun k j τ=>∃ v:Nat,j=v/\v=k/\v<=q/\(i2<=v+1\/v=q)/\W Z τ b s d dk/\Go.Sort.scanDown (fun x=>lt dk[a]! x) dk i2 v=j2) ?_ q _ τ ⟨q,rfl,rfl,Nat.le_refl _,.inr rfl,w,hj2.symm⟩) ?_
 ·rintro k j τ ⟨v,rfl,rfl,hvq,hiv,w,ht⟩;by_cases hij:i2<=v;rotate_left
  ·have e:j2=v:=by
    cases v with
    | zero=>rw [<- ht];rfl
    | succ v=>rw [<- ht,Go.Sort.scanDown,if_neg (by simp;omega)]
   exact yTG ⟨by rw [e],by omega,by omega,w⟩ (by omega)
  obtain ⟨v',rfl⟩:∃ v',v=v'+1:=⟨v-1,by omega⟩;have lp:=w.dt.ldN (i:=((v'+1:Nat):Int)) (k:=v'+1) rfl (by omega);have la:=w.dt.ldN (i:=(a:Int)) (k:=a) rfl (by omega);obtain ⟨n,cn,⟨m1,hl⟩ | ⟨m1,hl⟩⟩:=hc.at_ (τ:=τ) hall (i:=a) (j:=v'+1) (by omega) (by omega)
  ·rw [Go.Sort.scanDown,if_pos (by simp [hl];omega)] at ht;exact yTI la lp cn ⟨v',by omega,v',by omega,rfl,by omega,by omega,w,ht⟩
  ·rw [Go.Sort.scanDown,if_neg (by simp [hl])] at ht;exact yTH la lp cn ⟨by rw [ht],by omega,by omega,w⟩
 rintro j τ ⟨rfl,hjq,hij2,w⟩;by_cases hgt:i2 > j2
 ·rw [if_pos hgt] at hstep;have e:R=(i2,dk):=by rw [<- ht,hstep]
  exact yHG ⟨by rw [e],by rw [e];exact w⟩ (by omega)
 rw [if_neg hgt,if_pos (by omega)] at hstep;have lj:=w.dt.ldN (i:=(j2:Int)) (k:=j2) rfl (by omega);have li:=w.dt.ldN (i:=(i2:Int)) (k:=i2) rfl (by omega);obtain ⟨τ5,τ6,t1,t2,w6⟩:=w.swapN (i:=(i2:Int)) (j:=(j2:Int)) (p:=i2) (q:=j2) rfl rfl (by omega) (by omega);exact yHF lj li t1 t2 ⟨j2-1+1-(i2+1),by omega,i2+1,j2-1,_,by omega,by omega,rfl,by omega,by omega,by omega,by omega,by rw [yX,hsz],hall.swp (by omega) (by omega),w6,by rw [<- hstep,ht]⟩
theorem zKC (lt:Rec->Rec->Bool):∀ (j:Nat) (d:Array Rec),(Go.Sort.shiftDown lt j d).size=d.size
 | 0,d=>rfl
 | j+1,d=>by
  unfold Go.Sort.shiftDown;split
  ·rfl
  ·rw [zKC,yX]
theorem zOH (lt:Rec->Rec->Bool) {V:Rec->Prop}:∀ (j:Nat) (d:Array Rec),j<d.size->xQ V d->xQ V (Go.Sort.shiftDown lt j d)
 | 0,d,_,h=>h
 | j+1,d,hj,h=>by
  unfold Go.Sort.shiftDown;split
  ·exact h
  ·exact zOH lt j _ (by rw [yX];omega) (h.swp hj (by omega))
theorem zCO (lt:Rec->Rec->Bool) {V:Rec->Prop} {B:Nat}:∀ (k j:Nat) (d:Array Rec),B-j<=k->1<=j->B<=d.size->xQ V d->(Go.Sort.shiftUp lt B j d).size=d.size/\xQ V (Go.Sort.shiftUp lt B j d)
 | 0,j,d,hk,hj,hB,h=>by rw [Go.Sort.shiftUp,if_neg (by omega)];exact ⟨rfl,h⟩
 | k+1,j,d,hk,hj,hB,h=>by
  rw [Go.Sort.shiftUp];split
  ·split
   ·exact ⟨rfl,h⟩
   ·have:=zCO lt (V:=V) (B:=B) k (j+1) (swp d j (j-1)) (by omega) (by omega) (by rw [yX];exact hB) (h.swp (by omega) (by omega));rw [yX] at this;exact this
  ·exact ⟨rfl,h⟩
theorem zOI (lt:Rec->Rec->Bool) (d:Array Rec) (B:Nat):∀ (k i:Nat),B-i<=k->i<=B->i<=Go.Sort.scanSorted lt d B i/\Go.Sort.scanSorted lt d B i<=B
 | 0,i,hk,hi=>by rw [Go.Sort.scanSorted,if_neg (by simp;omega)];omega
 | k+1,i,hk,hi=>by
  rw [Go.Sort.scanSorted];split
  ·rename_i h;have:i<B:=by simp at h;exact h.1
   have:=zOI lt d B k (i+1) (by omega) (by omega);omega
  ·omega
theorem yTF {a B i10:Int} {x i:Nat} {τ:St} {dk:Array Rec} (hc:Cmp g gc lt V) (w:W Z τ b s d dk) (hsz:dk.size=d.size) (hall:xQ V dk) (hx:x<d.size) (hn:d.size<=1000000) :
  zXY ⟨b,0,s⟩ d.size c a B g gc (i:Int) i10 (x:Int) τ (fun τ'=>W Z τ' b s d (Go.Sort.shiftDown lt x dk)):=by
 refine yMD (Inv:=fun k j τ'=>∃ (q:Nat) (dq:Array Rec),j=q/\q=k/\q<=x/\dq.size=d.size/\xQ V dq/\W Z τ' b s d dq/\Go.Sort.shiftDown lt q dq=Go.Sort.shiftDown lt x dk) ?_ x _ τ ⟨x,dk,rfl,rfl,Nat.le_refl _,hsz,hall,w,rfl⟩;rintro k j τ' ⟨q,dq,rfl,rfl,hq,hsz',hall',w',ht⟩;cases q with
 | zero=>exact partI_s3c (by rw [<- ht];exact w') (by omega)
 | succ q =>
  have l1:=w'.dt.ldN (i:=((q+1:Nat):Int)) (k:=q+1) rfl (by omega);have l2:=w'.dt.ldN (i:=((q+1:Nat):Int)-1) (k:=q) (by omega) (by omega);obtain ⟨n,cn,⟨m1,hl⟩ | ⟨m1,hl⟩⟩:=hc.at_ (τ:=τ') hall' (i:=q+1) (j:=q) (by omega) (by omega)
  ·obtain ⟨τ5,τ6,t1,t2,w6⟩:=w'.swapN (i:=((q+1:Nat):Int)) (j:=((q+1:Nat):Int)-1) (p:=q+1) (q:=q) rfl (by omega) (by omega) (by omega);rw [Go.Sort.shiftDown,if_neg (by simp [hl])] at ht;exact partI_s3a l1 l2 cn t1 t2 ⟨q,by omega,q,_,by omega,rfl,by omega,by rw [yX,hsz'],hall'.swp (by omega) (by omega),w6,ht⟩
  ·rw [Go.Sort.shiftDown,if_pos (by simp [hl])] at ht;exact partI_s3b l1 l2 cn (by rw [<- ht];exact w')
theorem yMB {a i10:Int} {B x i:Nat} {τ:St} {dk:Array Rec} (hc:Cmp g gc lt V) (w:W Z τ b s d dk) (hsz:dk.size=d.size) (hall:xQ V dk) (hx:1<=x) (hxB:x<=B+2) (hB:B<=d.size) (hn:d.size<=1000000) :
  zKR ⟨b,0,s⟩ d.size c a (B:Int) g gc (i:Int) i10 (x:Int) τ (fun τ'=>W Z τ' b s d (Go.Sort.shiftUp lt B x dk)):=by
 refine yMC (Inv:=fun k j τ'=>∃ (q:Nat) (dq:Array Rec),j=q/\q+k=B+2/\1<=q/\dq.size=d.size/\xQ V dq/\W Z τ' b s d dq/\Go.Sort.shiftUp lt B q dq=Go.Sort.shiftUp lt B x dk) ?_ (B+2-x) _ τ ⟨x,dk,rfl,by omega,hx,hsz,hall,w,rfl⟩;rintro k j τ' ⟨q,dq,rfl,hk,hq,hsz',hall',w',ht⟩;by_cases hqB:q<B;rotate_left
 ·rw [Go.Sort.shiftUp,if_neg hqB] at ht;exact partI_s4c (by rw [<- ht];exact w') (by omega)
 have l1:=w'.dt.ldN (i:=(q:Int)) (k:=q) rfl (by omega);have l2:=w'.dt.ldN (i:=(q:Int)-1) (k:=q-1) (by omega) (by omega);obtain ⟨n,cn,⟨m1,hl⟩ | ⟨m1,hl⟩⟩:=hc.at_ (τ:=τ') hall' (i:=q) (j:=q-1) (by omega) (by omega)
 ·obtain ⟨τ5,τ6,t1,t2,w6⟩:=w'.swapN (i:=(q:Int)) (j:=(q:Int)-1) (p:=q) (q:=q-1) rfl (by omega) (by omega) (by omega);rw [Go.Sort.shiftUp,if_pos hqB,if_neg (by simp [hl])] at ht;exact partI_s4a l1 l2 cn t1 t2 ⟨k-1,by omega,q+1,_,by omega,by omega,by omega,by rw [yX,hsz'],hall'.swp (by omega) (by omega),w6,ht⟩
 ·rw [Go.Sort.shiftUp,if_pos hqB,if_pos (by simp [hl])] at ht;exact partI_s4b l1 l2 cn (by rw [<- ht];exact w')
theorem yYJ {a B:Nat} (h:Dt Z b s d) (hc:Cmp g gc lt V) (hv:xQ V d) (ha:a<B) (hB:B<=d.size) (hn:d.size<=1000000) :
  uH 111 [.slice (some ⟨b,0,s⟩) d.size c,iV (a:Int),iV (B:Int),.func (.func g) ⟨[]⟩ ⟨gc⟩] (.bool (Go.Sort.partialInsertionSort lt d a B).2) Z b s d (Go.Sort.partialInsertionSort lt d a B).1:=by
 obtain ⟨R,hR⟩:∃ R,R=Go.Sort.partialInsertionSort lt d a B:=⟨_,rfl⟩;rw [<- hR];refine uH.of h (partI_ra (P0:=fun τ=>R.2=false/\W Z τ b s d R.1) (Pr:=fun t τ=>R.2=t/\W Z τ b s d R.1)
  (yMF (Inv:=fun k i j τ=>∃ (p:Nat) (dk:Array Rec),i=p/\j=5-(k:Int)/\k<=5/\a+1<=p/\p<=B/\dk.size=d.size/\xQ V dk/\W Z τ b s d dk/\Go.Sort.partialIns lt a B k p dk=R) ?_ 5 _ _ Z.re ⟨a+1,d,by omega,by omega,Nat.le_refl _,Nat.le_refl _,by omega,rfl,hv,W.start h,hR.symm⟩)
  (fun τ h=>yMA ⟨by rw [h.1],h.2⟩) (fun t τ h=>yLZ ⟨by rw [h.1],h.2⟩))
 rintro k i j τ ⟨p,dk,rfl,rfl,hk5,hap,hpB,hsz,hall,w,ht⟩;cases k with
 | zero =>
  rw [Go.Sort.partialIns] at ht;exact partI_s1b (by rw [<- ht];exact ⟨rfl,w⟩) (by omega)
 | succ k =>
 obtain ⟨i2,hi2⟩:∃ i2,i2=Go.Sort.scanSorted lt dk B p:=⟨_,rfl⟩;have hrange:=zOI lt dk B _ p (Nat.le_refl _) hpB;rw [<- hi2] at hrange;rw [Go.Sort.partialIns,<- hi2] at ht;refine partI_s1a (P2:=fun i τ=>i=(i2:Int)/\W Z τ b s d dk) (yME (Inv:=fun k i τ=>∃ u:Nat,i=u/\u+k=B/\p<=u/\W Z τ b s d dk/\Go.Sort.scanSorted lt dk B u=i2) ?_ (B-p) _ τ ⟨p,rfl,by omega,Nat.le_refl _,w,hi2.symm⟩) ?_ (by omega)
 ·rintro k i τ ⟨u,rfl,hk,hpu,w,ht⟩;by_cases huB:u<B;rotate_left
  ·rw [Go.Sort.scanSorted,if_neg (by simp;omega)] at ht;exact partI_s2c ⟨by rw [ht],w⟩ (by omega)
  have l1:=w.dt.ldN (i:=(u:Int)) (k:=u) rfl (by omega);have l2:=w.dt.ldN (i:=(u:Int)-1) (k:=u-1) (by omega) (by omega);obtain ⟨n,cn,⟨m1,hl⟩ | ⟨m1,hl⟩⟩:=hc.at_ (τ:=τ) hall (i:=u) (j:=u-1) (by omega) (by omega)
  ·rw [Go.Sort.scanSorted,if_neg (by simp [hl])] at ht;exact partI_s2a l1 l2 cn ⟨by rw [ht],w⟩
  ·rw [Go.Sort.scanSorted,if_pos (by simp [hl];omega)] at ht;exact partI_s2b l1 l2 cn ⟨k-1,by omega,u+1,by omega,by omega,by omega,w,ht⟩
 rintro i τ ⟨rfl,w⟩;by_cases hiB:i2=B
 ·simp only [hiB,if_true] at ht;exact yLY (by rw [<- ht];exact ⟨rfl,w⟩) (by omega)
 simp only [hiB,if_false] at ht;by_cases h50:B-a<50
 ·rw [if_pos h50] at ht;exact yLX (by rw [<- ht];exact ⟨rfl,w⟩) (by omega) (by omega) (by omega)
 rw [if_neg h50] at ht;have l1:=w.dt.ldN (i:=(i2:Int)-1) (k:=i2-1) (by omega) (by omega);have l2:=w.dt.ldN (i:=(i2:Int)) (k:=i2) rfl (by omega);obtain ⟨τ5,τ6,t1,t2,w6⟩:=w.swapN (i:=(i2:Int)) (j:=(i2:Int)-1) (p:=i2) (q:=i2-1) rfl (by omega) (by omega) (by omega);have hall6:=hall.swp (i:=i2) (j:=i2-1) (by omega) (by omega);have hsz6:(swp dk i2 (i2-1)).size=d.size:=by rw [yX,hsz]
 have right:∀ (dx:Array Rec) (τx:St),W Z τx b s d dx->dx.size=d.size->xQ V dx->2<=B-i2->zKR ⟨b,0,s⟩ d.size c (a:Int) (B:Int) g gc (i2:Int) (5-((k+1:Nat):Int)) ((i2:Int)+1) τx (fun τ'=>W Z τ' b s d (Go.Sort.shiftUp lt B (i2+1) dx)):=fun dx τx wx hx1 hx2 h2=>by
  have:=yMB (c:=c) (a:=(a:Int)) (i10:=5-((k+1:Nat):Int)) (B:=B) (x:=i2+1) (i:=i2) hc wx hx1 hx2 (by omega) (by omega) hB hn;rw [show ((i2+1:Nat):Int)=(i2:Int)+1 by omega] at this;exact this
 by_cases hl2:i2-a ≥ 2
 ·simp only [hl2,if_true] at ht;have left:=yTF (c:=c) (a:=(a:Int)) (B:=(B:Int)) (i10:=5-((k+1:Nat):Int)) (x:=i2-1) (i:=i2) hc w6 hsz6 hall6 (by omega) hn;rw [show ((i2-1:Nat):Int)=(i2:Int)-1 by omega] at left;have hszL:(Go.Sort.shiftDown lt (i2-1) (swp dk i2 (i2-1))).size=d.size:=by rw [zKC,hsz6]
  have hallL:=zOH lt (V:=V) (i2-1) (swp dk i2 (i2-1)) (by omega) hall6;refine yLW l1 l2 t1 t2 left (fun τ' w7=>?_) (by omega) (by omega) (by omega) (by omega) (by omega) (by omega) (by omega) (by omega);by_cases hr2:B-i2 ≥ 2
  ·simp only [hr2,if_true] at ht;have hU:=zCO lt (V:=V) (B:=B) _ (i2+1) _ (Nat.le_refl _) (by omega) (by omega) hallL;exact yLT (right _ _ w7 hszL hallL (by omega)) (fun τ'' w8=>zTW ⟨k,by omega,i2,_,rfl,by omega,by omega,by omega,by omega,by rw [hU.1,hszL],hU.2,w8,ht⟩)
  ·simp only [hr2,if_false] at ht;exact yLS ⟨k,by omega,i2,_,rfl,by omega,by omega,by omega,by omega,hszL,hallL,w7,ht⟩
 ·simp only [hl2,if_false] at ht;by_cases hr2:B-i2 ≥ 2
  ·simp only [hr2,if_true] at ht;have hU:=zCO lt (V:=V) (B:=B) _ (i2+1) _ (Nat.le_refl _) (by omega) (by omega) hall6;exact yLV l1 l2 t1 t2 (right _ _ w6 hsz6 hall6 (by omega)) (fun τ'' w8=>zTW ⟨k,by omega,i2,_,rfl,by omega,by omega,by omega,by omega,by rw [hU.1,hsz6],hU.2,w8,ht⟩)
  ·simp only [hr2,if_false] at ht;exact yLU l1 l2 t1 t2 ⟨k,by omega,i2,_,rfl,by omega,by omega,by omega,by omega,hsz6,hall6,w6,ht⟩
end
end Go.Proofs.YtgfiniccfpfplaaGreat
