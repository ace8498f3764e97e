
import Derived.Test.YtgfiniccfpfplaaGreatUC
namespace Go.Proofs.YtgfiniccfpfplaaGreat
open Go Go.Lay
set_option linter.unusedVariables false
set_option linter.unusedSimpArgs false
set_option maxRecDepth 20000
open Go.Sort (swp)
section
variable {Z:St} {b c:Nat} {s:Option Nat} {d:Array Rec} {g:FuncId} {gc:List Value} {lt:Rec->Rec->Bool} {V:Rec->Prop}
theorem heapS_c {a B:Nat} (h:Dt Z b s d) (hc:Cmp g gc lt V) (hv:xQ V d) (ha:a<=B) (hB:B<=d.size) (hn:d.size<=1000000) :
  uH 107 [.slice (some ⟨b,0,s⟩) d.size c,iV (a:Int),iV (B:Int),.func (.func g) ⟨[]⟩ ⟨gc⟩] (.tuple ⟨[]⟩) Z b s d (Go.Sort.heapSort lt d a B):=by
 have e1:Int.tdiv (((B:Int)-(a:Int))-1) 2=(((B-a-1) / 2:Nat):Int):=by
  by_cases h0:B=a
  ·subst h0;have:((B:Int)-(B:Int))-1=-1:=by omega
   rw [this];have:B-B-1=0:=by omega
   rw [this];rfl
  ·rw [Int.tdiv_eq_ediv_of_nonneg (by omega)];omega
 have e2:(B:Int)-(a:Int)=((B-a:Nat):Int):=by omega
 refine uH.of h (heapS_ra (by rw [<- vT,e1,zWF (by omega) (by omega)]) (P0:=fun τ=>∃ dk,W Z τ b s d dk/\dk.size=d.size/\xQ V dk/\Go.Sort.heapPop lt a (B-a) dk=Go.Sort.heapSort lt d a B)
  (yNJ (Inv:=fun k i τ=>∃ dk,i=(k:Int)-1/\k<=(B-a-1) / 2+1/\W Z τ b s d dk/\dk.size=d.size/\xQ V dk/\Go.Sort.heapPop lt a (B-a) (Go.Sort.heapBuild lt (B-a) a k dk)=Go.Sort.heapSort lt d a B) ?_ ((B-a-1) / 2+1) _ Z.re ⟨d,by rw [e1];omega,by omega,W.start h,rfl,hv,rfl⟩) ?_)
 ·rintro k i τ ⟨dk,rfl,hk,w,hsz,hall,ht⟩;cases k with
  | zero=>exact heapS_s1b ⟨dk,w,hsz,hall,ht⟩ (by omega)
  | succ k =>
   have hs:=yXN (c:=c) (lo:=k) (hi:=B-a) (first:=a) w.dt hc hall (by omega) (by omega) (by omega);obtain ⟨τ',k1,w'⟩:=w.call hs;rw [hsz] at k1;rw [<- e2] at k1;rw [show ((k+1:Nat):Int)-1=(k:Int) by omega];exact heapS_s1a k1 ⟨k,by omega,_,by omega,by omega,w',by rw [zCB lt _ _ _ _ _ (Nat.le_refl _),hsz],zCX lt _ _ _ _ _ (Nat.le_refl _) (by omega) hall,ht⟩ (by omega)
 ·rintro τ ⟨dk0,w0,hsz0,hall0,ht0⟩;refine yNH (P2:=fun τ=>W Z τ b s d (Go.Sort.heapSort lt d a B)) (yNI (Inv:=fun k i τ=>∃ dk,i=(k:Int)-1/\k<=B-a/\W Z τ b s d dk/\dk.size=d.size/\xQ V dk/\Go.Sort.heapPop lt a k dk=Go.Sort.heapSort lt d a B) ?_ (B-a) _ τ ⟨dk0,by omega,Nat.le_refl _,w0,hsz0,hall0,ht0⟩) (fun τ hw=>yNG ⟨rfl,hw⟩) (by omega);rintro k i τ ⟨dk,rfl,hk,w,hsz,hall,ht⟩;cases k with
  | zero=>exact heapS_s2b (by rw [<- ht];exact w) (by omega)
  | succ k =>
   have b1:a+k<dk.size:=by omega
   have b2:a<dk.size:=by omega
   rw [show ((k+1:Nat):Int)-1=(k:Int) by omega];have l1:=w.dt.ldN (i:=(a:Int)+(k:Int)) (k:=a+k) (by omega) b1;have l2:=w.dt.ldN (i:=(a:Int)) (k:=a) rfl b2;obtain ⟨τ1,τ2,s1,s2,w2⟩:=w.swapN (i:=(a:Int)) (j:=(a:Int)+(k:Int)) (p:=a) (q:=a+k) rfl (by omega) b2 b1;have hall2:=hall.swp b2 b1;have hs:=yXN (c:=c) (lo:=0) (hi:=k) (first:=a) w2.dt hc hall2 (by rw [yX];omega) (by rw [yX];omega) (by omega);obtain ⟨τ',k1,w'⟩:=w2.call hs;rw [yX,hsz] at k1;exact heapS_s2a l1 l2 s1 s2 k1 ⟨k,by omega,_,by omega,by omega,w',by rw [zCB lt _ _ _ _ _ (Nat.le_refl _),yX,hsz],zCX lt _ _ _ _ _ (Nat.le_refl _) (by rw [yX];omega) hall2,ht⟩ (by omega) (by omega) (by omega) (by omega)
theorem part_c {a B pivot:Nat} (h:Dt Z b s d) (hc:Cmp g gc lt V) (hv:xQ V d) (ha:a<=pivot) (hp:pivot<B) (hB:B<=d.size) (hn:d.size<=1000000) :
  uH 113 [.slice (some ⟨b,0,s⟩) d.size c,iV (a:Int),iV (B:Int),iV (pivot:Int),.func (.func g) ⟨[]⟩ ⟨gc⟩] (.tuple ⟨[iV ((Go.Sort.partition lt d a B pivot).1:Int),.bool (Go.Sort.partition lt d a B pivot).2.1]⟩) Z b s d (Go.Sort.partition lt d a B pivot).2.2:=by
 have w0:=W.start h;obtain ⟨τ1,τ2,s1,s2,w1⟩:=w0.swapN (i:=(a:Int)) (j:=(pivot:Int)) (p:=a) (q:=pivot) rfl rfl (by omega) (by omega);obtain ⟨d1,hd1⟩:∃ d1,d1=swp d a pivot:=⟨_,rfl⟩;have hall1:xQ V d1:=by rw [hd1];exact hv.swp (by omega) (by omega)
 have hsz1:d1.size=d.size:=by rw [hd1,yX]
 rw [<- hd1] at w1;have l0:=w0.dt.ldN (i:=(pivot:Int)) (k:=pivot) rfl (by omega);have l0':=w0.dt.ldN (i:=(a:Int)) (k:=a) rfl (by omega);obtain ⟨i1,hi1⟩:∃ i1,i1=Go.Sort.scanUp (fun x=>lt x d1[a]!) d1 (B-1) (a+1):=⟨_,rfl⟩;obtain ⟨j1,hj1⟩:∃ j1,j1=Go.Sort.scanDown (fun x=>!lt x d1[a]!) d1 i1 (B-1):=⟨_,rfl⟩;have hres:Go.Sort.partition lt d a B pivot=if i1 > j1 then (j1,true,swp d1 j1 a) else ((Go.Sort.partLoop lt a (i1+1) (j1-1) (swp d1 i1 j1)).1,false,swp (Go.Sort.partLoop lt a (i1+1) (j1-1) (swp d1 i1 j1)).2 (Go.Sort.partLoop lt a (i1+1) (j1-1) (swp d1 i1 j1)).1 a):=by
  unfold Go.Sort.partition;simp only [<- hd1,<- hi1,<- hj1]
 refine uH.of h (part_ra l0 l0' s1 s2 (P0:=fun i τ=>i=(i1:Int)/\a+1<=i1/\i1<=B/\W Z τ b s d d1)
  (yTE (Inv:=fun k i τ=>∃ p:Nat,i=p/\p+k=B/\a+1<=p/\W Z τ b s d d1/\Go.Sort.scanUp (fun x=>lt x d1[a]!) d1 (B-1) p=i1) ?_ (B-(a+1)) _ τ2 ⟨a+1,by omega,by omega,by omega,w1,hi1.symm⟩) ?_)
 ·rintro k i τ ⟨p,rfl,hk,hap,w,ht⟩;by_cases hpj:p<=B-1;rotate_left
  ·rw [Go.Sort.scanUp,if_neg (by simp;omega)] at ht;exact part_s1c ⟨by rw [ht],by omega,by omega,w⟩ (by omega)
  have lp:=w.dt.ldN (i:=(p:Int)) (k:=p) rfl (by omega);have la:=w.dt.ldN (i:=(a:Int)) (k:=a) rfl (by omega);obtain ⟨n,cn,⟨m1,hl⟩ | ⟨m1,hl⟩⟩:=hc.at_ (τ:=τ) hall1 (i:=p) (j:=a) (by omega) (by omega)
  ·rw [Go.Sort.scanUp,if_pos (by simp [hl];omega)] at ht;exact part_s1a lp la cn ⟨k-1,by omega,p+1,by omega,by omega,by omega,w,ht⟩
  ·rw [Go.Sort.scanUp,if_neg (by simp [hl])] at ht;exact part_s1b lp la cn ⟨by rw [ht],by omega,by omega,w⟩
 rintro i τ ⟨rfl,hai,hiB,w⟩;refine ySZ (P2:=fun j τ=>j=(j1:Int)/\j1<B/\i1<=j1+1/\W Z τ b s d d1)
  (yTD (Inv:=fun k j τ=>∃ q:Nat,j=q/\q=k/\q<B/\i1<=q+1/\W Z τ b s d d1/\Go.Sort.scanDown (fun x=>!lt x d1[a]!) d1 i1 q=j1) ?_ (B-1) _ τ ⟨B-1,by omega,rfl,by omega,by omega,w,hj1.symm⟩) ?_
 ·rintro k j τ ⟨q,rfl,rfl,hqB,hiq,w,ht⟩;by_cases hij:i1<=q;rotate_left
  ·have e:j1=q:=by
    cases q with
    | zero=>rw [<- ht];rfl
    | succ q=>rw [<- ht,Go.Sort.scanDown,if_neg (by simp;omega)]
   exact part_s2c ⟨by rw [e],by omega,by omega,w⟩ (by omega)
  obtain ⟨q',rfl⟩:∃ q',q=q'+1:=⟨q-1,by omega⟩;have lp:=w.dt.ldN (i:=((q'+1:Nat):Int)) (k:=q'+1) rfl (by omega);have la:=w.dt.ldN (i:=(a:Int)) (k:=a) rfl (by omega);obtain ⟨n,cn,⟨m1,hl⟩ | ⟨m1,hl⟩⟩:=hc.at_ (τ:=τ) hall1 (i:=q'+1) (j:=a) (by omega) (by omega)
  ·rw [Go.Sort.scanDown,if_neg (by simp [hl])] at ht;exact part_s2a lp la cn ⟨by rw [ht],by omega,by omega,w⟩
  ·rw [Go.Sort.scanDown,if_pos (by simp [hl];omega)] at ht;exact part_s2b lp la cn ⟨q',by omega,q',by omega,rfl,by omega,by omega,w,ht⟩
 rintro j τ ⟨rfl,hjB,hij1,w⟩;by_cases hgt:i1 > j1
 ·rw [if_pos hgt] at hres;have lj:=w.dt.ldN (i:=(j1:Int)) (k:=j1) rfl (by omega);have la:=w.dt.ldN (i:=(a:Int)) (k:=a) rfl (by omega);obtain ⟨τ3,τ4,t1,t2,w4⟩:=w.swapN (i:=(j1:Int)) (j:=(a:Int)) (p:=j1) (q:=a) rfl rfl (by omega) (by omega);exact ySY la lj t1 t2 ⟨by rw [hres],by rw [hres];exact w4⟩
 rw [if_neg hgt] at hres;have lj:=w.dt.ldN (i:=(j1:Int)) (k:=j1) rfl (by omega);have li:=w.dt.ldN (i:=(i1:Int)) (k:=i1) rfl (by omega);obtain ⟨τ3,τ4,t1,t2,w4⟩:=w.swapN (i:=(i1:Int)) (j:=(j1:Int)) (p:=i1) (q:=j1) rfl rfl (by omega) (by omega);obtain ⟨R,hR⟩:∃ R,R=Go.Sort.partLoop lt a (i1+1) (j1-1) (swp d1 i1 j1):=⟨_,rfl⟩;rw [<- hR] at hres;have hall4:=hall1.swp (i:=i1) (j:=j1) (by omega) (by omega);refine ySX lj li t1 t2 (P4:=fun j τ=>j=(R.1:Int)/\R.1<B/\a<=R.1/\R.2.size=d.size/\W Z τ b s d R.2)
  (yTC (Inv:=fun k i j τ=>∃ (p q:Nat) (dk:Array Rec),i=p/\j=q/\k=q+1-p/\a+1<=p/\q<B/\a<=q/\p<=q+2/\dk.size=d.size/\xQ V dk/\W Z τ b s d dk/\Go.Sort.partLoop lt a p q dk=R) ?_ (j1-1+1-(i1+1)) _ _ τ4 ⟨i1+1,j1-1,_,by omega,by omega,rfl,by omega,by omega,by omega,by omega,by rw [yX,hsz1],hall4,w4,hR.symm⟩) ?_
 rotate_left
 ·rintro j τ ⟨rfl,hRB,hRa,hRs,w⟩;have lj:=w.dt.ldN (i:=(R.1:Int)) (k:=R.1) rfl (by omega);have la:=w.dt.ldN (i:=(a:Int)) (k:=a) rfl (by omega);obtain ⟨τ5,τ6,t1,t2,w6⟩:=w.swapN (i:=(R.1:Int)) (j:=(a:Int)) (p:=R.1) (q:=a) rfl rfl (by omega) (by omega);exact ySW la lj t1 t2 ⟨by rw [hres],by rw [hres];exact w6⟩
 rintro k i j τ ⟨p,q,dk,rfl,rfl,hk,hap,hqB,haq,hpq,hsz,hall,w,ht⟩;obtain ⟨i2,hi2⟩:∃ i2,i2=Go.Sort.scanUp (fun x=>lt x dk[a]!) dk q p:=⟨_,rfl⟩;obtain ⟨j2,hj2⟩:∃ j2,j2=Go.Sort.scanDown (fun x=>!lt x dk[a]!) dk i2 q:=⟨_,rfl⟩;have hstep:Go.Sort.partLoop lt a p q dk=if i2 > j2 then (j2,dk) else if (j2-1)+1-(i2+1)<q+1-p then Go.Sort.partLoop lt a (i2+1) (j2-1) (swp dk i2 j2) else (j2,dk):=by
  conv=>lhs;unfold Go.Sort.partLoop
  simp only [dite_eq_ite,<- hi2,<- hj2]
 refine part_s3a (P6:=fun i τ=>i=(i2:Int)/\p<=i2/\i2<=q+2/\(i2<=q+1\/i2=p)/\W Z τ b s d dk)
  (yTB (Inv:=fun k i τ=>∃ u:Nat,i=u/\u+k=q+2/\p<=u/\(u<=q+1\/u=p)/\W Z τ b s d dk/\Go.Sort.scanUp (fun x=>lt x dk[a]!) dk q u=i2) ?_ (q+2-p) _ τ ⟨p,rfl,by omega,Nat.le_refl _,.inr rfl,w,hi2.symm⟩) ?_
 ·rintro k i τ ⟨u,rfl,hk,hpu,huq,w,ht⟩;by_cases hpj:u<=q;rotate_left
  ·rw [Go.Sort.scanUp,if_neg (by simp;omega)] at ht;exact part_s4c ⟨by rw [ht],by omega,by omega,by omega,w⟩ (by omega)
  have lp:=w.dt.ldN (i:=(u:Int)) (k:=u) rfl (by omega);have la:=w.dt.ldN (i:=(a:Int)) (k:=a) rfl (by omega);obtain ⟨n,cn,⟨m1,hl⟩ | ⟨m1,hl⟩⟩:=hc.at_ (τ:=τ) hall (i:=u) (j:=a) (by omega) (by omega)
  ·rw [Go.Sort.scanUp,if_pos (by simp [hl];omega)] at ht;exact part_s4a lp la cn ⟨k-1,by omega,u+1,by omega,by omega,by omega,by omega,w,ht⟩
  ·rw [Go.Sort.scanUp,if_neg (by simp [hl])] at ht;exact part_s4b lp la cn ⟨by rw [ht],by omega,by omega,by omega,w⟩
 rintro i τ ⟨rfl,hpi,hiq,hiq2,w⟩;refine ySV (P8:=fun j τ=>j=(j2:Int)/\j2<=q/\(i2<=j2+1\/j2=q)/\W Z τ b s d dk)
  (yTA (Inv:=fun k j τ=>∃ v:Nat,j=v/\v=k/\v<=q/\(i2<=v+1\/v=q)/\W Z τ b s d dk/\Go.Sort.scanDown (fun x=>!lt x dk[a]!) dk i2 v=j2) ?_ q _ τ ⟨q,rfl,rfl,Nat.le_refl _,.inr rfl,w,hj2.symm⟩) ?_
 ·rintro k j τ ⟨v,rfl,rfl,hvq,hiv,w,ht⟩;by_cases hij:i2<=v;rotate_left
  ·have e:j2=v:=by
    cases v with
    | zero=>rw [<- ht];rfl
    | succ v=>rw [<- ht,Go.Sort.scanDown,if_neg (by simp;omega)]
   exact part_s5c ⟨by rw [e],by omega,by omega,w⟩ (by omega)
  obtain ⟨v',rfl⟩:∃ v',v=v'+1:=⟨v-1,by omega⟩;have lp:=w.dt.ldN (i:=((v'+1:Nat):Int)) (k:=v'+1) rfl (by omega);have la:=w.dt.ldN (i:=(a:Int)) (k:=a) rfl (by omega);obtain ⟨n,cn,⟨m1,hl⟩ | ⟨m1,hl⟩⟩:=hc.at_ (τ:=τ) hall (i:=v'+1) (j:=a) (by omega) (by omega)
  ·rw [Go.Sort.scanDown,if_neg (by simp [hl])] at ht;exact part_s5a lp la cn ⟨by rw [ht],by omega,by omega,w⟩
  ·rw [Go.Sort.scanDown,if_pos (by simp [hl];omega)] at ht;exact part_s5b lp la cn ⟨v',by omega,v',by omega,rfl,by omega,by omega,w,ht⟩
 rintro j τ ⟨rfl,hjq,hij2,w⟩;by_cases hgt:i2 > j2
 ·rw [if_pos hgt] at hstep;have e:R=(j2,dk):=by rw [<- ht,hstep]
  exact ySU ⟨by rw [e],by rw [e];show j2<B;omega,by rw [e];show a<=j2;omega,by rw [e];exact hsz,by rw [e];exact w⟩ (by omega)
 rw [if_neg hgt,if_pos (by omega)] at hstep;have lj:=w.dt.ldN (i:=(j2:Int)) (k:=j2) rfl (by omega);have li:=w.dt.ldN (i:=(i2:Int)) (k:=i2) rfl (by omega);obtain ⟨τ5,τ6,t1,t2,w6⟩:=w.swapN (i:=(i2:Int)) (j:=(j2:Int)) (p:=i2) (q:=j2) rfl rfl (by omega) (by omega);exact yST lj li t1 t2 ⟨j2-1+1-(i2+1),by omega,i2+1,j2-1,_,by omega,by omega,rfl,by omega,by omega,by omega,by omega,by rw [yX,hsz],hall.swp (by omega) (by omega),w6,by rw [<- hstep,ht]⟩
end
end Go.Proofs.YtgfiniccfpfplaaGreat
