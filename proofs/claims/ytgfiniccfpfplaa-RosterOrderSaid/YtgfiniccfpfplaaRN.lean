import Derived.Test.YtgfiniccfpfplaaUB
import Derived.Test.YtgfiniccfpfplaaTy
import Derived.Test.YtgfiniccfpfplaaLayD
set_option linter.unusedVariables false
set_option linter.unusedSimpArgs false
set_option maxRecDepth 20000
namespace Go.Proofs.Ytgfiniccfpfplaa
open Go Go.Lay
open Try renaming prog → Pg
section
open Go.Sort (swp)
section
variable {σ:St} {b c:Nat} {s:Option Nat} {d:Array Rec} {g:FuncId} {gc:List Value} {lt:Rec→Rec→Bool} {V:Rec→Prop}
theorem Cmp.at_ (hc:Cmp g gc lt V) {τ:St} {dk:Array Rec} (hv:xV V dk) {i j:Nat} (hi:i<dk.size) (hj:j<dk.size):∃ n:Int,zD Try.prog g (zEI dk[i]! :: zEI dk[j]! :: gc) τ (iV n) τ∧((n<0∧lt dk[i]! dk[j]! = true)∨(¬ n<0∧lt dk[i]! dk[j]! = false)):=by
 obtain ⟨n,h1,h2⟩:=hc τ dk[i]! dk[j]! (hv i hi) (hv j hj);refine ⟨n,h1, ?_⟩
 by_cases h:n<0
 ·exact .inl ⟨h,h2.1 h⟩
 ·exact .inr ⟨h,by rw [Bool.eq_false_iff];exact fun e=>h (h2.2 e)⟩
theorem Dt.ldN {τ:St} {dk:Array Rec} (h:Dt τ b s dk) {i:Int} {k:Nat} (e:i=(k:Int)) (hk:k<dk.size):zB Try.prog τ 47 (zN ⟨b,0,s⟩ (Int.toNat i*3))=some (zEI dk[k]!):=by
 subst e;exact h.ld (by omega) (by omega)
theorem W.swapN {τ:St} {dk:Array Rec} (w:W σ τ b s d dk) {i j:Int} {p q:Nat} (ei:i=(p:Int)) (ej:j=(q:Int)) (hp:p<dk.size) (hq:q<dk.size) :
  ∃ τ1 τ2,zQ Try.prog (evL [.pointer (some (zN ⟨b,0,s⟩ (Int.toNat i*3))),zEI dk[q]!]) τ (.store 47 (.tmp 0) (.tmp 1))=some (undef,τ1) ∧
   zQ Try.prog (evL [.pointer (some (zN ⟨b,0,s⟩ (Int.toNat j*3))),zEI dk[p]!]) τ1 (.store 47 (.tmp 0) (.tmp 1))=some (undef,τ2)∧W σ τ2 b s d (swp dk p q):=by
 subst ei ej;have:=w.swap (i:=(p:Int)) (j:=(q:Int)) (by omega) (by omega) (by omega) (by omega);simpa only [Int.toNat_natCast] using this
theorem yJT (lt:Rec→Rec→Bool) (hi first root:Nat) (d:Array Rec):Go.Sort.siftDown lt hi first root d=(if 2*root+1 ≥ hi then d else
  if 2*root+1+1<hi && lt d[first+(2*root+1)]! d[first+(2*root+1)+1]! then
   if !lt d[first+root]! d[first+(2*root+2)]! then d else
    if 2*root+2<hi then Go.Sort.siftDown lt hi first (2*root+2) (swp d (first+root) (first+(2*root+2))) else d
  else
   if !lt d[first+root]! d[first+(2*root+1)]! then d else Go.Sort.siftDown lt hi first (2*root+1) (swp d (first+root) (first+(2*root+1)))):=by
 conv=>lhs;unfold Go.Sort.siftDown
 simp only [dite_eq_ite]
theorem zCE (lt:Rec→Rec→Bool) (hi first:Nat):∀ (k root:Nat) (d:Array Rec),hi-root≤k→(Go.Sort.siftDown lt hi first root d).size=d.size
 | 0,root,d,hk=>by unfold Go.Sort.siftDown;rw [dif_pos (by omega)]
 | k+1,root,d,hk=>by
  unfold Go.Sort.siftDown;split
  ·rfl
  ·split
   ·split
    ·rfl
    ·split
     ·rw [zCE lt hi first k _ _ (by omega),xA]
     ·rfl
   ·split
    ·rfl
    ·rw [zCE lt hi first k _ _ (by omega),xA]
theorem zCX (lt:Rec→Rec→Bool) (hi first:Nat) {V:Rec→Prop}:∀ (k root:Nat) (d:Array Rec),hi-root≤k→first+hi≤d.size→xV V d→xV V (Go.Sort.siftDown lt hi first root d)
 | 0,root,d,hk,hs,h=>by unfold Go.Sort.siftDown;rw [dif_pos (by omega)];exact h
 | k+1,root,d,hk,hs,h=>by
  unfold Go.Sort.siftDown;split
  ·exact h
  ·rename_i h1;split
   ·split
    ·exact h
    ·split
     ·rename_i h2;exact zCX lt hi first k _ _ (by omega) (by rw [xA];exact hs) (h.swp (by omega) (by omega))
     ·exact h
   ·split
    ·exact h
    ·exact zCX lt hi first k _ _ (by omega) (by rw [xA];exact hs) (h.swp (by omega) (by omega))
theorem yXA {lo hi first:Nat} (h:Dt σ b s d) (hc:Cmp g gc lt V) (hv:xV V d) (hB:first+hi≤d.size) (hn:d.size≤1000000) (hlo:lo≤1000000) :
  uS 95 [.slice (some ⟨b,0,s⟩) d.size c,iV (lo:Int),iV (hi:Int),iV (first:Int),.func (.func g) ⟨[]⟩ ⟨gc⟩] (.tuple ⟨[]⟩) σ b s d (Go.Sort.siftDown lt hi first lo d):=by
 refine uS.of h (xGR (P0:=fun τ=>W σ τ b s d (Go.Sort.siftDown lt hi first lo d)) (Pr:=fun τ=>W σ τ b s d (Go.Sort.siftDown lt hi first lo d)) (yJW (Inv:=fun k i τ=>∃ (r:Nat) (dk:Array Rec),i=r∧k=hi-r∧r≤1000000+2*hi+2∧W σ τ b s d dk∧dk.size=d.size∧xV V dk∧Go.Sort.siftDown lt hi first r dk=Go.Sort.siftDown lt hi first lo d) ?_ (hi-lo) _ σ.re ⟨lo,d,rfl,rfl,by omega,W.start h,rfl,hv,rfl⟩) (fun τ hw=>yJV ⟨rfl,hw⟩) (fun τ hw=>yJU ⟨rfl,hw⟩));rintro k i τ ⟨r,dk,rfl,hk,hr,w,hsz,hall,ht⟩;by_cases h1:2*r+1 ≥ hi
 ·have e:Go.Sort.siftDown lt hi first r dk=dk:=by unfold Go.Sort.siftDown;rw [dif_pos h1]
  exact xAD (by rw [← ht,e];exact w) (by omega) (by omega) (by omega)
 have e0:=yJT lt hi first r dk
 rw [if_neg h1] at e0;have bR:first+r<dk.size:=by omega
 have bC:first+(2*r+1)<dk.size:=by omega
 have lR:=w.dt.ldN (i:=(first:Int)+(r:Int)) (k:=first+r) (by omega) bR;have lC:=w.dt.ldN (i:=(first:Int)+(2*(r:Int)+1)) (k:=first+(2*r+1)) (by omega) bC;obtain ⟨nC,cC,hC⟩:=hc.at_ (τ:=τ) hall bR bC;by_cases h2:2*r+1+1<hi
 ·have bD:first+(2*r+2)<dk.size:=by omega
  have lD1:=w.dt.ldN (i:=(first:Int)+(2*(r:Int)+1)+1) (k:=first+(2*r+2)) (by omega) bD;have lD2:=w.dt.ldN (i:=(first:Int)+(2*(r:Int)+1+1)) (k:=first+(2*r+2)) (by omega) bD;obtain ⟨n1,c1,hc1⟩:=hc.at_ (τ:=τ) hall bC bD;obtain ⟨n2,c2,hc2⟩:=hc.at_ (τ:=τ) hall bR bD;have eD:first+(2*r+1)+1=first+(2*r+2):=by omega
  rcases hc1 with ⟨m1,l1⟩ | ⟨m1,l1⟩
  ·rw [if_pos (by simp [h2,eD,l1])] at e0;rcases hc2 with ⟨m2,l2⟩ | ⟨m2,l2⟩
   ·rw [if_neg (by simp [l2]),if_pos (by omega)] at e0;obtain ⟨τ1,τ2,s1,s2,w2⟩:=w.swapN (i:=(first:Int)+(r:Int)) (j:=(first:Int)+(2*(r:Int)+1+1)) (p:=first+r) (q:=first+(2*r+2)) (by omega) (by omega) bR bD;exact xAC ⟨lC,lD1,c1,lR,lD2,c2⟩ s1 s2 ⟨hi-(2*r+2),by omega,2*r+2,_,by omega,rfl,by omega,w2,by rw [xA,hsz],hall.swp bR bD,by rw [← e0,ht]⟩ (by omega) (by omega) (by omega) (by omega) (by omega) (by omega) (by omega) (by omega) (by omega) (by omega) (by omega) (by omega) (by omega) (by omega) (by omega)
   ·rw [if_pos (by simp [l2])] at e0;exact xAB ⟨lC,lD1,c1,lR,lD2,c2⟩ (by rw [← ht,e0];exact w)
  ·rw [if_neg (by simp [eD,l1])] at e0;rcases hC with ⟨m2,l2⟩ | ⟨m2,l2⟩
   ·rw [if_neg (by simp [l2])] at e0;obtain ⟨τ1,τ2,s1,s2,w2⟩:=w.swapN (i:=(first:Int)+(r:Int)) (j:=(first:Int)+(2*(r:Int)+1)) (p:=first+r) (q:=first+(2*r+1)) (by omega) (by omega) bR bC;exact xAA lC lD1 c1 lR cC s1 s2 ⟨hi-(2*r+1),by omega,2*r+1,_,by omega,rfl,by omega,w2,by rw [xA,hsz],hall.swp bR bC,by rw [← e0,ht]⟩
   ·rw [if_pos (by simp [l2])] at e0;exact yZZ lC lD1 c1 lR cC (by rw [← ht,e0];exact w)
 ·rw [if_neg (by simp [show ¬ 2*r+1+1<hi from h2])] at e0;rcases hC with ⟨m2,l2⟩ | ⟨m2,l2⟩
  ·rw [if_neg (by simp [l2])] at e0;obtain ⟨τ1,τ2,s1,s2,w2⟩:=w.swapN (i:=(first:Int)+(r:Int)) (j:=(first:Int)+(2*(r:Int)+1)) (p:=first+r) (q:=first+(2*r+1)) (by omega) (by omega) bR bC;exact yZY lR lC cC s1 s2 ⟨hi-(2*r+1),by omega,2*r+1,_,by omega,rfl,by omega,w2,by rw [xA,hsz],hall.swp bR bC,by rw [← e0,ht]⟩
  ·rw [if_pos (by simp [l2])] at e0;exact yZX lR lC cC (by rw [← ht,e0];exact w)
end
end
section
open Go.Sort (swp)
section
variable {σ:St} {b c:Nat} {s:Option Nat} {d:Array Rec} {g:FuncId} {gc:List Value} {lt:Rec→Rec→Bool} {V:Rec→Prop}
theorem xRA {a B:Nat} (h:Dt σ b s d) (hc:Cmp g gc lt V) (hv:xV V d) (ha:a≤B) (hB:B≤d.size) (hn:d.size≤1000000) :
  uS 81 [.slice (some ⟨b,0,s⟩) d.size c,iV (a:Int),iV (B:Int),.func (.func g) ⟨[]⟩ ⟨gc⟩] (.tuple ⟨[]⟩) σ b s d (Go.Sort.heapSort lt d a B):=by
 have e1:Int.tdiv (((B:Int)-(a:Int))-1) 2=(((B-a-1) / 2:Nat):Int):=by
  by_cases h0:B=a
  ·subst h0;have:((B:Int)-(B:Int))-1=-1:=by omega
   rw [this];have:B-B-1=0:=by omega
   rw [this];rfl
  ·rw [Int.tdiv_eq_ediv_of_nonneg (by omega)];omega
 have e2:(B:Int)-(a:Int)=((B-a:Nat):Int):=by omega
 refine uS.of h (xLA (by rw [← uB,e1,zVR (by omega) (by omega)]) (P0:=fun τ=>∃ dk,W σ τ b s d dk∧dk.size=d.size∧xV V dk∧Go.Sort.heapPop lt a (B-a) dk=Go.Sort.heapSort lt d a B)
  (yMQ (Inv:=fun k i τ=>∃ dk,i=(k:Int)-1∧k≤(B-a-1) / 2+1∧W σ τ b s d dk∧dk.size=d.size∧xV V dk∧Go.Sort.heapPop lt a (B-a) (Go.Sort.heapBuild lt (B-a) a k dk)=Go.Sort.heapSort lt d a B) ?_ ((B-a-1) / 2+1) _ σ.re ⟨d,by rw [e1];omega,by omega,W.start h,rfl,hv,rfl⟩) ?_)
 ·rintro k i τ ⟨dk,rfl,hk,w,hsz,hall,ht⟩;cases k with
  | zero=>exact xDG ⟨dk,w,hsz,hall,ht⟩ (by omega)
  | succ k =>
   have hs:=yXA (c:=c) (lo:=k) (hi:=B-a) (first:=a) w.dt hc hall (by omega) (by omega) (by omega);obtain ⟨τ',k1,w'⟩:=w.call hs;rw [hsz] at k1;rw [← e2] at k1;rw [show ((k+1:Nat):Int)-1=(k:Int) by omega];exact xDH k1 ⟨k,by omega,_,by omega,by omega,w',by rw [zCE lt _ _ _ _ _ (Nat.le_refl _),hsz],zCX lt _ _ _ _ _ (Nat.le_refl _) (by omega) hall,ht⟩ (by omega)
 ·rintro τ ⟨dk0,w0,hsz0,hall0,ht0⟩;refine yMO (P2:=fun τ=>W σ τ b s d (Go.Sort.heapSort lt d a B)) (yMP (Inv:=fun k i τ=>∃ dk,i=(k:Int)-1∧k≤B-a∧W σ τ b s d dk∧dk.size=d.size∧xV V dk∧Go.Sort.heapPop lt a k dk=Go.Sort.heapSort lt d a B) ?_ (B-a) _ τ ⟨dk0,by omega,Nat.le_refl _,w0,hsz0,hall0,ht0⟩) (fun τ hw=>yMN ⟨rfl,hw⟩) (by omega);rintro k i τ ⟨dk,rfl,hk,w,hsz,hall,ht⟩;cases k with
  | zero=>exact xDE (by rw [← ht];exact w) (by omega)
  | succ k =>
   have b1:a+k<dk.size:=by omega
   have b2:a<dk.size:=by omega
   rw [show ((k+1:Nat):Int)-1=(k:Int) by omega];have l1:=w.dt.ldN (i:=(a:Int)+(k:Int)) (k:=a+k) (by omega) b1;have l2:=w.dt.ldN (i:=(a:Int)) (k:=a) rfl b2;obtain ⟨τ1,τ2,s1,s2,w2⟩:=w.swapN (i:=(a:Int)) (j:=(a:Int)+(k:Int)) (p:=a) (q:=a+k) rfl (by omega) b2 b1;have hall2:=hall.swp b2 b1;have hs:=yXA (c:=c) (lo:=0) (hi:=k) (first:=a) w2.dt hc hall2 (by rw [xA];omega) (by rw [xA];omega) (by omega);obtain ⟨τ',k1,w'⟩:=w2.call hs;rw [xA,hsz] at k1;exact xDF l1 l2 s1 s2 k1 ⟨k,by omega,_,by omega,by omega,w',by rw [zCE lt _ _ _ _ _ (Nat.le_refl _),xA,hsz],zCX lt _ _ _ _ _ (Nat.le_refl _) (by rw [xA];omega) hall2,ht⟩ (by omega) (by omega) (by omega) (by omega)
theorem xVB {a B dF:Nat} (h:Dt σ b s d) (hc:Cmp g gc lt V) (hv:xV V d) (ha:a≤dF) (hp:dF<B) (hB:B≤d.size) (hn:d.size≤1000000) :
  uS 87 [.slice (some ⟨b,0,s⟩) d.size c,iV (a:Int),iV (B:Int),iV (dF:Int),.func (.func g) ⟨[]⟩ ⟨gc⟩] (.tuple ⟨[iV ((Go.Sort.partition lt d a B dF).1:Int),.bool (Go.Sort.partition lt d a B dF).2.1]⟩) σ b s d (Go.Sort.partition lt d a B dF).2.2:=by
 have w0:=W.start h;obtain ⟨τ1,τ2,s1,s2,w1⟩:=w0.swapN (i:=(a:Int)) (j:=(dF:Int)) (p:=a) (q:=dF) rfl rfl (by omega) (by omega);obtain ⟨d1,hd1⟩:∃ d1,d1=swp d a dF:=⟨_,rfl⟩;have hall1:xV V d1:=by rw [hd1];exact hv.swp (by omega) (by omega)
 have hsz1:d1.size=d.size:=by rw [hd1,xA]
 rw [← hd1] at w1;have l0:=w0.dt.ldN (i:=(dF:Int)) (k:=dF) rfl (by omega);have l0':=w0.dt.ldN (i:=(a:Int)) (k:=a) rfl (by omega);obtain ⟨i1,hi1⟩:∃ i1,i1=Go.Sort.scanUp (fun x=>lt x d1[a]!) d1 (B-1) (a+1):=⟨_,rfl⟩;obtain ⟨j1,hj1⟩:∃ j1,j1=Go.Sort.scanDown (fun x=>!lt x d1[a]!) d1 i1 (B-1):=⟨_,rfl⟩;have hres:Go.Sort.partition lt d a B dF=if i1 > j1 then (j1,true,swp d1 j1 a) else ((Go.Sort.partLoop lt a (i1+1) (j1-1) (swp d1 i1 j1)).1,false,swp (Go.Sort.partLoop lt a (i1+1) (j1-1) (swp d1 i1 j1)).2 (Go.Sort.partLoop lt a (i1+1) (j1-1) (swp d1 i1 j1)).1 a):=by
  unfold Go.Sort.partition;simp only [← hd1,← hi1,← hj1]
 refine uS.of h (xQA l0 l0' s1 s2 (P0:=fun i τ=>i=(i1:Int)∧a+1≤i1∧i1≤B∧W σ τ b s d d1)
  (ySN (Inv:=fun k i τ=>∃ p:Nat,i=p∧p+k=B∧a+1≤p∧W σ τ b s d d1∧Go.Sort.scanUp (fun x=>lt x d1[a]!) d1 (B-1) p=i1) ?_ (B-(a+1)) _ τ2 ⟨a+1,by omega,by omega,by omega,w1,hi1.symm⟩) ?_)
 ·rintro k i τ ⟨p,rfl,hk,hap,w,ht⟩;by_cases hpj:p≤B-1;rotate_left
  ·rw [Go.Sort.scanUp,if_neg (by simp;omega)] at ht;exact xII ⟨by rw [ht],by omega,by omega,w⟩ (by omega)
  have lp:=w.dt.ldN (i:=(p:Int)) (k:=p) rfl (by omega);have la:=w.dt.ldN (i:=(a:Int)) (k:=a) rfl (by omega);obtain ⟨n,cn,⟨m1,hl⟩ | ⟨m1,hl⟩⟩:=hc.at_ (τ:=τ) hall1 (i:=p) (j:=a) (by omega) (by omega)
  ·rw [Go.Sort.scanUp,if_pos (by simp [hl];omega)] at ht;exact xIK lp la cn ⟨k-1,by omega,p+1,by omega,by omega,by omega,w,ht⟩
  ·rw [Go.Sort.scanUp,if_neg (by simp [hl])] at ht;exact xIJ lp la cn ⟨by rw [ht],by omega,by omega,w⟩
 rintro i τ ⟨rfl,hai,hiB,w⟩;refine ySI (P2:=fun j τ=>j=(j1:Int)∧j1<B∧i1≤j1+1∧W σ τ b s d d1)
  (ySM (Inv:=fun k j τ=>∃ q:Nat,j=q∧q=k∧q<B∧i1≤q+1∧W σ τ b s d d1∧Go.Sort.scanDown (fun x=>!lt x d1[a]!) d1 i1 q=j1) ?_ (B-1) _ τ ⟨B-1,by omega,rfl,by omega,by omega,w,hj1.symm⟩) ?_
 ·rintro k j τ ⟨q,rfl,rfl,hqB,hiq,w,ht⟩;by_cases hij:i1≤q;rotate_left
  ·have e:j1=q:=by
    cases q with
    | zero=>rw [← ht];rfl
    | succ q=>rw [← ht,Go.Sort.scanDown,if_neg (by simp;omega)]
   exact xIF ⟨by rw [e],by omega,by omega,w⟩ (by omega)
  obtain ⟨q',rfl⟩:∃ q',q=q'+1:=⟨q-1,by omega⟩;have lp:=w.dt.ldN (i:=((q'+1:Nat):Int)) (k:=q'+1) rfl (by omega);have la:=w.dt.ldN (i:=(a:Int)) (k:=a) rfl (by omega);obtain ⟨n,cn,⟨m1,hl⟩ | ⟨m1,hl⟩⟩:=hc.at_ (τ:=τ) hall1 (i:=q'+1) (j:=a) (by omega) (by omega)
  ·rw [Go.Sort.scanDown,if_neg (by simp [hl])] at ht;exact xIH lp la cn ⟨by rw [ht],by omega,by omega,w⟩
  ·rw [Go.Sort.scanDown,if_pos (by simp [hl];omega)] at ht;exact xIG lp la cn ⟨q',by omega,q',by omega,rfl,by omega,by omega,w,ht⟩
 rintro j τ ⟨rfl,hjB,hij1,w⟩;by_cases hgt:i1 > j1
 ·rw [if_pos hgt] at hres;have lj:=w.dt.ldN (i:=(j1:Int)) (k:=j1) rfl (by omega);have la:=w.dt.ldN (i:=(a:Int)) (k:=a) rfl (by omega);obtain ⟨τ3,τ4,t1,t2,w4⟩:=w.swapN (i:=(j1:Int)) (j:=(a:Int)) (p:=j1) (q:=a) rfl rfl (by omega) (by omega);exact ySH la lj t1 t2 ⟨by rw [hres],by rw [hres];exact w4⟩
 rw [if_neg hgt] at hres;have lj:=w.dt.ldN (i:=(j1:Int)) (k:=j1) rfl (by omega);have li:=w.dt.ldN (i:=(i1:Int)) (k:=i1) rfl (by omega);obtain ⟨τ3,τ4,t1,t2,w4⟩:=w.swapN (i:=(i1:Int)) (j:=(j1:Int)) (p:=i1) (q:=j1) rfl rfl (by omega) (by omega);obtain ⟨R,hR⟩:∃ R,R=Go.Sort.partLoop lt a (i1+1) (j1-1) (swp d1 i1 j1):=⟨_,rfl⟩;rw [← hR] at hres;have hall4:=hall1.swp (i:=i1) (j:=j1) (by omega) (by omega);refine ySG lj li t1 t2 (P4:=fun j τ=>j=(R.1:Int)∧R.1<B∧a≤R.1∧R.2.size=d.size∧W σ τ b s d R.2)
  (ySL (Inv:=fun k i j τ=>∃ (p q:Nat) (dk:Array Rec),i=p∧j=q∧k=q+1-p∧a+1≤p∧q<B∧a≤q∧p≤q+2∧dk.size=d.size∧xV V dk∧W σ τ b s d dk∧Go.Sort.partLoop lt a p q dk=R) ?_ (j1-1+1-(i1+1)) _ _ τ4 ⟨i1+1,j1-1,_,by omega,by omega,rfl,by omega,by omega,by omega,by omega,by rw [xA,hsz1],hall4,w4,hR.symm⟩) ?_
 rotate_left
 ·rintro j τ ⟨rfl,hRB,hRa,hRs,w⟩;have lj:=w.dt.ldN (i:=(R.1:Int)) (k:=R.1) rfl (by omega);have la:=w.dt.ldN (i:=(a:Int)) (k:=a) rfl (by omega);obtain ⟨τ5,τ6,t1,t2,w6⟩:=w.swapN (i:=(R.1:Int)) (j:=(a:Int)) (p:=R.1) (q:=a) rfl rfl (by omega) (by omega);exact ySF la lj t1 t2 ⟨by rw [hres],by rw [hres];exact w6⟩
 rintro k i j τ ⟨p,q,dk,rfl,rfl,hk,hap,hqB,haq,hpq,hsz,hall,w,ht⟩;obtain ⟨i2,hi2⟩:∃ i2,i2=Go.Sort.scanUp (fun x=>lt x dk[a]!) dk q p:=⟨_,rfl⟩;obtain ⟨j2,hj2⟩:∃ j2,j2=Go.Sort.scanDown (fun x=>!lt x dk[a]!) dk i2 q:=⟨_,rfl⟩;have hstep:Go.Sort.partLoop lt a p q dk=if i2 > j2 then (j2,dk) else if (j2-1)+1-(i2+1)<q+1-p then Go.Sort.partLoop lt a (i2+1) (j2-1) (swp dk i2 j2) else (j2,dk):=by
  conv=>lhs;unfold Go.Sort.partLoop
  simp only [dite_eq_ite,← hi2,← hj2]
 refine xIE (P6:=fun i τ=>i=(i2:Int)∧p≤i2∧i2≤q+2∧(i2≤q+1∨i2=p)∧W σ τ b s d dk)
  (ySK (Inv:=fun k i τ=>∃ u:Nat,i=u∧u+k=q+2∧p≤u∧(u≤q+1∨u=p)∧W σ τ b s d dk∧Go.Sort.scanUp (fun x=>lt x dk[a]!) dk q u=i2) ?_ (q+2-p) _ τ ⟨p,rfl,by omega,Nat.le_refl _,.inr rfl,w,hi2.symm⟩) ?_
 ·rintro k i τ ⟨u,rfl,hk,hpu,huq,w,ht⟩;by_cases hpj:u≤q;rotate_left
  ·rw [Go.Sort.scanUp,if_neg (by simp;omega)] at ht;exact xIB ⟨by rw [ht],by omega,by omega,by omega,w⟩ (by omega)
  have lp:=w.dt.ldN (i:=(u:Int)) (k:=u) rfl (by omega);have la:=w.dt.ldN (i:=(a:Int)) (k:=a) rfl (by omega);obtain ⟨n,cn,⟨m1,hl⟩ | ⟨m1,hl⟩⟩:=hc.at_ (τ:=τ) hall (i:=u) (j:=a) (by omega) (by omega)
  ·rw [Go.Sort.scanUp,if_pos (by simp [hl];omega)] at ht;exact xID lp la cn ⟨k-1,by omega,u+1,by omega,by omega,by omega,by omega,w,ht⟩
  ·rw [Go.Sort.scanUp,if_neg (by simp [hl])] at ht;exact xIC lp la cn ⟨by rw [ht],by omega,by omega,by omega,w⟩
 rintro i τ ⟨rfl,hpi,hiq,hiq2,w⟩;refine ySE (P8:=fun j τ=>j=(j2:Int)∧j2≤q∧(i2≤j2+1∨j2=q)∧W σ τ b s d dk)
  (ySJ (Inv:=fun k j τ=>∃ v:Nat,j=v∧v=k∧v≤q∧(i2≤v+1∨v=q)∧W σ τ b s d dk∧Go.Sort.scanDown (fun x=>!lt x dk[a]!) dk i2 v=j2) ?_ q _ τ ⟨q,rfl,rfl,Nat.le_refl _,.inr rfl,w,hj2.symm⟩) ?_
 ·rintro k j τ ⟨v,rfl,rfl,hvq,hiv,w,ht⟩;by_cases hij:i2≤v;rotate_left
  ·have e:j2=v:=by
    cases v with
    | zero=>rw [← ht];rfl
    | succ v=>rw [← ht,Go.Sort.scanDown,if_neg (by simp;omega)]
   exact xHY ⟨by rw [e],by omega,by omega,w⟩ (by omega)
  obtain ⟨v',rfl⟩:∃ v',v=v'+1:=⟨v-1,by omega⟩;have lp:=w.dt.ldN (i:=((v'+1:Nat):Int)) (k:=v'+1) rfl (by omega);have la:=w.dt.ldN (i:=(a:Int)) (k:=a) rfl (by omega);obtain ⟨n,cn,⟨m1,hl⟩ | ⟨m1,hl⟩⟩:=hc.at_ (τ:=τ) hall (i:=v'+1) (j:=a) (by omega) (by omega)
  ·rw [Go.Sort.scanDown,if_neg (by simp [hl])] at ht;exact xIA lp la cn ⟨by rw [ht],by omega,by omega,w⟩
  ·rw [Go.Sort.scanDown,if_pos (by simp [hl];omega)] at ht;exact xHZ lp la cn ⟨v',by omega,v',by omega,rfl,by omega,by omega,w,ht⟩
 rintro j τ ⟨rfl,hjq,hij2,w⟩;by_cases hgt:i2 > j2
 ·rw [if_pos hgt] at hstep;have e:R=(j2,dk):=by rw [← ht,hstep]
  exact ySD ⟨by rw [e],by rw [e];show j2<B;omega,by rw [e];show a≤j2;omega,by rw [e];exact hsz,by rw [e];exact w⟩ (by omega)
 rw [if_neg hgt,if_pos (by omega)] at hstep;have lj:=w.dt.ldN (i:=(j2:Int)) (k:=j2) rfl (by omega);have li:=w.dt.ldN (i:=(i2:Int)) (k:=i2) rfl (by omega);obtain ⟨τ5,τ6,t1,t2,w6⟩:=w.swapN (i:=(i2:Int)) (j:=(j2:Int)) (p:=i2) (q:=j2) rfl rfl (by omega) (by omega);exact ySC lj li t1 t2 ⟨j2-1+1-(i2+1),by omega,i2+1,j2-1,_,by omega,by omega,rfl,by omega,by omega,by omega,by omega,by rw [xA,hsz],hall.swp (by omega) (by omega),w6,by rw [← hstep,ht]⟩
end
end
section
open Go.Sort (swp)
section
variable {σ:St} {b c:Nat} {s:Option Nat} {d:Array Rec} {g:FuncId} {gc:List Value} {lt:Rec→Rec→Bool} {V:Rec→Prop}
theorem xIQ {a B dF:Nat} (h:Dt σ b s d) (hc:Cmp g gc lt V) (hv:xV V d) (ha:a≤dF) (hp:dF<B) (hB:B≤d.size) (hn:d.size≤1000000) :
  uS 86 [.slice (some ⟨b,0,s⟩) d.size c,iV (a:Int),iV (B:Int),iV (dF:Int),.func (.func g) ⟨[]⟩ ⟨gc⟩] (iV ((Go.Sort.partitionEqual lt d a B dF).1:Int)) σ b s d (Go.Sort.partitionEqual lt d a B dF).2:=by
 have w0:=W.start h;obtain ⟨τ1,τ2,s1,s2,w1⟩:=w0.swapN (i:=(a:Int)) (j:=(dF:Int)) (p:=a) (q:=dF) rfl rfl (by omega) (by omega);have l0:=w0.dt.ldN (i:=(dF:Int)) (k:=dF) rfl (by omega);have l0':=w0.dt.ldN (i:=(a:Int)) (k:=a) rfl (by omega);obtain ⟨R,hR⟩:∃ R,R=Go.Sort.partitionEqual lt d a B dF:=⟨_,rfl⟩;rw [← hR];refine uS.of h (xCN l0 l0' s1 s2 (P0:=fun i τ=>i=(R.1:Int)∧W σ τ b s d R.2)
  (yGW (Inv:=fun k i j τ=>∃ (p q:Nat) (dk:Array Rec),i=p∧j=q∧k=q+1-p∧a+1≤p∧q<B∧a≤q∧p≤q+2∧dk.size=d.size∧xV V dk∧W σ τ b s d dk∧Go.Sort.partEqLoop lt a p q dk=R) ?_ (B-1+1-(a+1)) _ _ τ2 ⟨a+1,B-1,_,by omega,by omega,rfl,by omega,by omega,by omega,by omega,xA _ _ _,hv.swp (by omega) (by omega),w1,by rw [hR];rfl⟩)
  (fun i τ h=>yGT ⟨by rw [h.1],h.2⟩))
 rintro k i j τ ⟨p,q,dk,rfl,rfl,hk,hap,hqB,haq,hpq,hsz,hall,w,ht⟩;obtain ⟨i2,hi2⟩:∃ i2,i2=Go.Sort.scanUp (fun x=>!lt dk[a]! x) dk q p:=⟨_,rfl⟩;obtain ⟨j2,hj2⟩:∃ j2,j2=Go.Sort.scanDown (fun x=>lt dk[a]! x) dk i2 q:=⟨_,rfl⟩;have hstep:Go.Sort.partEqLoop lt a p q dk=if i2 > j2 then (i2,dk) else if (j2-1)+1-(i2+1)<q+1-p then Go.Sort.partEqLoop lt a (i2+1) (j2-1) (swp dk i2 j2) else (i2,dk):=by
  conv=>lhs;unfold Go.Sort.partEqLoop
  simp only [dite_eq_ite,← hi2,← hj2]
 refine ySV (P2:=fun i τ=>i=(i2:Int)∧p≤i2∧i2≤q+2∧(i2≤q+1∨i2=p)∧W σ τ b s d dk)
  (yGV (Inv:=fun k i τ=>∃ u:Nat,i=u∧u+k=q+2∧p≤u∧(u≤q+1∨u=p)∧W σ τ b s d dk∧Go.Sort.scanUp (fun x=>!lt dk[a]! x) dk q u=i2) ?_ (q+2-p) _ τ ⟨p,rfl,by omega,Nat.le_refl _,.inr rfl,w,hi2.symm⟩) ?_
 ·rintro k i τ ⟨u,rfl,hk,hpu,huq,w,ht⟩;by_cases hpj:u≤q;rotate_left
  ·rw [Go.Sort.scanUp,if_neg (by simp;omega)] at ht;exact ySS ⟨by rw [ht],by omega,by omega,by omega,w⟩ (by omega)
  have lp:=w.dt.ldN (i:=(u:Int)) (k:=u) rfl (by omega);have la:=w.dt.ldN (i:=(a:Int)) (k:=a) rfl (by omega);obtain ⟨n,cn,⟨m1,hl⟩ | ⟨m1,hl⟩⟩:=hc.at_ (τ:=τ) hall (i:=a) (j:=u) (by omega) (by omega)
  ·rw [Go.Sort.scanUp,if_neg (by simp [hl])] at ht;exact ySU la lp cn ⟨by rw [ht],by omega,by omega,by omega,w⟩
  ·rw [Go.Sort.scanUp,if_pos (by simp [hl];omega)] at ht;exact yST la lp cn ⟨k-1,by omega,u+1,by omega,by omega,by omega,by omega,w,ht⟩
 rintro i τ ⟨rfl,hpi,hiq,hiq2,w⟩;refine yGS (P4:=fun j τ=>j=(j2:Int)∧j2≤q∧(i2≤j2+1∨j2=q)∧W σ τ b s d dk)
  (yGU (Inv:=fun k j τ=>∃ v:Nat,j=v∧v=k∧v≤q∧(i2≤v+1∨v=q)∧W σ τ b s d dk∧Go.Sort.scanDown (fun x=>lt dk[a]! x) dk i2 v=j2) ?_ q _ τ ⟨q,rfl,rfl,Nat.le_refl _,.inr rfl,w,hj2.symm⟩) ?_
 ·rintro k j τ ⟨v,rfl,rfl,hvq,hiv,w,ht⟩;by_cases hij:i2≤v;rotate_left
  ·have e:j2=v:=by
    cases v with
    | zero=>rw [← ht];rfl
    | succ v=>rw [← ht,Go.Sort.scanDown,if_neg (by simp;omega)]
   exact ySP ⟨by rw [e],by omega,by omega,w⟩ (by omega)
  obtain ⟨v',rfl⟩:∃ v',v=v'+1:=⟨v-1,by omega⟩;have lp:=w.dt.ldN (i:=((v'+1:Nat):Int)) (k:=v'+1) rfl (by omega);have la:=w.dt.ldN (i:=(a:Int)) (k:=a) rfl (by omega);obtain ⟨n,cn,⟨m1,hl⟩ | ⟨m1,hl⟩⟩:=hc.at_ (τ:=τ) hall (i:=a) (j:=v'+1) (by omega) (by omega)
  ·rw [Go.Sort.scanDown,if_pos (by simp [hl];omega)] at ht;exact ySR la lp cn ⟨v',by omega,v',by omega,rfl,by omega,by omega,w,ht⟩
  ·rw [Go.Sort.scanDown,if_neg (by simp [hl])] at ht;exact ySQ la lp cn ⟨by rw [ht],by omega,by omega,w⟩
 rintro j τ ⟨rfl,hjq,hij2,w⟩;by_cases hgt:i2 > j2
 ·rw [if_pos hgt] at hstep;have e:R=(i2,dk):=by rw [← ht,hstep]
  exact yGR ⟨by rw [e],by rw [e];exact w⟩ (by omega)
 rw [if_neg hgt,if_pos (by omega)] at hstep;have lj:=w.dt.ldN (i:=(j2:Int)) (k:=j2) rfl (by omega);have li:=w.dt.ldN (i:=(i2:Int)) (k:=i2) rfl (by omega);obtain ⟨τ5,τ6,t1,t2,w6⟩:=w.swapN (i:=(i2:Int)) (j:=(j2:Int)) (p:=i2) (q:=j2) rfl rfl (by omega) (by omega);exact yGQ lj li t1 t2 ⟨j2-1+1-(i2+1),by omega,i2+1,j2-1,_,by omega,by omega,rfl,by omega,by omega,by omega,by omega,by rw [xA,hsz],hall.swp (by omega) (by omega),w6,by rw [← hstep,ht]⟩
theorem zIL (lt:Rec→Rec→Bool):∀ (j:Nat) (d:Array Rec),(Go.Sort.shiftDown lt j d).size=d.size
 | 0,d=>rfl
 | j+1,d=>by
  unfold Go.Sort.shiftDown;split
  ·rfl
  ·rw [zIL,xA]
theorem zMB (lt:Rec→Rec→Bool) {V:Rec→Prop}:∀ (j:Nat) (d:Array Rec),j<d.size→xV V d→xV V (Go.Sort.shiftDown lt j d)
 | 0,d,_,h=>h
 | j+1,d,hj,h=>by
  unfold Go.Sort.shiftDown;split
  ·exact h
  ·exact zMB lt j _ (by rw [xA];omega) (h.swp hj (by omega))
theorem zCT (lt:Rec→Rec→Bool) {V:Rec→Prop} {B:Nat}:∀ (k j:Nat) (d:Array Rec),B-j≤k→1≤j→B≤d.size→xV V d→(Go.Sort.shiftUp lt B j d).size=d.size∧xV V (Go.Sort.shiftUp lt B j d)
 | 0,j,d,hk,hj,hB,h=>by rw [Go.Sort.shiftUp,if_neg (by omega)];exact ⟨rfl,h⟩
 | k+1,j,d,hk,hj,hB,h=>by
  rw [Go.Sort.shiftUp];split
  ·split
   ·exact ⟨rfl,h⟩
   ·have:=zCT lt (V:=V) (B:=B) k (j+1) (swp d j (j-1)) (by omega) (by omega) (by rw [xA];exact hB) (h.swp (by omega) (by omega));rw [xA] at this;exact this
  ·exact ⟨rfl,h⟩
theorem zMC (lt:Rec→Rec→Bool) (d:Array Rec) (B:Nat):∀ (k i:Nat),B-i≤k→i≤B→i≤Go.Sort.scanSorted lt d B i∧Go.Sort.scanSorted lt d B i≤B
 | 0,i,hk,hi=>by rw [Go.Sort.scanSorted,if_neg (by simp;omega)];omega
 | k+1,i,hk,hi=>by
  rw [Go.Sort.scanSorted];split
  ·rename_i h;have:i<B:=by simp at h;exact h.1
   have:=zMC lt d B k (i+1) (by omega) (by omega);omega
  ·omega
theorem ySO {a B i10:Int} {x i:Nat} {τ:St} {dk:Array Rec} (hc:Cmp g gc lt V) (w:W σ τ b s d dk) (hsz:dk.size=d.size) (hall:xV V dk) (hx:x<d.size) (hn:d.size≤1000000) :
  zXM ⟨b,0,s⟩ d.size c a B g gc (i:Int) i10 (x:Int) τ (fun τ'=>W σ τ' b s d (Go.Sort.shiftDown lt x dk)):=by
 refine yLK (Inv:=fun k j τ'=>∃ (q:Nat) (dq:Array Rec),j=q∧q=k∧q≤x∧dq.size=d.size∧xV V dq∧W σ τ' b s d dq∧Go.Sort.shiftDown lt q dq=Go.Sort.shiftDown lt x dk) ?_ x _ τ ⟨x,dk,rfl,rfl,Nat.le_refl _,hsz,hall,w,rfl⟩;rintro k j τ' ⟨q,dq,rfl,rfl,hq,hsz',hall',w',ht⟩;cases q with
 | zero=>exact xCC (by rw [← ht];exact w') (by omega)
 | succ q =>
  have l1:=w'.dt.ldN (i:=((q+1:Nat):Int)) (k:=q+1) rfl (by omega);have l2:=w'.dt.ldN (i:=((q+1:Nat):Int)-1) (k:=q) (by omega) (by omega);obtain ⟨n,cn,⟨m1,hl⟩ | ⟨m1,hl⟩⟩:=hc.at_ (τ:=τ') hall' (i:=q+1) (j:=q) (by omega) (by omega)
  ·obtain ⟨τ5,τ6,t1,t2,w6⟩:=w'.swapN (i:=((q+1:Nat):Int)) (j:=((q+1:Nat):Int)-1) (p:=q+1) (q:=q) rfl (by omega) (by omega) (by omega);rw [Go.Sort.shiftDown,if_neg (by simp [hl])] at ht;exact xCE l1 l2 cn t1 t2 ⟨q,by omega,q,_,by omega,rfl,by omega,by rw [xA,hsz'],hall'.swp (by omega) (by omega),w6,ht⟩
  ·rw [Go.Sort.shiftDown,if_pos (by simp [hl])] at ht;exact xCD l1 l2 cn (by rw [← ht];exact w')
theorem yLI {a i10:Int} {B x i:Nat} {τ:St} {dk:Array Rec} (hc:Cmp g gc lt V) (w:W σ τ b s d dk) (hsz:dk.size=d.size) (hall:xV V dk) (hx:1≤x) (hxB:x≤B+2) (hB:B≤d.size) (hn:d.size≤1000000) :
  zJD ⟨b,0,s⟩ d.size c a (B:Int) g gc (i:Int) i10 (x:Int) τ (fun τ'=>W σ τ' b s d (Go.Sort.shiftUp lt B x dk)):=by
 refine yLJ (Inv:=fun k j τ'=>∃ (q:Nat) (dq:Array Rec),j=q∧q+k=B+2∧1≤q∧dq.size=d.size∧xV V dq∧W σ τ' b s d dq∧Go.Sort.shiftUp lt B q dq=Go.Sort.shiftUp lt B x dk) ?_ (B+2-x) _ τ ⟨x,dk,rfl,by omega,hx,hsz,hall,w,rfl⟩;rintro k j τ' ⟨q,dq,rfl,hk,hq,hsz',hall',w',ht⟩;by_cases hqB:q<B;rotate_left
 ·rw [Go.Sort.shiftUp,if_neg hqB] at ht;exact xBZ (by rw [← ht];exact w') (by omega)
 have l1:=w'.dt.ldN (i:=(q:Int)) (k:=q) rfl (by omega);have l2:=w'.dt.ldN (i:=(q:Int)-1) (k:=q-1) (by omega) (by omega);obtain ⟨n,cn,⟨m1,hl⟩ | ⟨m1,hl⟩⟩:=hc.at_ (τ:=τ') hall' (i:=q) (j:=q-1) (by omega) (by omega)
 ·obtain ⟨τ5,τ6,t1,t2,w6⟩:=w'.swapN (i:=(q:Int)) (j:=(q:Int)-1) (p:=q) (q:=q-1) rfl (by omega) (by omega) (by omega);rw [Go.Sort.shiftUp,if_pos hqB,if_neg (by simp [hl])] at ht;exact xCB l1 l2 cn t1 t2 ⟨k-1,by omega,q+1,_,by omega,by omega,by omega,by rw [xA,hsz'],hall'.swp (by omega) (by omega),w6,ht⟩
 ·rw [Go.Sort.shiftUp,if_pos hqB,if_pos (by simp [hl])] at ht;exact xCA l1 l2 cn (by rw [← ht];exact w')
theorem yXV {a B:Nat} (h:Dt σ b s d) (hc:Cmp g gc lt V) (hv:xV V d) (ha:a<B) (hB:B≤d.size) (hn:d.size≤1000000) :
  uS 85 [.slice (some ⟨b,0,s⟩) d.size c,iV (a:Int),iV (B:Int),.func (.func g) ⟨[]⟩ ⟨gc⟩] (.bool (Go.Sort.partialInsertionSort lt d a B).2) σ b s d (Go.Sort.partialInsertionSort lt d a B).1:=by
 obtain ⟨R,hR⟩:∃ R,R=Go.Sort.partialInsertionSort lt d a B:=⟨_,rfl⟩;rw [← hR];refine uS.of h (xIP (P0:=fun τ=>R.2=false∧W σ τ b s d R.1) (Pr:=fun t τ=>R.2=t∧W σ τ b s d R.1)
  (yLM (Inv:=fun k i j τ=>∃ (p:Nat) (dk:Array Rec),i=p∧j=5-(k:Int)∧k≤5∧a+1≤p∧p≤B∧dk.size=d.size∧xV V dk∧W σ τ b s d dk∧Go.Sort.partialIns lt a B k p dk=R) ?_ 5 _ _ σ.re ⟨a+1,d,by omega,by omega,Nat.le_refl _,Nat.le_refl _,by omega,rfl,hv,W.start h,hR.symm⟩)
  (fun τ h=>yLH ⟨by rw [h.1],h.2⟩) (fun t τ h=>yLG ⟨by rw [h.1],h.2⟩))
 rintro k i j τ ⟨p,dk,rfl,rfl,hk5,hap,hpB,hsz,hall,w,ht⟩;cases k with
 | zero =>
  rw [Go.Sort.partialIns] at ht;exact xCI (by rw [← ht];exact ⟨rfl,w⟩) (by omega)
 | succ k =>
 obtain ⟨i2,hi2⟩:∃ i2,i2=Go.Sort.scanSorted lt dk B p:=⟨_,rfl⟩;have hrange:=zMC lt dk B _ p (Nat.le_refl _) hpB;rw [← hi2] at hrange;rw [Go.Sort.partialIns,← hi2] at ht;refine xCJ (P2:=fun i τ=>i=(i2:Int)∧W σ τ b s d dk) (yLL (Inv:=fun k i τ=>∃ u:Nat,i=u∧u+k=B∧p≤u∧W σ τ b s d dk∧Go.Sort.scanSorted lt dk B u=i2) ?_ (B-p) _ τ ⟨p,rfl,by omega,Nat.le_refl _,w,hi2.symm⟩) ?_ (by omega)
 ·rintro k i τ ⟨u,rfl,hk,hpu,w,ht⟩;by_cases huB:u<B;rotate_left
  ·rw [Go.Sort.scanSorted,if_neg (by simp;omega)] at ht;exact xCF ⟨by rw [ht],w⟩ (by omega)
  have l1:=w.dt.ldN (i:=(u:Int)) (k:=u) rfl (by omega);have l2:=w.dt.ldN (i:=(u:Int)-1) (k:=u-1) (by omega) (by omega);obtain ⟨n,cn,⟨m1,hl⟩ | ⟨m1,hl⟩⟩:=hc.at_ (τ:=τ) hall (i:=u) (j:=u-1) (by omega) (by omega)
  ·rw [Go.Sort.scanSorted,if_neg (by simp [hl])] at ht;exact xCH l1 l2 cn ⟨by rw [ht],w⟩
  ·rw [Go.Sort.scanSorted,if_pos (by simp [hl];omega)] at ht;exact xCG l1 l2 cn ⟨k-1,by omega,u+1,by omega,by omega,by omega,w,ht⟩
 rintro i τ ⟨rfl,w⟩;by_cases hiB:i2=B
 ·simp only [hiB,if_true] at ht;exact yLF (by rw [← ht];exact ⟨rfl,w⟩) (by omega)
 simp only [hiB,if_false] at ht;by_cases h50:B-a<50
 ·rw [if_pos h50] at ht;exact yLE (by rw [← ht];exact ⟨rfl,w⟩) (by omega) (by omega) (by omega)
 rw [if_neg h50] at ht;have l1:=w.dt.ldN (i:=(i2:Int)-1) (k:=i2-1) (by omega) (by omega);have l2:=w.dt.ldN (i:=(i2:Int)) (k:=i2) rfl (by omega);obtain ⟨τ5,τ6,t1,t2,w6⟩:=w.swapN (i:=(i2:Int)) (j:=(i2:Int)-1) (p:=i2) (q:=i2-1) rfl (by omega) (by omega) (by omega);have hall6:=hall.swp (i:=i2) (j:=i2-1) (by omega) (by omega);have hsz6:(swp dk i2 (i2-1)).size=d.size:=by rw [xA,hsz]
 have right:∀ (dx:Array Rec) (τx:St),W σ τx b s d dx→dx.size=d.size→xV V dx→2≤B-i2→zJD ⟨b,0,s⟩ d.size c (a:Int) (B:Int) g gc (i2:Int) (5-((k+1:Nat):Int)) ((i2:Int)+1) τx (fun τ'=>W σ τ' b s d (Go.Sort.shiftUp lt B (i2+1) dx)):=fun dx τx wx hx1 hx2 h2=>by
  have:=yLI (c:=c) (a:=(a:Int)) (i10:=5-((k+1:Nat):Int)) (B:=B) (x:=i2+1) (i:=i2) hc wx hx1 hx2 (by omega) (by omega) hB hn;rw [show ((i2+1:Nat):Int)=(i2:Int)+1 by omega] at this;exact this
 by_cases hl2:i2-a ≥ 2
 ·simp only [hl2,if_true] at ht;have left:=ySO (c:=c) (a:=(a:Int)) (B:=(B:Int)) (i10:=5-((k+1:Nat):Int)) (x:=i2-1) (i:=i2) hc w6 hsz6 hall6 (by omega) hn;rw [show ((i2-1:Nat):Int)=(i2:Int)-1 by omega] at left;have hszL:(Go.Sort.shiftDown lt (i2-1) (swp dk i2 (i2-1))).size=d.size:=by rw [zIL,hsz6]
  have hallL:=zMB lt (V:=V) (i2-1) (swp dk i2 (i2-1)) (by omega) hall6;refine yLD l1 l2 t1 t2 left (fun τ' w7=>?_) (by omega) (by omega) (by omega) (by omega) (by omega) (by omega) (by omega) (by omega);by_cases hr2:B-i2 ≥ 2
  ·simp only [hr2,if_true] at ht;have hU:=zCT lt (V:=V) (B:=B) _ (i2+1) _ (Nat.le_refl _) (by omega) (by omega) hallL;exact yLA (right _ _ w7 hszL hallL (by omega)) (fun τ'' w8=>zTI ⟨k,by omega,i2,_,rfl,by omega,by omega,by omega,by omega,by rw [hU.1,hszL],hU.2,w8,ht⟩)
  ·simp only [hr2,if_false] at ht;exact yKZ ⟨k,by omega,i2,_,rfl,by omega,by omega,by omega,by omega,hszL,hallL,w7,ht⟩
 ·simp only [hl2,if_false] at ht;by_cases hr2:B-i2 ≥ 2
  ·simp only [hr2,if_true] at ht;have hU:=zCT lt (V:=V) (B:=B) _ (i2+1) _ (Nat.le_refl _) (by omega) (by omega) hall6;exact yLC l1 l2 t1 t2 (right _ _ w6 hsz6 hall6 (by omega)) (fun τ'' w8=>zTI ⟨k,by omega,i2,_,rfl,by omega,by omega,by omega,by omega,by rw [hU.1,hsz6],hU.2,w8,ht⟩)
  ·simp only [hr2,if_false] at ht;exact yLB l1 l2 t1 t2 ⟨k,by omega,i2,_,rfl,by omega,by omega,by omega,by omega,hsz6,hall6,w6,ht⟩
end
end
section
noncomputable section
variable (data:oAa) (ah ak:Nat) (aG a_1 bV kB:Int) (q0:Int→Int→St→Prop) (BB:Nat) (n2 aD:Int) (q2:Int→St→Prop) (Q:St→Prop) (σ:St) (q1:vPa) (Nx:Int→Int→St→Prop) (q3:Int→St→Prop) (Q0:St→Prop)
def yXD:Code:=(Code.part [1,1,0,0] (qj 84))
def zUT:lNa:=[(0,.slice data ah ak),(8,iV aG),(9,iV bV)]
def xHC:Alt:=⟨Int × Int,.normal,fun t=>zUT data ah ak t.1 t.2,fun t=>[],fun t σ=>q0 t.1 t.2 σ⟩
def yBT (data:oAa) (ah ak:Nat):lNa:=[]
def zQM:Alt:=⟨Unit,(.exit 0),fun t=>yBT data ah ak,fun t=>[],fun t σ=>Q σ⟩
def yFY:Prop:=qk ql none yXD 34 (zUT data ah ak aG bV) [] [xHC data ah ak Nx,zQM data ah ak Q0] σ
def yXE:Prop:=qm ql none yXD 34 (zUT data ah ak aG bV) [] [zQM data ah ak Q0] σ
def yBU:Prop:=kZ ql (qj 84) [1,1,0] (qo 84 q1) (.exit 0) 34 (yBT data ah ak) σ
def yEY:Code:=(Code.part [1,1,0,1,1,1,0,0] (qj 82))
def zLP:lNa:=[(0,.slice data ah ak),(1,iV a_1),(8,iV kB),(9,pq BB 0),(10,.int .u64 n2),(11,iV aD)]
def yVT:Alt:=⟨Int,.normal,fun t=>zLP data ah ak a_1 kB BB n2 t,fun t=>[],fun t σ=>q2 t σ⟩
def zUD (data:oAa) (ah ak:Nat) (a_1 kB:Int) (BB:Nat) (n2:Int):lNa:=[]
def zKE:Alt:=⟨Unit,(.exit 0),fun t=>zUD data ah ak a_1 kB BB n2,fun t=>[],fun t σ=>Q σ⟩
def zLQ:Prop:=qk ql none yEY 67 (zLP data ah ak a_1 kB BB n2 aD) [] [yVT data ah ak a_1 kB BB n2 q3,zKE data ah ak a_1 kB BB n2 Q0] σ
def yEZ:Prop:=qm ql none yEY 67 (zLP data ah ak a_1 kB BB n2 aD) [] [zKE data ah ak a_1 kB BB n2 Q0] σ
def zUE:Prop:=kZ ql (qj 82) [1,1,0,1,1,1,0] (qo 82 q1) (.exit 0) 67 (zUD data ah ak a_1 kB BB n2) σ
end
variable {ah ak BB:Nat} {a_1 b n1 n2 n3 n4 n5 n6 n7 n8 c n9 aG bV nG nF nD nB nA nE kB aD zA nK nO nP nQ z1 length n10 n11 n13 x z2:Int} {swaps ax r:Addr} {aA:FuncId} {ar:lVa} {σ9 σ σ3 σ6 σ2 σ4 σ8 σS σD σB σX σM σ12:St} {Q:vPa} {data:oAa} {Inv:Nat→Int→Int→St→Prop} {Q0 P0:St→Prop} {Nx:Int→St→Prop}
theorem xQD (h1:lz σ 47 (zN ax (Int.toNat b*3)) (qh (rcd n1 n2 n3))) (h2:lz σ 47 (zN ax (Int.toNat a_1*3)) (qh (rcd n4 n5 n6))) (h3:qn aA (qh (rcd n1 n2 n3)::(qh (rcd n4 n5 n6))::ar) σ (iV n7) σ) (h4:lz σ 3 swaps (iV n8)) (h5:qq (evL [pz swaps,iV (n8+1)]) σ (.store 3 (.tmp 0) (.tmp 1))=some (undef,σ9)) (nx:Q (.tuple ⟨[iV b,iV a_1]⟩) σ9) (u1:Ix b ah:=by omega) (u2:Ix a_1 ah:=by omega) (u3:n7<0:=by omega) (u4:I6 (n8+1):=by omega):qi 104 [.slice (some ax) ah ak,iV a_1,iV b,pz swaps,.func (.func aA) ⟨[]⟩ ⟨ar⟩] σ Q :=
 zI [.g,.g,.g,.g,.g,.i,.l (qh (rcd n1 n2 n3)),.g,.g,.i,.l (qh (rcd n4 n5 n6)),.c (iV n7) σ,.b true,.g,.g,.l (iV n8),.n (n8+1),.g,.e undef σ9,.g,.g,.g,.g] (kd (an3 u1 h1 u2 (an6 h2 h3 (zR u3) h4 (w64 u4) h5 nx)))
theorem xQC (h1:lz σ 47 (zN ax (Int.toNat b*3)) (qh (rcd n1 n2 n3))) (h2:lz σ 47 (zN ax (Int.toNat a_1*3)) (qh (rcd n4 n5 n6))) (h3:qn aA (qh (rcd n1 n2 n3)::(qh (rcd n4 n5 n6))::ar) σ (iV n7) σ) (nx:Q (.tuple ⟨[iV a_1,iV b]⟩) σ) (u1:Ix b ah:=by omega) (u2:Ix a_1 ah:=by omega) (u3:¬ n7<0:=by omega):qi 104 [.slice (some ax) ah ak,iV a_1,iV b,pz swaps,.func (.func aA) ⟨[]⟩ ⟨ar⟩] σ Q :=
 zI [.g,.g,.g,.g,.g,.i,.l (qh (rcd n1 n2 n3)),.g,.g,.i,.l (qh (rcd n4 n5 n6)),.c (iV n7) σ,.b false,.g,.g,.g,.g] (kd (an6 u1 h1 u2 h2 h3 (zT u3) nx))
theorem xJE (h1:qn 104 [.slice data ah ak,iV a_1,iV b,pz swaps,.func (.func aA) ⟨[]⟩ ⟨ar⟩] σ (.tuple ⟨[iV n1,iV n2]⟩) σ3) (h2:qn 104 [.slice data ah ak,iV n2,iV c,pz swaps,.func (.func aA) ⟨[]⟩ ⟨ar⟩] σ3 (.tuple ⟨[iV n4,iV n5]⟩) σ6) (h3:qn 104 [.slice data ah ak,iV n1,iV n4,pz swaps,.func (.func aA) ⟨[]⟩ ⟨ar⟩] σ6 (.tuple ⟨[iV n7,iV n8]⟩) σ9) (nx:Q (iV n8) σ9):qi 99 [.slice data ah ak,iV a_1,iV b,iV c,pz swaps,.func (.func aA) ⟨[]⟩ ⟨ar⟩] σ Q :=
 zI [.g,.g,.g,.g,.g,.g,.c (.tuple ⟨[iV n1,iV n2]⟩) σ3,.g,.g,.g,.g,.g,.g,.g,.g,.g,.g,.c (.tuple ⟨[iV n4,iV n5]⟩) σ6,.g,.g,.g,.g,.g,.g,.g,.g,.g,.g,.c (.tuple ⟨[iV n7,iV n8]⟩) σ9,.g,.g,.g,.g,.g,.g,.g] (kd (an3 h1 h2 h3 nx))
theorem yYA (h1:qn 99 [.slice data ah ak,iV (a_1-1),iV a_1,iV (a_1+1),pz swaps,.func (.func aA) ⟨[]⟩ ⟨ar⟩] σ (iV n1) σ2) (nx:Q (iV n1) σ2) (u1:I6 (a_1-1):=by omega) (u2:I6 (a_1+1):=by omega):qi 98 [.slice data ah ak,iV a_1,pz swaps,.func (.func aA) ⟨[]⟩ ⟨ar⟩] σ Q :=
 zI [.g,.g,.g,.n (a_1-1),.g,.g,.n (a_1+1),.g,.g,.c (iV n1) σ2,.g] (kd (an3 (w64 u1) (w64 u2) h1 nx))
@[reducible] def Ha4 (b a_1 n1 n3 n5 n7 n9:Int) (data:oAa) (ah ak:Nat) (σ σ2 σ4 σ6 σ8:St) (aA:FuncId) (ar:lVa):Prop:=IntKind.wrap .i64 (Int.tdiv (b-a_1) 4)=Int.tdiv (b-a_1) 4∧(qn 98 [.slice data ah ak,iV (a_1+((Int.tdiv (b-a_1) 4)*1)),.pointer (some ⟨σ.y,0,none⟩),.func (.func aA) ⟨[]⟩ ⟨ar⟩] (σ.row [iV 0] 1) (iV n1) σ2)∧(qn 98 [.slice data ah ak,iV (a_1+((Int.tdiv (b-a_1) 4)*2)),.pointer (some ⟨σ.y,0,none⟩),.func (.func aA) ⟨[]⟩ ⟨ar⟩] σ2 (iV n3) σ4)∧(qn 98 [.slice data ah ak,iV (a_1+((Int.tdiv (b-a_1) 4)*3)),.pointer (some ⟨σ.y,0,none⟩),.func (.func aA) ⟨[]⟩ ⟨ar⟩] σ4 (iV n5) σ6)∧(qn 99 [.slice data ah ak,iV n1,iV n3,iV n5,.pointer (some ⟨σ.y,0,none⟩),.func (.func aA) ⟨[]⟩ ⟨ar⟩] σ6 (iV n7) σ8)∧qp σ8 3 ⟨σ.y,0,none⟩=some (iV n9)
theorem yUZ:let y0:=Int.tdiv (b-a_1) 4;∀ (H:Ha4 b a_1 n1 n3 n5 n7 n9 data ah ak σ σ2 σ4 σ6 σ8 aA ar) (nx:Q (.tuple ⟨[iV n7,iV 1]⟩) σ8) (u1:I6 (b-a_1):=by omega) (u2:I6 (y0*1):=by omega) (u3:I6 (a_1+(y0*1)):=by omega) (u4:I6 (y0*2):=by omega) (u5:I6 (a_1+(y0*2)):=by omega) (u6:I6 (y0*3):=by omega) (u7:I6 (a_1+(y0*3)):=by omega) (u8:8≤(b-a_1):=by omega) (u9:50≤(b-a_1):=by omega) (u10:n9=0:=by omega),qi 83 [.slice data ah ak,iV a_1,iV b,.func (.func aA) ⟨[]⟩ ⟨ar⟩] σ Q :=
 fun H nx u1 u2 u3 u4 u5 u6 u7 u8 u9 u10=>match H with|⟨h1,h2,h3,h4,h5,h6⟩=>let s1:=Int.tdiv (b-a_1) 4;zI [.g,.g,.g,.g,.n (b-a_1),.g,.g,.g,.g,.n s1,.n (s1*1),.n (a_1+(s1*1)),.g,.g,.g,.n s1,.n (s1*2),.n (a_1+(s1*2)),.g,.g,.g,.n s1,.n (s1*3),.n (a_1+(s1*3)),.g,.g,.b true,.g,.b true,.g,.g,.g,.c (iV n1) σ2,.g,.g,.g,.g,.c (iV n3) σ4,.g,.g,.g,.g,.c (iV n5) σ6,.g,.g,.g,.g,.g,.g,.c (iV n7) σ8,.g,.l (iV n9),.b true,.g,.g,.g,.g] (kd (an6 (w64 u1) h1 (w64 u2) (w64 u3) h1 (w64 u4) (an6 (w64 u5) h1 (w64 u6) (w64 u7) (yE u8) (yE u9) (an6 h2 h3 h4 h5 h6 (xH u10) nx))))
theorem yUY:let y0:=Int.tdiv (b-a_1) 4;∀ (H:Ha4 b a_1 n1 n3 n5 n7 n9 data ah ak σ σ2 σ4 σ6 σ8 aA ar) (nx:Q (.tuple ⟨[iV n7,iV 2]⟩) σ8) (u1:I6 (b-a_1):=by omega) (u2:I6 (y0*1):=by omega) (u3:I6 (a_1+(y0*1)):=by omega) (u4:I6 (y0*2):=by omega) (u5:I6 (a_1+(y0*2)):=by omega) (u6:I6 (y0*3):=by omega) (u7:I6 (a_1+(y0*3)):=by omega) (u8:8≤(b-a_1):=by omega) (u9:50≤(b-a_1):=by omega) (u10:¬ n9=0:=by omega) (u11:n9=12:=by omega),qi 83 [.slice data ah ak,iV a_1,iV b,.func (.func aA) ⟨[]⟩ ⟨ar⟩] σ Q :=
 fun H nx u1 u2 u3 u4 u5 u6 u7 u8 u9 u10 u11=>match H with|⟨h1,h2,h3,h4,h5,h6⟩=>let s1:=Int.tdiv (b-a_1) 4;zI [.g,.g,.g,.g,.n (b-a_1),.g,.g,.g,.g,.n s1,.n (s1*1),.n (a_1+(s1*1)),.g,.g,.g,.n s1,.n (s1*2),.n (a_1+(s1*2)),.g,.g,.g,.n s1,.n (s1*3),.n (a_1+(s1*3)),.g,.g,.b true,.g,.b true,.g,.g,.g,.c (iV n1) σ2,.g,.g,.g,.g,.c (iV n3) σ4,.g,.g,.g,.g,.c (iV n5) σ6,.g,.g,.g,.g,.g,.g,.c (iV n7) σ8,.g,.l (iV n9),.b false,.g,.b true,.g,.g,.g,.g] (kd (ai (w64 u1) (an6 h1 (w64 u2) (w64 u3) h1 (w64 u4) (w64 u5) (an6 h1 (w64 u6) (w64 u7) (yE u8) (yE u9) h2 (an6 h3 h4 h5 h6 (xL u10) (xH u11) nx)))))
theorem yUX:let y0:=Int.tdiv (b-a_1) 4;∀ (H:Ha4 b a_1 n1 n3 n5 n7 n9 data ah ak σ σ2 σ4 σ6 σ8 aA ar) (nx:Q (.tuple ⟨[iV n7,iV 0]⟩) σ8) (u1:I6 (b-a_1):=by omega) (u2:I6 (y0*1):=by omega) (u3:I6 (a_1+(y0*1)):=by omega) (u4:I6 (y0*2):=by omega) (u5:I6 (a_1+(y0*2)):=by omega) (u6:I6 (y0*3):=by omega) (u7:I6 (a_1+(y0*3)):=by omega) (u8:8≤(b-a_1):=by omega) (u9:50≤(b-a_1):=by omega) (u10:¬ n9=0:=by omega) (u11:¬ n9=12:=by omega),qi 83 [.slice data ah ak,iV a_1,iV b,.func (.func aA) ⟨[]⟩ ⟨ar⟩] σ Q :=
 fun H nx u1 u2 u3 u4 u5 u6 u7 u8 u9 u10 u11=>match H with|⟨h1,h2,h3,h4,h5,h6⟩=>let s1:=Int.tdiv (b-a_1) 4;zI [.g,.g,.g,.g,.n (b-a_1),.g,.g,.g,.g,.n s1,.n (s1*1),.n (a_1+(s1*1)),.g,.g,.g,.n s1,.n (s1*2),.n (a_1+(s1*2)),.g,.g,.g,.n s1,.n (s1*3),.n (a_1+(s1*3)),.g,.g,.b true,.g,.b true,.g,.g,.g,.c (iV n1) σ2,.g,.g,.g,.g,.c (iV n3) σ4,.g,.g,.g,.g,.c (iV n5) σ6,.g,.g,.g,.g,.g,.g,.c (iV n7) σ8,.g,.l (iV n9),.b false,.g,.b false,.g,.g,.g,.g] (kd (ai (w64 u1) (an6 h1 (w64 u2) (w64 u3) h1 (w64 u4) (w64 u5) (an6 h1 (w64 u6) (w64 u7) (yE u8) (yE u9) h2 (an6 h3 h4 h5 h6 (xL u10) (xL u11) nx)))))
theorem yUW:let s1:=Int.tdiv (b-a_1) 4;∀ (h1:IntKind.wrap .i64 s1=Int.tdiv (b-a_1) 4) (h2:qn 99 [.slice data ah ak,iV (a_1+(s1*1)),iV (a_1+(s1*2)),iV (a_1+(s1*3)),pq σ.y 0,.func (.func aA) ⟨[]⟩ ⟨ar⟩] (σ.row [iV 0] 1) (iV n1) σ2) (h3:lz σ2 3 (qg σ.y 0) (iV n3)) (nx:Q (.tuple ⟨[iV n1,iV 1]⟩) σ2) (u1:I6 (b-a_1):=by omega) (u2:I6 (s1*1):=by omega) (u3:I6 (a_1+(s1*1)):=by omega) (u4:I6 (s1*2):=by omega) (u5:I6 (a_1+(s1*2)):=by omega) (u6:I6 (s1*3):=by omega) (u7:I6 (a_1+(s1*3)):=by omega) (u8:8≤(b-a_1):=by omega) (u9:¬ 50≤(b-a_1):=by omega) (u10:n3=0:=by omega),qi 83 [.slice data ah ak,iV a_1,iV b,.func (.func aA) ⟨[]⟩ ⟨ar⟩] σ Q:=
 let s1:=Int.tdiv (b-a_1) 4;fun h1 h2 h3 nx u1 u2 u3 u4 u5 u6 u7 u8 u9 u10=>zI [.g,.g,.g,.g,.n (b-a_1),.g,.g,.g,.g,.n s1,.n (s1*1),.n (a_1+(s1*1)),.g,.g,.g,.n s1,.n (s1*2),.n (a_1+(s1*2)),.g,.g,.g,.n s1,.n (s1*3),.n (a_1+(s1*3)),.g,.g,.b true,.g,.b false,.g,.g,.g,.g,.g,.c (iV n1) σ2,.g,.l (iV n3),.b true,.g,.g,.g,.g] (kd (an3 (w64 u1) h1 (w64 u2) (an6 (w64 u3) h1 (w64 u4) (w64 u5) h1 (w64 u6) (an6 (w64 u7) (yE u8) (yJ u9) h2 h3 (xH u10) nx))))
theorem yUV:let s1:=Int.tdiv (b-a_1) 4;∀ (h1:IntKind.wrap .i64 s1=Int.tdiv (b-a_1) 4) (h2:qn 99 [.slice data ah ak,iV (a_1+(s1*1)),iV (a_1+(s1*2)),iV (a_1+(s1*3)),pq σ.y 0,.func (.func aA) ⟨[]⟩ ⟨ar⟩] (σ.row [iV 0] 1) (iV n1) σ2) (h3:lz σ2 3 (qg σ.y 0) (iV n3)) (nx:Q (.tuple ⟨[iV n1,iV 2]⟩) σ2) (u1:I6 (b-a_1):=by omega) (u2:I6 (s1*1):=by omega) (u3:I6 (a_1+(s1*1)):=by omega) (u4:I6 (s1*2):=by omega) (u5:I6 (a_1+(s1*2)):=by omega) (u6:I6 (s1*3):=by omega) (u7:I6 (a_1+(s1*3)):=by omega) (u8:8≤(b-a_1):=by omega) (u9:¬ 50≤(b-a_1):=by omega) (u10:¬ n3=0:=by omega) (u11:n3=12:=by omega),qi 83 [.slice data ah ak,iV a_1,iV b,.func (.func aA) ⟨[]⟩ ⟨ar⟩] σ Q:=
 let s1:=Int.tdiv (b-a_1) 4;fun h1 h2 h3 nx u1 u2 u3 u4 u5 u6 u7 u8 u9 u10 u11=>zI [.g,.g,.g,.g,.n (b-a_1),.g,.g,.g,.g,.n s1,.n (s1*1),.n (a_1+(s1*1)),.g,.g,.g,.n s1,.n (s1*2),.n (a_1+(s1*2)),.g,.g,.g,.n s1,.n (s1*3),.n (a_1+(s1*3)),.g,.g,.b true,.g,.b false,.g,.g,.g,.g,.g,.c (iV n1) σ2,.g,.l (iV n3),.b false,.g,.b true,.g,.g,.g,.g] (kd (an4 (w64 u1) h1 (w64 u2) (w64 u3) (an6 h1 (w64 u4) (w64 u5) h1 (w64 u6) (w64 u7) (an6 (yE u8) (yJ u9) h2 h3 (xL u10) (xH u11) nx))))
theorem yUU:let s1:=Int.tdiv (b-a_1) 4;∀ (h1:IntKind.wrap .i64 s1=Int.tdiv (b-a_1) 4) (h2:qn 99 [.slice data ah ak,iV (a_1+(s1*1)),iV (a_1+(s1*2)),iV (a_1+(s1*3)),pq σ.y 0,.func (.func aA) ⟨[]⟩ ⟨ar⟩] (σ.row [iV 0] 1) (iV n1) σ2) (h3:lz σ2 3 (qg σ.y 0) (iV n3)) (nx:Q (.tuple ⟨[iV n1,iV 0]⟩) σ2) (u1:I6 (b-a_1):=by omega) (u2:I6 (s1*1):=by omega) (u3:I6 (a_1+(s1*1)):=by omega) (u4:I6 (s1*2):=by omega) (u5:I6 (a_1+(s1*2)):=by omega) (u6:I6 (s1*3):=by omega) (u7:I6 (a_1+(s1*3)):=by omega) (u8:8≤(b-a_1):=by omega) (u9:¬ 50≤(b-a_1):=by omega) (u10:¬ n3=0:=by omega) (u11:¬ n3=12:=by omega),qi 83 [.slice data ah ak,iV a_1,iV b,.func (.func aA) ⟨[]⟩ ⟨ar⟩] σ Q:=
 let s1:=Int.tdiv (b-a_1) 4;fun h1 h2 h3 nx u1 u2 u3 u4 u5 u6 u7 u8 u9 u10 u11=>zI [.g,.g,.g,.g,.n (b-a_1),.g,.g,.g,.g,.n s1,.n (s1*1),.n (a_1+(s1*1)),.g,.g,.g,.n s1,.n (s1*2),.n (a_1+(s1*2)),.g,.g,.g,.n s1,.n (s1*3),.n (a_1+(s1*3)),.g,.g,.b true,.g,.b false,.g,.g,.g,.g,.g,.c (iV n1) σ2,.g,.l (iV n3),.b false,.g,.b false,.g,.g,.g,.g] (kd (an4 (w64 u1) h1 (w64 u2) (w64 u3) (an6 h1 (w64 u4) (w64 u5) h1 (w64 u6) (w64 u7) (an6 (yE u8) (yJ u9) h2 h3 (xL u10) (xL u11) nx))))
theorem yUT:let s1:=Int.tdiv (b-a_1) 4;∀ (h1:IntKind.wrap .i64 s1=Int.tdiv (b-a_1) 4) (nx:Q (.tuple ⟨[iV (a_1+(s1*2)),iV 1]⟩) (σ.row [iV 0] 1)) (u1:I6 (b-a_1):=by omega) (u2:I6 (s1*1):=by omega) (u3:I6 (a_1+(s1*1)):=by omega) (u4:I6 (s1*2):=by omega) (u5:I6 (a_1+(s1*2)):=by omega) (u6:I6 (s1*3):=by omega) (u7:I6 (a_1+(s1*3)):=by omega) (u8:¬ 8≤(b-a_1):=by omega),qi 83 [.slice data ah ak,iV a_1,iV b,.func (.func aA) ⟨[]⟩ ⟨ar⟩] σ Q:=
 let s1:=Int.tdiv (b-a_1) 4;fun h1 nx u1 u2 u3 u4 u5 u6 u7 u8=>zI [.g,.g,.g,.g,.n (b-a_1),.g,.g,.g,.g,.n s1,.n (s1*1),.n (a_1+(s1*1)),.g,.g,.g,.n s1,.n (s1*2),.n (a_1+(s1*2)),.g,.g,.g,.n s1,.n (s1*3),.n (a_1+(s1*3)),.g,.g,.b false,.l (iV 0),.g,.g,.g,.g,.g] (kd (an6 (w64 u1) h1 (w64 u2) (w64 u3) h1 (w64 u4) (an6 (w64 u5) h1 (w64 u6) (w64 u7) (yJ u8) ((zC _ _ _).rw.ld zS (k:=0) rfl:lz (σ.row [iV 0] 1) 3 (qg σ.y 0) (iV 0)) nx)))
theorem yQP (hb:∀ k aG bV σ,Inv k aG bV σ→yFY data ah ak aG bV σ (NX2 Inv k) Q0):∀ k aG bV σ,Inv k aG bV σ→yXE data ah ak aG bV σ Q0 :=
 zEV (ai (wI 0) trivial) hb
theorem xHB {Nx:Int→Int→St→Prop} (h1:lz σ 47 (zN ax (Int.toNat bV*3)) (qh (rcd nG nF nD))) (h2:lz σ 47 (zN ax (Int.toNat aG*3)) (qh (rcd nB nA nE))) (h3:qq (evL [pz (zN ax (Int.toNat aG*3)),qh (rcd nG nF nD)]) σ (.store 47 (.tmp 0) (.tmp 1))=some (undef,σS)) (h4:qq (evL [pz (zN ax (Int.toNat bV*3)),qh (rcd nB nA nE)]) σS (.store 47 (.tmp 0) (.tmp 1))=some (undef,σD)) (nx:Nx (aG+1) (bV-1) σD) (u1:aG<bV:=by omega) (u2:Ix bV ah:=by omega) (u3:Ix aG ah:=by omega) (u4:I6 (aG+1):=by omega) (u5:I6 (bV-1):=by omega):yFY (some ax) ah ak aG bV σ Nx Q0 :=
 kO 0 (aG+1,bV-1) [.g,.g,.b true,.g,.g,.g,.g,.g,.g,.i,.l (qh (rcd nG nF nD)),.g,.g,.i,.l (qh (rcd nB nA nE)),.i,.e undef σS,.i,.e undef σD,.g,.n (aG+1),.g,.g,.n (bV-1),.g] (fun _ f=>an5 (zR u1) u2 h1 u3 h2 (an6 u3 h3 u2 h4 (w64 u4) (w64 u5) f)) nx
theorem xHA {Nx:Int→Int→St→Prop} (nx:Q0 σ) (u1:¬ aG<bV:=by omega):yFY data ah ak aG bV σ Nx Q0 :=
 kO 1 () [.g,.g,.b false] (fun _ f=>ai (zT u1) f) nx
theorem xPF (hL:yXE data ah ak a_1 (b-1) σ P0) (k0:∀ σ',P0 σ'→yBU data ah ak σ' Q) (u1:I6 (b-1):=by omega):qi 84 [.slice data ah ak,iV a_1,iV b,.func (.func aA) ⟨[]⟩ ⟨ar⟩] σ Q :=
 let s1:=zUT data ah ak a_1 (b-1);zI [.g,.g,.g,.n (b-1),.g,.lf 34 s1 [zQM data ah ak P0]] (kd (ai (w64 u1) (ai (ai tt (ai (arf s1) hL)) (ai (kz0 k0) trivial))))
theorem yQO (nx:Q (.tuple ⟨[]⟩) σ):yBU data ah ak σ Q :=
 sK [] nx
theorem yII {Inv:Nat→Int→St→Prop} (hb:∀ k aD σ,Inv k aD σ→zLQ data ah ak a_1 kB BB n2 aD σ (NX1 Inv k) Q0):∀ k aD σ,Inv k aD σ→yEZ data ah ak a_1 kB BB n2 aD σ Q0 :=
 xJ (ai (wI 0) trivial) hb
theorem yVS:let y0:=(Int.tdiv kB 4)*2;let y1:=zN ax (Int.toNat (a_1+(nB-kB))*3);let y2:=zN ax (Int.toNat aD*3);∀ (h1:IntKind.wrap .i64 (Int.tdiv kB 4)=Int.tdiv kB 4) (h2:qn 97 [pq BB 0] σ (.int .u64 nG) σB) (h3:zAN .u64 (Int.sub n2 1)=zA) (h4:uH Pg .and 118 (.tmp 38) (.tmp 40) (.int .u64 nG) (.int .u64 zA)=some (.int .u64 nB)) (h5:lz σB 47 y1 (qh (rcd nA nE nK))) (h6:lz σB 47 y2 (qh (rcd nO nP nQ))) (h7:qq (evL [pz y2,qh (rcd nA nE nK)]) σB (.store 47 (.tmp 0) (.tmp 1))=some (undef,σX)) (h8:qq (evL [pz y1,qh (rcd nO nP nQ)]) σX (.store 47 (.tmp 0) (.tmp 1))=some (undef,σM)) (nx:Nx (aD+1) σM) (u1:I6 y0:=by omega) (u2:I6 (a_1+y0):=by omega) (u3:I6 ((a_1+y0)+1):=by omega) (u4:aD≤((a_1+y0)+1):=by omega) (u5:I6 nB:=by omega) (u6:kB≤nB:=by omega) (u7:I6 (nB-kB):=by omega) (u8:I6 (a_1+(nB-kB)):=by omega) (u9:Ix (a_1+(nB-kB)) ah:=by omega) (u10:Ix aD ah:=by omega) (u11:I6 (aD+1):=by omega),zLQ (some ax) ah ak a_1 kB BB n2 aD σ Nx Q0 :=
 let s1:=(Int.tdiv kB 4)*2;let s2:=nB-kB;fun h1 h2 h3 h4 h5 h6 h7 h8 nx u1 u2 u3 u4 u5 u6 u7 u8 u9 u10 u11=>kO 0 (aD+1) [.g,.g,.g,.n (Int.tdiv kB 4),.n s1,.n (a_1+s1),.n ((a_1+s1)+1),.b true,.c (.int .u64 nG) σB,.g,.n zA,.v (.int .u64 nB),.n nB,.g,.g,.g,.b true,.g,.g,.n s2,.g,.g,.g,.g,.g,.g,.n (a_1+s2),.g,.g,.g,.n (a_1+s2),.i,.l (qh (rcd nA nE nK)),.g,.g,.i,.l (qh (rcd nO nP nQ)),.i,.e undef σX,.i,.e undef σM,.g,.n (aD+1),.g] (fun _ f=>an4 h1 (w64 u1) (w64 u2) (w64 u3) (an6 (yE u4) h2 h3 h4 (w64 u5) (yE u6) (an6 (w64 u7) (w64 u8) (w64 u8) u9 h5 u10 (an6 h6 u10 h7 u9 h8 (w64 u11) f)))) nx
theorem yVR:let y0:=(Int.tdiv kB 4)*2;let y1:=zN ax (Int.toNat (a_1+nB)*3);let y2:=zN ax (Int.toNat aD*3);∀ (h1:IntKind.wrap .i64 (Int.tdiv kB 4)=Int.tdiv kB 4) (h2:qn 97 [pq BB 0] σ (.int .u64 nG) σB) (h3:zAN .u64 (Int.sub n2 1)=zA) (h4:uH Pg .and 118 (.tmp 38) (.tmp 40) (.int .u64 nG) (.int .u64 zA)=some (.int .u64 nB)) (h5:lz σB 47 y1 (qh (rcd nA nE nK))) (h6:lz σB 47 y2 (qh (rcd nO nP nQ))) (h7:qq (evL [pz y2,qh (rcd nA nE nK)]) σB (.store 47 (.tmp 0) (.tmp 1))=some (undef,σX)) (h8:qq (evL [pz y1,qh (rcd nO nP nQ)]) σX (.store 47 (.tmp 0) (.tmp 1))=some (undef,σM)) (nx:Nx (aD+1) σM) (u1:I6 y0:=by omega) (u2:I6 (a_1+y0):=by omega) (u3:I6 ((a_1+y0)+1):=by omega) (u4:aD≤((a_1+y0)+1):=by omega) (u5:I6 nB:=by omega) (u6:¬ kB≤nB:=by omega) (u7:I6 (a_1+nB):=by omega) (u8:Ix (a_1+nB) ah:=by omega) (u9:Ix aD ah:=by omega) (u10:I6 (aD+1):=by omega),zLQ (some ax) ah ak a_1 kB BB n2 aD σ Nx Q0 :=
 let s1:=(Int.tdiv kB 4)*2;fun h1 h2 h3 h4 h5 h6 h7 h8 nx u1 u2 u3 u4 u5 u6 u7 u8 u9 u10=>kO 0 (aD+1) [.g,.g,.g,.n (Int.tdiv kB 4),.n s1,.n (a_1+s1),.n ((a_1+s1)+1),.b true,.c (.int .u64 nG) σB,.g,.n zA,.v (.int .u64 nB),.n nB,.g,.g,.g,.b false,.g,.g,.g,.g,.g,.n (a_1+nB),.g,.g,.g,.n (a_1+nB),.i,.l (qh (rcd nA nE nK)),.g,.g,.i,.l (qh (rcd nO nP nQ)),.i,.e undef σX,.i,.e undef σM,.g,.n (aD+1),.g] (fun _ f=>an3 h1 (w64 u1) (w64 u2) (an6 (w64 u3) (yE u4) h2 h3 h4 (w64 u5) (an6 (yJ u6) (w64 u7) (w64 u7) u8 h5 u9 (an6 h6 u9 h7 u8 h8 (w64 u10) f)))) nx
theorem yVQ:let s1:=(Int.tdiv kB 4)*2;∀ (h1:IntKind.wrap .i64 (Int.tdiv kB 4)=Int.tdiv kB 4) (nx:Q0 σ) (u1:I6 s1:=by omega) (u2:I6 (a_1+s1):=by omega) (u3:I6 ((a_1+s1)+1):=by omega) (u4:¬ aD≤((a_1+s1)+1):=by omega),zLQ data ah ak a_1 kB BB n2 aD σ Nx Q0:=
 let s1:=(Int.tdiv kB 4)*2;fun h1 nx u1 u2 u3 u4=>kO 1 () [.g,.g,.g,.n (Int.tdiv kB 4),.n s1,.n (a_1+s1),.n ((a_1+s1)+1),.b false] (fun _ f=>an5 h1 (w64 u1) (w64 u2) (w64 u3) (yJ u4) f) nx
theorem xEQ:let s1:=σ.row [.int .u64 0] 1;let s2:=s1.own σ.y [.int .u64 z1] 1;let s3:=(Int.tdiv (b-a_1) 4)*2;∀ (h1:zAN .u64 ((b-a_1))=z1) (h2:qn 96 [iV (b-a_1)] s2 (.int .u64 n2) s2) (h3:IntKind.wrap .i64 (Int.tdiv (b-a_1) 4)=Int.tdiv (b-a_1) 4) (hL:yEZ data ah ak a_1 (b-a_1) σ.y n2 ((a_1+s3)-1) s2 P0) (k0:∀ σ',P0 σ'→zUE data ah ak a_1 (b-a_1) σ.y n2 σ' Q) (u1:I6 (b-a_1):=by omega) (u2:8≤(b-a_1):=by omega) (u3:I6 s3:=by omega) (u4:I6 (a_1+s3):=by omega) (u5:I6 ((a_1+s3)-1):=by omega),qi 82 [.slice data ah ak,iV a_1,iV b,.func (.func aA) ⟨[]⟩ ⟨ar⟩] σ Q:=
 let s1:=σ.row [.int .u64 0] 1;let s2:=s1.own σ.y [.int .u64 z1] 1;let s3:=(Int.tdiv (b-a_1) 4)*2;let s4:=zLP data ah ak a_1 (b-a_1) σ.y n2 ((a_1+s3)-1);fun h1 h2 h3 hL k0 u1 u2 u3 u4 u5=>zI [.g,.g,.n (b-a_1),.g,.g,.b true,.g,.n z1,.g,.e undef s2,.g,.c (.int .u64 n2) s2,.g,.g,.g,.n (Int.tdiv (b-a_1) 4),.n s3,.n (a_1+s3),.n ((a_1+s3)-1),.g,.lf 67 s4 [zKE data ah ak a_1 (b-a_1) σ.y n2 P0]] (kd (an3 (w64 u1) (yE u2) h1 (an6 ((zC _ _ _).store (vs:=[.int .u64 z1]) rfl zUS rfl (nle rfl) rfl:qq (evL [pq σ.y 0,.int .u64 z1]) s1 (.store 147 (.tmp 0) (.tmp 1))=some (undef,s2)) h2 h3 (w64 u3) (w64 u4) (w64 u5) (ai (ai tt (ai (arf s4) hL)) (ai (kz0 k0) trivial)))))
theorem xEP (nx:Q (.tuple ⟨[]⟩) σ) (u1:I6 (b-a_1):=by omega) (u2:¬ 8≤(b-a_1):=by omega):qi 82 [.slice data ah ak,iV a_1,iV b,.func (.func aA) ⟨[]⟩ ⟨ar⟩] σ Q :=
 zI [.g,.g,.n (b-a_1),.g,.g,.b false] (kd (an2 (w64 u1) (yJ u2) nx))
theorem yIH (nx:Q (.tuple ⟨[]⟩) σ):zUE data ah ak a_1 kB BB n2 σ Q :=
 sK [] nx
theorem xJD (h1:zAN .u64 (length)=z1) (h2:qn 70 [.int .u64 z1] σ (iV n2) σ) (h3:uH Pg .shl 118 (.const (.int .u64 1)) (.tmp 5) (.int .u64 1) (iV n2)=some (.int .u64 n3)) (nx:Q (.int .u64 n3) σ):qi 96 [iV length] σ Q :=
 zI [.g,.g,.n z1,.c (iV n2) σ,.v (.int .u64 n3),.g] (kd (an3 h1 h2 h3 nx))
theorem xOI (h1:lz σ 147 r (.int .u64 n1)) (h2:uH Pg .shl 147 (.tmp 8) (.const (.int .u64 13)) (.int .u64 n1) (.int .u64 13)=some (.int .u64 n2)) (h3:uH Pg .xor 147 (.tmp 5) (.tmp 9) (.int .u64 n1) (.int .u64 n2)=some (.int .u64 n3)) (h4:qq (evL [pz r,.int .u64 n3]) σ (.store 147 (.tmp 0) (.tmp 1))=some (undef,σ4)) (h5:lz σ4 147 r (.int .u64 n5)) (h6:uH Pg .shr 147 (.tmp 17) (.const (.int .u64 7)) (.int .u64 n5) (.int .u64 7)=some (.int .u64 n6)) (h7:uH Pg .xor 147 (.tmp 14) (.tmp 18) (.int .u64 n5) (.int .u64 n6)=some (.int .u64 n7)) (h8:qq (evL [pz r,.int .u64 n7]) σ4 (.store 147 (.tmp 0) (.tmp 1))=some (undef,σ8)) (h9:lz σ8 147 r (.int .u64 n9)) (h10:uH Pg .shl 147 (.tmp 26) (.const (.int .u64 17)) (.int .u64 n9) (.int .u64 17)=some (.int .u64 n10)) (h11:uH Pg .xor 147 (.tmp 23) (.tmp 27) (.int .u64 n9) (.int .u64 n10)=some (.int .u64 n11)) (h12:qq (evL [pz r,.int .u64 n11]) σ8 (.store 147 (.tmp 0) (.tmp 1))=some (undef,σ12)) (h13:lz σ12 147 r (.int .u64 n13)) (nx:Q (.int .u64 n13) σ12):qi 97 [pz r] σ Q :=
 zI [.g,.g,.g,.l (.int .u64 n1),.g,.g,.l (.int .u64 n1),.v (.int .u64 n2),.v (.int .u64 n3),.g,.e undef σ4,.g,.g,.l (.int .u64 n5),.g,.g,.l (.int .u64 n5),.v (.int .u64 n6),.v (.int .u64 n7),.g,.e undef σ8,.g,.g,.l (.int .u64 n9),.g,.g,.l (.int .u64 n9),.v (.int .u64 n10),.v (.int .u64 n11),.g,.e undef σ12,.g,.g,.l (.int .u64 n13),.g] (kd (an4 h1 h1 h2 h3 (an6 h4 h5 h5 h6 h7 h8 (an6 h9 h9 h10 h11 h12 h13 nx))))
theorem yZE (h1:qn 89 [.int .u64 x] σ (iV n1) σ) (nx:Q (iV n1) σ):qi 70 [.int .u64 x] σ Q :=
 zI [.g,.g,.c (iV n1) σ,.g] (kd (ai h1 nx))
theorem xFB (h1:uH Pg .shr 141 (.tmp 15) (.const (.int .u64 8)) (.int .u64 x) (.int .u64 8)=some (.int .u64 n1)) (h2:zAN .u8 (n1)=z2) (h3:zAL Pg 9 (.string ⟨#[0,1,2,2,3,3,3,3,4,4,4,4,4,4,4,4,5,5,5,5,5,5,5,5,5,5,5,5,5,5,5,5,6,6,6,6,6,6,6,6,6,6,6,6,6,6,6,6,6,6,6,6,6,6,6,6,6,6,6,6,6,6,6,6,7,7,7,7,7,7,7,7,7,7,7,7,7,7,7,7,7,7,7,7,7,7,7,7,7,7,7,7,7,7,7,7,7,7,7,7,7,7,7,7,7,7,7,7,7,7,7,7,7,7,7,7,7,7,7,7,7,7,7,7,7,7,7,7,8,8,8,8,8,8,8,8,8,8,8,8,8,8,8,8,8,8,8,8,8,8,8,8,8,8,8,8,8,8,8,8,8,8,8,8,8,8,8,8,8,8,8,8,8,8,8,8,8,8,8,8,8,8,8,8,8,8,8,8,8,8,8,8,8,8,8,8,8,8,8,8,8,8,8,8,8,8,8,8,8,8,8,8,8,8,8,8,8,8,8,8,8,8,8,8,8,8,8,8,8,8,8,8,8,8,8,8,8,8,8,8,8,8,8,8,8,8,8,8,8,8,8,8,8,8,8,8]⟩) (.int .u8 z2)=some (.int .u8 n3)) (nx:Q (iV (8+n3)) σ) (u1:¬ 4294967296≤x:=by omega) (u2:¬ 65536≤x:=by omega) (u3:256≤x:=by omega) (u4:I6 n3:=by omega) (u5:I6 (8+n3):=by omega):qi 89 [.int .u64 x] σ Q :=
 zI [.g,.g,.b false,.g,.b false,.g,.b true,.g,.v (.int .u64 n1),.g,.g,.g,.g,.g,.g,.n z2,.v (.int .u8 n3),.n n3,.n (8+n3),.g] (kd (an2 (yJ u1) (yJ u2) (an6 (yE u3) h1 h2 h3 (w64 u4) (w64 u5) nx)))
theorem xFA (h1:zAN .u8 (x)=z1) (h2:zAL Pg 9 (.string ⟨#[0,1,2,2,3,3,3,3,4,4,4,4,4,4,4,4,5,5,5,5,5,5,5,5,5,5,5,5,5,5,5,5,6,6,6,6,6,6,6,6,6,6,6,6,6,6,6,6,6,6,6,6,6,6,6,6,6,6,6,6,6,6,6,6,7,7,7,7,7,7,7,7,7,7,7,7,7,7,7,7,7,7,7,7,7,7,7,7,7,7,7,7,7,7,7,7,7,7,7,7,7,7,7,7,7,7,7,7,7,7,7,7,7,7,7,7,7,7,7,7,7,7,7,7,7,7,7,7,8,8,8,8,8,8,8,8,8,8,8,8,8,8,8,8,8,8,8,8,8,8,8,8,8,8,8,8,8,8,8,8,8,8,8,8,8,8,8,8,8,8,8,8,8,8,8,8,8,8,8,8,8,8,8,8,8,8,8,8,8,8,8,8,8,8,8,8,8,8,8,8,8,8,8,8,8,8,8,8,8,8,8,8,8,8,8,8,8,8,8,8,8,8,8,8,8,8,8,8,8,8,8,8,8,8,8,8,8,8,8,8,8,8,8,8,8,8,8,8,8,8,8,8,8,8,8,8]⟩) (.int .u8 z1)=some (.int .u8 n2)) (nx:Q (iV (0+n2)) σ) (u1:¬ 4294967296≤x:=by omega) (u2:¬ 65536≤x:=by omega) (u3:¬ 256≤x:=by omega) (u4:I6 n2:=by omega) (u5:I6 (0+n2):=by omega):qi 89 [.int .u64 x] σ Q :=
 zI [.g,.g,.b false,.g,.b false,.g,.b false,.g,.g,.n z1,.v (.int .u8 n2),.n n2,.n (0+n2),.g] (kd (ai (yJ u1) (an6 (yJ u2) (yJ u3) h1 h2 (w64 u4) (w64 u5) nx)))
end
section
open Go.Sort (swp PermIn)
section
variable {σ:St} {b c:Nat} {s:Option Nat} {d:Array Rec} {g:FuncId} {gc:List Value} {lt:Rec→Rec→Bool} {V:Rec→Prop}
theorem xUO {a B:Nat} (h:Dt σ b s d) (hv:xV V d) (ha:a<B) (hB:B≤d.size) (hn:d.size≤1000000) :
  uS 84 [.slice (some ⟨b,0,s⟩) d.size c,iV (a:Int),iV (B:Int),.func (.func g) ⟨[]⟩ ⟨gc⟩] (.tuple ⟨[]⟩) σ b s d (Go.Sort.reverseRange d a B):=by
 refine uS.of h (xPF (P0:=fun τ=>W σ τ b s d (Go.Sort.reverseRange d a B)) (yQP (Inv:=fun k i j τ=>∃ (p q:Nat) (dk:Array Rec),i=p∧j=q∧k=q-p∧p≤B∧q<B∧W σ τ b s d dk∧dk.size=d.size∧Go.Sort.reverseLoop p q dk=Go.Sort.reverseRange d a B) ?_ (B-1-a) _ _ σ.re ⟨a,B-1,d,rfl,by omega,rfl,by omega,by omega,W.start h,rfl,rfl⟩) (fun τ hw=>yQO ⟨rfl,hw⟩) (by omega));rintro k i j τ ⟨p,q,dk,rfl,rfl,hk,hp,hq,w,hsz,ht⟩;by_cases hpq:p<q;rotate_left
 ·rw [Go.Sort.reverseLoop,if_neg hpq] at ht;exact xHA (by rw [← ht];exact w) (by omega)
 rw [Go.Sort.reverseLoop,if_pos hpq] at ht;have l1:=w.dt.ldN (i:=(q:Int)) (k:=q) rfl (by omega);have l2:=w.dt.ldN (i:=(p:Int)) (k:=p) rfl (by omega);obtain ⟨τ5,τ6,t1,t2,w6⟩:=w.swapN (i:=(p:Int)) (j:=(q:Int)) (p:=p) (q:=q) rfl rfl (by omega) (by omega);exact xHB l1 l2 t1 t2 ⟨q-1-(p+1),by omega,p+1,q-1,_,by omega,by omega,rfl,by omega,by omega,w6,by rw [xA,hsz],ht⟩
def zEW:List UInt8:=[0,1,2,2,3,3,3,3,4,4,4,4,4,4,4,4,5,5,5,5,5,5,5,5,5,5,5,5,5,5,5,5]++List.replicate 32 6++List.replicate 64 7++List.replicate 128 8
theorem xJQ:zEW.length=256:=by decide
theorem yMD:∀ n:Fin 256,(zEW.getD n.val 0).toNat≤8∧(0<n.val→2 ^ (zEW.getD n.val 0).toNat≤2*n.val):=by decide +kernel
theorem xVP {n:Nat} (hn:n<256):zAL Try.prog 9 (.string ⟨⟨zEW⟩⟩) (iV (n:Int))=some (.int .u8 ((zEW.getD n 0).toNat:Int)):=by
 have hl:n<zEW.length:=by rw [xJQ];exact hn
 have e:zAL Try.prog 9 (.string ⟨⟨zEW⟩⟩) (iV (n:Int))=if 0≤(n:Int) then (((⟨⟨zEW⟩⟩:ByteArray)[(n:Int).toNat]?).map fun b=>Value.int .u8 b.toNat) else none:=by
  unfold zAL;have hu:Try.prog.underlying 9=some .string:=by kernel_rfl
  simp only [hu]
 rw [e,if_pos (by omega),Int.toNat_natCast];have hb:(⟨⟨zEW⟩⟩:ByteArray)[n]?=some (zEW.getD n 0):=by
  rw [getElem?_pos _ n (by show n<zEW.length;exact hl)];congr 1;rw [List.getD_eq_getElem?_getD,List.getElem?_eq_getElem hl];rfl
 rw [hb];rfl
end
end
section
open Go.Sort (swp PermIn)
theorem xVE {σ:St} {f:FuncId} {args:List Value} {S:Nat→Prop} {Q:Value→St→Prop} (h:zP Pg f args σ.re fun v s=>Only S σ.re s∧(s.low<σ.y∨zV RD v=false∨Q v σ)∧Q v s) (hQ:∀ v s m,Q v s→Q v ⟨s.heap,s.y,m⟩):∃ v σ',zD Pg f args σ v σ'∧Only S σ σ'∧Q v σ':=by
 obtain ⟨v,s,hN,h1,h2,h3⟩:=h;by_cases hlow:s.low<σ.y
 ·exact zP.mut ⟨v,s,hN,h1,.inl hlow,h3⟩ hQ
 ·cases hr:zV RD v with
  | false=>exact zP.mut ⟨v,s,hN,h1,.inr hr,h3⟩ hQ
  | true =>
   refine ⟨v,σ,zP.pure ⟨v,s,hN,rfl,by omega⟩ hr,Only.refl _ _, ?_⟩
   rcases h2 with h2 | h2 | h2
   ·exact absurd h2 hlow
   ·rw [hr] at h2;cases h2
   ·exact h2
theorem xFS (n:Int):zAN .u8 n=n % 256:=by
 have e1:(2:Int) ^ 8=256:=by decide
 rw [uB];simp only [IntKind.wrap,IntKind.bits,IntKind.signed,e1,Bool.false_and,Bool.false_eq_true,if_false]
theorem zVQ (n:Int):zAN .u64 n=n % 18446744073709551616:=by
 have e1:(2:Int) ^ 64=18446744073709551616:=by decide
 rw [uB];simp only [IntKind.wrap,IntKind.bits,IntKind.signed,e1,Bool.false_and,Bool.false_eq_true,if_false]
theorem xWU {x z:Int} {o1 o2:Operand} (hz:0≤z):∃ y,uH Pg .shl 147 o1 o2 (.int .u64 x) (.int .u64 z)=some (.int .u64 y):=by
 refine ⟨IntKind.u64.wrap (x*2 ^ (min z.toNat IntKind.u64.bits)), ?_⟩
 have e:Op.shift .shl .u64 x .u64 z=pure (.int .u64 (IntKind.u64.wrap (x*2 ^ (min z.toNat IntKind.u64.bits)))):=by unfold Op.shift;rw [if_neg (by omega)]
 show ((yA Pg (do eqGuard .shl 147 o1 o2 (.int .u64 x) (.int .u64 z);Op.shift .shl .u64 x .u64 z)).filter (zV RD))=_;rw [e];rfl
theorem xXZ {x z:Int} {o1 o2:Operand} (hz:0≤z):∃ y,uH Pg .shr 147 o1 o2 (.int .u64 x) (.int .u64 z)=some (.int .u64 y):=by
 refine ⟨x.fdiv (2 ^ (min z.toNat IntKind.u64.bits)), ?_⟩
 have e:Op.shift .shr .u64 x .u64 z=pure (.int .u64 (x.fdiv (2 ^ (min z.toNat IntKind.u64.bits)))):=by unfold Op.shift;rw [if_neg (by omega)]
 show ((yA Pg (do eqGuard .shr 147 o1 o2 (.int .u64 x) (.int .u64 z);Op.shift .shr .u64 x .u64 z)).filter (zV RD))=_;rw [e];rfl
theorem xUB {x z:Int} {o1 o2:Operand}:∃ y,uH Pg .xor 147 o1 o2 (.int .u64 x) (.int .u64 z)=some (.int .u64 y):=by
 refine ⟨IntKind.u64.wrap ((BitVec.ofInt IntKind.u64.bits x ^^^ BitVec.ofInt IntKind.u64.bits z).toNat:Int), ?_⟩
 have e:Op.intBits .xor .u64 x z=pure (.int .u64 (IntKind.u64.wrap ((BitVec.ofInt IntKind.u64.bits x ^^^ BitVec.ofInt IntKind.u64.bits z).toNat:Int))):=rfl;show ((yA Pg (do eqGuard .xor 147 o1 o2 (.int .u64 x) (.int .u64 z);Op.intBits .xor .u64 x z)).filter (zV RD))=_;rw [e];rfl
theorem xYJ {x:Int} {m:Nat} {o1 o2:Operand} (hm:m<18446744073709551616):∃ y:Nat,uH Pg .and 118 o1 o2 (.int .u64 x) (.int .u64 (m:Int))=some (.int .u64 (y:Int))∧y≤m:=by
 have e64:(2:Nat) ^ IntKind.u64.bits=18446744073709551616:=by decide
 have hb:(BitVec.ofInt IntKind.u64.bits (m:Int)).toNat=m:=by
  rw [BitVec.toNat_ofInt,e64];omega
 have hle:(BitVec.ofInt IntKind.u64.bits x &&& BitVec.ofInt IntKind.u64.bits (m:Int)).toNat≤m:=by
  rw [BitVec.toNat_and,hb];exact Nat.and_le_right
 refine ⟨(BitVec.ofInt IntKind.u64.bits x &&& BitVec.ofInt IntKind.u64.bits (m:Int)).toNat, ?_,hle⟩
 have e:Op.intBits .and .u64 x (m:Int)=pure (.int .u64 (IntKind.u64.wrap ((BitVec.ofInt IntKind.u64.bits x &&& BitVec.ofInt IntKind.u64.bits (m:Int)).toNat:Int))):=rfl;show ((yA Pg (do eqGuard .and 118 o1 o2 (.int .u64 x) (.int .u64 (m:Int));Op.intBits .and .u64 x (m:Int))).filter (zV RD))=_;rw [e,← uB,zVQ,Int.emod_eq_of_lt (by omega) (by omega)];rfl
theorem xYA {n:Nat} {o1 o2:Operand}:uH Pg .shr 141 o1 o2 (.int .u64 (n:Int)) (.int .u64 8)=some (.int .u64 ((n / 256:Nat):Int)):=by
 have e:Op.shift .shr .u64 (n:Int) .u64 8=pure (.int .u64 ((n / 256:Nat):Int)):=by
  unfold Op.shift;rw [if_neg (by omega)];show pure (Value.int .u64 (Int.fdiv (n:Int) (2 ^ (min (8:Int).toNat IntKind.u64.bits))))=_;rw [show (2:Int) ^ (min (8:Int).toNat IntKind.u64.bits)=((256:Nat):Int) by decide,← Int.ofNat_fdiv]
 show ((yA Pg (do eqGuard .shr 141 o1 o2 (.int .u64 (n:Int)) (.int .u64 8);Op.shift .shr .u64 (n:Int) .u64 8)).filter (zV RD))=_;rw [e];rfl
theorem xYB {n:Nat} {o1 o2:Operand} (h:n≤16):uH Pg .shl 118 o1 o2 (.int .u64 1) (iV (n:Int))=some (.int .u64 ((2 ^ n:Nat):Int)):=by
 have e:Op.shift .shl .u64 1 .i64 (n:Int)=pure (.int .u64 (IntKind.u64.wrap (1*2 ^ (min (n:Int).toNat IntKind.u64.bits)))):=by unfold Op.shift;rw [if_neg (by omega)]
 have e2:IntKind.u64.wrap (1*2 ^ (min (n:Int).toNat IntKind.u64.bits))=((2 ^ n:Nat):Int):=by
  have hp:2 ^ n≤2 ^ 16:=Nat.pow_le_pow_right (by omega) h;have h16:(2:Nat) ^ 16=65536:=by decide
  rw [Int.toNat_natCast,show min n IntKind.u64.bits=n from Nat.min_eq_left (by show n≤64;omega),← uB,zVQ,Int.one_mul];have e3:(2:Int) ^ n=((2 ^ n:Nat):Int):=by simp
  rw [e3];obtain ⟨k,hk⟩:∃ k:Nat,k=2 ^ n:=⟨_,rfl⟩;rw [← hk] at hp ⊢;omega
 show ((yA Pg (do eqGuard .shl 118 o1 o2 (.int .u64 1) (iV (n:Int));Op.shift .shl .u64 1 .i64 (n:Int))).filter (zV RD))=_;rw [e,e2];rfl
theorem yYL {n:Nat} (hn:n<256):zAL Pg 9 (.string ⟨⟨zEW⟩⟩) (.int .u8 (n:Int))=some (.int .u8 ((zEW.getD n 0).toNat:Int)):=by
 have h:=xVP hn;have e:zAL Pg 9 (.string ⟨⟨zEW⟩⟩) (.int .u8 (n:Int))=zAL Pg 9 (.string ⟨⟨zEW⟩⟩) (iV (n:Int)):=by
  unfold zAL;have hu:Pg.underlying 9=some .string:=by kernel_rfl
  simp only [hu]
 rw [e,h]
section
variable {σ:St} {b c:Nat} {s:Option Nat} {d:Array Rec} {g:FuncId} {gc:List Value} {lt:Rec→Rec→Bool} {V:Rec→Prop}
theorem yVX {x:Nat} (hx:x<65536):∃ n:Nat,n≤16∧(0<x→2 ^ n≤2*x)∧zD Pg 70 [.int .u64 (x:Int)] σ (iV (n:Int)) σ:=by
 by_cases h:x<256
 ·obtain ⟨p1,p2⟩:=yMD ⟨x,h⟩;refine ⟨(zEW.getD x 0).toNat,by simp only at p1;omega,fun h0=>p2 h0, ?_⟩
  refine (yZE (n1:=((zEW.getD x 0).toNat:Int)) (xFA (z1:=(x:Int)) (n2:=((zEW.getD x 0).toNat:Int)) (by rw [xFS];omega) (yYL h) ⟨by rw [Int.zero_add],Nat.le_refl _⟩ (by omega) (by omega) (by omega) (by simp only at p1;omega) (by simp only at p1;omega)).pure ⟨rfl,Nat.le_refl _⟩).pure
 ·have h2:x / 256<256:=by omega
  obtain ⟨p1,p2⟩:=yMD ⟨x / 256,h2⟩;simp only at p1 p2;refine ⟨8+(zEW.getD (x / 256) 0).toNat,by omega,fun _=>?_, ?_⟩
  ·have:=p2 (by omega);rw [Nat.pow_add,show (2:Nat) ^ 8=256 from rfl];omega
  ·refine (yZE (n1:=((8+(zEW.getD (x / 256) 0).toNat:Nat):Int)) (xFB (n1:=((x / 256:Nat):Int)) (z2:=((x / 256:Nat):Int)) (n3:=((zEW.getD (x / 256) 0).toNat:Int)) xYA (by rw [xFS];omega) (yYL h2) ⟨by congr 1,Nat.le_refl _⟩ (by omega) (by omega) (by omega) (by omega) (by omega)).pure ⟨rfl,Nat.le_refl _⟩).pure
theorem xQL {l:Nat} (h0:0<l) (hl:l<65536):∃ m:Nat,1≤m∧m≤2*l∧zD Pg 96 [iV (l:Int)] σ (.int .u64 (m:Int)) σ:=by
 obtain ⟨n,h1,h2,h3⟩:=yVX (σ:=σ.re) (x:=l) hl;exact ⟨2 ^ n,Nat.pow_pos (by omega),h2 h0,(xJD (z1:=(l:Int)) (by rw [zVQ];omega) h3 (xYB h1) ⟨rfl,Nat.le_refl _⟩).pure⟩
theorem xUC {r:Nat} {n:Int} (o:Own σ r [.int .u64 n] 1):∃ n' σ',zD Pg 97 [.pointer (some ⟨r,0,none⟩)] σ (.int .u64 n') σ'∧Only (·=r) σ σ'∧Own σ' r [.int .u64 n'] 1:=by
 obtain ⟨n2,b2⟩:=xWU (x:=n) (z:=13) (o1:=.tmp 8) (o2:=.const (.int .u64 13)) (by omega);obtain ⟨n3,b3⟩:=xUB (x:=n) (z:=n2) (o1:=.tmp 5) (o2:=.tmp 9);obtain ⟨n6,b6⟩:=xXZ (x:=n3) (z:=7) (o1:=.tmp 17) (o2:=.const (.int .u64 7)) (by omega);obtain ⟨n7,b7⟩:=xUB (x:=n3) (z:=n6) (o1:=.tmp 14) (o2:=.tmp 18);obtain ⟨n10,b10⟩:=xWU (x:=n7) (z:=17) (o1:=.tmp 26) (o2:=.const (.int .u64 17)) (by omega);obtain ⟨n11,b11⟩:=xUB (x:=n7) (z:=n10) (o1:=.tmp 23) (o2:=.tmp 27);have o0:Own σ.re r [.int .u64 n] 1:=o.re;have s1:=o0.store (P:=Pg) (k:=0) (t:=147) (v:=.int .u64 n3) (vs:=[.int .u64 n3]) (ds:=[.int .u64 n3]) rfl zUS rfl (by simp) rfl;have o1:Own (σ.re.own r [.int .u64 n3] 1) r [.int .u64 n3] 1:=o0.put;have s2:=o1.store (P:=Pg) (k:=0) (t:=147) (v:=.int .u64 n7) (vs:=[.int .u64 n7]) (ds:=[.int .u64 n7]) rfl zUS rfl (by simp) rfl;have o2:Own ((σ.re.own r [.int .u64 n3] 1).own r [.int .u64 n7] 1) r [.int .u64 n7] 1:=o1.put;have s3:=o2.store (P:=Pg) (k:=0) (t:=147) (v:=.int .u64 n11) (vs:=[.int .u64 n11]) (ds:=[.int .u64 n11]) rfl zUS rfl (by simp) rfl;have o3:Own (((σ.re.own r [.int .u64 n3] 1).own r [.int .u64 n7] 1).own r [.int .u64 n11] 1) r [.int .u64 n11] 1:=o2.put;have hr:=o.lt;obtain ⟨v,σ',k1,k2,n',rfl,k3⟩:=zP.mut (P:=Pg) (f:=97) (args:=[.pointer (some ⟨r,0,none⟩)]) (σ:=σ) (S:=(·=r)) (Q:=fun v s=>∃ n',v=.int .u64 n'∧Own s r [.int .u64 n'] 1)
  (xOI (o0.ld rfl yIN rfl) b2 b3 s1 (o1.ld rfl yIN rfl) b6 b7 s2 (o2.ld rfl yIN rfl) b10 b11 s3 (o3.ld rfl yIN rfl)
   ⟨(((Only.own (S:=(·=r)) (.inr rfl)).trans' (Only.own (S:=(·=r)) (.inr rfl)) (fun b _ h=>.inl h)).trans' (Only.own (S:=(·=r)) (.inr rfl)) (fun b _ h=>.inl h)),.inl (by simp [St.own];omega),n11,rfl,o3⟩)
  (by rintro v s m ⟨n',rfl,h⟩;exact ⟨n',rfl,h.low⟩)
 exact ⟨n',σ',k1,k2,k3⟩
theorem W.other {τ τ':St} {dk:Array Rec} {S:Nat→Prop} (w:W σ τ b s d dk) (hb:b<σ.y) (o:Only S τ τ') (hS:∀ x,S x→σ.y≤x) (hl:τ'.low≤τ.low):W σ τ' b s d dk:=by
 refine ⟨w.only.trans' o (fun x _ h=>.inr (hS x h)),w.dt.only o (fun h=>by have:=hS b h;omega), ?_⟩
 rcases w.low with h | h
 ·exact .inl (by omega)
 ·exact .inr h
theorem xMK {a B:Nat} (h:Dt σ b s d) (ha:a≤B) (hB:B≤d.size) (hn:d.size≤60000) (hv:xV V d) :
  ∃ d',PermIn a B d d'∧xV V d'∧uS 82 [.slice (some ⟨b,0,s⟩) d.size c,iV (a:Int),iV (B:Int),.func (.func g) ⟨[]⟩ ⟨gc⟩] (.tuple ⟨[]⟩) σ b s d d':=by
 suffices hmain:zP Pg 82 [.slice (some ⟨b,0,s⟩) d.size c,iV (a:Int),iV (B:Int),.func (.func g) ⟨[]⟩ ⟨gc⟩] σ.re fun v τ=>v=.tuple ⟨[]⟩∧∃ d',W σ τ b s d d'∧PermIn a B d d'∧xV V d' by
  obtain ⟨v,τ,hN,e,d',w,r1,r2⟩:=hmain
  exact ⟨d',r1,r2,uS.of h ⟨v,τ,hN,e,w⟩⟩
 by_cases h8:B-a<8
 ·exact xEP ⟨rfl,d,W.start h,Go.Sort.permIn_refl _ _ _,hv⟩ (by omega) (by omega)
 obtain ⟨l,hl⟩:∃ l,l=B-a:=⟨_,rfl⟩;have el:(B:Int)-(a:Int)=(l:Int):=by omega
 have e4:Int.tdiv (l:Int) 4=((l / 4:Nat):Int):=by rw [Int.tdiv_eq_ediv_of_nonneg (by omega)];omega
 have w4:IntKind.wrap .i64 (Int.tdiv (l:Int) 4)=Int.tdiv (l:Int) 4:=by rw [← uB,e4,zVR (by omega) (by omega)]
 have ez:zAN .u64 ((B:Int)-(a:Int))=(l:Int):=by rw [el,zVQ];omega
 have hbn:=h.1;obtain ⟨m,hm1,hm2,km⟩:=xQL (σ:=(σ.re.row [.int .u64 0] 1).own σ.re.y [.int .u64 (l:Int)] 1) (l:=l) (by omega) (by omega);have o1:Own ((σ.re.row [.int .u64 0] 1).own σ.re.y [.int .u64 (l:Int)] 1) σ.y [.int .u64 (l:Int)] 1:=(zC _ _ _).put;have O1:Only (·=σ.y) σ.re ((σ.re.row [.int .u64 0] 1).own σ.re.y [.int .u64 (l:Int)] 1):=(Only.row (S:=(·=σ.y)) _ _ _).trans' (Only.own (S:=(·=σ.y)) (.inr rfl)) (fun b _ h=>.inl h);have w1:W σ ((σ.re.row [.int .u64 0] 1).own σ.re.y [.int .u64 (l:Int)] 1) b s d d:=(W.start h).other hbn O1 (fun x hx=>by omega) (by simp [St.own]);refine xEQ ez (by rw [el];exact km) (by rw [el];exact w4) (P0:=fun τ=>∃ d',W σ τ b s d d'∧PermIn a B d d'∧xV V d')
  (by
   rw [el];refine yII (Inv:=fun k i τ=>∃ (p:Nat) (dk:Array Rec) (n:Int),i=p∧p+k=a+l / 4*2+2∧a≤p∧W σ τ b s d dk∧PermIn a B d dk∧xV V dk∧Own τ σ.y [.int .u64 n] 1) ?_ 3 _ _ ⟨a+l / 4*2-1,d,_,by rw [e4];omega,by omega,by omega,w1,Go.Sort.permIn_refl _ _ _,hv,o1⟩;rintro k i τ ⟨p,dk,n,rfl,hk,hap,w,hperm,hall,o⟩;have hsz:dk.size=d.size:=hperm.1;by_cases hp:p≤a+l / 4*2+1;rotate_left
   ·exact yVQ w4 ⟨dk,w,hperm,hall⟩ (by rw [e4];omega) (by rw [e4];omega) (by rw [e4];omega) (by rw [e4];omega)
   obtain ⟨n',τ',kx,ox,oo⟩:=xUC o;have w2:=w.other hbn ox (fun x hx=>by omega) (zEB kx);obtain ⟨y,by1,by2⟩:=xYJ (x:=n') (m:=m-1) (o1:=.tmp 38) (o2:=.tmp 40) (by omega);have em:zAN .u64 (Int.sub (m:Int) 1)=((m-1:Nat):Int):=by
    rw [show Int.sub (m:Int) 1=(m:Int)-1 from rfl,zVQ];omega
   have key:∀ (q:Nat) (j:Int),j=(q:Int)→a≤q→q<B→∃ τ1 τ2,zQ Pg (evL [.pointer (some (zN ⟨b,0,s⟩ (Int.toNat (p:Int)*3))),zEI dk[q]!]) τ' (.store 47 (.tmp 0) (.tmp 1))=some (undef,τ1) ∧
     zQ Pg (evL [.pointer (some (zN ⟨b,0,s⟩ (Int.toNat j*3))),zEI dk[p]!]) τ1 (.store 47 (.tmp 0) (.tmp 1))=some (undef,τ2) ∧
     ∃ k',k' < k∧∃ (p':Nat) (dk':Array Rec) (n:Int),(p:Int)+1=p'∧p'+k'=a+l / 4*2+2∧a≤p'∧W σ τ2 b s d dk'∧PermIn a B d dk'∧xV V dk'∧Own τ2 σ.y [.int .u64 n] 1:=by
    intro q j hj h1 h2
    obtain ⟨τ1,e1,d1,q1,l1⟩:=w2.dt.st (i:=(p:Int)) dk[q]! (by omega) (by omega)
    obtain ⟨τ2,e2,d2,q2,l2⟩:=d1.st (i:=j) dk[p]! (by omega) (by rw [Array.size_setIfInBounds];omega)
    have es:(dk.setIfInBounds (p:Int).toNat dk[q]!).setIfInBounds j.toNat dk[p]! = swp dk p q:=by rw [hj,Int.toNat_natCast,Int.toNat_natCast];rfl
    rw [es] at d2
    exact ⟨τ1,τ2,e1,e2,k-1,by omega,p+1,swp dk p q,n',by omega,by omega,by omega,⟨(w2.only.trans' q1 (fun b _ h=>.inl h)).trans' q2 (fun b _ h=>.inl h),d2,.inl l2⟩,
     Go.Sort.permIn_trans _ _ _ a B hperm (Go.Sort.swp_permIn dk a B p q (by omega) (by omega) h1 h2 (by omega)),hall.swp (by omega) (by omega),q2.own' (q1.own' oo (fun e=>by omega)) (fun e=>by omega)⟩
   have lp:=w2.dt.ldN (i:=(p:Int)) (k:=p) rfl (by omega);by_cases hy:l≤y
   ·obtain ⟨τ1,τ2,e1,e2,hk'⟩:=key (a+(y-l)) ((a:Int)+((y:Int)-(l:Int))) (by omega) (by omega) (by omega);have lq:=w2.dt.ldN (i:=(a:Int)+((y:Int)-(l:Int))) (k:=a+(y-l)) (by omega) (by omega);exact yVS w4 kx em by1 lq lp e1 e2 hk' (by rw [e4];omega) (by rw [e4];omega) (by rw [e4];omega) (by rw [e4];omega) (by omega) (by omega) (by omega) (by omega) (by omega) (by omega)
   ·obtain ⟨τ1,τ2,e1,e2,hk'⟩:=key (a+y) ((a:Int)+(y:Int)) (by omega) (by omega) (by omega);have lq:=w2.dt.ldN (i:=(a:Int)+(y:Int)) (k:=a+y) (by omega) (by omega);exact yVR w4 kx em by1 lq lp e1 e2 hk' (by rw [e4];omega) (by rw [e4];omega) (by rw [e4];omega) (by rw [e4];omega) (by omega) (by omega) (by omega) (by omega) (by omega))
  (fun τ hw=>yIH ⟨rfl,hw⟩) (by omega) (by omega) (by rw [el,e4];omega) (by rw [el,e4];omega) (by rw [el,e4];omega)
end
end
section
variable {σ:St} {b c:Nat} {s:Option Nat} {d:Array Rec} {g:FuncId} {gc:List Value} {lt:Rec→Rec→Bool} {V:Rec→Prop}
theorem ySY {bs i j:Nat} {n:Int} (h:Dt σ b s d) (hc:Cmp g gc lt V) (hv:xV V d) (o:Own σ bs [iV n] 1) (hi:i<d.size) (hj:j<d.size) (hn:0≤n∧n≤1000) :
  ∃ (x y:Nat) (n':Int) (σ':St),zD Try.prog 104 [.slice (some ⟨b,0,s⟩) d.size c,iV (i:Int),iV (j:Int),.pointer (some ⟨bs,0,none⟩),.func (.func g) ⟨[]⟩ ⟨gc⟩] σ (.tuple ⟨[iV (x:Int),iV (y:Int)]⟩) σ'∧Only (·=bs) σ σ' ∧
   ((x=i∧y=j)∨(x=j∧y=i))∧n≤n'∧n'≤n+1∧Own σ' bs [iV n'] 1:=by
 have h0:Dt σ.re b s d:=h;have l1:=h0.ldN (i:=(j:Int)) (k:=j) rfl hj;have l2:=h0.ldN (i:=(i:Int)) (k:=i) rfl hi;have hbs:=o.lt;obtain ⟨m,cm,hm⟩:=hc.at_ (τ:=σ.re) hv hj hi;suffices hmain:zP Try.prog 104 [.slice (some ⟨b,0,s⟩) d.size c,iV (i:Int),iV (j:Int),.pointer (some ⟨bs,0,none⟩),.func (.func g) ⟨[]⟩ ⟨gc⟩] σ.re fun v τ=>Only (·=bs) σ.re τ∧(τ.low<σ.y∨zV RD v=false∨∃ (x y:Nat) (n':Int),v=.tuple ⟨[iV (x:Int),iV (y:Int)]⟩∧((x=i∧y=j)∨(x=j∧y=i))∧n≤n'∧n'≤n+1∧Own σ bs [iV n'] 1) ∧
   ∃ (x y:Nat) (n':Int),v=.tuple ⟨[iV (x:Int),iV (y:Int)]⟩∧((x=i∧y=j)∨(x=j∧y=i))∧n≤n'∧n'≤n+1∧Own τ bs [iV n'] 1 by
  obtain ⟨v,σ',k1,k2,x,y,n',rfl,k3,k4,k5,k6⟩:=xVE (Q:=fun v τ=>∃ (x y:Nat) (n':Int),v=.tuple ⟨[iV (x:Int),iV (y:Int)]⟩∧((x=i∧y=j)∨(x=j∧y=i))∧n≤n'∧n'≤n+1∧Own τ bs [iV n'] 1) hmain
   (by rintro v s m ⟨x,y,n',rfl,a1,a2,a3,a4⟩;exact ⟨x,y,n',rfl,a1,a2,a3,a4.low⟩)
  exact ⟨x,y,n',σ',k1,k2,k3,k4,k5,k6⟩
 rcases hm with ⟨m1,_⟩ | ⟨m1,_⟩
 ·have o0:Own σ.re bs [iV n] 1:=o.re;have st:=o0.store (P:=Try.prog) (k:=0) (t:=3) (v:=iV (n+1)) (vs:=[iV (n+1)]) (ds:=[iV (n+1)]) rfl wZ rfl (by simp) rfl;exact xQD l1 l2 cm (o0.ld rfl zS rfl) st ⟨Only.own (.inr rfl),.inl (by simp [St.own];omega),j,i,n+1,rfl,.inr ⟨rfl,rfl⟩,by omega,by omega,o0.put⟩
 ·exact xQC l1 l2 cm ⟨Only.refl _ _,.inr (.inr ⟨i,j,n,rfl,.inl ⟨rfl,rfl⟩,by omega,by omega,o⟩),i,j,n,rfl,.inl ⟨rfl,rfl⟩,by omega,by omega,o.re⟩
theorem xJF {bs i j k:Nat} {n:Int} (h:Dt σ b s d) (hc:Cmp g gc lt V) (hv:xV V d) (o:Own σ bs [iV n] 1) (hb:b≠bs) (hi:i<d.size) (hj:j<d.size) (hk:k<d.size) (hn:0≤n∧n≤900) :
    ∃ (x:Nat) (n':Int) (σ':St),zD Try.prog 99 [.slice (some ⟨b,0,s⟩) d.size c,iV (i:Int),iV (j:Int),iV (k:Int),.pointer (some ⟨bs,0,none⟩),.func (.func g) ⟨[]⟩ ⟨gc⟩] σ (iV (x:Int)) σ'∧Only (·=bs) σ σ' ∧
      (x=i∨x=j∨x=k)∧n≤n'∧n'≤n+3∧Own σ' bs [iV n'] 1:=by
  have hbs:=o.lt;obtain ⟨x1,y1,n1,σ1,k1,q1,z1,e1,f1,o1⟩:=ySY (c:=c) (σ:=σ.re) h hc hv o.re hi hj (by omega);have h1:Dt σ1 b s d:=(show Dt σ.re b s d from h).only q1 (by omega);obtain ⟨x2,y2,n2,σ2,k2,q2,z2,e2,f2,o2⟩:=ySY (c:=c) h1 hc hv o1 (i:=y1) (j:=k) (by omega) hk (by omega);have h2:=h1.only q2 (by omega);obtain ⟨x3,y3,n3,σ3,k3,q3,z3,e3,f3,o3⟩:=ySY (c:=c) h2 hc hv o2 (i:=x1) (j:=x2) (by omega) (by omega) (by omega);have Q3:=(q1.trans' q2 (fun b _ h=>.inl h)).trans' q3 (fun b _ h=>.inl h);have hz:y3=i∨y3=j∨y3=k:=by omega
  by_cases hlow:σ3.low<σ.y
  · obtain ⟨v,σ',r1,r2,x,n',rfl,r3,r4,r5,r6⟩:=xVE (σ:=σ) (f:=99) (args:=[.slice (some ⟨b,0,s⟩) d.size c,iV (i:Int),iV (j:Int),iV (k:Int),.pointer (some ⟨bs,0,none⟩),.func (.func g) ⟨[]⟩ ⟨gc⟩]) (S:=(·=bs)) (Q:=fun v τ=>∃ (x:Nat) (n':Int),v=iV (x:Int)∧(x=i∨x=j∨x=k)∧n≤n'∧n'≤n+3∧Own τ bs [iV n'] 1)
      (xJE k1 k2 k3 ⟨Q3,.inl hlow,y3,n3,rfl,hz,by omega,by omega,o3⟩) (by rintro v s m ⟨x,n',rfl,a1,a2,a3,a4⟩;exact ⟨x,n',rfl,a1,a2,a3,a4.low⟩)
    exact ⟨x,n',σ',r1,r2,r3,r4,r5,r6⟩
  · exact ⟨y3,n,σ,zP.pure (xJE k1 k2 k3 ⟨rfl,by omega⟩),Only.refl _ _,hz,by omega,by omega,o⟩
theorem yTC {bs i:Nat} {n:Int} (h:Dt σ b s d) (hc:Cmp g gc lt V) (hv:xV V d) (o:Own σ bs [iV n] 1) (hb:b≠bs) (hi:1≤i) (hj:i+1<d.size) (hsz:d.size≤1000000) (hn:0≤n∧n≤800) :
    ∃ (x:Nat) (n':Int) (σ':St),zD Try.prog 98 [.slice (some ⟨b,0,s⟩) d.size c,iV (i:Int),.pointer (some ⟨bs,0,none⟩),.func (.func g) ⟨[]⟩ ⟨gc⟩] σ (iV (x:Int)) σ'∧Only (·=bs) σ σ' ∧
      (i≤x+1∧x≤i+1)∧n≤n'∧n'≤n+3∧Own σ' bs [iV n'] 1:=by
  have hbs:=o.lt;obtain ⟨x1,n1,σ1,k1,q1,z1,e1,f1,o1⟩:=xJF (c:=c) (σ:=σ.re) h hc hv o.re hb (i:=i-1) (j:=i) (k:=i+1) (by omega) (by omega) hj (by omega);rw [show ((i-1:Nat):Int)=(i:Int)-1 by omega,show ((i+1:Nat):Int)=(i:Int)+1 by omega] at k1;have hz:i≤x1+1∧x1≤i+1:=by omega
  by_cases hlow:σ1.low<σ.y
  · obtain ⟨v,σ',r1,r2,x,n',rfl,r3,r4,r5,r6⟩:=xVE (σ:=σ) (f:=98) (args:=[.slice (some ⟨b,0,s⟩) d.size c,iV (i:Int),.pointer (some ⟨bs,0,none⟩),.func (.func g) ⟨[]⟩ ⟨gc⟩]) (S:=(·=bs)) (Q:=fun v τ=>∃ (x:Nat) (n':Int),v=iV (x:Int)∧(i≤x+1∧x≤i+1)∧n≤n'∧n'≤n+3∧Own τ bs [iV n'] 1)
      (yYA k1 ⟨q1,.inl hlow,x1,n1,rfl,hz,by omega,by omega,o1⟩) (by rintro v s m ⟨x,n',rfl,a1,a2,a3,a4⟩;exact ⟨x,n',rfl,a1,a2,a3,a4.low⟩)
    exact ⟨x,n',σ',r1,r2,r3,r4,r5,r6⟩
  · exact ⟨x1,n,σ,zP.pure (yYA k1 ⟨rfl,by omega⟩),Only.refl _ _,hz,by omega,by omega,o⟩
theorem xEK {a B:Nat} (h:Dt σ b s d) (hc:Cmp g gc lt V) (hv:xV V d) (ha:a<B) (hB:B≤d.size) (hsz:d.size≤1000000) :
  ∃ (x:Nat) (k:Int),a≤x∧x<B∧zD Try.prog 83 [.slice (some ⟨b,0,s⟩) d.size c,iV (a:Int),iV (B:Int),.func (.func g) ⟨[]⟩ ⟨gc⟩] σ (.tuple ⟨[iV (x:Int),iV k]⟩) σ:=by
 obtain ⟨l,hl⟩:∃ l,l=B-a:=⟨_,rfl⟩;have el:(B:Int)-(a:Int)=(l:Int):=by omega
 have e4:Int.tdiv ((B:Int)-(a:Int)) 4=((l / 4:Nat):Int):=by rw [el,Int.tdiv_eq_ediv_of_nonneg (by omega)];omega
 have w4:IntKind.wrap .i64 (Int.tdiv ((B:Int)-(a:Int)) 4)=Int.tdiv ((B:Int)-(a:Int)) 4:=by rw [← uB,e4,zVR (by omega) (by omega)]
 have hbn:=h.1;have o1:Own (σ.re.row [iV 0] 1) σ.y [iV 0] 1:=zC _ _ _;have N1:New σ.re (σ.re.row [iV 0] 1):=New.row _ _ _;have h1:Dt (σ.re.row [iV 0] 1) b s d:=(show Dt σ.re b s d from h).le N1.le;have hS:∀ x,x=σ.y→σ.y≤x:=fun x e=>by omega
 by_cases h8:8≤l;rotate_left
 ·exact ⟨a+l / 4*2,1,by omega,by omega,zP.pure (yUT w4 ⟨by rw [e4];congr 3,N1.lw⟩ (by omega) (by rw [e4];omega) (by rw [e4];omega) (by rw [e4];omega) (by rw [e4];omega) (by rw [e4];omega) (by rw [e4];omega) (by omega))⟩
 have i1:(a:Int)+Int.tdiv ((B:Int)-(a:Int)) 4*1=((a+l / 4*1:Nat):Int):=by rw [e4];omega
 have i2:(a:Int)+Int.tdiv ((B:Int)-(a:Int)) 4*2=((a+l / 4*2:Nat):Int):=by rw [e4];omega
 have i3:(a:Int)+Int.tdiv ((B:Int)-(a:Int)) 4*3=((a+l / 4*3:Nat):Int):=by rw [e4];omega
 by_cases h50:50≤l;rotate_left
 ·obtain ⟨x,n',σ2,k2,q2,z2,m1,m2,o2⟩:=xJF (c:=c) h1 hc hv o1 (by omega) (i:=a+l / 4*1) (j:=a+l / 4*2) (k:=a+l / 4*3) (by omega) (by omega) (by omega) (by omega);rw [← i1,← i2,← i3] at k2;have N2:=N1.of_only q2 hS;by_cases g0:n'=0
  ·exact ⟨x,1,by omega,by omega,zP.pure (yUW w4 k2 (o2.ld rfl zS rfl) ⟨rfl,N2.lw⟩ (by omega) (by rw [e4];omega) (by rw [e4];omega) (by rw [e4];omega) (by rw [e4];omega) (by rw [e4];omega) (by rw [e4];omega) (by omega) (by omega) (by omega))⟩
  by_cases g12:n'=12
  ·exact ⟨x,2,by omega,by omega,zP.pure (yUV w4 k2 (o2.ld rfl zS rfl) ⟨rfl,N2.lw⟩ (by omega) (by rw [e4];omega) (by rw [e4];omega) (by rw [e4];omega) (by rw [e4];omega) (by rw [e4];omega) (by rw [e4];omega) (by omega) (by omega) (by omega) (by omega))⟩
  ·exact ⟨x,0,by omega,by omega,zP.pure (yUU w4 k2 (o2.ld rfl zS rfl) ⟨rfl,N2.lw⟩ (by omega) (by rw [e4];omega) (by rw [e4];omega) (by rw [e4];omega) (by rw [e4];omega) (by rw [e4];omega) (by rw [e4];omega) (by omega) (by omega) (by omega) (by omega))⟩
 obtain ⟨x1,n1,σ2,k2,q2,z2,m1,m2,o2⟩:=yTC (c:=c) h1 hc hv o1 (by omega) (i:=a+l / 4*1) (by omega) (by omega) hsz (by omega);have N2:=N1.of_only q2 hS;have h2:=h1.only q2 (by omega);obtain ⟨x2,n2,σ3,k3,q3,z3,m3,m4,o3⟩:=yTC (c:=c) h2 hc hv o2 (by omega) (i:=a+l / 4*2) (by omega) (by omega) hsz (by omega);have N3:=N2.of_only q3 hS;have h3:=h2.only q3 (by omega);obtain ⟨x3,n3,σ4,k4,q4,z4,m5,m6,o4⟩:=yTC (c:=c) h3 hc hv o3 (by omega) (i:=a+l / 4*3) (by omega) (by omega) hsz (by omega);have N4:=N3.of_only q4 hS;have h4:=h3.only q4 (by omega);obtain ⟨x,n',σ5,k5,q5,z5,m7,m8,o5⟩:=xJF (c:=c) h4 hc hv o4 (by omega) (i:=x1) (j:=x2) (k:=x3) (by omega) (by omega) (by omega) (by omega);have N5:=N4.of_only q5 hS;rw [← i1] at k2;rw [← i2] at k3;rw [← i3] at k4;by_cases g0:n'=0
 ·exact ⟨x,1,by omega,by omega,zP.pure (yUZ ⟨w4,k2,k3,k4,k5,(o5.ld rfl zS rfl)⟩ ⟨rfl,N5.lw⟩ (by omega) (by rw [e4];omega) (by rw [e4];omega) (by rw [e4];omega) (by rw [e4];omega) (by rw [e4];omega) (by rw [e4];omega) (by omega) (by omega) (by omega))⟩
 by_cases g12:n'=12
 ·exact ⟨x,2,by omega,by omega,zP.pure (yUY ⟨w4,k2,k3,k4,k5,(o5.ld rfl zS rfl)⟩ ⟨rfl,N5.lw⟩ (by omega) (by rw [e4];omega) (by rw [e4];omega) (by rw [e4];omega) (by rw [e4];omega) (by rw [e4];omega) (by rw [e4];omega) (by omega) (by omega) (by omega) (by omega))⟩
 ·exact ⟨x,0,by omega,by omega,zP.pure (yUX ⟨w4,k2,k3,k4,k5,(o5.ld rfl zS rfl)⟩ ⟨rfl,N5.lw⟩ (by omega) (by rw [e4];omega) (by rw [e4];omega) (by rw [e4];omega) (by rw [e4];omega) (by rw [e4];omega) (by rw [e4];omega) (by omega) (by omega) (by omega) (by omega))⟩
end
section
noncomputable section
variable (data:oAa) (ah ak:Nat) (aT:Int) (aA:FuncId) (ar:lVa) (q1:St→Prop) (bA:Bool) (q0:Int→Int→Int→Bool→Bool→St→Prop) (aV nL aH kD bh kE kC:Int) (fy fo bt:Bool) (q4:Int→Int→Bool→St→Prop) (fM fK:Int) (t10_5:Bool) (σ:St) (q5:Int→Int→Bool→St→Prop) (Nx:Int→Int→Int→Bool→Bool→St→Prop) (q6:vPa) (Qr:St→Prop)
def zNB:Code:=(Code.part [1,1,0,0] (qj 69))
def zXB:lNa:=[(0,.slice data ah ak),(1,iV aV),(2,iV aH),(3,iV bh),(4,.func (.func aA) ⟨[]⟩ ⟨ar⟩),(10,.bool fy),(11,.bool bt)]
def zKW:Alt:=⟨Int × Int × Int × Bool × Bool,.normal,fun t=>zXB data ah ak aA ar t.1 t.2.1 t.2.2.1 t.2.2.2.1 t.2.2.2.2,fun t=>[],fun t σ=>q0 t.1 t.2.1 t.2.2.1 t.2.2.2.1 t.2.2.2.2 σ⟩
def yKV (data:oAa) (ah ak:Nat) (aA:FuncId) (ar:lVa):lNa:=[]
def zCL:Alt:=⟨Unit,.ret,fun t=>yKV data ah ak aA ar,fun t=>[],fun t σ=>q1 σ⟩
def zQR:Prop:=qk ql none zNB 148 (zXB data ah ak aA ar aV aH bh fy bt) [] [zKW data ah ak aA ar Nx,zCL data ah ak aA ar Qr] σ
def xHS:Prop:=qm ql none zNB 148 (zXB data ah ak aA ar aV aH bh fy bt) [] [zCL data ah ak aA ar Qr] σ
def xUZ:Code:=(Code.part [1,1,0,0,0,1,1,1,0,1] (qj 69))
def yRZ (data:oAa) (ah ak:Nat) (aV aH:Int) (aA:FuncId) (ar:lVa) (dm bt:Bool) (kA:Int) (fR:Bool) (aT:Int):lNa:=[(0,.slice data ah ak),(1,iV aV),(2,iV aH),(3,iV aT),(4,.func (.func aA) ⟨[]⟩ ⟨ar⟩),(10,.bool dm),(11,.bool bt),(12,iV kA),(39,.bool fR)]
def yKU (data:oAa) (ah ak:Nat) (aV aH:Int) (aA:FuncId) (ar:lVa) (dm bt:Bool) (kA:Int) (fR:Bool) (aT:Int):lNa:=[(0,.slice data ah ak),(1,iV aV),(2,iV aH),(3,iV aT),(4,.func (.func aA) ⟨[]⟩ ⟨ar⟩),(10,.bool dm),(11,.bool bt),(12,iV kA)]
def zXE (data:oAa) (ah ak:Nat) (aV aH:Int) (aA:FuncId) (ar:lVa) (dm bt:Bool) (kA:Int) (fR:Bool) (Q:Int→St→Prop):Alt:=⟨Int,.normal,fun t=>yKU data ah ak aV aH aA ar dm bt kA fR t,fun t=>[],fun t σ=>Q t σ⟩
def yGP (data:oAa) (ah ak:Nat) (aV aH:Int) (aA:FuncId) (ar:lVa) (dm bt:Bool) (kA:Int) (fR:Bool) (aT:Int) (σ:St) (Qn:Int→St→Prop):Prop:=qk ql none xUZ 148 (yRZ data ah ak aV aH aA ar dm bt kA fR aT) [] [zXE data ah ak aV aH aA ar dm bt kA fR Qn] σ
def zIZ (data:oAa) (ah ak:Nat) (aV aH:Int) (aA:FuncId) (ar:lVa) (dm bt:Bool) (kA:Int) (fR:Bool) (aT:Int) (σ:St) (Nx:Int→Int→Int→Bool→Bool→St→Prop) (Qr:St→Prop):Prop:=kZ ql zNB [0,1,1,1,0,1] (zGC 148 [zKW data ah ak aA ar Nx,zCL data ah ak aA ar Qr]) .normal 148 (yKU data ah ak aV aH aA ar dm bt kA fR aT) σ
def xUY:Code:=(Code.part [1,1,0,0,0,1,1,1,1,1,0,1] (qj 69))
def zXA (data:oAa) (ah ak:Nat) (aV aH aT:Int) (aA:FuncId) (ar:lVa) (dm bt:Bool) (kA:Int) (eH:Bool) (aF dG:Int):lNa:=[(0,.slice data ah ak),(1,iV aV),(2,iV aH),(3,iV aT),(4,.func (.func aA) ⟨[]⟩ ⟨ar⟩),(10,.bool dm),(11,.bool bt),(12,iV kA),(13,iV aF),(14,iV dG),(56,.bool eH)]
def yKT (data:oAa) (ah ak:Nat) (aV aH aT:Int) (aA:FuncId) (ar:lVa) (dm bt:Bool) (kA:Int) (eH:Bool) (aF dG:Int):lNa:=[(0,.slice data ah ak),(1,iV aV),(2,iV aH),(3,iV aT),(4,.func (.func aA) ⟨[]⟩ ⟨ar⟩),(10,.bool dm),(11,.bool bt),(12,iV kA),(13,iV aF),(14,iV dG)]
def zXD (data:oAa) (ah ak:Nat) (aV aH aT:Int) (aA:FuncId) (ar:lVa) (dm bt:Bool) (kA:Int) (eH:Bool) (Q:Int→Int→St→Prop):Alt:=⟨Int × Int,.normal,fun t=>yKT data ah ak aV aH aT aA ar dm bt kA eH t.1 t.2,fun t=>[],fun t σ=>Q t.1 t.2 σ⟩
def yGO (data:oAa) (ah ak:Nat) (aV aH aT:Int) (aA:FuncId) (ar:lVa) (dm bt:Bool) (kA:Int) (eH:Bool) (aF dG:Int) (σ:St) (Qn:Int→Int→St→Prop):Prop:=qk ql none xUY 148 (zXA data ah ak aV aH aT aA ar dm bt kA eH aF dG) [] [zXD data ah ak aV aH aT aA ar dm bt kA eH Qn] σ
def wA (data:oAa) (ah ak:Nat) (aV aH aT:Int) (aA:FuncId) (ar:lVa) (dm bt:Bool) (kA:Int) (eH:Bool) (aF dG:Int) (σ:St) (Nx:Int→Int→Int→Bool→Bool→St→Prop) (Qr:St→Prop):Prop:=kZ ql zNB [0,1,1,1,1,1,0,1] (zGC 148 [zKW data ah ak aA ar Nx,zCL data ah ak aA ar Qr]) .normal 148 (yKT data ah ak aV aH aT aA ar dm bt kA eH aF dG) σ
def xUX:Code:=(Code.part [1,1,0,0,0,1,1,1,1,1,1,1,0,1] (qj 69))
def wH (data:oAa) (ah ak:Nat) (aH aT:Int) (aA:FuncId) (ar:lVa) (eG eF:Bool) (kA aF:Int) (eP:Bool) (dZ:Int):lNa:=[(0,.slice data ah ak),(1,iV dZ),(2,iV aH),(3,iV aT),(4,.func (.func aA) ⟨[]⟩ ⟨ar⟩),(10,.bool eG),(11,.bool eF),(12,iV kA),(13,iV aF),(97,.bool eP)]
def yKS (data:oAa) (ah ak:Nat) (aH aT:Int) (aA:FuncId) (ar:lVa) (eG eF:Bool) (kA aF:Int) (eP:Bool) (dZ:Int):lNa:=[(0,.slice data ah ak),(1,iV dZ),(2,iV aH),(3,iV aT),(4,.func (.func aA) ⟨[]⟩ ⟨ar⟩),(10,.bool eG),(11,.bool eF)]
def vS (data:oAa) (ah ak:Nat) (aH aT:Int) (aA:FuncId) (ar:lVa) (eG eF:Bool) (kA aF:Int) (eP:Bool) (Q:Int→St→Prop):Alt:=⟨Int,(.exit 1),fun t=>yKS data ah ak aH aT aA ar eG eF kA aF eP t,fun t=>[],fun t σ=>Q t σ⟩
def yKR (data:oAa) (ah ak:Nat) (aH aT:Int) (aA:FuncId) (ar:lVa) (eG eF:Bool) (kA aF:Int) (eP:Bool) (dZ:Int):lNa:=[(0,.slice data ah ak),(1,iV dZ),(2,iV aH),(3,iV aT),(4,.func (.func aA) ⟨[]⟩ ⟨ar⟩),(12,iV kA),(13,iV aF)]
def vR (data:oAa) (ah ak:Nat) (aH aT:Int) (aA:FuncId) (ar:lVa) (eG eF:Bool) (kA aF:Int) (eP:Bool) (Q:Int→St→Prop):Alt:=⟨Int,.normal,fun t=>yKR data ah ak aH aT aA ar eG eF kA aF eP t,fun t=>[],fun t σ=>Q t σ⟩
def uY (data:oAa) (ah ak:Nat) (aH aT:Int) (aA:FuncId) (ar:lVa) (eG eF:Bool) (kA aF:Int) (eP:Bool) (dZ:Int) (σ:St) (Q1:Int→St→Prop) (Qn:Int→St→Prop):Prop:=qk ql none xUX 148 (wH data ah ak aH aT aA ar eG eF kA aF eP dZ) [] [vS data ah ak aH aT aA ar eG eF kA aF eP Q1,vR data ah ak aH aT aA ar eG eF kA aF eP Qn] σ
def vE (data:oAa) (ah ak:Nat) (aH aT:Int) (aA:FuncId) (ar:lVa) (eG eF:Bool) (kA aF:Int) (eP:Bool) (dZ:Int) (σ:St) (Nx:Int→Int→Int→Bool→Bool→St→Prop) (Qr:St→Prop):Prop:=kZ ql zNB [0,1,1,1,1,1,1,1,0,1] (zGC 148 [zKW data ah ak aA ar Nx,zCL data ah ak aA ar Qr]) (.exit 1) 148 (yKS data ah ak aH aT aA ar eG eF kA aF eP dZ) σ
def wJ (data:oAa) (ah ak:Nat) (aH aT:Int) (aA:FuncId) (ar:lVa) (eG eF:Bool) (kA aF:Int) (eP:Bool) (dZ:Int) (σ:St) (Nx:Int→Int→Int→Bool→Bool→St→Prop) (Qr:St→Prop):Prop:=kZ ql zNB [0,1,1,1,1,1,1,1,0,1] (zGC 148 [zKW data ah ak aA ar Nx,zCL data ah ak aA ar Qr]) .normal 148 (yKR data ah ak aH aT aA ar eG eF kA aF eP dZ) σ
def xUW:Code:=(Code.part [1,1,0,0,0,1,1,1,1,1,1,1,1,1,1,1,1,1] (qj 69))
def yRY:lNa:=[(0,.slice data ah ak),(1,iV fM),(2,iV fK),(3,iV aT),(4,.func (.func aA) ⟨[]⟩ ⟨ar⟩),(11,.bool bA),(16,iV nL),(18,iV kD),(19,iV kE),(20,iV kC),(125,.bool fo)]
def yKQ (data:oAa) (ah ak:Nat) (aT:Int) (aA:FuncId) (ar:lVa) (bA:Bool) (nL kD kE kC:Int) (fo:Bool) (fM fK:Int) (t10_5:Bool):lNa:=[(0,.slice data ah ak),(1,iV fM),(2,iV fK),(3,iV aT),(4,.func (.func aA) ⟨[]⟩ ⟨ar⟩),(10,.bool t10_5),(11,.bool bA)]
def zXC:Alt:=⟨Int × Int × Bool,.normal,fun t=>yKQ data ah ak aT aA ar bA nL kD kE kC fo t.1 t.2.1 t.2.2,fun t=>[],fun t σ=>q4 t.1 t.2.1 t.2.2 σ⟩
def zQQ:Prop:=qk ql none xUW 148 (yRY data ah ak aT aA ar bA nL kD kE kC fo fM fK) [] [zXC data ah ak aT aA ar bA nL kD kE kC fo q5] σ
def zXF:Prop:=kZ ql zNB [0,1,1,1,1,1,1,1,1,1,1,1,1,1] (zGC 148 [zKW data ah ak aA ar Nx,zCL data ah ak aA ar Qr]) .normal 148 (yKQ data ah ak aT aA ar bA nL kD kE kC fo fM fK t10_5) σ
def yKW:Prop:=kZ ql (qj 69) [1,1,0] (qo 69 q6) .ret 148 (yKV data ah ak aA ar) σ
end
variable {data x:oAa} {ah ak x_l x_c:Nat} {aA:FuncId} {ar:lVa} {Inv:Nat→Int→Int→Int→Bool→Bool→St→Prop} {Qr Pr:St→Prop} {aV aH bh kA aT aF dG nKB nIB dZ nCB nX nY nZ nAB nBB nBP nBQ nDB nEB kD kE kC nL fM fK a_1 b limit z1 n2:Int} {fy bt dm fR eH eG eF eP bA fo t10_5:Bool} {σN σ σRB σSB σC σTB σJ σY σ3:St} {Nx:Int→Int→Int→Bool→Bool→St→Prop} {Qn Pn Q1 P1:Int→St→Prop} {ax:Addr} {Q:vPa}
theorem yCI (hb:∀ k aV aH bh fy bt σ,Inv k aV aH bh fy bt σ→zQR data ah ak aA ar aV aH bh fy bt σ (NX5 Inv k) Qr):∀ k aV aH bh fy bt σ,Inv k aV aH bh fy bt σ→xHS data ah ak aA ar aV aH bh fy bt σ Qr :=
 xVL (ai zCK trivial) hb
theorem yXH (h1:qn 80 [.slice data ah ak,iV aV,iV aH,.func (.func aA) ⟨[]⟩ ⟨ar⟩] σ (.tuple ⟨[]⟩) σN) (nx:Qr σN) (u1:I6 (aH-aV):=by omega) (u2:(aH-aV)≤12:=by omega):zQR data ah ak aA ar aV aH bh fy bt σ Nx Qr :=
 kO 1 () [.g,.g,.n (aH-aV),.g,.g,.b true,.g,.g,.g,.g,.c (.tuple ⟨[]⟩) σN] (fun _ f=>an3 (w64 u1) (yE u2) h1 f) nx
theorem xPX (h1:qn 81 [.slice data ah ak,iV aV,iV aH,.func (.func aA) ⟨[]⟩ ⟨ar⟩] σ (.tuple ⟨[]⟩) σN) (nx:Qr σN) (u1:I6 (aH-aV):=by omega) (u2:¬ (aH-aV)≤12:=by omega) (u3:bh=0:=by omega):zQR data ah ak aA ar aV aH bh fy bt σ Nx Qr :=
 kO 1 () [.g,.g,.n (aH-aV),.g,.g,.b false,.g,.b true,.g,.g,.g,.g,.c (.tuple ⟨[]⟩) σN] (fun _ f=>an4 (w64 u1) (yJ u2) (xH u3) h1 f) nx
theorem xPU (h1:qn 82 [.slice data ah ak,iV aV,iV aH,.func (.func aA) ⟨[]⟩ ⟨ar⟩] σ (.tuple ⟨[]⟩) σRB) (nx:Qn (aT-1) σRB) (u1:I6 (aT-1):=by omega):yGP data ah ak aV aH aA ar dm bt kA true aT σ Qn :=
 kO 0 (aT-1) [.g,.g,.g,.g,.c (.tuple ⟨[]⟩) σRB,.g,.n (aT-1),.g] (fun _ f=>an2 h1 (w64 u1) f) nx
theorem xPT (nx:Qn aT σ):yGP data ah ak aV aH aA ar dm bt kA false aT σ Qn :=
 kO 0 aT [] (fun _ f=>f) nx
theorem xPW (hL:yGP data ah ak aV aH aA ar true bt (aH-aV) false bh σ Pn) (kn:∀ i3_2' σ',Pn i3_2' σ'→zIZ data ah ak aV aH aA ar true bt (aH-aV) false i3_2' σ' Nx Qr) (u1:I6 (aH-aV):=by omega) (u2:¬ (aH-aV)≤12:=by omega) (u3:¬ bh=0:=by omega):zQR data ah ak aA ar aV aH bh true bt σ Nx Qr :=
 let s1:=yRZ data ah ak aV aH aA ar true bt (aH-aV) false bh;zDA [.g,.g,.n (aH-aV),.g,.g,.b false,.g,.b false,.g,.g,.cut 148 s1 [zXE data ah ak aV aH aA ar true bt (aH-aV) false Pn]] (fun g=>kd (an3 (w64 u1) (yJ u2) (xL u3) (ai (ai tt (ai (arf s1) hL)) (ai (kz1 kn) trivial))))
theorem xPV (hL:yGP data ah ak aV aH aA ar false bt (aH-aV) true bh σ Pn) (kn:∀ i3_2' σ',Pn i3_2' σ'→zIZ data ah ak aV aH aA ar false bt (aH-aV) true i3_2' σ' Nx Qr) (u1:I6 (aH-aV):=by omega) (u2:¬ (aH-aV)≤12:=by omega) (u3:¬ bh=0:=by omega):zQR data ah ak aA ar aV aH bh false bt σ Nx Qr :=
 let s1:=yRZ data ah ak aV aH aA ar false bt (aH-aV) true bh;zDA [.g,.g,.n (aH-aV),.g,.g,.b false,.g,.b false,.g,.g,.cut 148 s1 [zXE data ah ak aV aH aA ar false bt (aH-aV) true Pn]] (fun g=>kd (an3 (w64 u1) (yJ u2) (xL u3) (ai (ai tt (ai (arf s1) hL)) (ai (kz1 kn) trivial))))
theorem xPS {Qn:Int→Int→St→Prop} (h1:qn 84 [.slice data ah ak,iV aV,iV aH,.func (.func aA) ⟨[]⟩ ⟨ar⟩] σ (.tuple ⟨[]⟩) σSB) (nx:Qn ((aH-1)-(aF-aV)) (1:Int) σSB) (u1:I6 (aH-1):=by omega) (u2:I6 (aF-aV):=by omega) (u3:I6 ((aH-1)-(aF-aV)):=by omega):yGO data ah ak aV aH aT aA ar dm bt kA true aF dG σ Qn :=
 let s1:=aF-aV;kO 0 ((aH-1)-s1,(1:Int)) [.g,.g,.g,.g,.c (.tuple ⟨[]⟩) σSB,.g,.n (aH-1),.g,.g,.n s1,.n ((aH-1)-s1),.g,.g] (fun _ f=>an4 h1 (w64 u1) (w64 u2) (w64 u3) f) nx
theorem xPR {Qn:Int→Int→St→Prop} (nx:Qn aF dG σ):yGO data ah ak aV aH aT aA ar dm bt kA false aF dG σ Qn :=
 kO 0 (aF,dG) [] (fun _ f=>f) nx
theorem xBX {Pn:Int→Int→St→Prop} (h1:qn 83 [.slice data ah ak,iV aV,iV aH,.func (.func aA) ⟨[]⟩ ⟨ar⟩] σ (.tuple ⟨[iV nKB,iV nIB]⟩) σ) (hL:yGO data ah ak aV aH aT aA ar dm bt kA true nKB nIB σ Pn) (kn:∀ i13_3' i14_3' σ',Pn i13_3' i14_3' σ'→wA data ah ak aV aH aT aA ar dm bt kA true i13_3' i14_3' σ' Nx Qr) (u1:nIB=2:=by omega):zIZ data ah ak aV aH aA ar dm bt kA fR aT σ Nx Qr :=
 sK [.g,.g,.g,.g,.c (.tuple ⟨[iV nKB,iV nIB]⟩) σ,.g,.g,.g,.g,.g,.g,.b true,.cut 148 (zXA data ah ak aV aH aT aA ar dm bt kA true nKB nIB) [zXD data ah ak aV aH aT aA ar dm bt kA true Pn]] (an2 h1 (xH u1) (ai (ai tt (ai (arf (zXA data ah ak aV aH aT aA ar dm bt kA true nKB nIB)) hL)) (ai (kz2 kn) trivial)))
theorem xBW {Pn:Int→Int→St→Prop} (h1:qn 83 [.slice data ah ak,iV aV,iV aH,.func (.func aA) ⟨[]⟩ ⟨ar⟩] σ (.tuple ⟨[iV nKB,iV nIB]⟩) σ) (hL:yGO data ah ak aV aH aT aA ar dm bt kA false nKB nIB σ Pn) (kn:∀ i13_3' i14_3' σ',Pn i13_3' i14_3' σ'→wA data ah ak aV aH aT aA ar dm bt kA false i13_3' i14_3' σ' Nx Qr) (u1:¬ nIB=2:=by omega):zIZ data ah ak aV aH aA ar dm bt kA fR aT σ Nx Qr :=
 sK [.g,.g,.g,.g,.c (.tuple ⟨[iV nKB,iV nIB]⟩) σ,.g,.g,.g,.g,.g,.g,.b false,.cut 148 (zXA data ah ak aV aH aT aA ar dm bt kA false nKB nIB) [zXD data ah ak aV aH aT aA ar dm bt kA false Pn]] (an2 h1 (xL u1) (ai (ai tt (ai (arf (zXA data ah ak aV aH aT aA ar dm bt kA false nKB nIB)) hL)) (ai (kz2 kn) trivial)))
theorem yCG (h1:qn 85 [.slice data ah ak,iV aV,iV aH,.func (.func aA) ⟨[]⟩ ⟨ar⟩] σ (.bool true) σC) (nx:Qr σC) (u1:dG=1:=by omega):wA data ah ak aV aH aT aA ar true true kA eH aF dG σ Nx Qr :=
 sF 1 () [.g,.g,.g,.g,.g,.g,.b true,.g,.g,.g,.g,.g,.c (.bool true) σC] (fun _ f=>an2 (xH u1) h1 f) nx
theorem xPQ (h1:qn 86 [.slice data ah ak,iV dZ,iV aH,iV aF,.func (.func aA) ⟨[]⟩ ⟨ar⟩] σ (iV nCB) σTB) (nx:Q1 nCB σTB):uY data ah ak aH aT aA ar eG eF kA aF true dZ σ Q1 Qn :=
 kO 0 nCB [.g,.g,.g,.g,.g,.c (iV nCB) σTB,.g,.g,.g] (fun _ f=>ai h1 f) nx
theorem xPP (nx:Qn dZ σ):uY data ah ak aH aT aA ar eG eF kA aF false dZ σ Q1 Qn :=
 kO 1 dZ [] (fun _ f=>f) nx
theorem xBV (h1:qn 85 [.slice (some ax) ah ak,iV aV,iV aH,.func (.func aA) ⟨[]⟩ ⟨ar⟩] σ (.bool false) σC) (h2:lz σC 47 (zN ax (Int.toNat (aV-1)*3)) (qh (rcd nX nY nZ))) (h3:lz σC 47 (zN ax (Int.toNat aF*3)) (qh (rcd nAB nBB nBP))) (h4:qn aA (qh (rcd nX nY nZ)::(qh (rcd nAB nBB nBP))::ar) σC (iV nBQ) σC) (hL:uY (some ax) ah ak aH aT aA ar true true kA aF false aV σC P1 Pn) (k1:∀ i1_4' σ',P1 i1_4' σ'→vE (some ax) ah ak aH aT aA ar true true kA aF false i1_4' σ' Nx Qr) (kn:∀ i1_4' σ',Pn i1_4' σ'→wJ (some ax) ah ak aH aT aA ar true true kA aF false i1_4' σ' Nx Qr) (u1:dG=1:=by omega) (u2:0<aV:=by omega) (u3:I6 (aV-1):=by omega) (u4:Ix (aV-1) ah:=by omega) (u5:Ix aF ah:=by omega) (u6:nBQ<0:=by omega):wA (some ax) ah ak aV aH aT aA ar true true kA eH aF dG σ Nx Qr :=
 sK [.g,.g,.g,.g,.g,.g,.b true,.g,.g,.g,.g,.g,.c (.bool false) σC,.g,.b true,.g,.g,.g,.g,.n (aV-1),.i,.l (qh (rcd nX nY nZ)),.g,.g,.i,.l (qh (rcd nAB nBB nBP)),.c (iV nBQ) σC,.b true,.g,.g,.cut 148 (wH (some ax) ah ak aH aT aA ar true true kA aF false aV) [vS (some ax) ah ak aH aT aA ar true true kA aF false P1,vR (some ax) ah ak aH aT aA ar true true kA aF false Pn]] (an4 (xH u1) h1 (zR u2) (w64 u3) (an6 u4 h2 u5 h3 h4 (zR u6) (ai (ai tt (ai (arf (wH (some ax) ah ak aH aT aA ar true true kA aF false aV)) hL)) (ai (kz1 k1) (ai (kz1 kn) trivial)))))
theorem xBU (h1:qn 85 [.slice (some ax) ah ak,iV aV,iV aH,.func (.func aA) ⟨[]⟩ ⟨ar⟩] σ (.bool false) σC) (h2:lz σC 47 (zN ax (Int.toNat (aV-1)*3)) (qh (rcd nX nY nZ))) (h3:lz σC 47 (zN ax (Int.toNat aF*3)) (qh (rcd nAB nBB nBP))) (h4:qn aA (qh (rcd nX nY nZ)::(qh (rcd nAB nBB nBP))::ar) σC (iV nBQ) σC) (hL:uY (some ax) ah ak aH aT aA ar true true kA aF true aV σC P1 Pn) (k1:∀ i1_4' σ',P1 i1_4' σ'→vE (some ax) ah ak aH aT aA ar true true kA aF true i1_4' σ' Nx Qr) (kn:∀ i1_4' σ',Pn i1_4' σ'→wJ (some ax) ah ak aH aT aA ar true true kA aF true i1_4' σ' Nx Qr) (u1:dG=1:=by omega) (u2:0<aV:=by omega) (u3:I6 (aV-1):=by omega) (u4:Ix (aV-1) ah:=by omega) (u5:Ix aF ah:=by omega) (u6:¬ nBQ<0:=by omega):wA (some ax) ah ak aV aH aT aA ar true true kA eH aF dG σ Nx Qr :=
 sK [.g,.g,.g,.g,.g,.g,.b true,.g,.g,.g,.g,.g,.c (.bool false) σC,.g,.b true,.g,.g,.g,.g,.n (aV-1),.i,.l (qh (rcd nX nY nZ)),.g,.g,.i,.l (qh (rcd nAB nBB nBP)),.c (iV nBQ) σC,.b false,.g,.g,.cut 148 (wH (some ax) ah ak aH aT aA ar true true kA aF true aV) [vS (some ax) ah ak aH aT aA ar true true kA aF true P1,vR (some ax) ah ak aH aT aA ar true true kA aF true Pn]] (an4 (xH u1) h1 (zR u2) (w64 u3) (an6 u4 h2 u5 h3 h4 (zT u6) (ai (ai tt (ai (arf (wH (some ax) ah ak aH aT aA ar true true kA aF true aV)) hL)) (ai (kz1 k1) (ai (kz1 kn) trivial)))))
theorem xBT (h1:qn 85 [.slice data ah ak,iV aV,iV aH,.func (.func aA) ⟨[]⟩ ⟨ar⟩] σ (.bool false) σC) (hL:uY data ah ak aH aT aA ar true true kA aF false aV σC P1 Pn) (k1:∀ i1_4' σ',P1 i1_4' σ'→vE data ah ak aH aT aA ar true true kA aF false i1_4' σ' Nx Qr) (kn:∀ i1_4' σ',Pn i1_4' σ'→wJ data ah ak aH aT aA ar true true kA aF false i1_4' σ' Nx Qr) (u1:dG=1:=by omega) (u2:¬ 0<aV:=by omega):wA data ah ak aV aH aT aA ar true true kA eH aF dG σ Nx Qr :=
 sK [.g,.g,.g,.g,.g,.g,.b true,.g,.g,.g,.g,.g,.c (.bool false) σC,.g,.b false,.g,.g,.cut 148 (wH data ah ak aH aT aA ar true true kA aF false aV) [vS data ah ak aH aT aA ar true true kA aF false P1,vR data ah ak aH aT aA ar true true kA aF false Pn]] (an3 (xH u1) h1 (zT u2) (ai (ai tt (ai (arf (wH data ah ak aH aT aA ar true true kA aF false aV)) hL)) (ai (kz1 k1) (ai (kz1 kn) trivial))))
theorem xBS (h1:lz σ 47 (zN ax (Int.toNat (aV-1)*3)) (qh (rcd nDB nEB nX))) (h2:lz σ 47 (zN ax (Int.toNat aF*3)) (qh (rcd nY nZ nAB))) (h3:qn aA (qh (rcd nDB nEB nX)::(qh (rcd nY nZ nAB))::ar) σ (iV nBB) σ) (hL:uY (some ax) ah ak aH aT aA ar true true kA aF false aV σ P1 Pn) (k1:∀ i1_4' σ',P1 i1_4' σ'→vE (some ax) ah ak aH aT aA ar true true kA aF false i1_4' σ' Nx Qr) (kn:∀ i1_4' σ',Pn i1_4' σ'→wJ (some ax) ah ak aH aT aA ar true true kA aF false i1_4' σ' Nx Qr) (u1:¬ dG=1:=by omega) (u2:0<aV:=by omega) (u3:I6 (aV-1):=by omega) (u4:Ix (aV-1) ah:=by omega) (u5:Ix aF ah:=by omega) (u6:nBB<0:=by omega):wA (some ax) ah ak aV aH aT aA ar true true kA eH aF dG σ Nx Qr :=
 sK [.g,.g,.g,.g,.g,.g,.b false,.g,.g,.b true,.g,.g,.g,.g,.n (aV-1),.i,.l (qh (rcd nDB nEB nX)),.g,.g,.i,.l (qh (rcd nY nZ nAB)),.c (iV nBB) σ,.b true,.g,.g,.cut 148 (wH (some ax) ah ak aH aT aA ar true true kA aF false aV) [vS (some ax) ah ak aH aT aA ar true true kA aF false P1,vR (some ax) ah ak aH aT aA ar true true kA aF false Pn]] (an3 (xL u1) (zR u2) (w64 u3) (an6 u4 h1 u5 h2 h3 (zR u6) (ai (ai tt (ai (arf (wH (some ax) ah ak aH aT aA ar true true kA aF false aV)) hL)) (ai (kz1 k1) (ai (kz1 kn) trivial)))))
theorem xBR (h1:lz σ 47 (zN ax (Int.toNat (aV-1)*3)) (qh (rcd nDB nEB nX))) (h2:lz σ 47 (zN ax (Int.toNat aF*3)) (qh (rcd nY nZ nAB))) (h3:qn aA (qh (rcd nDB nEB nX)::(qh (rcd nY nZ nAB))::ar) σ (iV nBB) σ) (hL:uY (some ax) ah ak aH aT aA ar true true kA aF true aV σ P1 Pn) (k1:∀ i1_4' σ',P1 i1_4' σ'→vE (some ax) ah ak aH aT aA ar true true kA aF true i1_4' σ' Nx Qr) (kn:∀ i1_4' σ',Pn i1_4' σ'→wJ (some ax) ah ak aH aT aA ar true true kA aF true i1_4' σ' Nx Qr) (u1:¬ dG=1:=by omega) (u2:0<aV:=by omega) (u3:I6 (aV-1):=by omega) (u4:Ix (aV-1) ah:=by omega) (u5:Ix aF ah:=by omega) (u6:¬ nBB<0:=by omega):wA (some ax) ah ak aV aH aT aA ar true true kA eH aF dG σ Nx Qr :=
 sK [.g,.g,.g,.g,.g,.g,.b false,.g,.g,.b true,.g,.g,.g,.g,.n (aV-1),.i,.l (qh (rcd nDB nEB nX)),.g,.g,.i,.l (qh (rcd nY nZ nAB)),.c (iV nBB) σ,.b false,.g,.g,.cut 148 (wH (some ax) ah ak aH aT aA ar true true kA aF true aV) [vS (some ax) ah ak aH aT aA ar true true kA aF true P1,vR (some ax) ah ak aH aT aA ar true true kA aF true Pn]] (an3 (xL u1) (zR u2) (w64 u3) (an6 u4 h1 u5 h2 h3 (zT u6) (ai (ai tt (ai (arf (wH (some ax) ah ak aH aT aA ar true true kA aF true aV)) hL)) (ai (kz1 k1) (ai (kz1 kn) trivial)))))
theorem xBQ (hL:uY data ah ak aH aT aA ar true true kA aF false aV σ P1 Pn) (k1:∀ i1_4' σ',P1 i1_4' σ'→vE data ah ak aH aT aA ar true true kA aF false i1_4' σ' Nx Qr) (kn:∀ i1_4' σ',Pn i1_4' σ'→wJ data ah ak aH aT aA ar true true kA aF false i1_4' σ' Nx Qr) (u1:¬ dG=1:=by omega) (u2:¬ 0<aV:=by omega):wA data ah ak aV aH aT aA ar true true kA eH aF dG σ Nx Qr :=
 sK [.g,.g,.g,.g,.g,.g,.b false,.g,.g,.b false,.g,.g,.cut 148 (wH data ah ak aH aT aA ar true true kA aF false aV) [vS data ah ak aH aT aA ar true true kA aF false P1,vR data ah ak aH aT aA ar true true kA aF false Pn]] (an2 (xL u1) (zT u2) (ai (ai tt (ai (arf (wH data ah ak aH aT aA ar true true kA aF false aV)) hL)) (ai (kz1 k1) (ai (kz1 kn) trivial))))
theorem xBP (h1:lz σ 47 (zN ax (Int.toNat (aV-1)*3)) (qh (rcd nDB nEB nX))) (h2:lz σ 47 (zN ax (Int.toNat aF*3)) (qh (rcd nY nZ nAB))) (h3:qn aA (qh (rcd nDB nEB nX)::(qh (rcd nY nZ nAB))::ar) σ (iV nBB) σ) (hL:uY (some ax) ah ak aH aT aA ar true false kA aF false aV σ P1 Pn) (k1:∀ i1_4' σ',P1 i1_4' σ'→vE (some ax) ah ak aH aT aA ar true false kA aF false i1_4' σ' Nx Qr) (kn:∀ i1_4' σ',Pn i1_4' σ'→wJ (some ax) ah ak aH aT aA ar true false kA aF false i1_4' σ' Nx Qr) (u1:0<aV:=by omega) (u2:I6 (aV-1):=by omega) (u3:Ix (aV-1) ah:=by omega) (u4:Ix aF ah:=by omega) (u5:nBB<0:=by omega):wA (some ax) ah ak aV aH aT aA ar true false kA eH aF dG σ Nx Qr :=
 sK [.g,.g,.g,.g,.g,.g,.g,.b true,.g,.g,.g,.g,.n (aV-1),.i,.l (qh (rcd nDB nEB nX)),.g,.g,.i,.l (qh (rcd nY nZ nAB)),.c (iV nBB) σ,.b true,.g,.g,.cut 148 (wH (some ax) ah ak aH aT aA ar true false kA aF false aV) [vS (some ax) ah ak aH aT aA ar true false kA aF false P1,vR (some ax) ah ak aH aT aA ar true false kA aF false Pn]] (an2 (zR u1) (w64 u2) (an6 u3 h1 u4 h2 h3 (zR u5) (ai (ai tt (ai (arf (wH (some ax) ah ak aH aT aA ar true false kA aF false aV)) hL)) (ai (kz1 k1) (ai (kz1 kn) trivial)))))
theorem xBO (h1:lz σ 47 (zN ax (Int.toNat (aV-1)*3)) (qh (rcd nDB nEB nX))) (h2:lz σ 47 (zN ax (Int.toNat aF*3)) (qh (rcd nY nZ nAB))) (h3:qn aA (qh (rcd nDB nEB nX)::(qh (rcd nY nZ nAB))::ar) σ (iV nBB) σ) (hL:uY (some ax) ah ak aH aT aA ar true false kA aF true aV σ P1 Pn) (k1:∀ i1_4' σ',P1 i1_4' σ'→vE (some ax) ah ak aH aT aA ar true false kA aF true i1_4' σ' Nx Qr) (kn:∀ i1_4' σ',Pn i1_4' σ'→wJ (some ax) ah ak aH aT aA ar true false kA aF true i1_4' σ' Nx Qr) (u1:0<aV:=by omega) (u2:I6 (aV-1):=by omega) (u3:Ix (aV-1) ah:=by omega) (u4:Ix aF ah:=by omega) (u5:¬ nBB<0:=by omega):wA (some ax) ah ak aV aH aT aA ar true false kA eH aF dG σ Nx Qr :=
 sK [.g,.g,.g,.g,.g,.g,.g,.b true,.g,.g,.g,.g,.n (aV-1),.i,.l (qh (rcd nDB nEB nX)),.g,.g,.i,.l (qh (rcd nY nZ nAB)),.c (iV nBB) σ,.b false,.g,.g,.cut 148 (wH (some ax) ah ak aH aT aA ar true false kA aF true aV) [vS (some ax) ah ak aH aT aA ar true false kA aF true P1,vR (some ax) ah ak aH aT aA ar true false kA aF true Pn]] (an2 (zR u1) (w64 u2) (an6 u3 h1 u4 h2 h3 (zT u5) (ai (ai tt (ai (arf (wH (some ax) ah ak aH aT aA ar true false kA aF true aV)) hL)) (ai (kz1 k1) (ai (kz1 kn) trivial)))))
theorem xBN (hL:uY data ah ak aH aT aA ar true false kA aF false aV σ P1 Pn) (k1:∀ i1_4' σ',P1 i1_4' σ'→vE data ah ak aH aT aA ar true false kA aF false i1_4' σ' Nx Qr) (kn:∀ i1_4' σ',Pn i1_4' σ'→wJ data ah ak aH aT aA ar true false kA aF false i1_4' σ' Nx Qr) (u1:¬ 0<aV:=by omega):wA data ah ak aV aH aT aA ar true false kA eH aF dG σ Nx Qr :=
 sK [.g,.g,.g,.g,.g,.g,.g,.b false,.g,.g,.cut 148 (wH data ah ak aH aT aA ar true false kA aF false aV) [vS data ah ak aH aT aA ar true false kA aF false P1,vR data ah ak aH aT aA ar true false kA aF false Pn]] (ai (zT u1) (ai (ai tt (ai (arf (wH data ah ak aH aT aA ar true false kA aF false aV)) hL)) (ai (kz1 k1) (ai (kz1 kn) trivial))))
theorem xBM (h1:lz σ 47 (zN ax (Int.toNat (aV-1)*3)) (qh (rcd nDB nEB nX))) (h2:lz σ 47 (zN ax (Int.toNat aF*3)) (qh (rcd nY nZ nAB))) (h3:qn aA (qh (rcd nDB nEB nX)::(qh (rcd nY nZ nAB))::ar) σ (iV nBB) σ) (hL:uY (some ax) ah ak aH aT aA ar false bt kA aF false aV σ P1 Pn) (k1:∀ i1_4' σ',P1 i1_4' σ'→vE (some ax) ah ak aH aT aA ar false bt kA aF false i1_4' σ' Nx Qr) (kn:∀ i1_4' σ',Pn i1_4' σ'→wJ (some ax) ah ak aH aT aA ar false bt kA aF false i1_4' σ' Nx Qr) (u1:0<aV:=by omega) (u2:I6 (aV-1):=by omega) (u3:Ix (aV-1) ah:=by omega) (u4:Ix aF ah:=by omega) (u5:nBB<0:=by omega):wA (some ax) ah ak aV aH aT aA ar false bt kA eH aF dG σ Nx Qr :=
 sK [.g,.g,.g,.g,.g,.g,.b true,.g,.g,.g,.g,.n (aV-1),.i,.l (qh (rcd nDB nEB nX)),.g,.g,.i,.l (qh (rcd nY nZ nAB)),.c (iV nBB) σ,.b true,.g,.g,.cut 148 (wH (some ax) ah ak aH aT aA ar false bt kA aF false aV) [vS (some ax) ah ak aH aT aA ar false bt kA aF false P1,vR (some ax) ah ak aH aT aA ar false bt kA aF false Pn]] (an2 (zR u1) (w64 u2) (an6 u3 h1 u4 h2 h3 (zR u5) (ai (ai tt (ai (arf (wH (some ax) ah ak aH aT aA ar false bt kA aF false aV)) hL)) (ai (kz1 k1) (ai (kz1 kn) trivial)))))
theorem xBL (h1:lz σ 47 (zN ax (Int.toNat (aV-1)*3)) (qh (rcd nDB nEB nX))) (h2:lz σ 47 (zN ax (Int.toNat aF*3)) (qh (rcd nY nZ nAB))) (h3:qn aA (qh (rcd nDB nEB nX)::(qh (rcd nY nZ nAB))::ar) σ (iV nBB) σ) (hL:uY (some ax) ah ak aH aT aA ar false bt kA aF true aV σ P1 Pn) (k1:∀ i1_4' σ',P1 i1_4' σ'→vE (some ax) ah ak aH aT aA ar false bt kA aF true i1_4' σ' Nx Qr) (kn:∀ i1_4' σ',Pn i1_4' σ'→wJ (some ax) ah ak aH aT aA ar false bt kA aF true i1_4' σ' Nx Qr) (u1:0<aV:=by omega) (u2:I6 (aV-1):=by omega) (u3:Ix (aV-1) ah:=by omega) (u4:Ix aF ah:=by omega) (u5:¬ nBB<0:=by omega):wA (some ax) ah ak aV aH aT aA ar false bt kA eH aF dG σ Nx Qr :=
 sK [.g,.g,.g,.g,.g,.g,.b true,.g,.g,.g,.g,.n (aV-1),.i,.l (qh (rcd nDB nEB nX)),.g,.g,.i,.l (qh (rcd nY nZ nAB)),.c (iV nBB) σ,.b false,.g,.g,.cut 148 (wH (some ax) ah ak aH aT aA ar false bt kA aF true aV) [vS (some ax) ah ak aH aT aA ar false bt kA aF true P1,vR (some ax) ah ak aH aT aA ar false bt kA aF true Pn]] (an2 (zR u1) (w64 u2) (an6 u3 h1 u4 h2 h3 (zT u5) (ai (ai tt (ai (arf (wH (some ax) ah ak aH aT aA ar false bt kA aF true aV)) hL)) (ai (kz1 k1) (ai (kz1 kn) trivial)))))
theorem xBK (hL:uY data ah ak aH aT aA ar false bt kA aF false aV σ P1 Pn) (k1:∀ i1_4' σ',P1 i1_4' σ'→vE data ah ak aH aT aA ar false bt kA aF false i1_4' σ' Nx Qr) (kn:∀ i1_4' σ',Pn i1_4' σ'→wJ data ah ak aH aT aA ar false bt kA aF false i1_4' σ' Nx Qr) (u1:¬ 0<aV:=by omega):wA data ah ak aV aH aT aA ar false bt kA eH aF dG σ Nx Qr :=
 sK [.g,.g,.g,.g,.g,.g,.b false,.g,.g,.cut 148 (wH data ah ak aH aT aA ar false bt kA aF false aV) [vS data ah ak aH aT aA ar false bt kA aF false P1,vR data ah ak aH aT aA ar false bt kA aF false Pn]] (ai (zT u1) (ai (ai tt (ai (arf (wH data ah ak aH aT aA ar false bt kA aF false aV)) hL)) (ai (kz1 k1) (ai (kz1 kn) trivial))))
theorem xBJ (nx:Nx dZ aH aT eG eF σ):vE data ah ak aH aT aA ar eG eF kA aF eP dZ σ Nx Qr :=
 sF 0 (dZ,aH,aT,eG,eF) [] (fun _ f=>f) nx
theorem xPO {Qn:Int→Int→Bool→St→Prop} (h1:qn 69 [.slice data ah ak,iV fM,iV nL,iV aT,.func (.func aA) ⟨[]⟩ ⟨ar⟩] σ (.tuple ⟨[]⟩) σJ) (nx:Qn (nL+1) fK true σJ) (u1:kC≤kD:=by omega) (u2:I6 (nL+1):=by omega):zQQ data ah ak aT aA ar bA nL kD kE kC true fM fK σ Qn :=
 kO 0 (nL+1,fK,true) [.g,.g,.b true,.g,.g,.g,.g,.g,.g,.c (.tuple ⟨[]⟩) σJ,.g,.n (nL+1),.g] (fun _ f=>an3 (yE u1) h1 (w64 u2) f) nx
theorem xPN {Qn:Int→Int→Bool→St→Prop} (h1:qn 69 [.slice data ah ak,iV fM,iV nL,iV aT,.func (.func aA) ⟨[]⟩ ⟨ar⟩] σ (.tuple ⟨[]⟩) σJ) (nx:Qn (nL+1) fK false σJ) (u1:¬ kC≤kD:=by omega) (u2:I6 (nL+1):=by omega):zQQ data ah ak aT aA ar bA nL kD kE kC true fM fK σ Qn :=
 kO 0 (nL+1,fK,false) [.g,.g,.b false,.g,.g,.g,.g,.g,.g,.c (.tuple ⟨[]⟩) σJ,.g,.n (nL+1),.g] (fun _ f=>an3 (yJ u1) h1 (w64 u2) f) nx
theorem xPM {Qn:Int→Int→Bool→St→Prop} (h1:qn 69 [.slice data ah ak,iV (nL+1),iV fK,iV aT,.func (.func aA) ⟨[]⟩ ⟨ar⟩] σ (.tuple ⟨[]⟩) σJ) (nx:Qn fM nL true σJ) (u1:kC≤kE:=by omega) (u2:I6 (nL+1):=by omega):zQQ data ah ak aT aA ar bA nL kD kE kC false fM fK σ Qn :=
 kO 0 (fM,nL,true) [.g,.g,.b true,.g,.g,.g,.n (nL+1),.g,.g,.g,.c (.tuple ⟨[]⟩) σJ,.g,.g] (fun _ f=>an3 (yE u1) (w64 u2) h1 f) nx
theorem xPL {Qn:Int→Int→Bool→St→Prop} (h1:qn 69 [.slice data ah ak,iV (nL+1),iV fK,iV aT,.func (.func aA) ⟨[]⟩ ⟨ar⟩] σ (.tuple ⟨[]⟩) σJ) (nx:Qn fM nL false σJ) (u1:¬ kC≤kE:=by omega) (u2:I6 (nL+1):=by omega):zQQ data ah ak aT aA ar bA nL kD kE kC false fM fK σ Qn :=
 kO 0 (fM,nL,false) [.g,.g,.b false,.g,.g,.g,.n (nL+1),.g,.g,.g,.c (.tuple ⟨[]⟩) σJ,.g,.g] (fun _ f=>an3 (yJ u1) (w64 u2) h1 f) nx
theorem xBI {Pn:Int→Int→Bool→St→Prop} (h1:qn 87 [.slice data ah ak,iV dZ,iV aH,iV aF,.func (.func aA) ⟨[]⟩ ⟨ar⟩] σ (.tuple ⟨[iV nL,.bool bA]⟩) σY) (h2:IntKind.wrap .i64 (Int.tdiv kA 8)=Int.tdiv kA 8) (hL:zQQ data ah ak aT aA ar bA nL (nL-dZ) (aH-nL) (Int.tdiv kA 8) true dZ aH σY Pn) (kn:∀ i1_5' i2_5' t10_5' σ',Pn i1_5' i2_5' t10_5' σ'→zXF data ah ak aT aA ar bA nL (nL-dZ) (aH-nL) (Int.tdiv kA 8) true i1_5' i2_5' t10_5' σ' Nx Qr) (u1:I6 (nL-dZ):=by omega) (u2:I6 (aH-nL):=by omega) (u3:(nL-dZ)<(aH-nL):=by omega):wJ data ah ak aH aT aA ar eG eF kA aF eP dZ σ Nx Qr :=
 let s1:=yRY data ah ak aT aA ar bA nL (nL-dZ) (aH-nL) (Int.tdiv kA 8) true dZ aH;sK [.g,.g,.g,.g,.g,.c (.tuple ⟨[iV nL,.bool bA]⟩) σY,.g,.g,.g,.g,.g,.g,.g,.g,.g,.n (nL-dZ),.g,.g,.n (aH-nL),.g,.g,.g,.n (Int.tdiv kA 8),.g,.g,.g,.b true,.cut 148 s1 [zXC data ah ak aT aA ar bA nL (nL-dZ) (aH-nL) (Int.tdiv kA 8) true Pn]] (an5 h1 (w64 u1) (w64 u2) h2 (zR u3) (ai (ai tt (ai (arf s1) hL)) (ai (kz3 kn) trivial)))
theorem xBH {Pn:Int→Int→Bool→St→Prop} (h1:qn 87 [.slice data ah ak,iV dZ,iV aH,iV aF,.func (.func aA) ⟨[]⟩ ⟨ar⟩] σ (.tuple ⟨[iV nL,.bool bA]⟩) σY) (h2:IntKind.wrap .i64 (Int.tdiv kA 8)=Int.tdiv kA 8) (hL:zQQ data ah ak aT aA ar bA nL (nL-dZ) (aH-nL) (Int.tdiv kA 8) false dZ aH σY Pn) (kn:∀ i1_5' i2_5' t10_5' σ',Pn i1_5' i2_5' t10_5' σ'→zXF data ah ak aT aA ar bA nL (nL-dZ) (aH-nL) (Int.tdiv kA 8) false i1_5' i2_5' t10_5' σ' Nx Qr) (u1:I6 (nL-dZ):=by omega) (u2:I6 (aH-nL):=by omega) (u3:¬ (nL-dZ)<(aH-nL):=by omega):wJ data ah ak aH aT aA ar eG eF kA aF eP dZ σ Nx Qr :=
 let s1:=yRY data ah ak aT aA ar bA nL (nL-dZ) (aH-nL) (Int.tdiv kA 8) false dZ aH;sK [.g,.g,.g,.g,.g,.c (.tuple ⟨[iV nL,.bool bA]⟩) σY,.g,.g,.g,.g,.g,.g,.g,.g,.g,.n (nL-dZ),.g,.g,.n (aH-nL),.g,.g,.g,.n (Int.tdiv kA 8),.g,.g,.g,.b false,.cut 148 s1 [zXC data ah ak aT aA ar bA nL (nL-dZ) (aH-nL) (Int.tdiv kA 8) false Pn]] (an5 h1 (w64 u1) (w64 u2) h2 (zT u3) (ai (ai tt (ai (arf s1) hL)) (ai (kz3 kn) trivial)))
theorem yCF (nx:Nx fM fK aT t10_5 bA σ):zXF data ah ak aT aA ar bA nL kD kE kC fo fM fK t10_5 σ Nx Qr :=
 sF 0 (fM,fK,aT,t10_5,bA) [] (fun _ f=>f) nx
theorem xHR (hL:xHS data ah ak aA ar a_1 b limit true true σ Pr) (kr:∀ σ',Pr σ'→yKW data ah ak aA ar σ' Q):qi 69 [.slice data ah ak,iV a_1,iV b,iV limit,.func (.func aA) ⟨[]⟩ ⟨ar⟩] σ Q :=
 zI [.g,.g,.lf 148 (zXB data ah ak aA ar a_1 b limit true true) [zCL data ah ak aA ar Pr]] (kd (ai (ai tt (ai (arf (zXB data ah ak aA ar a_1 b limit true true)) hL)) (ai (kz0 kr) trivial)))
theorem yCH (nx:Q (.tuple ⟨[]⟩) σ):yKW data ah ak aA ar σ Q :=
 sK [] nx
theorem yJR (h1:zAN .u64 ((x_l:Int))=z1) (h2:qn 70 [.int .u64 z1] σ (iV n2) σ) (h3:qn 69 [.slice x x_l x_c,iV 0,iV (x_l:Int),iV n2,.func (.func aA) ⟨[]⟩ ⟨ar⟩] σ (.tuple ⟨[]⟩) σ3) (nx:Q (.tuple ⟨[]⟩) σ3):qi 49 [.slice x x_l x_c,.func (.func aA) ⟨[]⟩ ⟨ar⟩] σ Q :=
 zI [.g,.g,.g,.g,.g,.g,.n z1,.c (iV n2) σ,.g,.c (.tuple ⟨[]⟩) σ3] (kd (an3 h1 h2 h3 nx))
end
section
open Go.Sort (swp PermIn SortedIn Below SWO)
theorem xV.perm {V:Rec→Prop} {d d':Array Rec} {a B:Nat} (h:xV V d) (hB:B≤d.size) (hp:PermIn a B d d'):xV V d':=by
 intro i hi;rw [hp.1] at hi;by_cases hr:a≤i∧i<B
 ·exact Go.Sort.permIn_all d d' a B V hB hp (fun j h1 h2=>h j (by omega)) i hr.1 hr.2
 ·rw [hp.2.1 i (by omega)];exact h i hi
section
variable {b c:Nat} {s:Option Nat} {g:FuncId} {gc:List Value} {lt:Rec→Rec→Bool} {V:Rec→Prop}
theorem xWV (hS:SWO lt) (hc:Cmp g gc lt V):∀ (n:Nat) (σ:St) (d:Array Rec) (a B:Nat) (limit:Int),B-a≤n→Dt σ b s d→xV V d→a≤B→B≤d.size→d.size≤60000→Below lt a B d→0≤limit∧limit≤100 →
  ∃ d',PermIn a B d d'∧SortedIn lt a B d'∧uS 69 [.slice (some ⟨b,0,s⟩) d.size c,iV (a:Int),iV (B:Int),iV limit,.func (.func g) ⟨[]⟩ ⟨gc⟩] (.tuple ⟨[]⟩) σ b s d d':=by
 intro n;induction n using Nat.strongRecOn with
 | _ n ih =>
 intro σ d a B limit hn hd hv ha hB hsz hbel hlim;suffices hmain:zP Try.prog 69 [.slice (some ⟨b,0,s⟩) d.size c,iV (a:Int),iV (B:Int),iV limit,.func (.func g) ⟨[]⟩ ⟨gc⟩] σ.re fun v τ=>v=.tuple ⟨[]⟩∧∃ d',W σ τ b s d d'∧PermIn a B d d'∧SortedIn lt a B d' by
  obtain ⟨v,τ,hN,e,d',w,r1,r2⟩:=hmain
  exact ⟨d',r1,r2,uS.of hd ⟨v,τ,hN,e,w⟩⟩
 refine xHR (Pr:=fun τ=>∃ d',W σ τ b s d d'∧PermIn a B d d'∧SortedIn lt a B d') (yCI (Inv:=fun k i1 i2 i3 t10 t11 τ=>∃ (p q:Nat) (dk:Array Rec),i1=p∧i2=q∧k=q-p∧a≤p∧p≤q∧q≤B∧(0≤i3∧i3≤100)∧W σ τ b s d dk∧dk.size=d.size∧xV V dk∧Below lt p q dk∧(∀ R,PermIn p q dk R→SortedIn lt p q R→PermIn a B d R∧SortedIn lt a B R)) ?_ (B-a) _ _ _ _ _ σ.re ⟨a,B,d,rfl,rfl,rfl,Nat.le_refl _,ha,Nat.le_refl _,hlim,W.start hd,rfl,hv,hbel,fun R h1 h2=>⟨h1,h2⟩⟩) (fun τ h=>yCH ⟨rfl,h⟩);rintro k i1 i2 i3 t10 t11 τ ⟨p,q,dk,rfl,rfl,hk,hap,hpq,hqB,hi3,w,hdk,hall,hbk,hJ⟩;suffices hgo:∀ (NX:Int→Int→Int→Bool→Bool→St→Prop) (QR:St→Prop),(∀ (p' q':Nat) (dk':Array Rec) (i3':Int) (t10' t11':Bool) (τ':St),q' - p' < k→a≤p'→p'≤q'→q'≤B→(0≤i3'∧i3'≤100)→W σ τ' b s d dk'→dk'.size=d.size→xV V dk'→Below lt p' q' dk'→(∀ R,PermIn p' q' dk' R→SortedIn lt p' q' R→PermIn a B d R∧SortedIn lt a B R)→NX (p':Int) (q':Int) i3' t10' t11' τ') →
   (∀ (τ':St) (d':Array Rec),W σ τ' b s d d'→PermIn a B d d'∧SortedIn lt a B d'→QR τ')→zQR (some ⟨b,0,s⟩) d.size c g gc (p:Int) (q:Int) i3 t10 t11 τ NX QR from
  hgo _ _ (fun p' q' dk' i3' t10' t11' τ' h1 h2 h3 h4 h5 h6 h7 h8 h9 h10=>⟨q' - p',h1,p',q',dk',rfl,rfl,rfl,h2,h3,h4,h5,h6,h7,h8,h9,h10⟩) (fun τ' d' h1 h2=>⟨d',h1,h2.1,h2.2⟩)
 intro NX QR hNX hQR;have hqs:q≤dk.size:=by omega
 by_cases h12:q-p≤12
 ·have hins:=Go.Sort.insertionSort_holds (lt:=lt) hS dk p q hpq hqs;obtain ⟨τ',k1,w1⟩:=w.call (xVO (c:=c) (a:=p) (B:=q) w.dt hc hall hqs (by omega) (by omega));rw [hdk] at k1;exact yXH k1 (hQR _ _ w1 (hJ _ hins.1 hins.2)) (by omega) (by omega)
 by_cases h0:i3=0
 ·have hheap:=Go.Sort.heapSort_holds (lt:=lt) hS dk p q hpq hqs;obtain ⟨τ',k1,w1⟩:=w.call (xRA (c:=c) (a:=p) (B:=q) w.dt hc hall hpq hqs (by omega));rw [hdk] at k1;exact xPX k1 (hQR _ _ w1 (hJ _ hheap.1 hheap.2)) (by omega) (by omega) h0
 have k8:IntKind.wrap .i64 (Int.tdiv ((q:Int)-(p:Int)) 8)=Int.tdiv ((q:Int)-(p:Int)) 8:=by
  have e8:Int.tdiv ((q:Int)-(p:Int)) 8=(((q-p) / 8:Nat):Int):=by rw [Int.tdiv_eq_ediv_of_nonneg (by omega)];omega
  rw [← uB,e8,zVR (by omega) (by omega)]
 have stepN:∀ (i3':Int) (t10 t11:Bool) (x:Nat) (h97:Bool) (d3:Array Rec) (τ3:St),(0≤i3'∧i3'≤100)→p≤x→x<q→W σ τ3 b s d d3→PermIn p q dk d3→xV V d3 →
   wJ (some ⟨b,0,s⟩) d.size c (q:Int) i3' g gc t10 t11 ((q:Int)-(p:Int)) (x:Int) h97 (p:Int) τ3 NX QR:=by
  intro i3' t10 t11 x h97 d3 τ3 hi3' hx1 hx2 w3 hp3 hall3
  have hd3:d3.size=d.size:=by rw [hp3.1,hdk]
  have hq3:q≤d3.size:=by omega
  have hb3:Below lt p q d3:=Go.Sort.Below.permA Go.Sort.permIn_all hqs hbk hp3
  have hJ3:∀ R,PermIn p q d3 R→SortedIn lt p q R→PermIn a B d R∧SortedIn lt a B R:=fun R h1 h2=>hJ R (Go.Sort.permIn_trans _ _ _ p q hp3 h1) h2
  obtain ⟨mid,hmid⟩:∃ mid,mid=(Go.Sort.partition lt d3 p q x).1:=⟨_,rfl⟩
  obtain ⟨ap,hap'⟩:∃ ap,ap=(Go.Sort.partition lt d3 p q x).2.1:=⟨_,rfl⟩
  obtain ⟨d4,hd4⟩:∃ d4,d4=(Go.Sort.partition lt d3 p q x).2.2:=⟨_,rfl⟩
  have hpt:Go.Sort.partition lt d3 p q x=(mid,ap,d4):=by rw [hmid,hap',hd4]
  obtain ⟨m1,m2,m3,m4,m5,m6,m7⟩:=Go.Sort.round_part hS (Go.Sort.partition_holds lt) hx1 hx2 hq3 hb3 hpt
  have hpc:=xVB (c:=c) w3.dt hc hall3 hx1 hx2 hq3 (by omega)
  rw [← hmid,← hap',← hd4] at hpc
  obtain ⟨τ4,kp,w4⟩:=w3.call hpc
  rw [hd3] at kp
  have hd4s:d4.size=d.size:=by omega
  have hall4:xV V d4:=by
   have:=(Go.Sort.partition_holds lt hS d3 p q x hx1 hx2 hq3).2.2.1;rw [hpt] at this;exact hall3.perm hq3 this
  by_cases hlr:mid-p<q-mid
  ·obtain ⟨L,hL1,hL2,hL3⟩:=ih (mid-p) (by omega) τ4 d4 p mid i3' (Nat.le_refl _) w4.dt hall4 m1 (by omega) (by omega) m4 hi3';obtain ⟨τ5,k5,w5⟩:=w4.call hL3;rw [hd4s] at k5;obtain ⟨n1,n2⟩:=m6 L hL1 hL2;have go:∀ t,NX ((mid:Int)+1) (q:Int) i3' t ap τ5:=fun t=>by
    rw [show (mid:Int)+1=((mid+1:Nat):Int) by omega];exact hNX _ _ L _ _ _ _ (by omega) (by omega) (by omega) hqB hi3' w5 (by rw [hL1.1,hd4s]) (hall4.perm (by omega) hL1) n1 (fun R h1 h2=>hJ3 R (n2 R h1 h2).1 (n2 R h1 h2).2)
   refine xBI kp k8 (Pn:=fun i1 i2 t τ'=>i1=(mid:Int)+1∧i2=(q:Int)∧τ'=τ5) ?_ (fun i1 i2 t τ' ⟨e1,e2,e3⟩=>by subst e1 e2 e3;exact yCF (go t)) (by omega);by_cases hT:Int.tdiv ((q:Int)-(p:Int)) 8≤(mid:Int)-(p:Int)
   ·exact xPO k5 ⟨rfl,rfl,rfl⟩ hT
   ·exact xPN k5 ⟨rfl,rfl,rfl⟩ hT
  ·obtain ⟨L,hL1,hL2,hL3⟩:=ih (q-(mid+1)) (by omega) τ4 d4 (mid+1) q i3' (Nat.le_refl _) w4.dt hall4 (by omega) (by omega) (by omega) m5 hi3';obtain ⟨τ5,k5,w5⟩:=w4.call hL3;rw [hd4s,show ((mid+1:Nat):Int)=(mid:Int)+1 by omega] at k5;obtain ⟨n1,n2⟩:=m7 L hL1 hL2;have go:∀ t,NX (p:Int) (mid:Int) i3' t ap τ5:=fun t=>hNX _ _ L _ _ _ _ (by omega) (by omega) (by omega) (by omega) hi3' w5 (by rw [hL1.1,hd4s]) (hall4.perm (by omega) hL1) n1 (fun R h1 h2=>hJ3 R (n2 R h1 h2).1 (n2 R h1 h2).2)
   refine xBH kp k8 (Pn:=fun i1 i2 t τ'=>i1=(p:Int)∧i2=(mid:Int)∧τ'=τ5) ?_ (fun i1 i2 t τ' ⟨e1,e2,e3⟩=>by subst e1 e2 e3;exact yCF (go t)) (by omega);by_cases hT:Int.tdiv ((q:Int)-(p:Int)) 8≤(q:Int)-(mid:Int)
   ·exact xPM k5 ⟨rfl,rfl,rfl⟩ hT
   ·exact xPL k5 ⟨rfl,rfl,rfl⟩ hT
 have stepE:∀ (i3':Int) (t10 t11:Bool) (x:Nat) (d3:Array Rec) (τ3:St),(0≤i3'∧i3'≤100)→p≤x→x<q→W σ τ3 b s d d3→PermIn p q dk d3→xV V d3→0<p→lt d3[p-1]! d3[x]! = false →
   ∃ (me:Nat) (τ5:St),zD Try.prog 86 [.slice (some ⟨b,0,s⟩) d.size c,iV (p:Int),iV (q:Int),iV (x:Int),.func (.func g) ⟨[]⟩ ⟨gc⟩] τ3 (iV (me:Int)) τ5∧NX (me:Int) (q:Int) i3' t10 t11 τ5:=by
  intro i3' t10 t11 x d3 τ3 hi3' hx1 hx2 w3 hp3 hall3 hp0 hl
  have hd3:d3.size=d.size:=by rw [hp3.1,hdk]
  have hq3:q≤d3.size:=by omega
  have hb3:Below lt p q d3:=Go.Sort.Below.permA Go.Sort.permIn_all hqs hbk hp3
  have hJ3:∀ R,PermIn p q d3 R→SortedIn lt p q R→PermIn a B d R∧SortedIn lt a B R:=fun R h1 h2=>hJ R (Go.Sort.permIn_trans _ _ _ p q hp3 h1) h2
  obtain ⟨me,hme⟩:∃ me,me=(Go.Sort.partitionEqual lt d3 p q x).1:=⟨_,rfl⟩
  obtain ⟨de,hde⟩:∃ de,de=(Go.Sort.partitionEqual lt d3 p q x).2:=⟨_,rfl⟩
  have hpe:Go.Sort.partitionEqual lt d3 p q x=(me,de):=by rw [hme,hde]
  obtain ⟨e1,e2,e3,e4,e5⟩:=Go.Sort.round_eq hS (Go.Sort.partitionEqual_holds lt) hp0 hx1 hx2 hq3 hb3 hl hpe
  have hpc:=xIQ (c:=c) w3.dt hc hall3 hx1 hx2 hq3 (by omega)
  rw [← hme,← hde] at hpc
  obtain ⟨τ5,k5,w5⟩:=w3.call hpc
  rw [hd3] at k5
  have hge:∀ i,p≤i→i<q→lt d3[i]! d3[x]! = false:=fun i hi hi'=>by
   rcases hb3 with h0 | hB'
   ·omega
   ·exact hS.ntrans _ _ _ (hB' i hi hi') hl
  have hperm:=(Go.Sort.partitionEqual_holds lt hS d3 p q x hx1 hx2 hq3 hge).2.2.1
  rw [hpe] at hperm
  exact ⟨me,τ5,k5,hNX _ _ de _ _ _ _ (by omega) (by omega) e2 hqB hi3' w5 (by omega) (hall3.perm hq3 hperm) e4 (fun R h1 h2=>hJ3 R (e5 R h1 h2).1 (e5 R h1 h2).2)⟩
 have stepK:∀ (i3':Int) (t10 t11 h56:Bool) (x:Nat) (i14:Int) (d2:Array Rec) (τ2:St),(0≤i3'∧i3'≤100)→p≤x→x<q→W σ τ2 b s d d2→PermIn p q dk d2→xV V d2 →
   wA (some ⟨b,0,s⟩) d.size c (p:Int) (q:Int) i3' g gc t10 t11 ((q:Int)-(p:Int)) h56 (x:Int) i14 τ2 NX QR:=by
  intro i3' t10 t11 h56 x i14 d2 τ2 hi3' hx1 hx2 w2 hp2 hall2
  have hd2:d2.size=d.size:=by rw [hp2.1,hdk]
  have hq2:q≤d2.size:=by omega
  have hb2:Below lt p q d2:=Go.Sort.Below.permA Go.Sort.permIn_all hqs hbk hp2
  have out1:∀ (t10 t11 h97:Bool) (i1:Int) (τ':St),NX i1 (q:Int) i3' t10 t11 τ'→vE (some ⟨b,0,s⟩) d.size c (q:Int) i3' g gc t10 t11 ((q:Int)-(p:Int)) (x:Int) h97 i1 τ' NX QR:=fun t10 t11 h97 i1 τ' h=>xBJ h
  have eq:∀ (t10 t11:Bool) (d3:Array Rec) (τ3:St),W σ τ3 b s d d3→PermIn p q dk d3→xV V d3→0<p→lt d3[p-1]! d3[x]! = false→uY (some ⟨b,0,s⟩) d.size c (q:Int) i3' g gc t10 t11 ((q:Int)-(p:Int)) (x:Int) true (p:Int) τ3 (fun i1 τ'=>NX i1 (q:Int) i3' t10 t11 τ') (fun i1 τ'=>i1=(p:Int)∧τ'=τ3):=by
   intro t10 t11 d3 τ3 w3 hp3 hall3 hp0 hl;obtain ⟨me,τ5,k5,h5⟩:=stepE i3' t10 t11 x d3 τ3 hi3' hx1 hx2 w3 hp3 hall3 hp0 hl;exact xPQ k5 h5
  have nq:∀ (t10 t11:Bool) (τ3:St),uY (some ⟨b,0,s⟩) d.size c (q:Int) i3' g gc t10 t11 ((q:Int)-(p:Int)) (x:Int) false (p:Int) τ3 (fun i1 τ'=>NX i1 (q:Int) i3' t10 t11 τ') (fun i1 τ'=>i1=(p:Int)∧τ'=τ3):=fun t10 t11 τ3=>xPP ⟨rfl,rfl⟩
  have outN:∀ (t10 t11 h97:Bool) (d3:Array Rec) (τ3:St),W σ τ3 b s d d3→PermIn p q dk d3→xV V d3→∀ (i1:Int) (τ':St),(i1=(p:Int)∧τ'=τ3)→wJ (some ⟨b,0,s⟩) d.size c (q:Int) i3' g gc t10 t11 ((q:Int)-(p:Int)) (x:Int) h97 i1 τ' NX QR:=by
   rintro t10 t11 h97 d3 τ3 w3 hp3 hall3 i1 τ' ⟨rfl,rfl⟩;exact stepN i3' t10 t11 x h97 d3 _ hi3' hx1 hx2 w3 hp3 hall3
  have ldp:∀ (d3:Array Rec) (τ3:St),W σ τ3 b s d d3→d3.size=d.size→0<p→zB Try.prog τ3 47 (zN ⟨b,0,s⟩ (Int.toNat ((p:Int)-1)*3))=some (zEI d3[p-1]!):=fun d3 τ3 w3 hd3 hp0=>w3.dt.ldN (by omega) (by omega)
  have ldx:∀ (d3:Array Rec) (τ3:St),W σ τ3 b s d d3→d3.size=d.size→zB Try.prog τ3 47 (zN ⟨b,0,s⟩ (Int.toNat (x:Int)*3))=some (zEI d3[x]!):=fun d3 τ3 w3 hd3=>w3.dt.ldN rfl (by omega)
  by_cases hp0:0<p
  ·cases t10 with
   | false =>
    obtain ⟨m,cm,⟨g1,hl⟩ | ⟨g1,hl⟩⟩:=hc.at_ (τ:=τ2) hall2 (i:=p-1) (j:=x) (by omega) (by omega)
    ·exact xBM (ldp _ _ w2 hd2 hp0) (ldx _ _ w2 hd2) cm (nq _ _ _) (fun i1 τ' h=>out1 _ _ _ _ _ h) (outN _ _ _ _ _ w2 hp2 hall2)
    ·exact xBL (ldp _ _ w2 hd2 hp0) (ldx _ _ w2 hd2) cm (eq _ _ _ _ w2 hp2 hall2 hp0 hl) (fun i1 τ' h=>out1 _ _ _ _ _ h) (outN _ _ _ _ _ w2 hp2 hall2)
   | true =>
   cases t11 with
   | false =>
    obtain ⟨m,cm,⟨g1,hl⟩ | ⟨g1,hl⟩⟩:=hc.at_ (τ:=τ2) hall2 (i:=p-1) (j:=x) (by omega) (by omega)
    ·exact xBP (ldp _ _ w2 hd2 hp0) (ldx _ _ w2 hd2) cm (nq _ _ _) (fun i1 τ' h=>out1 _ _ _ _ _ h) (outN _ _ _ _ _ w2 hp2 hall2)
    ·exact xBO (ldp _ _ w2 hd2 hp0) (ldx _ _ w2 hd2) cm (eq _ _ _ _ w2 hp2 hall2 hp0 hl) (fun i1 τ' h=>out1 _ _ _ _ _ h) (outN _ _ _ _ _ w2 hp2 hall2)
   | true =>
   by_cases h14:i14=1;rotate_left
   ·obtain ⟨m,cm,⟨g1,hl⟩ | ⟨g1,hl⟩⟩:=hc.at_ (τ:=τ2) hall2 (i:=p-1) (j:=x) (by omega) (by omega)
    ·exact xBS (ldp _ _ w2 hd2 hp0) (ldx _ _ w2 hd2) cm (nq _ _ _) (fun i1 τ' h=>out1 _ _ _ _ _ h) (outN _ _ _ _ _ w2 hp2 hall2)
    ·exact xBR (ldp _ _ w2 hd2 hp0) (ldx _ _ w2 hd2) cm (eq _ _ _ _ w2 hp2 hall2 hp0 hl) (fun i1 τ' h=>out1 _ _ _ _ _ h) (outN _ _ _ _ _ w2 hp2 hall2)
   have hpi:=Go.Sort.partialInsertionSort_holds (lt:=lt) hS d2 p q (by omega) hq2 hb2;have hpc:=yXV (c:=c) (a:=p) (B:=q) w2.dt hc hall2 (by omega) hq2 (by omega);obtain ⟨R,hR⟩:∃ R,R=Go.Sort.partialInsertionSort lt d2 p q:=⟨_,rfl⟩;rw [← hR] at hpi hpc;obtain ⟨τ3,k3,w3⟩:=w2.call hpc;rw [hd2] at k3;have hp3:=Go.Sort.permIn_trans _ _ _ p q hp2 hpi.1;have hall3:=hall2.perm hq2 hpi.1;have hd3:R.1.size=d.size:=by rw [hp3.1,hdk]
   cases hR2:R.2 with
   | true=>rw [hR2] at k3 hpi;exact yCG k3 (hQR _ _ w3 (hJ _ hp3 (hpi.2 rfl))) h14
   | false =>
    rw [hR2] at k3;obtain ⟨m,cm,⟨g1,hl⟩ | ⟨g1,hl⟩⟩:=hc.at_ (τ:=τ3) hall3 (i:=p-1) (j:=x) (by omega) (by omega)
    ·exact xBV k3 (ldp _ _ w3 hd3 hp0) (ldx _ _ w3 hd3) cm (nq _ _ _) (fun i1 τ' h=>out1 _ _ _ _ _ h) (outN _ _ _ _ _ w3 hp3 hall3)
    ·exact xBU k3 (ldp _ _ w3 hd3 hp0) (ldx _ _ w3 hd3) cm (eq _ _ _ _ w3 hp3 hall3 hp0 hl) (fun i1 τ' h=>out1 _ _ _ _ _ h) (outN _ _ _ _ _ w3 hp3 hall3)
  ·cases t10 with
   | false=>exact xBK (nq _ _ _) (fun i1 τ' h=>out1 _ _ _ _ _ h) (outN _ _ _ _ _ w2 hp2 hall2)
   | true =>
   cases t11 with
   | false=>exact xBN (nq _ _ _) (fun i1 τ' h=>out1 _ _ _ _ _ h) (outN _ _ _ _ _ w2 hp2 hall2)
   | true =>
   by_cases h14:i14=1;rotate_left
   ·exact xBQ (nq _ _ _) (fun i1 τ' h=>out1 _ _ _ _ _ h) (outN _ _ _ _ _ w2 hp2 hall2) h14
   have hpi:=Go.Sort.partialInsertionSort_holds (lt:=lt) hS d2 p q (by omega) hq2 hb2;have hpc:=yXV (c:=c) (a:=p) (B:=q) w2.dt hc hall2 (by omega) hq2 (by omega);obtain ⟨R,hR⟩:∃ R,R=Go.Sort.partialInsertionSort lt d2 p q:=⟨_,rfl⟩;rw [← hR] at hpi hpc;obtain ⟨τ3,k3,w3⟩:=w2.call hpc;rw [hd2] at k3;have hp3:=Go.Sort.permIn_trans _ _ _ p q hp2 hpi.1;have hall3:=hall2.perm hq2 hpi.1;cases hR2:R.2 with
   | true=>rw [hR2] at k3 hpi;exact yCG k3 (hQR _ _ w3 (hJ _ hp3 (hpi.2 rfl))) h14
   | false =>
    rw [hR2] at k3;exact xBT k3 (nq _ _ _) (fun i1 τ' h=>out1 _ _ _ _ _ h) (outN _ _ _ _ _ w3 hp3 hall3) h14
 have stepP:∀ (i3':Int) (t10 t11 h39:Bool) (d1:Array Rec) (τ1:St),(0≤i3'∧i3'≤100)→W σ τ1 b s d d1→PermIn p q dk d1→xV V d1 →
   zIZ (some ⟨b,0,s⟩) d.size c (p:Int) (q:Int) g gc t10 t11 ((q:Int)-(p:Int)) h39 i3' τ1 NX QR:=by
  intro i3' t10 t11 h39 d1 τ1 hi3' w1 hp1 hall1
  have hd1:d1.size=d.size:=by rw [hp1.1,hdk]
  have hq1:q≤d1.size:=by omega
  obtain ⟨x,kk,hx1,hx2,kc⟩:=xEK (c:=c) (a:=p) (B:=q) w1.dt hc hall1 (by omega) hq1 (by omega)
  rw [hd1] at kc
  have go:∀ (i13 i14:Int) (h56:Bool) (τ2:St),(∃ (x:Nat) (d2:Array Rec),i13=x∧p≤x∧x<q∧W σ τ2 b s d d2∧PermIn p q dk d2∧xV V d2)→wA (some ⟨b,0,s⟩) d.size c (p:Int) (q:Int) i3' g gc t10 t11 ((q:Int)-(p:Int)) h56 i13 i14 τ2 NX QR:=by
   rintro i13 i14 h56 τ2 ⟨x,d2,rfl,hx1,hx2,w2,hp2,hall2⟩;exact stepK _ _ _ _ _ _ _ _ hi3' hx1 hx2 w2 hp2 hall2
  by_cases hk2:kk=2
  ·have hrev:=Go.Sort.reverseRange_holds (α:=Rec) d1 p q hpq hq1;obtain ⟨τ2,k2,w2⟩:=w1.call (xUO (c:=c) (g:=g) (gc:=gc) (a:=p) (B:=q) w1.dt hall1 (by omega) hq1 (by omega));rw [hd1] at k2;exact xBX kc (Pn:=fun i13 i14 τ2=>∃ (x:Nat) (d2:Array Rec),i13=x∧p≤x∧x<q∧W σ τ2 b s d d2∧PermIn p q dk d2∧xV V d2) (xPS k2 ⟨(q-1)-(x-p),_,by omega,by omega,by omega,w2,Go.Sort.permIn_trans _ _ _ p q hp1 hrev,hall1.perm hq1 hrev⟩ (by omega) (by omega) (by omega)) (fun i13 i14 τ2 h=>go _ _ _ _ h) hk2
  ·exact xBW kc (Pn:=fun i13 i14 τ2=>∃ (x:Nat) (d2:Array Rec),i13=x∧p≤x∧x<q∧W σ τ2 b s d d2∧PermIn p q dk d2∧xV V d2) (xPR ⟨x,d1,rfl,hx1,hx2,w1,hp1,hall1⟩) (fun i13 i14 τ2 h=>go _ _ _ _ h) hk2
 cases t10 with
 | true=>exact xPW (Pn:=fun i3' τ'=>(0≤i3'∧i3'≤100)∧∃ d1,W σ τ' b s d d1∧PermIn p q dk d1∧xV V d1) (xPT ⟨hi3,dk,w,Go.Sort.permIn_refl _ _ _,hall⟩) (fun i3' τ' ⟨h1,d1,h2,h3,h4⟩=>stepP _ _ _ _ _ _ h1 h2 h3 h4) (by omega) (by omega) h0
 | false =>
  obtain ⟨d1,hp1,hall1,hs1⟩:=xMK (c:=c) (g:=g) (gc:=gc) (a:=p) (B:=q) w.dt hpq hqs (by omega) hall;obtain ⟨τ1,k1,w1⟩:=w.call hs1;rw [hdk] at k1;exact xPV (Pn:=fun i3' τ'=>(0≤i3'∧i3'≤100)∧∃ d1,W σ τ' b s d d1∧PermIn p q dk d1∧xV V d1) (xPU k1 ⟨by omega,d1,w1,hp1,hall1⟩ (by omega)) (fun i3' τ' ⟨h1,d1,h2,h3,h4⟩=>stepP _ _ _ _ _ _ h1 h2 h3 h4) (by omega) (by omega) h0
end
end
section
open Go.Sort (swp PermIn SortedIn Below SWO)
section
variable {σ:St} {b c:Nat} {s:Option Nat} {d:Array Rec} {g:FuncId} {gc:List Value} {lt:Rec→Rec→Bool} {V:Rec→Prop}
theorem xOS (hS:SWO lt) (hc:Cmp g gc lt V) (hd:Dt σ b s d) (hv:xV V d) (hsz:d.size≤60000) :
  ∃ d',PermIn 0 d.size d d'∧SortedIn lt 0 d.size d'∧uS 49 [.slice (some ⟨b,0,s⟩) d.size c,.func (.func g) ⟨[]⟩ ⟨gc⟩] (.tuple ⟨[]⟩) σ b s d d':=by
 obtain ⟨n,n1,n2,n3⟩:=yVX (σ:=σ.re) (x:=d.size) (by omega);obtain ⟨d',p1,p2,p3⟩:=xWV (c:=c) (s:=s) hS hc d.size σ.re d 0 d.size (n:Int) (by omega) hd hv (Nat.zero_le _) (Nat.le_refl _) hsz (.inl rfl) (by omega);have w0:W σ σ.re b s d d:=W.start hd;obtain ⟨τ',k1,w1⟩:=w0.call p3;exact ⟨d',p1,p2,uS.of hd (yJR (z1:=(d.size:Int)) (by rw [zVQ];omega) n3 k1 ⟨rfl,w1⟩)⟩
theorem xKH:zD Try.prog 80 [.slice none 0 c,iV 0,iV 0,.func (.func g) ⟨[]⟩ ⟨gc⟩] σ (.tuple ⟨[]⟩) σ :=
 zP.pure (yYH (P0:=fun τ=>τ=σ.re) (zYE (Inv:=fun k i τ=>i=1∧τ=σ.re) (fun k i τ h=>by obtain ⟨rfl,rfl⟩:=h;exact yMF rfl (by omega)) 0 _ σ.re ⟨rfl,rfl⟩) (fun τ h=>zYD ⟨rfl,by rw [h];exact Nat.le_refl _⟩) (by omega))
theorem xPY {n:Int}:zD Try.prog 69 [.slice none 0 c,iV 0,iV 0,iV n,.func (.func g) ⟨[]⟩ ⟨gc⟩] σ (.tuple ⟨[]⟩) σ :=
 zP.pure (xHR (Pr:=fun τ=>τ=σ.re) (yCI (Inv:=fun k i1 i2 i3 t10 t11 τ=>i1=0∧i2=0∧τ=σ.re) (fun k i1 i2 i3 t10 t11 τ h=>by obtain ⟨rfl,rfl,rfl⟩:=h;exact yXH xKH rfl (by omega) (by omega)) 0 _ _ _ _ _ σ.re ⟨rfl,rfl,rfl⟩) (fun τ h=>yCH ⟨rfl,by rw [h];exact Nat.le_refl _⟩))
theorem yZV:zD Try.prog 49 [.slice none 0 c,.func (.func g) ⟨[]⟩ ⟨gc⟩] σ (.tuple ⟨[]⟩) σ:=by
 obtain ⟨n,n1,n2,n3⟩:=yVX (σ:=σ.re) (x:=0) (by omega);exact zP.pure (yJR (x_l:=0) (z1:=((0:Nat):Int)) (by rw [zVQ];rfl) n3 xPY ⟨rfl,Nat.le_refl _⟩)
end
end
abbrev zLT (s:Std):Value:=.agg ⟨zK s.free s.row s.used s.day⟩
structure StOk (s:Std):Prop where
 free:-1000000≤s.free∧s.free≤1000000
 row:0≤s.row∧s.row≤1000000
 used:-1000000≤s.used∧s.used≤1000000
 day:-1≤s.day∧s.day≤6
structure DtOk (d:Dty):Prop where
 day:0≤d.day∧d.day≤6
 on:0≤d.on∧d.on≤1439
section
variable {σ:St} {w:Wk} {p q:Option Addr} {l m c d:Nat} {k:Nat}
theorem yHW {p:Option Addr} {l c:Nat} {xs:List Int} {n:Int} (h:yF σ p l xs) (hl:l≤1073741824):zD Pg 37 [.slice p l c,iV n] σ (.bool (xs.contains n)) σ:=by
 have h1:=(SlV.re h).re;have e1:=h.len;have ci:∃ r:Int,zD Pg 55 [.slice p l c,iV n] σ.re (iV r) σ.re∧(0≤r↔n∈xs):=by
  have key:zP Pg 55 [.slice p l c,iV n] σ.re.re fun v s=>(∃ r:Int,v=iV r∧(0≤r↔n∈xs))∧s=σ.re.re:=by
   refine xKJ (yMJ (Inv:=fun k i τ=>τ=σ.re.re∧∃ j:Nat,i=j∧j+k=l∧n ∉ xs.take j) (Qr:=fun i τ=>τ=σ.re.re∧0≤i∧n∈xs) (Q0:=fun τ=>τ=σ.re.re∧n ∉ xs) ?_ l 0 _ ⟨rfl,0,rfl,by omega,by simp⟩) ?_ ?_
   ·rintro k i τ ⟨rfl,j,rfl,hk,he⟩;by_cases hj:j<l
    ·obtain ⟨a,rfl,x,hx,l1⟩:=vQ h1 hj;by_cases hxy:n=x
     ·exact xDC l1 ⟨rfl,by omega,hxy ▸ List.mem_of_getElem? hx⟩ (by omega) (by omega) hxy
     ·exact xDB l1 ⟨k-1,by omega,rfl,j+1,by omega,by omega,by rw [wU hx,List.mem_append];simp;exact ⟨he,hxy⟩⟩ (by omega) (by omega) hxy (by omega)
    ·rw [List.take_of_length_le (by omega)] at he;exact xDA ⟨rfl,he⟩ (by omega)
   ·rintro i τ ⟨rfl,h2,hn⟩;exact yMH ⟨⟨i,rfl,by simp [h2,hn]⟩,rfl⟩
   ·rintro τ ⟨rfl,hn⟩;exact yMI ⟨⟨-1,rfl,by simp [hn]⟩,rfl⟩
  obtain ⟨v,s,h3,⟨r,rfl,h2⟩,rfl⟩:=key;exact ⟨r,zQP h3 (Nat.le_refl _) rfl,h2⟩
 obtain ⟨r,c1,c2⟩:=ci;by_cases hn:n∈xs
 ·rw [show xs.contains n=true by simp [hn]];exact (xRR c1 ⟨rfl,Nat.le_refl _⟩ (c2.2 hn)).pure
 ·rw [show xs.contains n=false by simp [hn]];exact (xRQ c1 ⟨rfl,Nat.le_refl _⟩ (fun h=>hn (c2.1 h))).pure
theorem yFP {s:Std} {x:Dty} {e:Int} (hs:StOk s) (hx:DtOk x) (he:-1000000≤e∧e≤1000000):zD Pg 48 [zLT s,uO x,iV e] σ (zLT (take s x e)) σ:=by
 have h1:=hs.used;have h2:=hs.row;have h3:=hs.day;have h4:=hx.day;have h5:=hx.on;unfold take;by_cases e1:s.day=x.day
 ·rw [if_pos e1];exact (xGG ⟨rfl,by simp⟩ (by omega) (by omega) e1).pure
 ·rw [if_neg e1];by_cases e2:s.day=x.day-1
  ·rw [if_pos e2];exact (xGE ⟨rfl,by simp⟩ (by omega) (by omega) e1 (by omega) e2 (by omega) (by omega) (by omega)).pure
  ·rw [if_neg e2];exact (xGF ⟨rfl,by simp⟩ (by omega) (by omega) e1 (by omega) e2 (by omega) (by omega)).pure
theorem xTS (h:WkP σ 69 61 w p l q m) (hsh:uX w) (hk:k<m) {s:Std} {x:Dty} (hs:StOk s) (hx:DtOk x) {n:Nat} (hn:n<5):zD Pg (64+n) [.agg ⟨wkc w.M p l c q m d w.rest w.run w.j⟩,iV (k:Int),uO x,zLT s] σ (.bool (holds w n (drQ w k) x s)) σ:=by
 have h1:=hs.free;have h4:=hx.day;have h5:=hx.on;have L:Le σ (((σ.re.row (wkc w.M p l c q m d w.rest w.run w.j) 6).row (zF x.day x.on x.lo x.hi x.route) 5).row (zK s.free s.row s.used s.day) 4):=(((le0 σ).trans (Le.row _ _ _)).trans (Le.row _ _ _)).trans (Le.row _ _ _);obtain ⟨a,rfl,p',l',c',r',n',d',s',j',e',_,hkn,hlv,_,hf⟩:=(h.le L).vld yFB zES hk;have hm:=h.len.2;have hmem:drQ w k∈w.L:=by
  unfold drQ;rw [List.getD_eq_getElem?_getD,List.getElem?_eq_getElem (by omega)];exact List.getElem_mem _
 have hsx:=hsh _ hmem;match n,hn with
 | 0,_=>exact (xAZ (hf 0 _ rfl 29 yV) (yHW hkn (by have:=hkn.len;omega)) ⟨rfl,Nat.le_refl _⟩ (by omega)).pure
 | 1,_ =>
  have cc:=yHW (c:=d') (n:=x.day) hlv (by have:=hlv.len;omega);show zD Pg 65 _ σ (.bool (!(drQ w k).qa.contains x.day)) σ;cases hc:(drQ w k).qa.contains x.day with
  | true=>rw [hc] at cc;exact (xHJ (hf 1 _ rfl 29 yV) cc ⟨rfl,Nat.le_refl _⟩ (by omega)).pure
  | false=>rw [hc] at cc;exact (xHI (hf 1 _ rfl 29 yV) cc ⟨rfl,Nat.le_refl _⟩ (by omega)).pure
 | 2,_ =>
  show zD Pg 66 _ σ (.bool (decide (s.day≠x.day))) σ;by_cases e:s.day=x.day
  ·rw [decide_eq_false (by simp [e])];exact (yRS ⟨rfl,Nat.le_refl _⟩ e).pure
  ·rw [decide_eq_true e];exact (yRT ⟨rfl,Nat.le_refl _⟩ e).pure
 | 3,_ =>
  show zD Pg 67 _ σ (.bool (decide (s.day=x.day) || decide (w.rest≤x.day*1440+x.on-s.free))) σ;by_cases e:s.day=x.day
  ·rw [decide_eq_true e];exact (yRW ⟨rfl,Nat.le_refl _⟩ e).pure
  ·rw [decide_eq_false e,Bool.false_or];by_cases e2:w.rest≤x.day*1440+x.on-s.free
   ·rw [decide_eq_true e2];exact (yRV ⟨rfl,Nat.le_refl _⟩ e (by omega) (by omega) (by omega) e2).pure
   ·rw [decide_eq_false e2];exact (yRU ⟨rfl,Nat.le_refl _⟩ e (by omega) (by omega) (by omega) e2).pure
 | 4,_ =>
  show zD Pg 68 _ σ (.bool (decide (s.day=x.day) || decide ((take s x x.on).row≤w.run))) σ;by_cases e:s.day=x.day
  ·rw [decide_eq_true e];exact (xBC ⟨rfl,Nat.le_refl _⟩ e).pure
  ·rw [decide_eq_false e,Bool.false_or];have ct:=yFP (σ:=((σ.re.row (wkc w.M p l c (some a) m d w.rest w.run w.j) 6).row (zF x.day x.on x.lo x.hi x.route) 5).row (zK s.free s.row s.used s.day) 4) (e:=x.on) hs hx (by omega);by_cases e2:(take s x x.on).row≤w.run
   ·rw [decide_eq_true e2];exact (xBB ct ⟨rfl,Nat.le_refl _⟩ e e2).pure
   ·rw [decide_eq_false e2];exact (xBA ct ⟨rfl,Nat.le_refl _⟩ e e2).pure
end
section
open Go.Sort (swp PermIn SortedIn Below SWO)
def bLt (x y:Rec):Prop:=x.a<y.a∨x.a=y.a∧(x.k<y.k∨x.k=y.k∧x.b<y.b)
instance (x y:Rec):Decidable (bLt x y):=by unfold bLt;infer_instance
def yOQ (x y:Rec):Bool:=decide (bLt x y)
theorem xWS:SWO yOQ:=by
 refine ⟨fun x=>?_,fun x y z h1 h2=>?_,fun x y z h1 h2=>?_⟩
 ·simp only [yOQ,decide_eq_false_iff_not];unfold bLt;omega
 ·simp only [yOQ,decide_eq_true_eq] at *;unfold bLt at *;omega
 ·simp only [yOQ,decide_eq_false_iff_not] at *;unfold bLt at *;omega
def BOk (x:Rec):Prop:=0≤x.k∧x.k≤5∧0≤x.a∧x.a≤100∧0≤x.b∧x.b≤100
section
variable {σ:St}
theorem xRU {x y z:Int} {b c:Nat} (o:Own σ b [iV x,iV y,iV z] 1):zD Try.prog 51 [.slice (some ⟨b,0,none⟩) 3 c] σ (iV (if x=0 then (if y=0 then z else y) else x)) σ:=by
 have h0:=o.re;have l0:=h0.ldI (P:=Try.prog) (t:=3) (i:=0) (v:=iV x) zS rfl;have l1:=h0.ldI (P:=Try.prog) (t:=3) (i:=1) (v:=iV y) zS rfl;have l2:=h0.ldI (P:=Try.prog) (t:=3) (i:=2) (v:=iV z) zS rfl;refine zP.pure (xMG (Pr:=fun n τ=>τ=σ.re∧n=if x=0 then (if y=0 then z else y) else x) (P0:=fun τ=>τ=σ.re∧x=0∧y=0∧z=0)
  (yOC (Inv:=fun k i τ=>τ=σ.re∧((i=0∧k=3)∨(i=1∧k=2∧x=0)∨(i=2∧k=1∧x=0∧y=0)∨(i=3∧x=0∧y=0∧z=0))) ?_ 3 0 σ.re ⟨rfl,.inl ⟨rfl,rfl⟩⟩)
  (fun n τ h=>yOA ⟨by rw [h.2],by rw [h.1];exact Nat.le_refl _⟩) (fun τ h=>yOB ⟨by simp [h.2.1,h.2.2.1,h.2.2.2],by rw [h.1];exact Nat.le_refl _⟩))
 rintro k i τ ⟨rfl,⟨rfl,rfl⟩ | ⟨rfl,rfl,hx⟩ | ⟨rfl,rfl,hx,hy⟩ | ⟨rfl,hx,hy,hz⟩⟩
 ·by_cases hx:x=0
  ·exact zRW l0 ⟨2,by omega,rfl,.inr (.inl ⟨rfl,rfl,hx⟩)⟩
  ·exact zRX l0 ⟨rfl,by rw [if_neg hx]⟩
 ·by_cases hy:y=0
  ·exact zRW l1 ⟨1,by omega,rfl,.inr (.inr (.inl ⟨rfl,rfl,hx,hy⟩))⟩
  ·exact zRX l1 ⟨rfl,by rw [if_pos hx,if_neg hy]⟩
 ·by_cases hz:z=0
  ·exact zRW l2 ⟨0,by omega,rfl,.inr (.inr (.inr ⟨rfl,hx,hy,hz⟩))⟩
  ·exact zRX l2 ⟨rfl,by rw [if_pos hx,if_pos hy]⟩
 ·exact xEG ⟨rfl,hx,hy,hz⟩
theorem xXS:Cmp 50 [] yOQ BOk:=by
 intro τ x y hx hy;unfold BOk at hx hy;refine ⟨if x.a-y.a=0 then (if x.k-y.k=0 then x.b-y.b else x.k-y.k) else x.a-y.a, ?_, ?_⟩
 ·have N:New τ.re (((τ.re.row (zBE x) 3).row (zBE y) 3).row [iV (x.a-y.a),iV (x.k-y.k),iV (x.b-y.b)] 1):=((New.row _ _ _).row').row';exact zP.pure (xRY (xRU (zC _ _ _)) ⟨rfl,N.lw⟩ (by omega) (by omega) (by omega) (by omega) (by omega))
 ·simp only [yOQ,decide_eq_true_eq];unfold bLt;by_cases h:x.a-y.a=0
  ·rw [if_pos h];by_cases h2:x.k-y.k=0
   ·rw [if_pos h2];omega
   ·rw [if_neg h2];omega
  ·rw [if_neg h];omega
end
end
abbrev zEQ (s:Std):List Value:=zK s.free s.row s.used s.day
def stL (f:Nat→Std):List Value:=zEQ (f 0)++(zEQ (f 1)++(zEQ (f 2)++(zEQ (f 3)++(zEQ (f 4)++zEQ (f 5)))))
def zEO:List Value:=[zZ 0,zZ 0,zZ 0,zZ 0,zZ 0,zZ 0,zZ 0,zZ 0,zZ 0,zZ 0,zZ 0,zZ 0,zZ 0,zZ 0,zZ 0,zZ 0,zZ 0,zZ 0,zZ 0,zZ 0,zZ 0,zZ 0,zZ 0,zZ 0]
def zUM:Std:=⟨0,0,0,0⟩
theorem yBI:zEO=stL fun _=>zUM:=rfl
section
variable {σ:St} {b n:Nat} {f:Nat→Std}
theorem yFQ (o:Own σ b (stL f) n) {i:Nat} (hi:i<6):zB Try.prog σ 87 ⟨b,0+Int.toNat (i:Int)*4,none⟩=some (zLT (f i)):=by
 rw [Int.toNat_natCast];match i,hi with
 | 0,_=>exact o.ldN (k:=0) zAV xN (ds:=zEQ (f 0)) rfl rfl (by simp [stL])
 | 1,_=>exact o.ldN (k:=4) zAV xN (ds:=zEQ (f 1)) rfl rfl (by simp [stL])
 | 2,_=>exact o.ldN (k:=8) zAV xN (ds:=zEQ (f 2)) rfl rfl (by simp [stL])
 | 3,_=>exact o.ldN (k:=12) zAV xN (ds:=zEQ (f 3)) rfl rfl (by simp [stL])
 | 4,_=>exact o.ldN (k:=16) zAV xN (ds:=zEQ (f 4)) rfl rfl (by simp [stL])
 | 5,_=>exact o.ldN (k:=20) zAV xN (ds:=zEQ (f 5)) rfl rfl (by simp [stL])
theorem xGH (o:Own σ b (stL f) n) {i:Nat} (hi:i<6):zB Try.prog σ 3 ⟨b,0+Int.toNat (i:Int)*4+2,none⟩=some (zZ (f i).used):=by
 rw [Int.toNat_natCast];match i,hi with
 | 0,_=>exact o.ld (k:=2) rfl zS rfl
 | 1,_=>exact o.ld (k:=6) rfl zS rfl
 | 2,_=>exact o.ld (k:=10) rfl zS rfl
 | 3,_=>exact o.ld (k:=14) rfl zS rfl
 | 4,_=>exact o.ld (k:=18) rfl zS rfl
 | 5,_=>exact o.ld (k:=22) rfl zS rfl
theorem uF (o:Own σ b (stL f) n):zB Try.prog σ 89 ⟨b,0,none⟩=some (.agg ⟨stL f⟩):=o.ldN (k:=0) xTU yQE (ds:=stL f) rfl rfl (by simp [stL])
theorem yPZ (o:Own σ b (stL f) n) {i:Nat} (hi:i<6) (s:Std):zQ Try.prog (evL [.pointer (some ⟨b,0+Int.toNat (i:Int)*4,none⟩),zLT s]) σ (.store 87 (.tmp 0) (.tmp 1))=some (undef,σ.own b (stL (upd f i s)) n):=by
 rw [Int.toNat_natCast];match i,hi with
 | 0,_=>exact o.store (k:=0) (vs:=zEQ s) rfl xN rfl (by simp [stL]) rfl
 | 1,_=>exact o.store (k:=4) (vs:=zEQ s) rfl xN rfl (by simp [stL]) rfl
 | 2,_=>exact o.store (k:=8) (vs:=zEQ s) rfl xN rfl (by simp [stL]) rfl
 | 3,_=>exact o.store (k:=12) (vs:=zEQ s) rfl xN rfl (by simp [stL]) rfl
 | 4,_=>exact o.store (k:=16) (vs:=zEQ s) rfl xN rfl (by simp [stL]) rfl
 | 5,_=>exact o.store (k:=20) (vs:=zEQ s) rfl xN rfl (by simp [stL]) rfl
theorem zUR (o:Own σ b (stL f) n) (g:Nat→Std):zQ Try.prog (evL [.pointer (some ⟨b,0,none⟩),.agg ⟨stL g⟩]) σ (.store 89 (.tmp 0) (.tmp 1))=some (undef,σ.own b (stL g) n) :=
 o.store (k:=0) (vs:=stL g) rfl yQE rfl (by simp [stL]) rfl
def st0 (w:Wk) (j:Nat):Nat→Std:=fun k=>if k<j then before (drQ w k) else zUM
theorem xWT {w:Wk} {j:Nat}:upd (st0 w j) j (before (drQ w j))=st0 w (j+1):=by
 funext k;unfold upd st0;by_cases e:k=j
 ·subst e;rw [if_pos rfl,if_pos (by omega)]
 ·rw [if_neg e];by_cases h:k<j
  ·rw [if_pos h,if_pos (by omega)]
  ·rw [if_neg h,if_neg (by omega)]
variable {w:Wk} {p q:Option Addr} {l m c d:Nat}
theorem yBL (h:WkP σ 69 61 w p l q m) (hm:m≤6):zD Try.prog 45 [.agg ⟨wkc w.M p l c q m d w.rest w.run w.j⟩] σ (.agg ⟨stL (st0 w m)⟩) σ:=by
 have hmm:=h.len.2;obtain ⟨σ1,hσ1⟩:∃ σ1,σ1=(σ.re.row (wkc w.M p l c q m d w.rest w.run w.j) 6).row zEO 4:=⟨_,rfl⟩;have N1:New σ.re σ1:=by rw [hσ1];exact (New.row _ _ _).row'
 have L1:Le σ σ1:=(le0 σ).trans N1.le;have o1:Own σ1 (σ.y+1) (stL (st0 w 0)) 4:=by
  rw [hσ1];exact zC (σ.re.row (wkc w.M p l c q m d w.rest w.run w.j) 6) zEO 4
 have hr:zV RD (.agg ⟨stL (st0 w m)⟩)=true:=rfl;refine zP.pure (hv:=hr) (yPV (yAT (Inv:=fun k i τ=>New σ.re τ∧∃ j:Nat,i=j∧j+k=m∧Own τ (σ.y+1) (stL (st0 w j)) 4) (Q0:=fun τ=>New σ.re τ∧Own τ (σ.y+1) (stL (st0 w m)) 4) ?_ m 0 σ1 ⟨N1,0,rfl,by omega,o1⟩ |> fun h=>by rw [hσ1] at h;exact h) ?_)
 ·rintro k i τ ⟨hN,j,rfl,hk,o⟩;by_cases hj:j<m;rotate_left
  ·have:j=m:=by omega
   subst this;exact yJG ⟨hN,o⟩ (by omega)
  have LL:=(le0 σ).trans hN.le;obtain ⟨a,rfl,p',l',c',r',n',d',s',j',e',lx,_,_,_,_⟩:=(h.le LL).vld yFB zES hj;have hN2:New σ.re ((τ.row (zM none 0 0 none 0 0 none 0 0 0 0 0) 6).own τ.y (zM p' l' c' r' n' d' s' j' e' (drQ w j).off (drQ w j).row (drQ w j).used) 6):=hN.row'.own hN.le.y;have o2:Own ((τ.row (zM none 0 0 none 0 0 none 0 0 0 0 0) 6).own τ.y (zM p' l' c' r' n' d' s' j' e' (drQ w j).off (drQ w j).row (drQ w j).used) 6) (σ.y+1) (stL (st0 w j)) 4:=o.row.own (by have:=o.lt;omega);refine yJH lx (yPZ o2 (i:=j) (by omega) (before (drQ w j))) ⟨k-1,by omega,hN2.own (by show σ.y≤σ.y+1;omega),j+1,by omega,by omega, ?_⟩ (by omega) (by omega) (by omega) (by omega);rw [← xWT];exact o2.put
 ·rintro τ ⟨hN,o⟩;exact yAS (uF o) (zUR o _) (uF o.put) ⟨rfl,(hN.own (by show σ.y≤σ.y+1;omega)).lw⟩
theorem zTG:∃ b σ',zD Try.prog 47 [] σ (.slice (some ⟨b,0,none⟩) 5 5) σ'∧New σ σ'∧σ.y≤b∧Row σ' ⟨b,0,none⟩ [.int .u8 0,.func (.func 64) ⟨[]⟩ ⟨[]⟩,.int .u8 1,.func (.func 65) ⟨[]⟩ ⟨[]⟩,.int .u8 2,.func (.func 66) ⟨[]⟩ ⟨[]⟩,.int .u8 3,.func (.func 67) ⟨[]⟩ ⟨[]⟩,.int .u8 4,.func (.func 68) ⟨[]⟩ ⟨[]⟩]:=by
 obtain ⟨v,σ',h1,h2,b,rfl,h3,h4⟩:=zP.new (σ:=σ) (P:=Try.prog) (f:=47) (args:=[]) (Q:=fun v s=>∃ b,v=.slice (some ⟨b,0,none⟩) 5 5∧σ.y≤b∧Row s ⟨b,0,none⟩ [.int .u8 0,.func (.func 64) ⟨[]⟩ ⟨[]⟩,.int .u8 1,.func (.func 65) ⟨[]⟩ ⟨[]⟩,.int .u8 2,.func (.func 66) ⟨[]⟩ ⟨[]⟩,.int .u8 3,.func (.func 67) ⟨[]⟩ ⟨[]⟩,.int .u8 4,.func (.func 68) ⟨[]⟩ ⟨[]⟩])
  (yGK ⟨New.row _ _ _,σ.re.y,rfl,Nat.le_refl _,xQ _ _ _⟩) (by rintro v s s' ⟨b,rfl,g1,g2⟩ hle;exact ⟨b,rfl,g1,g2.le hle⟩) (by rintro v s hr ⟨b,rfl,_⟩;cases hr)
 exact ⟨b,σ',h1,h2,h3,h4⟩
end
section
noncomputable section
variable (BA BB:Nat) (s1 slices:oAa) (o:lVa) (dK aU d9 ba:Nat) (aG bh:Int) (s2 fi:oAa) (q7:Int→Int→St→Prop) (qC:(Option Addr)→Nat→Nat→St→Prop) (qB:(Option Addr)→Nat→Nat→Int→St→Prop) (dW fk ee fq:Nat) (aD bM eJ:Int) (q4:St→Prop) (q0:Int→St→Prop) (σ:St) (Q:vPa) (Nx Qr:Int→St→Prop) (qE:(Option Addr)→Nat→Nat→Int→St→Prop) (q8:Int→Int→St→Prop) (Q0:St→Prop) (Q2:(Option Addr)→Nat→Nat→St→Prop) (q9:Int→St→Prop)
def yMY:Code:=(Code.part [1,0,1,0,0] (qj 74))
def zPM:lNa:=[(2,pq BA 0),(4,pq BB 0),(7,qh o),(8,iV aG)]
def xDM:Alt:=⟨Int,.normal,fun t=>zPM BA BB o t,fun t=>[],fun t σ=>q0 t σ⟩
def zYT (BA BB:Nat) (o:lVa):lNa:=[(2,pq BA 0),(4,pq BB 0)]
def zNP:Alt:=⟨Unit,(.exit 0),fun t=>zYT BA BB o,fun t=>[],fun t σ=>q4 σ⟩
def zYV:Prop:=qk ql none yMY 20 (zPM BA BB o aG) [] [xDM BA BB o Nx,zNP BA BB o Q0] σ
def yMZ:Prop:=qm ql none yMY 20 (zPM BA BB o aG) [] [zNP BA BB o Q0] σ
def zYU:Prop:=kZ ql (qj 74) [1,0,1,0] (qo 74 Q) (.exit 0) 20 (zYT BA BB o) σ
def zZN:Code:=(Code.part [1,0,1,0,0] (qj 93))
def zEA:lNa:=[(0,.slice s1 dK d9),(1,.slice s2 dW ee),(9,.slice s1 dK d9),(10,iV (dK:Int)),(11,iV aD)]
def yNZ:Alt:=⟨Int,.normal,fun t=>zEA s1 dK d9 s2 dW ee t,fun t=>[],fun t σ=>q0 t σ⟩
def zPR (s1:oAa) (dK d9:Nat) (s2:oAa) (dW ee:Nat) (bM:Int):lNa:=[(4,iV bM)]
def zHH:Alt:=⟨Int,.ret,fun t=>zPR s1 dK d9 s2 dW ee t,fun t=>[],fun t σ=>q0 t σ⟩
def zPS:lNa:=[(0,.slice s1 dK d9),(1,.slice s2 dW ee)]
def zHI:Alt:=⟨Unit,(.exit 0),fun t=>zPS s1 dK d9 s2 dW ee,fun t=>[],fun t σ=>q4 σ⟩
def zHJ:Prop:=qk ql none zZN 36 (zEA s1 dK d9 s2 dW ee aD) [] [yNZ s1 dK d9 s2 dW ee Nx,zHH s1 dK d9 s2 dW ee Qr,zHI s1 dK d9 s2 dW ee Q0] σ
def zZO:Prop:=qm ql none zZN 36 (zEA s1 dK d9 s2 dW ee aD) [] [zHH s1 dK d9 s2 dW ee Qr,zHI s1 dK d9 s2 dW ee Q0] σ
def zPT:Prop:=kZ ql (qj 93) [1,0,1,0] (qo 93 Q) .ret 36 (zPR s1 dK d9 s2 dW ee bM) σ
def zPU:Prop:=kZ ql (qj 93) [1,0,1,0] (qo 93 Q) (.exit 0) 36 (zPS s1 dK d9 s2 dW ee) σ
def yNU:Code:=(Code.part [1,1,0,1,0,0] (qj 76))
def zJX:lNa:=[(0,.slice slices aU ba),(3,iV bh),(9,.slice slices aU ba),(10,iV (aU:Int)),(11,iV aD)]
def xEE:Alt:=⟨Int × Int,.normal,fun t=>zJX slices aU ba t.1 t.2,fun t=>[],fun t σ=>q7 t.1 t.2 σ⟩
def zZI:lNa:=[(0,.slice slices aU ba),(3,iV bh)]
def zNT:Alt:=⟨Int,(.exit 0),fun t=>zZI slices aU ba t,fun t=>[],fun t σ=>q0 t σ⟩
def zZM:Prop:=qk ql none yNU 36 (zJX slices aU ba bh aD) [] [xEE slices aU ba q8,zNT slices aU ba q9] σ
def yNW:Prop:=qm ql none yNU 36 (zJX slices aU ba bh aD) [] [zNT slices aU ba q9] σ
def zZK:Prop:=kZ ql (qj 76) [1,1,0,1,0] (qo 76 Q) (.exit 0) 36 (zZI slices aU ba bh) σ
def yNT:Code:=(Code.part [1,1,1,1,0,1,0,0] (qj 76))
def zJW:lNa:=[(6,.slice fi fk fq),(25,.slice slices aU ba),(26,iV (aU:Int)),(27,iV eJ)]
def xED:Alt:=⟨(Option Addr) × Nat × Nat × Int,.normal,fun t=>zJW slices aU ba t.1 t.2.1 t.2.2.1 t.2.2.2,fun t=>[],fun t σ=>qB t.1 t.2.1 t.2.2.1 t.2.2.2 σ⟩
def zZH (slices:oAa) (aU ba:Nat) (fi:oAa) (fk fq:Nat):lNa:=[(6,.slice fi fk fq)]
def zNS:Alt:=⟨(Option Addr) × Nat × Nat,(.exit 2),fun t=>zZH slices aU ba t.1 t.2.1 t.2.2,fun t=>[],fun t σ=>qC t.1 t.2.1 t.2.2 σ⟩
def zZL:Prop:=qk ql none yNT 36 (zJW slices aU ba fi fk fq eJ) [] [xED slices aU ba qE,zNS slices aU ba Q2] σ
def yNV:Prop:=qm ql none yNT 36 (zJW slices aU ba fi fk fq eJ) [] [zNS slices aU ba Q2] σ
def zZJ:Prop:=kZ ql (qj 76) [1,1,1,1,0,1,0] (qo 76 Q) (.exit 2) 36 (zZH slices aU ba fi fk fq) σ
end
variable {BA BB l1 c1 l2 c2 dK d9 dW ee aU ba lA cE fk fq lI cI lB cA lK cM s_l s_c l3 c3 l5 c5 l6 c6:Nat} {o g_0 cs1838 cs1840:lVa} {Inv:Nat→Int→St→Prop} {Q0 P0:St→Prop} {aG nG nF n3 aD nD bM x y bh eJ n n1 n2:Int} {σZ σ σF σUB σ4:St} {Nx Qr Pr:Int→St→Prop} {Q:vPa} {q1 q2 s1 s2 slices qD fi qH qA qL s q3 q5 q6:oAa} {s1_a s2_a gd:Addr} {Q2 P2:(Option Addr)→Nat→Nat→St→Prop}
theorem yMX (hb:∀ k aG σ,Inv k aG σ→zYV BA BB o aG σ (NX1 Inv k) Q0):∀ k aG σ,Inv k aG σ→yMZ BA BB o aG σ Q0 :=
 xJ (ai (wI 0) trivial) hb
theorem xDL (h1:zAL Pg 73 (qh o) (iV aG)=some (iV nG)) (h2:lz σ 3 ⟨BA,0+Int.toNat aG*1,none⟩ (iV nF)) (h3:qq (evL [pq BA (0+Int.toNat aG*1),iV (nF+nG)]) σ (.store 3 (.tmp 0) (.tmp 1))=some (undef,σZ)) (nx:Nx (aG+1) σZ) (u1:aG<6:=by omega) (u2:Ix aG 6:=by omega) (u3:I6 (nF+nG):=by omega) (u4:I6 (aG+1):=by omega):zYV BA BB o aG σ Nx Q0 :=
 kO 0 (aG+1) [.b true,.g,.v (iV nG),.g,.g,.g,.i,.l (iV nF),.g,.n (nF+nG),.i,.e undef σZ,.n (aG+1),.g] (fun _ f=>an2 (zR u1) h1 (an6 u2 h2 (w64 u3) u2 h3 (w64 u4) f)) nx
theorem xDK (nx:Q0 σ) (u1:¬ aG<6:=by omega):zYV BA BB o aG σ Nx Q0 :=
 kO 1 () [.b false] (fun _ f=>ai (zT u1) f) nx
theorem xLF:let y0:=((σ.row g_0 1).row o 1).row (zJ 0 0 0 0 0 0) 1;∀ (h1:lz y0 73 ⟨(σ.y+1),0,none⟩ (qh o)) (hL:yMZ σ.y (σ.y+2) o 0 y0 P0) (k0:∀ σ',P0 σ'→zYU σ.y (σ.y+2) o σ' Q),qi 74 [qh g_0,qh o] σ Q :=
 let s1:=zPM σ.y (σ.y+2) o 0;fun h1 hL k0=>zI [.g,.g,.g,.l (qh o),.g,.lf 20 s1 [zNP σ.y (σ.y+2) o P0]] (kd (ai h1 (ai (ai tt (ai (arf s1) hL)) (ai (kz0 k0) trivial))))
theorem yMW (h1:lz σ 73 (qg BA 0) (qh cs1838)) (h2:qq (evL [pq BB 0,qh cs1838]) σ (.store 73 (.tmp 0) (.tmp 1))=some (undef,σF)) (h3:lz σF 73 (qg BB 0) (qh cs1840)) (nx:Q (qh cs1840) σF):zYU BA BB o σ Q :=
 sK [.l (qh cs1838),.e undef σF,.l (qh cs1840)] (an3 h1 h2 h3 nx)
@[reducible] def Ha8 (σ:St) (g_0 o:lVa) (q1 q2:oAa) (l1 c1 l2 c2:Nat) (n3:Int):Prop:=qp ((σ.row g_0 1).row o 1) 73 ⟨σ.y,0,none⟩=some (.agg ⟨g_0⟩)∧(qp ((σ.row g_0 1).row o 1) 73 ⟨(σ.y+1),0,none⟩=some (.agg ⟨o⟩))∧uH Pg .neq 73 (.tmp 5) (.tmp 6) (.agg ⟨g_0⟩) (.agg ⟨o⟩)=some (.bool true)∧yI Pg ((σ.row g_0 1).row o 1) 73 (.pointer (some ⟨σ.y,0,none⟩)) none none none=some (.slice q1 l1 c1)∧(yI Pg ((σ.row g_0 1).row o 1) 73 (.pointer (some ⟨(σ.y+1),0,none⟩)) none none none=some (.slice q2 l2 c2))∧qn 93 [.slice q1 l1 c1,.slice q2 l2 c2] ((σ.row g_0 1).row o 1) (iV n3) ((σ.row g_0 1).row o 1)
theorem xLI (H:Ha8 σ g_0 o q1 q2 l1 c1 l2 c2 n3) (nx:Q (.bool true) ((σ.row g_0 1).row o 1)) (u1:0<n3:=by omega):qi 75 [qh g_0,qh o] σ Q :=
 match H with|⟨h1,h2,h3,h4,h5,h6⟩=>zI [.g,.g,.g,.l (qh g_0),.l (qh o),.v (.bool true),.g,.v (.slice q1 l1 c1),.v (.slice q2 l2 c2),.c (iV n3) ((σ.row g_0 1).row o 1),.b true,.g,.g] (kd (ai h1 (an6 h2 h3 h4 h5 h6 (zR u1) nx)))
theorem xLH (H:Ha8 σ g_0 o q1 q2 l1 c1 l2 c2 n3) (nx:Q (.bool false) ((σ.row g_0 1).row o 1)) (u1:¬ 0<n3:=by omega):qi 75 [qh g_0,qh o] σ Q :=
 match H with|⟨h1,h2,h3,h4,h5,h6⟩=>zI [.g,.g,.g,.l (qh g_0),.l (qh o),.v (.bool true),.g,.v (.slice q1 l1 c1),.v (.slice q2 l2 c2),.c (iV n3) ((σ.row g_0 1).row o 1),.b false,.g,.g] (kd (ai h1 (an6 h2 h3 h4 h5 h6 (zT u1) nx)))
theorem xLG:let y0:=(σ.row g_0 1).row o 1;∀ (h1:lz y0 73 (qg σ.y 0) (qh g_0)) (h2:lz y0 73 ⟨(σ.y+1),0,none⟩ (qh o)) (h3:uH Pg .neq 73 (.tmp 5) (.tmp 6) (qh g_0) (qh o)=some (.bool false)) (nx:Q (.bool false) y0),qi 75 [qh g_0,qh o] σ Q :=
 fun h1 h2 h3 nx=>zI [.g,.g,.g,.l (qh g_0),.l (qh o),.v (.bool false),.g,.g,.g] (kd (an3 h1 h2 h3 nx))
theorem yBD (hb:∀ k aD σ,Inv k aD σ→zHJ s1 dK d9 s2 dW ee aD σ (NX1 Inv k) Qr Q0):∀ k aD σ,Inv k aD σ→zZO s1 dK d9 s2 dW ee aD σ Qr Q0 :=
 xJ (ai zCK (ai (wI 0) trivial)) hb
theorem zTX (h1:lz σ 3 (zN s1_a (Int.toNat aD*1)) (iV nG)) (h2:lz σ 3 (zN s2_a (Int.toNat aD*1)) (iV nF)) (h3:qn 103 [iV nG,iV nF] σ (iV nD) σ) (nx:Qr nD σ) (u1:aD<(dK:Int):=by omega) (u2:Ix aD dK:=by omega) (u3:¬ (dW:Int)≤aD:=by omega) (u4:Ix aD dW:=by omega) (u5:¬ nD=0:=by omega):zHJ (some s1_a) dK d9 (some s2_a) dW ee aD σ Nx Qr Q0 :=
 kO 1 nD [.b true,.g,.i,.l (iV nG),.g,.g,.g,.g,.g,.b false,.g,.g,.i,.l (iV nF),.g,.g,.g,.c (iV nD) σ,.g,.g,.b true,.g,.g] (fun _ f=>an2 (zR u1) u2 (an6 h1 (yJ u3) u4 h2 h3 (zCF u5) f)) nx
theorem yNY (h1:lz σ 3 (zN s1_a (Int.toNat aD*1)) (iV nG)) (h2:lz σ 3 (zN s2_a (Int.toNat aD*1)) (iV nF)) (h3:qn 103 [iV nG,iV nF] σ (iV nD) σ) (nx:Nx (aD+1) σ) (u1:aD<(dK:Int):=by omega) (u2:Ix aD dK:=by omega) (u3:¬ (dW:Int)≤aD:=by omega) (u4:Ix aD dW:=by omega) (u5:nD=0:=by omega) (u6:I6 (aD+1):=by omega):zHJ (some s1_a) dK d9 (some s2_a) dW ee aD σ Nx Qr Q0 :=
 kO 0 (aD+1) [.b true,.g,.i,.l (iV nG),.g,.g,.g,.g,.g,.b false,.g,.g,.i,.l (iV nF),.g,.g,.g,.c (iV nD) σ,.g,.g,.b false,.n (aD+1),.g] (fun _ f=>an3 (zR u1) u2 h1 (an6 (yJ u3) u4 h2 h3 (zAF u5) (w64 u6) f)) nx
theorem yNX (nx:Q0 σ) (u1:¬ aD<(dK:Int):=by omega):zHJ s1 dK d9 s2 dW ee aD σ Nx Qr Q0 :=
 kO 2 () [.b false] (fun _ f=>ai (zT u1) f) nx
theorem yUS (hL:zZO s1 dK d9 s2 dW ee 0 σ Pr P0) (kr:∀ i4_1' σ',Pr i4_1' σ'→zPT s1 dK d9 s2 dW ee i4_1' σ' Q) (k0:∀ σ',P0 σ'→zPU s1 dK d9 s2 dW ee σ' Q):qi 93 [.slice s1 dK d9,.slice s2 dW ee] σ Q :=
 zI [.g,.g,.g,.g,.lf 36 (zEA s1 dK d9 s2 dW ee 0) [zHH s1 dK d9 s2 dW ee Pr,zHI s1 dK d9 s2 dW ee P0]] (kd (ai (ai tt (ai (arf (zEA s1 dK d9 s2 dW ee 0)) hL)) (ai (kz1 kr) (ai (kz0 k0) trivial))))
theorem yBB (nx:Q (iV bM) σ):zPT s1 dK d9 s2 dW ee bM σ Q :=
 sK [] nx
theorem yBC (nx:Q (iV 0) σ) (u1:¬ (dK:Int)<(dW:Int):=by omega):zPU s1 dK d9 s2 dW ee σ Q :=
 sK [.g,.g,.g,.g,.b false,.g] (ai (zT u1) nx)
theorem xRX (h1:qn 106 [iV x] σ (.bool false) σ) (h2:qn 106 [iV y] σ (.bool false) σ) (nx:Q (iV (-1)) σ) (u1:x<y:=by omega):qi 103 [iV x,iV y] σ Q :=
 zI [.g,.g,.c (.bool false) σ,.g,.g,.c (.bool false) σ,.g,.g,.g,.g,.g,.b true,.g] (kd (an3 h1 h2 (zR u1) nx))
theorem xRW (h1:qn 106 [iV x] σ (.bool false) σ) (h2:qn 106 [iV y] σ (.bool false) σ) (nx:Q (iV 1) σ) (u1:¬ x<y:=by omega) (u2:y<x:=by omega):qi 103 [iV x,iV y] σ Q :=
 zI [.g,.g,.c (.bool false) σ,.g,.g,.c (.bool false) σ,.g,.g,.g,.g,.g,.b false,.g,.g,.b true,.g] (kd (an4 h1 h2 (zT u1) (zR u2) nx))
theorem xRV (h1:qn 106 [iV x] σ (.bool false) σ) (h2:qn 106 [iV y] σ (.bool false) σ) (nx:Q (iV 0) σ) (u1:¬ x<y:=by omega) (u2:¬ y<x:=by omega):qi 103 [iV x,iV y] σ Q :=
 zI [.g,.g,.c (.bool false) σ,.g,.g,.c (.bool false) σ,.g,.g,.g,.g,.g,.b false,.g,.g,.b false,.g] (kd (an4 h1 h2 (zT u1) (zT u2) nx))
theorem xJW (nx:Q (.bool false) σ) (u1:x=x:=by omega):qi 106 [iV x] σ Q :=
 zI [.g,.g,.g,.b false,.g] (kd (ai (zAF u1) nx))
theorem yNS {Inv:Nat→Int→Int→St→Prop} {Q0:Int→St→Prop} (hb:∀ k bh aD σ,Inv k bh aD σ→zZM slices aU ba bh aD σ (NX2 Inv k) Q0):∀ k bh aD σ,Inv k bh aD σ→yNW slices aU ba bh aD σ Q0 :=
 zEV (ai (wI 0) trivial) hb
theorem xEC {Nx:Int→Int→St→Prop} {Q0:Int→St→Prop} (h1:lz σ 29 (zN gd (Int.toNat aD*1)) (.slice qD lA cE)) (nx:Nx (bh+(lA:Int)) (aD+1) σ) (u1:aD<(aU:Int):=by omega) (u2:Ix aD aU:=by omega) (u3:I6 (bh+(lA:Int)):=by omega) (u4:¬ (bh+(lA:Int))<0:=by omega) (u5:I6 (aD+1):=by omega):zZM (some gd) aU ba bh aD σ Nx Q0 :=
 kO 0 ((bh+(lA:Int)),aD+1) [.b true,.i,.l (.slice qD lA cE),.g,.g,.g,.g,.n (bh+(lA:Int)),.g,.g,.b false,.n (aD+1),.g] (fun _ f=>an6 (zR u1) u2 h1 (w64 u3) (zT u4) (w64 u5) f) nx
theorem xEB {Nx:Int→Int→St→Prop} {Q0:Int→St→Prop} (nx:Q0 bh σ) (u1:¬ aD<(aU:Int):=by omega):zZM slices aU ba bh aD σ Nx Q0 :=
 kO 1 bh [.b false] (fun _ f=>ai (zT u1) f) nx
theorem xMF {P0:Int→St→Prop} (hL:yNW slices aU ba 0 0 σ P0) (k0:∀ i3_1' σ',P0 i3_1' σ'→zZK slices aU ba i3_1' σ' Q):qi 76 [.slice slices aU ba] σ Q :=
 zI [.g,.g,.g,.g,.g,.lf 36 (zJX slices aU ba 0 0) [zNT slices aU ba P0]] (kd (ai (ai tt (ai (arf (zJX slices aU ba 0 0)) hL)) (ai (kz1 k0) trivial)))
theorem yNR {Inv:Nat→(Option Addr)→Nat→Nat→Int→St→Prop} (hb:∀ k fi fk fq eJ σ,Inv k fi fk fq eJ σ→zZL slices aU ba fi fk fq eJ σ (NX4 Inv k) Q2):∀ k fi fk fq eJ σ,Inv k fi fk fq eJ σ→yNV slices aU ba fi fk fq eJ σ Q2 :=
 yTE (ai (wI 2) trivial) hb
theorem xEA {Nx:(Option Addr)→Nat→Nat→Int→St→Prop} (h1:lz σ 29 (zN gd (Int.toNat eJ*1)) (.slice qH lI cI)) (h2:yD Pg 29 29 (.slice fi fk fq) (.slice qH lI cI) σ=some (.slice qA lB cA,σUB)) (nx:Nx qA lB cA (eJ+1) σUB) (u1:eJ<(aU:Int):=by omega) (u2:Ix eJ aU:=by omega) (u3:I6 (eJ+1):=by omega):zZL (some gd) aU ba fi fk fq eJ σ Nx Q2 :=
 kO 0 (qA,lB,cA,eJ+1) [.b true,.i,.l (.slice qH lI cI),.g,.g,.g,.e (.slice qA lB cA) σUB,.g,.n (eJ+1),.g] (fun _ f=>an5 (zR u1) u2 h1 h2 (w64 u3) f) nx
theorem xDZ {Nx:(Option Addr)→Nat→Nat→Int→St→Prop} (nx:Q2 fi fk fq σ) (u1:¬ eJ<(aU:Int):=by omega):zZL slices aU ba fi fk fq eJ σ Nx Q2 :=
 kO 1 (fi,fk,fq) [.b false] (fun _ f=>ai (zT u1) f) nx
theorem yNQ (h1:qn 94 [.slice none 0 0,iV bh] σ (.slice qL lK cM) σF) (hL:yNV slices aU ba qL lK cM 0 σF P2) (k2:∀ p6_2' l6_2' c6_2' σ',P2 p6_2' l6_2' c6_2' σ'→zZJ slices aU ba p6_2' l6_2' c6_2' σ' Q):zZK slices aU ba bh σ Q :=
 sK [.g,.c (.slice qL lK cM) σF,.g,.g,.g,.g,.lf 36 (zJW slices aU ba qL lK cM 0) [zNS slices aU ba P2]] (ai h1 (ai (ai tt (ai (arf (zJW slices aU ba qL lK cM 0)) hL)) (ai (kz3 k2) trivial)))
theorem yNP (nx:Q (.slice fi fk fq) σ):zZJ slices aU ba fi fk fq σ Q :=
 sK [.g,.g] nx
theorem xLE (h1:xP Pg (evL [.slice s s_l s_c]) σ (.call { callee:=.builtin .cap,args:=⟨vA 1⟩,argTypes:=⟨[29]⟩ })=some (iV n1)) (h2:xP Pg (evL [.slice s s_l s_c]) σ (.call { callee:=.builtin .cap,args:=⟨vA 1⟩,argTypes:=⟨[29]⟩ })=some (iV n2)) (h3:yI Pg σ 29 (.slice s s_l s_c) none (some (iV n2)) none=some (.slice q3 l3 c3)) (h4:yD Pg 29 3 (.slice q3 l3 c3) (iV (n-(n1-(s_l:Int)))) σ=some (.slice q5 l5 c5,σ4)) (h5:yI Pg σ4 29 (.slice q5 l5 c5) none (some (iV (s_l:Int))) none=some (.slice q6 l6 c6)) (nx:Q (.slice q6 l6 c6) σ4) (u1:¬ n<0:=by omega) (u2:I6 (n1-(s_l:Int)):=by omega) (u3:I6 (n-(n1-(s_l:Int))):=by omega) (u4:0<(n-(n1-(s_l:Int))):=by omega):qi 94 [.slice s s_l s_c,iV n] σ Q :=
 zI [.g,.g,.b false,.g,.g,.v (iV n1),.g,.g,.n (n1-(s_l:Int)),.n (n-(n1-(s_l:Int))),.g,.g,.b true,.g,.g,.v (iV n2),.v (.slice q3 l3 c3),.g,.e (.slice q5 l5 c5) σ4,.g,.g,.v (.slice q6 l6 c6),.g,.g,.g] (kd (an3 (zT u1) h1 (w64 u2) (an6 (w64 u3) (zR u4) h2 h3 h4 h5 nx)))
theorem xLD (h1:xP Pg (evL [.slice s s_l s_c]) σ (.call { callee:=.builtin .cap,args:=⟨vA 1⟩,argTypes:=⟨[29]⟩ })=some (iV n1)) (nx:Q (.slice s s_l s_c) σ) (u1:¬ n<0:=by omega) (u2:I6 (n1-(s_l:Int)):=by omega) (u3:I6 (n-(n1-(s_l:Int))):=by omega) (u4:¬ 0<(n-(n1-(s_l:Int))):=by omega):qi 94 [.slice s s_l s_c,iV n] σ Q :=
 zI [.g,.g,.b false,.g,.g,.v (iV n1),.g,.g,.n (n1-(s_l:Int)),.n (n-(n1-(s_l:Int))),.g,.g,.b false,.g,.g] (kd (an5 (zT u1) h1 (w64 u2) (w64 u3) (zT u4) nx))
end
section
noncomputable section
variable (s:oAa) (p x_a:Addr) (s_l x_l s_c x_c:Nat) (day bh:Int) (f:FuncId) (q5:Int→Int→St→Prop) (BA BB l1:Nat) (f_c:lVa) (dD aG bM:Int) (Q:Int→St→Prop) (q0:St→Prop) (σ:St) (Nx Qr:Int→St→Prop) (q2:vPa) (q6:Int→Int→St→Prop) (Q0:St→Prop) (q8:Int→St→Prop)
def yYP:Code:=(Code.part [1,0,1,0,0] (qj 105))
def zPH:lNa:=[(0,.slice s s_l s_c),(1,.func (.func f) ⟨[]⟩ ⟨f_c⟩),(7,iV (s_l:Int)),(8,iV aG)]
def xKQ:Alt:=⟨Int,.normal,fun t=>zPH s s_l s_c f f_c t,fun t=>[],fun t σ=>Q t σ⟩
def yDT (s:oAa) (s_l s_c:Nat) (f:FuncId) (f_c:lVa) (bM:Int):lNa:=[(4,iV bM)]
def zRH:Alt:=⟨Int,.ret,fun t=>yDT s s_l s_c f f_c t,fun t=>[],fun t σ=>Q t σ⟩
def yDU (s:oAa) (s_l s_c:Nat) (f:FuncId) (f_c:lVa):lNa:=[]
def zRI:Alt:=⟨Unit,(.exit 0),fun t=>yDU s s_l s_c f f_c,fun t=>[],fun t σ=>q0 σ⟩
def zVI:Prop:=qk ql none yYP 19 (zPH s s_l s_c f f_c aG) [] [xKQ s s_l s_c f f_c Nx,zRH s s_l s_c f f_c Qr,zRI s s_l s_c f f_c Q0] σ
def yYQ:Prop:=qm ql none yYP 19 (zPH s s_l s_c f f_c aG) [] [zRH s s_l s_c f f_c Qr,zRI s s_l s_c f f_c Q0] σ
def yDV:Prop:=kZ ql (qj 105) [1,0,1,0] (qo 105 q2) .ret 19 (yDT s s_l s_c f f_c bM) σ
def yDW:Prop:=kZ ql (qj 105) [1,0,1,0] (qo 105 q2) (.exit 0) 19 (yDU s s_l s_c f f_c) σ
def yXI:Code:=(Code.part [1,0,1,0,0] (qj 73))
def zUV:lNa:=[(0,pz p),(1,iV day),(5,pq BA 0),(6,pq BB 0),(13,iV (l1:Int)),(14,iV dD)]
def xHX:Alt:=⟨Int,.normal,fun t=>zUV p day BA BB l1 t,fun t=>[],fun t σ=>Q t σ⟩
def yCJ (p:Addr) (day:Int) (BA BB l1:Nat):lNa:=[(5,pq BA 0),(6,pq BB 0)]
def zQS:Alt:=⟨Unit,(.exit 0),fun t=>yCJ p day BA BB l1,fun t=>[],fun t σ=>q0 σ⟩
def zUW:Prop:=qk ql none yXI 46 (zUV p day BA BB l1 dD) [] [xHX p day BA BB l1 Nx,zQS p day BA BB l1 Q0] σ
def yXJ:Prop:=qm ql none yXI 46 (zUV p day BA BB l1 dD) [] [zQS p day BA BB l1 Q0] σ
def yCK:Prop:=kZ ql (qj 73) [1,0,1,0] (qo 73 q2) (.exit 0) 46 (yCJ p day BA BB l1) σ
def yWY:Code:=(Code.part [1,1,1,0,1,0,0] (qj 102))
def zOJ:lNa:=[(0,.slice (some x_a) x_l x_c),(3,iV bh),(4,iV bM)]
def xGO:Alt:=⟨Int × Int,.normal,fun t=>zOJ x_a x_l x_c t.1 t.2,fun t=>[],fun t σ=>q5 t.1 t.2 σ⟩
def yBP (x_a:Addr) (x_l x_c:Nat) (bh:Int):lNa:=[(3,iV bh)]
def zQL:Alt:=⟨Int,(.exit 0),fun t=>yBP x_a x_l x_c t,fun t=>[],fun t σ=>Q t σ⟩
def yFR:Prop:=qk ql none yWY 25 (zOJ x_a x_l x_c bh bM) [] [xGO x_a x_l x_c q6,zQL x_a x_l x_c q8] σ
def yWZ:Prop:=qm ql none yWY 25 (zOJ x_a x_l x_c bh bM) [] [zQL x_a x_l x_c q8] σ
def yBQ:Prop:=kZ ql (qj 102) [1,1,1,0,1,0] (qo 102 q2) (.exit 0) 25 (yBP x_a x_l x_c bh) σ
end
variable {p fz a30 v0 v1 v2 v3 a1 s_a x_a:Addr} {dB duty aS bu a7 aY n2 n3 n4 n5 n6 n10 n11 n12 n13 n14 n15 n16 n17 n18 n19 n20 n21 n22 n23 n25 n26 n27 n28 n29 n31 n33 n34 n35 n36 eM n7 n8 n9 ew aG nG bM n1 day dD nD nB nA bh nF:Int} {l1 c1 l7 c7 l3 c3 l4 c4 s_l s_c l_l l_c BA BB x_l x_c:Nat} {q7 q3 q4 l q1:oAa} {σ8 σ24 σ32 σ σ14 σB σL σF:St} {Q:vPa} {dJ dM f1 f fG right:FuncId} {dh di bY dY f_c fG_c bG cs1838 cs1840:lVa} {b18:Bool} {Inv:Nat→Int→St→Prop} {Qr Nx Pr:Int→St→Prop} {Q0 P0:St→Prop}
@[reducible] def Ha7 (σ σ8 σ24 σ32:St) (p fz a30:Addr) (dB aS bu a7 aY duty n2 n3 n4 n5 n6 n10 n11 n12 n13 n14 n15 n16 n17 n18 n19 n20 n21 n22 n23 n25 n26 n27 n28 n29 n31 n33 n34 n35 n36:Int) (l1 c1 l7 c7:Nat) (q7:oAa):Prop:=qp ((((σ.row [.pointer (some p)] 1).row [iV dB] 1).row (zK aS bu a7 aY) 4).row (zK 0 0 0 0) 4) 40 (zN p 1)=some (.slice (some fz) l1 c1)∧qp ((((σ.row [.pointer (some p)] 1).row [iV dB] 1).row (zK aS bu a7 aY) 4).row (zK 0 0 0 0) 4) 69 (zN fz (Int.toNat duty*5))=some (.agg ⟨zF n2 n3 n4 n5 n6⟩)∧qn 47 [] ((((((σ.row [.pointer (some p)] 1).row [iV dB] 1).row (zK aS bu a7 aY) 4).row (zK 0 0 0 0) 4).row (zF 0 0 0 0 0) 5).own (σ.y+4) (zF n2 n3 n4 n5 n6) 5) (.slice q7 l7 c7) σ8∧(qn 90 [.slice q7 l7 c7,.func (.func 91) ⟨[]⟩ ⟨[.pointer (some ⟨σ.y,0,none⟩),.pointer (some ⟨(σ.y+1),0,none⟩),.pointer (some ⟨(σ.y+4),0,none⟩),.pointer (some ⟨(σ.y+2),0,none⟩)]⟩] σ8 (.bool true) σ8)∧(qp σ8 87 ⟨(σ.y+2),0,none⟩=some (.agg ⟨zK n10 n11 n12 n13⟩))∧(qp σ8 69 ⟨(σ.y+4),0,none⟩=some (.agg ⟨zF n14 n15 n16 n17 n18⟩))∧(qp σ8 3 ⟨(σ.y+4),3,none⟩=some (iV n19))∧(qn 48 [.agg ⟨zK n10 n11 n12 n13⟩,.agg ⟨zF n14 n15 n16 n17 n18⟩,iV n19] σ8 (.agg ⟨zK n20 n21 n22 n23⟩) σ8)∧(qq (evL [.pointer (some ⟨(σ.y+2),0,none⟩),.agg ⟨zK n20 n21 n22 n23⟩]) σ8 (.store 87 (.tmp 0) (.tmp 1))=some (undef,σ24))∧(qp σ24 87 ⟨(σ.y+2),0,none⟩=some (.agg ⟨zK n25 n26 n27 n28⟩))∧(qp σ24 3 ⟨(σ.y+2),2,none⟩=some (iV n29))∧qp σ24 103 ⟨σ.y,0,none⟩=some (.pointer (some a30))∧qp σ24 3 (zN a30 5)=some (iV n31)∧(qq (evL [.pointer (some ⟨(σ.y+3),0,none⟩),.agg ⟨zK n25 n26 n27 n28⟩]) σ24 (.store 87 (.tmp 0) (.tmp 1))=some (undef,σ32))∧(zG σ24.y [.pointer (some ⟨(σ.y+2),0,none⟩)])∧(zG σ24.y [.pointer (some ⟨(σ.y+2),2,none⟩)])∧zG σ24.y [.pointer (some ⟨σ.y,0,none⟩)]∧zG σ24.y [.pointer (some (zN a30 5))]∧(zG σ24.y [.pointer (some ⟨(σ.y+3),0,none⟩),.agg ⟨zK n25 n26 n27 n28⟩])∧((zLq σ24 3 ⟨(σ.y+2),2,none⟩ (iV n29)))∧((zLq σ32 3 ⟨(σ.y+2),2,none⟩ (iV n29)))∧((zLq σ24 103 ⟨σ.y,0,none⟩ (.pointer (some a30))))∧((zLq σ32 103 ⟨σ.y,0,none⟩ (.pointer (some a30))))∧((zLq σ24 3 (zN a30 5) (iV n31)))∧((zLq σ32 3 (zN a30 5) (iV n31)))∧(qp σ32 87 ⟨(σ.y+3),0,none⟩=some (.agg ⟨zK n33 n34 n35 n36⟩))
theorem xVJ (H:Ha7 σ σ8 σ24 σ32 p fz a30 dB aS bu a7 aY duty n2 n3 n4 n5 n6 n10 n11 n12 n13 n14 n15 n16 n17 n18 n19 n20 n21 n22 n23 n25 n26 n27 n28 n29 n31 n33 n34 n35 n36 l1 c1 l7 c7 q7) (nx:Q (.tuple ⟨[qh (zK n33 n34 n35 n36),.bool true]⟩) σ32) (u1:Ix duty l1:=by omega) (u2:n29≤n31:=by omega):qi 71 [pz p,iV dB,iV duty,qh (zK aS bu a7 aY)] σ Q :=
 match H with|⟨h1,h2,h3,h4,h5,h6,h7,h8,h9,h10,h11,h12,h13,h14,h15,h16,h17,h18,h19,h20,h21,h22,h23,h24,h25,h26⟩=>let s1:=σ.row [pz p] 1;let s2:=s1.row [iV dB] 1;let s3:=s2.row (zK aS bu a7 aY) 4;let s4:=s3.row (zK 0 0 0 0) 4;let s5:=s4.row (zF 0 0 0 0 0) 5;let s6:=s5.own (σ.y+4) (zF n2 n3 n4 n5 n6) 5;zI [.g,.g,.g,.g,.g,.l (pz p),.g,.g,.g,.l (.slice (some fz) l1 c1),.g,.i,.l (qh (zF n2 n3 n4 n5 n6)),.g,.e undef s6,.c (.slice q7 l7 c7) σ8,.g,.c (.bool true) σ8,.g,.l (qh (zK n10 n11 n12 n13)),.l (qh (zF n14 n15 n16 n17 n18)),.g,.g,.l (iV n19),.c (qh (zK n20 n21 n22 n23)) σ8,.e undef σ24,.l (qh (zK n25 n26 n27 n28)),.g,.l (iV n29),.l (pz a30),.g,.g,.g,.l (iV n31),.b true,.e undef σ32,.g,.l (qh (zK n33 n34 n35 n36))] (kd (an6 ((zC _ _ _).row.row.row.rw.ld uR (k:=0) rfl:lz s4 103 (qg σ.y 0) (pz p)) h1 u1 h2 ((zC _ _ _).store (vs:=(zF n2 n3 n4 n5 n6)) rfl uE rfl (nle rfl) rfl:qq (evL [pq ((σ.y+4)) 0,qh (zF n2 n3 n4 n5 n6)]) s5 (.store 69 (.tmp 0) (.tmp 1))=some (undef,s6)) h3 (an6 h4 h5 h6 h7 h8 h9 (an6 h10 h11 h12 h13 (yE u2) h14 (an6 h15 h16 h17 h18 h19 h20 (an6 h21 h22 h23 h24 h25 h26 nx))))))
theorem xVI (H:Ha7 σ σ8 σ24 σ32 p fz a30 dB aS bu a7 aY duty n2 n3 n4 n5 n6 n10 n11 n12 n13 n14 n15 n16 n17 n18 n19 n20 n21 n22 n23 n25 n26 n27 n28 n29 n31 n33 n34 n35 n36 l1 c1 l7 c7 q7) (nx:Q (.tuple ⟨[qh (zK n33 n34 n35 n36),.bool false]⟩) σ32) (u1:Ix duty l1:=by omega) (u2:¬ n29≤n31:=by omega):qi 71 [pz p,iV dB,iV duty,qh (zK aS bu a7 aY)] σ Q :=
 match H with|⟨h1,h2,h3,h4,h5,h6,h7,h8,h9,h10,h11,h12,h13,h14,h15,h16,h17,h18,h19,h20,h21,h22,h23,h24,h25,h26⟩=>let s1:=σ.row [pz p] 1;let s2:=s1.row [iV dB] 1;let s3:=s2.row (zK aS bu a7 aY) 4;let s4:=s3.row (zK 0 0 0 0) 4;let s5:=s4.row (zF 0 0 0 0 0) 5;let s6:=s5.own (σ.y+4) (zF n2 n3 n4 n5 n6) 5;zI [.g,.g,.g,.g,.g,.l (pz p),.g,.g,.g,.l (.slice (some fz) l1 c1),.g,.i,.l (qh (zF n2 n3 n4 n5 n6)),.g,.e undef s6,.c (.slice q7 l7 c7) σ8,.g,.c (.bool true) σ8,.g,.l (qh (zK n10 n11 n12 n13)),.l (qh (zF n14 n15 n16 n17 n18)),.g,.g,.l (iV n19),.c (qh (zK n20 n21 n22 n23)) σ8,.e undef σ24,.l (qh (zK n25 n26 n27 n28)),.g,.l (iV n29),.l (pz a30),.g,.g,.g,.l (iV n31),.b false,.e undef σ32,.g,.l (qh (zK n33 n34 n35 n36))] (kd (an6 ((zC _ _ _).row.row.row.rw.ld uR (k:=0) rfl:lz s4 103 (qg σ.y 0) (pz p)) h1 u1 h2 ((zC _ _ _).store (vs:=(zF n2 n3 n4 n5 n6)) rfl uE rfl (nle rfl) rfl:qq (evL [pq ((σ.y+4)) 0,qh (zF n2 n3 n4 n5 n6)]) s5 (.store 69 (.tmp 0) (.tmp 1))=some (undef,s6)) h3 (an6 h4 h5 h6 h7 h8 h9 (an6 h10 h11 h12 h13 (yJ u2) h14 (an6 h15 h16 h17 h18 h19 h20 (an6 h21 h22 h23 h24 h25 h26 nx))))))
theorem xVH:let s1:=σ.row [pz p] 1;let s2:=s1.row [iV dB] 1;let s3:=s2.row (zK aS bu a7 aY) 4;let s4:=s3.row (zK 0 0 0 0) 4;let s5:=s4.row (zF 0 0 0 0 0) 5;let s6:=s5.own (σ.y+4) (zF n2 n3 n4 n5 n6) 5;∀ (h1:lz s4 40 (zN p 1) (.slice (some fz) l1 c1)) (h2:lz s4 69 (zN fz (Int.toNat duty*5)) (qh (zF n2 n3 n4 n5 n6))) (h3:qn 47 [] s6 (.slice q7 l7 c7) σ8) (h4:qn 90 [.slice q7 l7 c7,.func (.func 91) ⟨[]⟩ ⟨[pq σ.y 0,pq ((σ.y+1)) 0,pq ((σ.y+4)) 0,pq ((σ.y+2)) 0]⟩] σ8 (.bool false) σ8) (h5:lz σ8 87 ⟨(σ.y+2),0,none⟩ (qh (zK n10 n11 n12 n13))) (h6:qq (evL [pq ((σ.y+3)) 0,qh (zK n10 n11 n12 n13)]) σ8 (.store 87 (.tmp 0) (.tmp 1))=some (undef,σ14)) (h7:lz σ14 87 ⟨(σ.y+3),0,none⟩ (qh (zK n15 n16 n17 n18))) (nx:Q (.tuple ⟨[qh (zK n15 n16 n17 n18),.bool false]⟩) σ14) (u1:Ix duty l1:=by omega),qi 71 [pz p,iV dB,iV duty,qh (zK aS bu a7 aY)] σ Q:=
 let s1:=σ.row [pz p] 1;let s2:=s1.row [iV dB] 1;let s3:=s2.row (zK aS bu a7 aY) 4;let s4:=s3.row (zK 0 0 0 0) 4;let s5:=s4.row (zF 0 0 0 0 0) 5;let s6:=s5.own (σ.y+4) (zF n2 n3 n4 n5 n6) 5;fun h1 h2 h3 h4 h5 h6 h7 nx u1=>zI [.g,.g,.g,.g,.g,.l (pz p),.g,.g,.g,.l (.slice (some fz) l1 c1),.g,.i,.l (qh (zF n2 n3 n4 n5 n6)),.g,.e undef s6,.c (.slice q7 l7 c7) σ8,.g,.c (.bool false) σ8,.g,.l (qh (zK n10 n11 n12 n13)),.e undef σ14,.g,.l (qh (zK n15 n16 n17 n18))] (kd (an4 ((zC _ _ _).row.row.row.rw.ld uR (k:=0) rfl:lz s4 103 (qg σ.y 0) (pz p)) h1 u1 h2 (an6 ((zC _ _ _).store (vs:=(zF n2 n3 n4 n5 n6)) rfl uE rfl (nle rfl) rfl:qq (evL [pq ((σ.y+4)) 0,qh (zF n2 n3 n4 n5 n6)]) s5 (.store 69 (.tmp 0) (.tmp 1))=some (undef,s6)) h3 h4 h5 h6 h7 nx)))
theorem xQM:let s1:=σ.row [.int .u8 eM,.func (.func dJ) ⟨di⟩ ⟨dh⟩] 2;∀ (h1:lz s1 103 v0 (pz a1)) (h2:lz s1 43 a1 (qh (wkc n2 q3 l3 c3 q4 l4 c4 n5 n6 n7))) (h3:lz s1 3 v1 (iV n8)) (h4:lz s1 69 v2 (qh (zF n9 n10 n11 n12 n13))) (h5:lz s1 87 v3 (qh (zK n14 n15 n16 n17))) (h6:qn dJ (di ++ (qh (wkc n2 q3 l3 c3 q4 l4 c4 n5 n6 n7)::iV n8::(qh (zF n9 n10 n11 n12 n13))::(qh (zK n14 n15 n16 n17))::dh)) s1 (.bool b18) s1) (nx:Q (.bool b18) s1),qi 91 [qh [.int .u8 eM,.func (.func dJ) ⟨di⟩ ⟨dh⟩],pz v0,pz v1,pz v2,pz v3] σ Q:=
 let s1:=σ.row [.int .u8 eM,.func (.func dJ) ⟨di⟩ ⟨dh⟩] 2;fun h1 h2 h3 h4 h5 h6 nx=>zI [.g,.g,.g,.l (.func (.func dJ) ⟨di⟩ ⟨dh⟩),.l (pz a1),.g,.g,.l (qh (wkc n2 q3 l3 c3 q4 l4 c4 n5 n6 n7)),.l (iV n8),.l (qh (zF n9 n10 n11 n12 n13)),.l (qh (zK n14 n15 n16 n17)),.c (.bool b18) s1,.g] (kd (ai ((zC _ _ _).rw.ld xNH (k:=1) rfl:lz s1 96 (qg σ.y 1) (.func (.func dJ) ⟨di⟩ ⟨dh⟩)) (an6 h1 h2 h3 h4 h5 h6 nx)))
theorem xNC:let s1:=σ.row [.int .u8 ew,.func (.func dM) ⟨[]⟩ ⟨bY⟩] 2;∀ (h1:lz s1 143 v0 (.func (.func f1) ⟨[]⟩ ⟨dY⟩)) (h2:qn f1 (qh [.int .u8 ew,.func (.func dM) ⟨[]⟩ ⟨bY⟩]::dY) s1 (.bool true) s1) (nx:Q (.bool false) s1),qi 101 [qh [.int .u8 ew,.func (.func dM) ⟨[]⟩ ⟨bY⟩],pz v0] σ Q:=
 let s1:=σ.row [.int .u8 ew,.func (.func dM) ⟨[]⟩ ⟨bY⟩] 2;fun h1 h2 nx=>zI [.g,.g,.l (.func (.func f1) ⟨[]⟩ ⟨dY⟩),.l (qh [.int .u8 ew,.func (.func dM) ⟨[]⟩ ⟨bY⟩]),.c (.bool true) s1,.g,.g] (kd (an3 h1 ((zC _ _ _).rw.ldN yAC zGN (k:=0) rfl rfl (nle rfl):lz s1 98 (qg σ.y 0) (qh [.int .u8 ew,.func (.func dM) ⟨[]⟩ ⟨bY⟩])) h2 nx))
theorem xNB:let s1:=σ.row [.int .u8 ew,.func (.func dM) ⟨[]⟩ ⟨bY⟩] 2;∀ (h1:lz s1 143 v0 (.func (.func f1) ⟨[]⟩ ⟨dY⟩)) (h2:qn f1 (qh [.int .u8 ew,.func (.func dM) ⟨[]⟩ ⟨bY⟩]::dY) s1 (.bool false) s1) (nx:Q (.bool true) s1),qi 101 [qh [.int .u8 ew,.func (.func dM) ⟨[]⟩ ⟨bY⟩],pz v0] σ Q:=
 let s1:=σ.row [.int .u8 ew,.func (.func dM) ⟨[]⟩ ⟨bY⟩] 2;fun h1 h2 nx=>zI [.g,.g,.l (.func (.func f1) ⟨[]⟩ ⟨dY⟩),.l (qh [.int .u8 ew,.func (.func dM) ⟨[]⟩ ⟨bY⟩]),.c (.bool false) s1,.g,.g] (kd (an3 h1 ((zC _ _ _).rw.ldN yAC zGN (k:=0) rfl rfl (nle rfl):lz s1 98 (qg σ.y 0) (qh [.int .u8 ew,.func (.func dM) ⟨[]⟩ ⟨bY⟩])) h2 nx))
theorem zYK {s:oAa} (hb:∀ k aG σ,Inv k aG σ→zVI s s_l s_c f f_c aG σ (NX1 Inv k) Qr Q0):∀ k aG σ,Inv k aG σ→yYQ s s_l s_c f f_c aG σ Qr Q0 :=
 xJ (ai zCK (ai (wI 0) trivial)) hb
theorem xKP (h1:lz σ 98 (zN s_a (Int.toNat aG*2)) (qh [.int .u8 nG,.func (.func fG) ⟨[]⟩ ⟨fG_c⟩])) (h2:qn f (qh [.int .u8 nG,.func (.func fG) ⟨[]⟩ ⟨fG_c⟩]::f_c) σ (.bool true) σ) (nx:Qr aG σ) (u1:aG<(s_l:Int):=by omega) (u2:Ix aG s_l:=by omega):zVI (some s_a) s_l s_c f f_c aG σ Nx Qr Q0 :=
 kO 1 aG [.b true,.g,.g,.g,.g,.g,.i,.l (qh [.int .u8 nG,.func (.func fG) ⟨[]⟩ ⟨fG_c⟩]),.c (.bool true) σ,.g,.g] (fun _ f=>an4 (zR u1) u2 h1 h2 f) nx
theorem yMM (h1:lz σ 98 (zN s_a (Int.toNat aG*2)) (qh [.int .u8 nG,.func (.func fG) ⟨[]⟩ ⟨fG_c⟩])) (h2:qn f (qh [.int .u8 nG,.func (.func fG) ⟨[]⟩ ⟨fG_c⟩]::f_c) σ (.bool false) σ) (nx:Nx (aG+1) σ) (u1:aG<(s_l:Int):=by omega) (u2:Ix aG s_l:=by omega) (u3:I6 (aG+1):=by omega):zVI (some s_a) s_l s_c f f_c aG σ Nx Qr Q0 :=
 kO 0 (aG+1) [.b true,.g,.g,.g,.g,.g,.i,.l (qh [.int .u8 nG,.func (.func fG) ⟨[]⟩ ⟨fG_c⟩]),.c (.bool false) σ,.n (aG+1),.g] (fun _ f=>an5 (zR u1) u2 h1 h2 (w64 u3) f) nx
theorem xKO {s:oAa} (nx:Q0 σ) (u1:¬ aG<(s_l:Int):=by omega):zVI s s_l s_c f f_c aG σ Nx Qr Q0 :=
 kO 2 () [.b false] (fun _ f=>ai (zT u1) f) nx
theorem yYO {s:oAa} (hL:yYQ s s_l s_c f f_c 0 σ Pr P0) (kr:∀ i4_1' σ',Pr i4_1' σ'→yDV s s_l s_c f f_c i4_1' σ' Q) (k0:∀ σ',P0 σ'→yDW s s_l s_c f f_c σ' Q):qi 105 [.slice s s_l s_c,.func (.func f) ⟨[]⟩ ⟨f_c⟩] σ Q :=
 zI [.g,.g,.g,.g,.lf 19 (zPH s s_l s_c f f_c 0) [zRH s s_l s_c f f_c Pr,zRI s s_l s_c f f_c P0]] (kd (ai (ai tt (ai (arf (zPH s s_l s_c f f_c 0)) hL)) (ai (kz1 kr) (ai (kz0 k0) trivial))))
theorem yTS {s:oAa} (nx:Q (iV bM) σ):yDV s s_l s_c f f_c bM σ Q :=
 sK [] nx
theorem yTT {s:oAa} (nx:Q (iV (-1)) σ):yDW s s_l s_c f f_c σ Q :=
 sK [.g] nx
theorem xRN {s:oAa} (h1:qn 105 [.slice s s_l s_c,.func (.func f) ⟨[]⟩ ⟨f_c⟩] σ (iV n1) σ) (nx:Q (.bool true) σ) (u1:0≤n1:=by omega):qi 100 [.slice s s_l s_c,.func (.func f) ⟨[]⟩ ⟨f_c⟩] σ Q :=
 zI [.g,.g,.g,.c (iV n1) σ,.b true,.g] (kd (an2 h1 (yE u1) nx))
theorem xRM {s:oAa} (h1:qn 105 [.slice s s_l s_c,.func (.func f) ⟨[]⟩ ⟨f_c⟩] σ (iV n1) σ) (nx:Q (.bool false) σ) (u1:¬ 0≤n1:=by omega):qi 100 [.slice s s_l s_c,.func (.func f) ⟨[]⟩ ⟨f_c⟩] σ Q :=
 zI [.g,.g,.g,.c (iV n1) σ,.b false,.g] (kd (an2 h1 (yJ u1) nx))
theorem xSM:let Y1:=σ.row [.func (.func right) ⟨[]⟩ ⟨bG⟩] 1;∀ (h1:qn 100 [.slice l l_l l_c,.func (.func 101) ⟨[]⟩ ⟨[pq σ.y 0]⟩] Y1 (.bool true) Y1) (nx:Q (.bool false) Y1),qi 90 [.slice l l_l l_c,.func (.func right) ⟨[]⟩ ⟨bG⟩] σ Q:=
 fun h1 nx=>zI [.g,.g,.g,.g,.c (.bool true) (σ.row [.func (.func right) ⟨[]⟩ ⟨bG⟩] 1),.g,.g] (kd (ai h1 nx))
theorem xSL:let Y1:=σ.row [.func (.func right) ⟨[]⟩ ⟨bG⟩] 1;∀ (h1:qn 100 [.slice l l_l l_c,.func (.func 101) ⟨[]⟩ ⟨[pq σ.y 0]⟩] Y1 (.bool false) Y1) (nx:Q (.bool true) Y1),qi 90 [.slice l l_l l_c,.func (.func right) ⟨[]⟩ ⟨bG⟩] σ Q:=
 fun h1 nx=>zI [.g,.g,.g,.g,.c (.bool false) (σ.row [.func (.func right) ⟨[]⟩ ⟨bG⟩] 1),.g,.g] (kd (ai h1 nx))
theorem ySB (hb:∀ k dD σ,Inv k dD σ→zUW p day BA BB l1 dD σ (NX1 Inv k) Q0):∀ k dD σ,Inv k dD σ→yXJ p day BA BB l1 dD σ Q0 :=
 xJ (ai (wI 0) trivial) hb
theorem xHW:let s1:=(day+1)*1440;let Y1:=σB.row [iV nD,iV (s1-nB)] 1;∀ (h1:lz σ 3 ⟨BA,0+Int.toNat dD*4+3,none⟩ (iV nG)) (h2:qq (evL [pq BA (0+Int.toNat dD*4+1),iV 0]) σ (.store 3 (.tmp 0) (.tmp 1))=some (undef,σB)) (h3:lz σB 3 ⟨BA,0+Int.toNat dD*4+0,none⟩ (iV nD)) (h4:lz σB 3 (zN p 3) (iV nB)) (h5:qn 92 [.slice (some (qg σB.y 0)) 2 2] Y1 (iV nA) Y1) (h6:qq (evL [pq BA (0+Int.toNat dD*4+0),iV nA]) Y1 (.store 3 (.tmp 0) (.tmp 1))=some (undef,σL)) (nx:Nx (dD+1) σL) (u1:dD<(l1:Int):=by omega) (u2:Ix dD 6:=by omega) (u3:¬ nG=day:=by omega) (u4:I6 (day+1):=by omega) (u5:I6 s1:=by omega) (u6:I6 (s1-nB):=by omega) (u7:I6 (dD+1):=by omega),zUW p day BA BB l1 dD σ Nx Q0:=
 let s1:=(day+1)*1440;fun h1 h2 h3 h4 h5 h6 nx u1 u2 u3 u4 u5 u6 u7=>kO 0 (dD+1) [.b true,.g,.g,.g,.i,.g,.l (iV nG),.g,.b true,.g,.i,.g,.e undef σB,.g,.g,.i,.g,.l (iV nD),.g,.n (day+1),.n s1,.g,.g,.g,.g,.l (iV nB),.n (s1-nB),.g,.c (iV nA) (σB.row [iV nD,iV (s1-nB)] 1),.i,.g,.e undef σL,.n (dD+1),.g] (fun _ f=>an4 (zR u1) u2 h1 (zCF u3) (an6 u2 h2 u2 h3 (w64 u4) (w64 u5) (an6 h4 (w64 u6) h5 u2 h6 (w64 u7) f))) nx
theorem xHV (h1:lz σ 3 ⟨BA,0+Int.toNat dD*4+3,none⟩ (iV nG)) (nx:Nx (dD+1) σ) (u1:dD<(l1:Int):=by omega) (u2:Ix dD 6:=by omega) (u3:nG=day:=by omega) (u4:I6 (dD+1):=by omega):zUW p day BA BB l1 dD σ Nx Q0 :=
 kO 0 (dD+1) [.b true,.g,.g,.g,.i,.g,.l (iV nG),.g,.b false,.n (dD+1),.g] (fun _ f=>an5 (zR u1) u2 h1 (zAF u3) (w64 u4) f) nx
theorem xHU (nx:Q0 σ) (u1:¬ dD<(l1:Int):=by omega):zUW p day BA BB l1 dD σ Nx Q0 :=
 kO 1 () [.b false] (fun _ f=>ai (zT u1) f) nx
theorem xPZ {s:lVa}:let y0:=(σ.row s 4).row [iV 0,iV 0,iV 0,iV 0,iV 0,iV 0,iV 0,iV 0,iV 0,iV 0,iV 0,iV 0,iV 0,iV 0,iV 0,iV 0,iV 0,iV 0,iV 0,iV 0,iV 0,iV 0,iV 0,iV 0] 4;∀ (h1:lz y0 41 (zN p 2) (.slice q1 l1 c1)) (hL:yXJ p day σ.y (σ.y+1) l1 0 y0 P0) (k0:∀ σ',P0 σ'→yCK p day σ.y (σ.y+1) l1 σ' Q),qi 73 [pz p,iV day,qh s] σ Q :=
 let s1:=zUV p day σ.y (σ.y+1) l1 0;fun h1 hL k0=>zI [.g,.g,.g,.g,.g,.g,.l (.slice q1 l1 c1),.g,.g,.lf 46 s1 [zQS p day σ.y (σ.y+1) l1 P0]] (kd (ai h1 (ai (ai tt (ai (arf s1) hL)) (ai (kz0 k0) trivial))))
theorem ySA (h1:lz σ 89 (qg BA 0) (qh cs1838)) (h2:qq (evL [pq BB 0,qh cs1838]) σ (.store 89 (.tmp 0) (.tmp 1))=some (undef,σF)) (h3:lz σF 89 (qg BB 0) (qh cs1840)) (nx:Q (qh cs1840) σF):yCK p day BA BB l1 σ Q :=
 sK [.l (qh cs1838),.e undef σF,.l (qh cs1840)] (an3 h1 h2 h3 nx)
theorem xCU (h1:qn 102 [.slice l l_l l_c] σ (iV n1) σ) (nx:Q (iV n1) σ):qi 92 [.slice l l_l l_c] σ Q :=
 zI [.g,.g,.c (iV n1) σ,.g] (kd (ai h1 nx))
theorem yQC {Inv:Nat→Int→Int→St→Prop} {Q0:Int→St→Prop} (hb:∀ k bh bM σ,Inv k bh bM σ→yFR x_a x_l x_c bh bM σ (NX2 Inv k) Q0):∀ k bh bM σ,Inv k bh bM σ→yWZ x_a x_l x_c bh bM σ Q0 :=
 zEV (ai (wI 0) trivial) hb
theorem xGN {Nx:Int→Int→St→Prop} {Q0:Int→St→Prop} (h1:lz σ 3 (zN x_a (Int.toNat bM*1)) (iV nG)) (h2:xP Pg (evL [iV bh,iV nG]) σ (.call { callee:=.builtin .max,args:=⟨vA 2⟩,argTypes:=⟨[3,3]⟩ })=some (iV nF)) (nx:Nx nF (bM+1) σ) (u1:bM<(x_l:Int):=by omega) (u2:Ix bM x_l:=by omega) (u3:I6 (bM+1):=by omega):yFR x_a x_l x_c bh bM σ Nx Q0 :=
 kO 0 (nF,bM+1) [.g,.g,.g,.b true,.g,.g,.g,.i,.l (iV nG),.v (iV nF),.g,.g,.n (bM+1),.g] (fun _ f=>an5 (zR u1) u2 h1 h2 (w64 u3) f) nx
theorem xGM {Nx:Int→Int→St→Prop} {Q0:Int→St→Prop} (nx:Q0 bh σ) (u1:¬ bM<(x_l:Int):=by omega):yFR x_a x_l x_c bh bM σ Nx Q0 :=
 kO 1 bh [.g,.g,.g,.b false] (fun _ f=>ai (zT u1) f) nx
theorem xOT {P0:Int→St→Prop} (h1:lz σ 3 x_a (iV n1)) (hL:yWZ x_a x_l x_c n1 1 σ P0) (k0:∀ i3_1' σ',P0 i3_1' σ'→yBQ x_a x_l x_c i3_1' σ' Q) (u1:¬ (x_l:Int)<1:=by omega) (u2:Ix 0 x_l:=by omega):qi 102 [.slice (some x_a) x_l x_c] σ Q :=
 zI [.g,.g,.g,.b false,.g,.i,.l (iV n1),.g,.g,.lf 25 (zOJ x_a x_l x_c n1 1) [zQL x_a x_l x_c P0]] (kd (an3 (zT u1) u2 h1 (ai (ai tt (ai (arf (zOJ x_a x_l x_c n1 1)) hL)) (ai (kz1 k0) trivial))))
theorem yQB (nx:Q (iV bh) σ):yBQ x_a x_l x_c bh σ Q :=
 sK [.g,.g] nx
end
section
variable {P:Program}
theorem xHM {e sz d:Nat} {xs ys:Array Value} {R:Nat→Bool}:∀ (L:List Nat),(∀ i∈L,∃ a b,yA P (part e xs (i*sz))=some a∧yA P (part e ys (i*sz))=some b∧yA P (Op.equalIn d e a b)=some (R i)) →
  yA P (forIn L ((none,()):Option Bool × Unit) fun i __s=>do
    let a ← part e xs (i*sz)
    let b ← part e ys (i*sz)
    let r ← Op.equalIn d e a b
    if (!r)=true then pure (ForInStep.done (some false,())) else pure (ForInStep.yield (none,())))=some (if ∀ i∈L,R i=true then (none,()) else (some false,()))
 | [],_=>by simp;rfl
 | i::L,h=>by
  obtain ⟨a,b,h1,h2,h3⟩:=h i List.mem_cons_self;rw [List.forIn_cons,xG,xG,h1];simp only [Option.bind_some];rw [xG,h2];simp only [Option.bind_some];rw [xG,h3];simp only [Option.bind_some];cases e1:R i with
  | true =>
   simp only [Bool.not_true,Bool.false_eq_true,if_false,zOP,Option.bind_some];rw [xHM L (fun j hj=>h j (List.mem_cons_of_mem _ hj))];by_cases e2:∀ j∈L,R j=true
   ·rw [if_pos e2,if_pos (fun j hj=>by rcases List.mem_cons.1 hj with rfl | hj;exact e1;exact e2 j hj)]
   ·rw [if_neg e2,if_neg (fun h=>e2 fun j hj=>h j (List.mem_cons_of_mem _ hj))]
  | false =>
   simp only [Bool.not_false,if_true,zOP,Option.bind_some];rw [if_neg (fun h=>by rw [h i List.mem_cons_self] at e1;cases e1)]
theorem xHN {t e n sz d:Nat} (hu:P.underlying t=some (.array n e)) (hs:yA P (sizeOf e)=some sz) {xs ys:Array Value} {R:Nat→Bool} (h:∀ i,i<n→∃ a b,yA P (part e xs (i*sz))=some a∧yA P (part e ys (i*sz))=some b∧yA P (Op.equalIn d e a b)=some (R i)) :
  yA P (Op.equalIn (d+1) t (.agg xs) (.agg ys))=some ((List.range n).all R):=by
 have key:=xHM (P:=P) (e:=e) (sz:=sz) (d:=d) (xs:=xs) (ys:=ys) (R:=R) (List.range' 0 n) (fun i hi=>h i (by simpa using hi));unfold Op.equalIn;rw [xG,zIY hu];simp only [Option.bind_some];rw [xG,hs];simp only [Option.bind_some];rw [xG,Std.Legacy.Range.forIn_eq_forIn_range'];simp only [Std.Legacy.Range.size,Nat.sub_zero,Nat.add_sub_cancel,Nat.div_one];rw [key];simp only [Option.bind_some];cases e:(List.range n).all R with
 | true=>rw [if_pos (fun i hi=>List.all_eq_true.1 e i (by simpa using hi))];rfl
 | false=>rw [if_neg (fun h=>by rw [List.all_eq_true.2 fun i hi=>h i (by simpa using hi)] at e;cases e)];rfl
theorem xUS {t d : Nat} {f1 f2 : Field} (hu : P.underlying t = some (.struct #[f1, f2])) (hh : P.stoodInHeld t = false) (n1 : f1.name ≠ "_") (n2 : f2.name ≠ "_") {xs ys : Array Value} {a1 b1 a2 b2 : Value} {r1 r2 : Bool}
  (h1:yA P (part f1.type xs f1.offset)=some a1) (h2:yA P (part f1.type ys f1.offset)=some b1) (e1:yA P (Op.equalIn d f1.type a1 b1)=some r1)
  (h3:yA P (part f2.type xs f2.offset)=some a2) (h4:yA P (part f2.type ys f2.offset)=some b2) (e2:yA P (Op.equalIn d f2.type a2 b2)=some r2) :
  yA P (Op.equalIn (d+1) t (.agg xs) (.agg ys))=some (r1 && r2):=by
 unfold Op.equalIn;rw [xG,zIY hu];simp only [Option.bind_some];rw [xG,yGL];simp only [Option.bind_some,hh,Bool.false_eq_true,if_false];rw [xG,← Array.forIn_toList];show (yA P (forIn [f1,f2] _ _)).bind _=_;rw [List.forIn_cons,xG];simp only [if_pos n1];rw [xG,h1];simp only [Option.bind_some];rw [xG,h2];simp only [Option.bind_some];rw [xG,e1];simp only [Option.bind_some];cases r1 with
 | false=>rfl
 | true =>
  simp only [Bool.not_true,Bool.false_eq_true,if_false,zOP,Option.bind_some];rw [List.forIn_cons,xG];simp only [if_pos n2];rw [xG,h3];simp only [Option.bind_some];rw [xG,h4];simp only [Option.bind_some];rw [xG,e2];simp only [Option.bind_some];cases r2 <;> rfl
end
theorem xUT (d:Nat) (s t:Std):yA Pg (Op.equalIn (d+2) 87 (zLT s) (zLT t))=some (decide (s=t)):=by
 have h:yA Pg (Op.equalIn (d+2) 87 (.agg ⟨[s.free,s.row,s.used,s.day].map fun x=>iV x⟩) (.agg ⟨[t.free,t.row,t.used,t.day].map fun x=>iV x⟩))=some (decide ([s.free,s.row,s.used,s.day]=[t.free,t.row,t.used,t.day])):=xUU (n:=4) (by kernel_rfl) rfl rfl;have e:decide ([s.free,s.row,s.used,s.day]=[t.free,t.row,t.used,t.day])=decide (s=t):=by
  refine decide_eq_decide.2 ?_
  cases s;cases t
  simp
 rw [← e];exact h
theorem yKY (f:Nat→Std) {i:Nat} (hi:i<6):yA Pg (part 87 ⟨stL f⟩ (i*4))=some (zLT (f i)):=by
 match i,hi with
 | 0,_=>show _=_;kernel_rfl
 | 1,_=>show _=_;kernel_rfl
 | 2,_=>show _=_;kernel_rfl
 | 3,_=>show _=_;kernel_rfl
 | 4,_=>show _=_;kernel_rfl
 | 5,_=>show _=_;kernel_rfl
theorem xBD (d:Nat) (f g:Nat→Std):yA Pg (Op.equalIn (d+3) 89 (.agg ⟨stL f⟩) (.agg ⟨stL g⟩))=some ((List.range 6).all fun i=>decide (f i=g i)) :=
 xHN (P:=Pg) (t:=89) (e:=87) (n:=6) (sz:=4) (d:=d+2) (by kernel_rfl) (by kernel_rfl) (xs:=⟨stL f⟩) (ys:=⟨stL g⟩) (R:=fun i=>decide (f i=g i)) (fun i hi=>⟨_,_,yKY f hi,yKY g hi,xUT d _ _⟩)
structure Key where
 day:Int
 l:List Std
 h:l.length=6
 deriving DecidableEq
def zGZ (k:Key) (i:Nat):Std:=k.l.getD i zUM
def yME (k:Key):Value:=.agg ⟨iV k.day::stL (zGZ k)⟩
def zJK (D:Int) (f:Nat→Std):Key:=⟨D,(List.range 6).map f,by simp⟩
theorem zCG {D:Int} {f:Nat→Std} {i:Nat} (hi:i<6):zGZ (zJK D f) i=f i:=by
 unfold zGZ zJK;simp [hi]
theorem yHE (D:Int) (f:Nat→Std):yME (zJK D f)=.agg ⟨iV D::stL f⟩:=by
 unfold yME stL;rw [zCG (by omega),zCG (by omega),zCG (by omega),zCG (by omega),zCG (by omega),zCG (by omega)];rfl
theorem xJU {a b:Key}:a=b↔a.day=b.day∧∀ i,i<6→zGZ a i=zGZ b i:=by
 constructor
 ·rintro rfl;exact ⟨rfl,fun _ _=>rfl⟩
 ·rintro ⟨h1,h2⟩;obtain ⟨d,l,hl⟩:=a;obtain ⟨e,m,hm⟩:=b;have:l=m:=by
   apply List.ext_getElem (by omega);intro i g1 g2;have:=h2 i (by omega);simpa [zGZ,g1,g2] using this
  subst this;simp only at h1;subst h1;rfl
theorem xJV {D E:Int} {f g:Nat→Std}:zJK D f=zJK E g↔D=E∧∀ i,i<6→f i=g i:=by
 rw [xJU];refine and_congr_right fun _=>⟨fun h i hi=>?_,fun h i hi=>?_⟩
 ·have:=h i hi;rwa [zCG hi,zCG hi] at this
 ·rw [zCG hi,zCG hi];exact h i hi
theorem xHK (a b:Key):yA Pg (Op.equal 111 (yME a) (yME b))=some (decide (a=b)):=by
 have e:decide (a=b)=((a.day == b.day) && (List.range 6).all fun i=>decide (zGZ a i=zGZ b i)):=by
  rw [Bool.eq_iff_iff,decide_eq_true_eq,Bool.and_eq_true,beq_iff_eq,zBL,xJU];exact and_congr_right fun _=>⟨fun h i hi=>decide_eq_true (h i hi),fun h i hi=>of_decide_eq_true (h i hi)⟩
 rw [e];have hu : ∃ f1 f2 : Field, Pg.underlying 111 = some (.struct #[f1, f2]) ∧ f1.type = 3 ∧ f1.offset = 0 ∧ f1.name ≠ "_" ∧ f2.type = 89 ∧ f2.offset = 1 ∧ f2.name ≠ "_" := ⟨_, _, Try.underlying111, rfl, rfl, by decide, rfl, rfl, by decide⟩
 obtain ⟨f1,f2,hu,t1,o1,n1,t2,o2,n2⟩:=hu;refine xUS (P:=Pg) (t:=111) (d:=9999) hu (by kernel_rfl) n1 n2 (xs:=⟨iV a.day::stL (zGZ a)⟩) (ys:=⟨iV b.day::stL (zGZ b)⟩)
  (a1:=iV a.day) (b1:=iV b.day) (a2:=.agg ⟨stL (zGZ a)⟩) (b2:=.agg ⟨stL (zGZ b)⟩) (r1:=a.day == b.day) (r2:=(List.range 6).all fun i=>decide (zGZ a i=zGZ b i)) ?_ ?_ ?_ ?_ ?_ ?_
 ·rw [t1,o1];kernel_rfl
 ·rw [t1,o1];kernel_rfl
 ·rw [t1];exact zGQ (d:=9998) (k:=.i64) (by kernel_rfl) _ _ _
 ·rw [t2,o2];kernel_rfl
 ·rw [t2,o2];kernel_rfl
 ·rw [t2];exact xBD 9996 _ _
theorem yAY:∀ (n:Nat) (xs:List Int),Instr.sameBits (n+2) (.agg ⟨xs.map zZ⟩) (.agg ⟨xs.map zZ⟩)=true:=by
 intro n xs;simp [Instr.sameBits];intro x y hxy;have key:∀ (m:List Int),(x,y)∈(m.map zZ).zip (m.map zZ)→∃ c,x=zZ c∧y=zZ c:=by
  intro m;induction m with
  | nil=>intro h;cases h
  | cons c m ih =>
   intro h;simp only [List.map_cons,List.zip_cons_cons,List.mem_cons,Prod.mk.injEq] at h;rcases h with h | h
   ·exact ⟨c,h.1,h.2⟩
   ·exact ih h
 obtain ⟨c,rfl,rfl⟩:=key xs hxy;simp [Instr.sameBits]
def xYE (k:Key):List Int:=k.day::(List.range 6).flatMap fun i=>[(zGZ k i).free,(zGZ k i).row,(zGZ k i).used,(zGZ k i).day]
theorem zDU:KeyT Pg 111 yME:=by
 refine ⟨xHK,fun e a=>?_,fun a=>?_⟩
 ·have h:∀ (e:Bool) (D:Int) (f:Nat→Std),zHW Pg e 111 (.agg ⟨iV D::stL f⟩)=true:=fun e D f=>by kernel_rfl
  exact h e a.day (zGZ a)
 ·have:yME a=.agg ⟨(xYE a).map zZ⟩:=rfl;rw [this];exact yAY 9998 _
theorem xJI:zDR Pg 104=some (111,108):=by kernel_rfl
def six (v:List Int):List Value:=wT 6 fun i=>v.getD i 0
theorem zAJ (v:List Int):six v=zJ (v.getD 0 0) (v.getD 1 0) (v.getD 2 0) (v.getD 3 0) (v.getD 4 0) (v.getD 5 0):=rfl
section
variable {σ:St}
theorem xOY {f:Nat→Int} {i:Nat} (hi:i<6):zAL Pg 73 (.agg ⟨wT 6 f⟩) (iV (i:Int))=some (iV (f i)):=by
 match i,hi with
 | 0,_=>show _=_;kernel_rfl
 | 1,_=>show _=_;kernel_rfl
 | 2,_=>show _=_;kernel_rfl
 | 3,_=>show _=_;kernel_rfl
 | 4,_=>show _=_;kernel_rfl
 | 5,_=>show _=_;kernel_rfl
theorem xUF {b i:Nat} {f:Nat→Int} (o:Own σ b (wT 6 f) 1) (hi:i<6):zB Pg σ 3 ⟨b,0+Int.toNat (i:Int)*1,none⟩=some (iV (f i)):=by
 have:=o.ldI (P:=Pg) (t:=3) (i:=i) zS (zVX hi);simpa [zN] using this
theorem xGB {b i:Nat} {f:Nat→Int} {x:Int} (o:Own σ b (wT 6 f) 1) (hi:i<6):zQ Pg (evL [.pointer (some ⟨b,0+Int.toNat (i:Int)*1,none⟩),iV x]) σ (.store 3 (.tmp 0) (.tmp 1))=some (undef,σ.own b (wT 6 fun s=>if s=i then x else f s) 1):=by
 have:=o.stI (P:=Pg) (t:=3) (v:=iV x) (i:=i) rfl wZ rfl (by rw [zAW];exact hi);rw [xGC hi] at this;simpa [zN] using this
theorem zGK {b:Nat} {f:Nat→Int} (o:Own σ b (wT 6 f) 1):zB Pg σ 73 ⟨b,0,none⟩=some (.agg ⟨wT 6 f⟩):=o.ldN (k:=0) zCW xZ (ds:=wT 6 f) rfl rfl (by rw [zAW];decide)
theorem yWS {b:Nat} {f g:Nat→Int} (o:Own σ b (wT 6 f) 1):zQ Pg (evL [.pointer (some ⟨b,0,none⟩),.agg ⟨wT 6 g⟩]) σ (.store 73 (.tmp 0) (.tmp 1))=some (undef,σ.own b (wT 6 g) 1) :=
 o.store (k:=0) (vs:=wT 6 g) rfl xZ (by simp [wT];intro x _;rfl) (by rw [zAW,zAW];decide) (by simp [zAW,List.drop_eq_nil_of_le])
theorem xBF {a b:List Int} {i:Nat} (ha:a.length=6) (hb:b.length=6) (hi:i<6):(vM a b).getD i 0=a.getD i 0+b.getD i 0:=by
 unfold vM;rw [List.getD_eq_getElem?_getD,List.getD_eq_getElem?_getD,List.getD_eq_getElem?_getD,List.getElem?_zipWith,List.getElem?_eq_getElem (by omega:i<a.length),List.getElem?_eq_getElem (by omega:i<b.length)];rfl
def Bd (n:Int) (v:List Int):Prop:=∀ x∈v,0≤x∧x≤n
theorem Bd.get {n:Int} {v:List Int} (h:Bd n v) (hn:0≤n) (i:Nat):0≤v.getD i 0∧v.getD i 0≤n:=by
 rw [List.getD_eq_getElem?_getD];cases hx:v[i]? with
 | none=>exact ⟨Int.le_refl _,hn⟩
 | some x=>exact h x (List.mem_of_getElem? hx)
theorem xUV {a b:List Int} (ha:a.length=6) (hb:b.length=6) (h1:Bd 1000000 a) (h2:Bd 1000000 b):zD Pg 74 [.agg ⟨six a⟩,.agg ⟨six b⟩] σ (.agg ⟨six (vM a b)⟩) σ:=by
 obtain ⟨τ0,hτ0⟩:∃ τ0,τ0=((σ.re.row (six a) 1).row (six b) 1).row (zJ 0 0 0 0 0 0) 1:=⟨_,rfl⟩;have N0:New σ.re τ0:=by rw [hτ0];exact ((New.row _ _ _).row').row'
 have o1:Own τ0 σ.y (six a) 1:=by rw [hτ0];exact (zC σ.re (six a) 1).row.row
 have o2:Own τ0 (σ.y+1) (six b) 1:=by rw [hτ0];exact (zC (σ.re.row (six a) 1) (six b) 1).row
 have o3:Own τ0 (σ.y+2) (wT 6 fun _=>0) 1:=by rw [hτ0];exact zC ((σ.re.row (six a) 1).row (six b) 1) (zJ 0 0 0 0 0 0) 1
 have l1:=zGK o2;rw [hτ0] at l1;refine (xLF l1 (yMX (Inv:=fun k i τ=>New σ.re τ∧∃ j:Nat,i=j∧j+k=6∧Own τ σ.y (wT 6 fun s=>if s<j then a.getD s 0+b.getD s 0 else a.getD s 0) 1∧Own τ (σ.y+2) (wT 6 fun _=>0) 1)
  (Q0:=fun τ=>New σ.re τ∧Own τ σ.y (six (vM a b)) 1∧Own τ (σ.y+2) (wT 6 fun _=>0) 1) ?_ 6 0 _ ⟨by rw [← hτ0];exact N0,0,rfl,rfl,by rw [← hτ0];exact o1,by rw [← hτ0];exact o3⟩) ?_).pure
 ·rintro k i τ ⟨hN,j,rfl,hk,w1,w2⟩;by_cases hj:j<6
  ·have hid:=xOY (f:=fun i=>b.getD i 0) hj;have hl:=xUF w1 hj;rw [if_neg (by omega)] at hl;have b1:=h1.get (by decide) j;have b2:=h2.get (by decide) j;have st:=xGB (x:=a.getD j 0+b.getD j 0) w1 hj;have hlt:=w2.lt;refine xDL hid hl st ⟨k-1,by omega,hN.own (by show σ.y≤σ.y;omega),j+1,by omega,by omega, ?_,w2.own (by omega)⟩ (by omega) (by omega) (by omega) (by omega);have e:(wT 6 fun s=>if s=j then a.getD j 0+b.getD j 0 else if s<j then a.getD s 0+b.getD s 0 else a.getD s 0)=wT 6 fun s=>if s<j+1 then a.getD s 0+b.getD s 0 else a.getD s 0:=by
    refine zDI fun s hs=>?_
    by_cases e1:s=j
    ·subst e1;rw [if_pos rfl,if_pos (by omega)]
    ·rw [if_neg e1];by_cases e2:s<j
     ·rw [if_pos e2,if_pos (by omega)]
     ·rw [if_neg e2,if_neg (by omega)]
   rw [← e];exact w1.put
  ·have:j=6:=by omega
   subst this;refine xDK ⟨hN, ?_,w2⟩ (by omega);have e:(wT 6 fun s=>if s<6 then a.getD s 0+b.getD s 0 else a.getD s 0)=six (vM a b):=by
    refine zDI fun s hs=>?_
    rw [if_pos hs,xBF ha hb hs]
   rw [← e];exact w1
 ·rintro τ ⟨hN,w1,w2⟩;exact yMW (zGK w1) (yWS w2) (zGK w2.put) ⟨rfl,(hN.own (b:=σ.y+2) (n:=1) (cs:=six (vM a b)) (by show σ.y≤σ.y+2;omega)).lw⟩
theorem yDA {x:Int}:zD Pg 106 [iV x] σ (.bool false) σ:=(xJW ⟨rfl,Nat.le_refl _⟩ rfl).pure
theorem xWB {x y:Int}:zD Pg 103 [iV x,iV y] σ (iV (if x<y then -1 else if y<x then 1 else 0)) σ:=by
 by_cases h1:x<y
 ·rw [if_pos h1];exact (xRX yDA yDA ⟨rfl,Nat.le_refl _⟩ h1).pure
 ·rw [if_neg h1];by_cases h2:y<x
  ·rw [if_pos h2];exact (xRW yDA yDA ⟨rfl,Nat.le_refl _⟩ h1 h2).pure
  ·rw [if_neg h2];exact (xRV yDA yDA ⟨rfl,Nat.le_refl _⟩ h1 h2).pure
def zPW:List Int→List Int→Int
 | a::l,b::m=>if a<b then -1 else if b<a then 1 else zPW l m
 | _,_=>0
theorem zRY:∀ {a b:List Int},(0<zPW a b↔wK a b=true)
 | [],b=>by simp [zPW,wK]
 | a::l,[]=>by simp [zPW,wK]
 | a::l,b::m=>by
  unfold zPW wK;by_cases h1:a<b
  ·rw [if_pos h1,if_neg (by omega),decide_eq_false (by omega)];simp
  ·rw [if_neg h1];by_cases h2:b<a
   ·rw [if_pos h2,if_neg (by omega),decide_eq_true h2];simp
   ·rw [if_neg h2,if_pos (by omega)];exact zRY
theorem xEI {a b:List Int} {j:Nat} {x y:Int} (hx:a[j]?=some x) (hy:b[j]?=some y):zPW (a.drop j) (b.drop j)=if x<y then -1 else if y<x then 1 else zPW (a.drop (j+1)) (b.drop (j+1)):=by
 obtain ⟨h1,rfl⟩:=List.getElem?_eq_some_iff.1 hx;obtain ⟨h2,rfl⟩:=List.getElem?_eq_some_iff.1 hy;rw [List.drop_eq_getElem_cons h1,List.drop_eq_getElem_cons h2,zPW]
theorem xEF {p q:Option Addr} {l c d:Nat} {a b:List Int} (h1:yF σ p l a) (h2:yF σ q l b) (hl:l≤1000):zD Pg 93 [.slice p l c,.slice q l d] σ (iV (zPW a b)) σ:=by
 have e1:=h1.len;have e2:=h2.len;have h1:=h1.re;have h2:=h2.re;refine (yUS (yBD (Inv:=fun k i τ=>τ=σ.re∧∃ j:Nat,i=j∧j+k=l∧zPW a b=zPW (a.drop j) (b.drop j)) (Qr:=fun x τ=>τ=σ.re∧x=zPW a b) (Q0:=fun τ=>τ=σ.re∧zPW a b=0) ?_ l 0 σ.re ⟨rfl,0,rfl,by omega,rfl⟩) ?_ ?_).pure
 ·rintro k i τ ⟨rfl,j,rfl,hk,he⟩;by_cases hj:j<l
  ·obtain ⟨a1,rfl,x,hx,l1⟩:=vQ h1 hj;obtain ⟨a2,rfl,y,hy,l2⟩:=vQ h2 hj;have hd:=xEI hx hy;have cc:=xWB (σ:=σ.re) (x:=x) (y:=y);by_cases g1:x<y
   ·rw [if_pos g1] at cc hd;exact zTX l1 l2 cc ⟨rfl,by rw [he,hd]⟩ (by omega) (by omega) (by omega) (by omega) (by omega)
   ·rw [if_neg g1] at cc hd;by_cases g2:y<x
    ·rw [if_pos g2] at cc hd;exact zTX l1 l2 cc ⟨rfl,by rw [he,hd]⟩ (by omega) (by omega) (by omega) (by omega) (by omega)
    ·rw [if_neg g2] at cc hd;exact yNY l1 l2 cc ⟨k-1,by omega,rfl,j+1,by omega,by omega,by rw [he,hd]⟩ (by omega) (by omega) (by omega) (by omega) (by omega) (by omega)
  ·refine yNX ⟨rfl, ?_⟩ (by omega);rw [he,List.drop_eq_nil_of_le (by omega)];rfl
 ·rintro x τ ⟨rfl,rfl⟩;exact yBB ⟨rfl,Nat.le_refl _⟩
 ·rintro τ ⟨rfl,e⟩;exact yBC ⟨by rw [e],Nat.le_refl _⟩ (by omega)
theorem xWZ {a b:List Int} (ha:a.length=6) (hb:b.length=6) {o1 o2:Operand}:uH Pg .neq 73 o1 o2 (.agg ⟨six a⟩) (.agg ⟨six b⟩)=some (.bool (!decide (a=b))):=by
 have e:∀ (f g:Nat→Int),uH Pg .neq 73 o1 o2 (.agg ⟨wT 6 f⟩) (.agg ⟨wT 6 g⟩)=(yA Pg (do eqGuard .neq 73 o1 o2 (.agg ⟨wT 6 f⟩) (.agg ⟨wT 6 g⟩);binOp .neq 73 (.agg ⟨wT 6 f⟩) (.agg ⟨wT 6 g⟩))).filter (zV RD):=fun _ _=>by kernel_rfl
 have e1:∀ (f g:Nat→Int),yA Pg (eqGuard .neq 73 o1 o2 (.agg ⟨wT 6 f⟩) (.agg ⟨wT 6 g⟩))=some ():=fun _ _=>by kernel_rfl
 have e2:∀ x y:List Value,binOp .neq 73 (.agg ⟨x⟩) (.agg ⟨y⟩)=(do let r ← Op.equal 73 (.agg ⟨x⟩) (.agg ⟨y⟩);pure (.bool (!r))):=fun _ _=>rfl
 have hp:∀ (f:Nat→Int) {i:Nat},i<6→yA Pg (part 3 ⟨wT 6 f⟩ (i*1))=some (iV (f i)):=by
  intro f i hi;match i,hi with
  | 0,_=>show _=_;kernel_rfl
  | 1,_=>show _=_;kernel_rfl
  | 2,_=>show _=_;kernel_rfl
  | 3,_=>show _=_;kernel_rfl
  | 4,_=>show _=_;kernel_rfl
  | 5,_=>show _=_;kernel_rfl
 have h:=xHN (P:=Pg) (t:=73) (e:=3) (n:=6) (sz:=1) (d:=9999) (by kernel_rfl) (by kernel_rfl) (xs:=⟨six a⟩) (ys:=⟨six b⟩) (R:=fun i=>a.getD i 0 == b.getD i 0) (fun i hi=>⟨_,_,hp _ hi,hp _ hi,zGQ (d:=9998) (k:=.i64) (by kernel_rfl) _ _ _⟩);have e3:((List.range 6).all fun i=>a.getD i 0 == b.getD i 0)=decide (a=b):=by
  rw [Bool.eq_iff_iff,decide_eq_true_eq,zBL];refine ⟨fun h=>?_,fun h i hi=>by rw [h];simp⟩
  apply List.ext_getElem (by omega);intro i g1 g2;have:=h i (by omega);rw [beq_iff_eq,List.getD_eq_getElem?_getD,List.getD_eq_getElem?_getD,List.getElem?_eq_getElem g1,List.getElem?_eq_getElem g2] at this;exact this
 rw [e3] at h;have h:yA Pg (Op.equal 73 (.agg ⟨six a⟩) (.agg ⟨six b⟩))=some (decide (a=b)):=h;unfold six at h ⊢;rw [e,xG,e1];simp only [Option.bind_some];rw [e2,xG,h];rfl
theorem xGP {b:Nat} {v:List Int} (o:Own σ b (six v) 1):yI Pg σ 73 (.pointer (some ⟨b,0,none⟩)) none none none=some (.slice (some ⟨b,0,none⟩) 6 6):=by
 have hu:Pg.underlying 73=some (.array 6 3):=by kernel_rfl
 have ha:zUF σ ⟨b,0,none⟩ (6*1) 1=true:=by unfold zUF;simp only [o.get];rfl
 unfold yI;simp only [hu,wZ,ha,cond_true];rfl
theorem yJS {b:Nat} {v:List Int} (hv:v.length=6) (o:Own σ b (six v) 1):yF σ (some ⟨b,0,none⟩) 6 v:=by
 have e:six v=v.map zZ:=by
  apply List.ext_getElem (by rw [six,zAW,List.length_map,hv]);intro i g1 g2;have g3:i<v.length:=by simpa using g2
  simp [six,wT,g3]
 refine ⟨?_,by simpa using hv,fun x hx=>?_⟩
 ·rw [vC v .i64,← e];exact ⟨rfl,o.rw⟩
 ·obtain ⟨x,_,rfl⟩:=List.mem_map.1 hx;exact uN x
theorem xVG {a b:List Int} (ha:a.length=6) (hb:b.length=6):zD Pg 75 [.agg ⟨six a⟩,.agg ⟨six b⟩] σ (.bool (wK a b)) σ:=by
 obtain ⟨τ0,hτ0⟩:∃ τ0,τ0=(σ.re.row (six a) 1).row (six b) 1:=⟨_,rfl⟩;have o1:Own τ0 σ.y (six a) 1:=by rw [hτ0];exact (zC σ.re (six a) 1).row
 have o2:Own τ0 (σ.y+1) (six b) 1:=by rw [hτ0];exact zC (σ.re.row (six a) 1) (six b) 1
 have hne:=xWZ ha hb (o1:=.tmp 5) (o2:=.tmp 6);have l1:=zGK o1;have l2:=zGK o2;have hlow:σ.y≤τ0.low:=by rw [hτ0];exact Nat.le_refl _
 have s1:=xGP o1;have s2:=xGP o2;have cc:=xEF (c:=6) (d:=6) (yJS ha o1) (yJS hb o2) (by omega);rw [hτ0] at l1 l2 hlow s1 s2 cc;by_cases e:a=b
 ·rw [decide_eq_true e] at hne;have:wK a b=false:=by rw [e];exact zGU b
  rw [this];exact (xLG l1 l2 hne ⟨rfl,hlow⟩).pure
 ·rw [decide_eq_false e] at hne;by_cases h:0<zPW a b
  ·rw [zRY.1 h];exact (xLI ⟨l1,l2,hne,s1,s2,cc⟩ ⟨rfl,hlow⟩ h).pure
  ·have:wK a b=false:=by rw [← Bool.not_eq_true];exact fun k=>h (zRY.2 k)
   rw [this];exact (xLH ⟨l1,l2,hne,s1,s2,cc⟩ ⟨rfl,hlow⟩ h).pure
theorem xQN {a b:Int} {σ:St}:xP Pg (evL [iV a,iV b]) σ (.call { callee:=.builtin .max,args:=⟨vA 2⟩,argTypes:=⟨[3,3]⟩ })=some (iV (max a b)):=by
 have e:yA Pg (Builtin.max_ ⟨[3,3]⟩ 0 ⟨[iV a,iV b]⟩)=some (iV (max a b)):=by
  rw [show max a b=if a<b then b else a by split <;> omega];simp only [Builtin.max_,List.foldlM,Builtin.max2];rfl
 have e2:xP Pg (evL [iV a,iV b]) σ (.call { callee:=.builtin .max,args:=⟨vA 2⟩,argTypes:=⟨[3,3]⟩ }) =
   match ((yA Pg (Builtin.max_ ⟨[3,3]⟩ 0 ⟨[iV a,iV b]⟩)).filter (zV RD)) with | some v=>some v | none=>xO Pg (evL [iV a,iV b]) σ (.call { callee:=.builtin .max,args:=⟨vA 2⟩,argTypes:=⟨[3,3]⟩ }):=rfl
 rw [e2,e];rfl
theorem xJT {b c:Nat} {x y:Int} (h:Row σ ⟨b,0,none⟩ [iV x,iV y]):zD Pg 92 [.slice (some ⟨b,0,none⟩) 2 c] σ (iV (max x y)) σ:=by
 have key:∀ w:St,Row w ⟨b,0,none⟩ [iV x,iV y]→zD Pg 102 [.slice (some ⟨b,0,none⟩) 2 c] w (iV (max x y)) w:=fun w hw=>by
  refine zP.pure ?_
  have h0:=hw.le (le0 w);have l0:zB Pg w.re 3 ⟨b,0,none⟩=some (iV x):=by simpa [zN] using h0.load1 (t:=3) zS (k:=0) rfl
  have l1:zB Pg w.re 3 (zN ⟨b,0,none⟩ (Int.toNat ((1:Nat):Int)*1))=some (iV y):=h0.load1 (t:=3) zS (k:=1) rfl;refine xOT (P0:=fun n τ=>τ=w.re∧n=max x y) l0 (yQC (Inv:=fun k n i τ=>∃ s:Nat,i=s∧s+k=2∧τ=w.re∧((s=1∧n=x)∨(s=2∧n=max x y))) ?_ 1 x 1 w.re ⟨1,rfl,rfl,rfl,.inl ⟨rfl,rfl⟩⟩) (fun n τ h=>yQB ⟨by rw [h.2],by rw [h.1];exact Nat.le_refl _⟩) (by omega) (by omega);rintro k n i τ ⟨s,rfl,hk,rfl,⟨rfl,rfl⟩ | ⟨rfl,rfl⟩⟩
  ·exact xGN l1 xQN ⟨k-1,by omega,2,rfl,by omega,rfl,.inr ⟨rfl,rfl⟩⟩ (by omega) (by omega) (by omega)
  ·exact xGM ⟨rfl,rfl⟩ (by omega)
 refine zP.pure ?_
 exact xCU (key _ (h.le (le0 σ))) ⟨rfl,Nat.le_refl _⟩
end
section
noncomputable section
variable (lo l BA BB BC BD BE lK:Nat) (v1:Addr) (y am dg:Int) (eZ eU:List Nat) (q1:oAa) (BG l1 c1:Nat) (q2:(List Nat)→St→Prop) (q0:Int→(List Nat)→St→Prop) (fD:FuncId) (dL nN bV:Int) (fp:lVa) (qI:oAa) (g:Nat→Value) (ms:List Nat) (lL cK:Nat) (st:LoopState) (dU:Int) (q4:Int→St→Prop) (Q:St→Prop) (pend:Option Code) (σ:St) (db:Nat) (Nx:Int→St→Prop) (q3:Int→(List Nat)→St→Prop) (q5:vPa) (Qn Q4 Q6 Qr q6:St→Prop) (Q0:(List Nat)→St→Prop)
def zRZ:Code:=(Code.part [1,1,0,1,0,0] (qj 28))
def zFY (BA BB BC BD BE:Nat) (am dg:Int) (eU:List Nat):lNa:=[(3,pq BA 0),(4,pq BB 0),(5,pq BC 0),(6,pq BD 0),(7,pq BE 0),(18,iV am),(19,iV dg)]
def zZW:Alt:=⟨Int × (List Nat),.normal,fun t=>zFY BA BB BC BD BE am t.1 t.2,fun t=>t.2,fun t σ=>q0 t.1 t.2 σ⟩
def zUA (BA BB BC BD BE:Nat) (am:Int) (eU:List Nat):lNa:=[(3,pq BA 0),(6,pq BD 0),(7,pq BE 0)]
def zEM:Alt:=⟨(List Nat),(.exit 0),fun t=>zUA BA BB BC BD BE am t,fun t=>t,fun t σ=>q2 t σ⟩
def zSD:Prop:=qk ql none zRZ 92 (zFY BA BB BC BD BE am dg eU) eU [zZW BA BB BC BD BE am q3,zEM BA BB BC BD BE am Q0] σ
def zSC:Prop:=qm ql none zRZ 92 (zFY BA BB BC BD BE am dg eU) eU [zEM BA BB BC BD BE am Q0] σ
def zBB:Code:=(Code.part [1,1,0,1,0,0,1,1,0,0,1,1,0,0] (qj 28))
def uW:Code:=(Code.part [1,1,0,1,0,0,1,1,0,0,1,1,0,1] (qj 28))
def zAT:lNa:=[(3,pq BA 0),(4,pq BB 0),(5,pq BC 0),(6,pq BD 0),(7,pq BE 0),(18,iV am),(19,iV dg),(24,.func (.func fD) ⟨[]⟩ ⟨fp⟩)]
def zBW:Blk:=.loop (Fm 92 (ov (zAT BA BB BC BD BE am dg fD fp) g)) [25,26] zBB uW st pend db
def yEX:Prop:=zSL Pg ql (.tmp 24) ⟨[25,26]⟩ zBB uW 92 (zAT BA BB BC BD BE am dg fD fp) [(.normal,Qn)] σ
def yEW:Code:=(Code.part [1,1,0,1,0,0,1,1,0,0,1,1,0,1,0,1,1,0,1,0,0] (qj 28))
def zFX (lo BA BC BD BE:Nat) (y:Int) (BG:Nat) (nN:Int) (qI:oAa) (lL cK:Nat) (dU:Int):lNa:=[(3,pq BA 0),(5,pq BC 0),(6,pq BD 0),(7,pq BE 0),(9,iV y),(10,pq BG 0),(11,iV nN),(33,.slice qI lL cK),(34,iV (lL:Int)),(35,iV dU)]
def yVP:Alt:=⟨Int,.normal,fun t=>zFX lo BA BC BD BE y BG nN qI lL cK t,fun t=>[],fun t σ=>q4 t σ⟩
def zTZ (lo BA BC BD BE:Nat) (y:Int) (BG:Nat) (nN:Int) (qI:oAa) (lL cK:Nat):lNa:=[(5,pq BC 0),(7,pq BE 0),(9,iV y),(10,pq BG 0),(11,iV nN)]
def zKB:Alt:=⟨Unit,(.exit 4),fun t=>zTZ lo BA BC BD BE y BG nN qI lL cK,fun t=>[],fun t σ=>Q σ⟩
def zLO:Prop:=qk ql (some lo) yEW 92 (zFX lo BA BC BD BE y BG nN qI lL cK dU) [] [yVP lo BA BC BD BE y BG nN qI lL cK Nx,zKB lo BA BC BD BE y BG nN qI lL cK Q4] σ
def zSB:Prop:=qm ql (some lo) yEW 92 (zFX lo BA BC BD BE y BG nN qI lL cK dU) [] [zKB lo BA BC BD BE y BG nN qI lL cK Q4] σ
def zKD (lo BA BC BD BE:Nat) (y:Int) (BG:Nat) (nN:Int) (qI:oAa) (lL cK:Nat) (σ:St) (Qn:St→Prop):Prop:=∀ g:Nat→Value,∃ an,Hid (kAt Pg ql (some lo) uW [0,1,1,0,1,0] (yPA [⟨Unit,.normal,fun _=>[],fun _=>[],fun _ σ=>Qn σ⟩]) (.exit 4) ⟨Fm 92 (ov (zTZ lo BA BC BD BE y BG nN qI lL cK) g),[]⟩ σ an)
def zUB:Prop:=∀ g:Nat→Value,∃ an,Hid (kAt Pg ql none zRZ [1,1,0,0,1,1,0] (zGC 92 [zZW BA BB BC BD BE am q3,zEM BA BB BC BD BE am Q0]) .normal ⟨Fm 92 (ov (zAT BA BB BC BD BE am dg fD fp) g),ms⟩ σ an)
def zUC:Prop:=∀ g:Nat→Value,∃ an,Hid (kAt Pg ql none (qj 28) [1,1,0,1,0] (qo 28 q5) (.exit 0) ⟨Fm 92 (ov (zUA BA BB BC BD BE am eU) g),eU⟩ σ an)
def yEV:Code:=(Code.part [1,1,1,0,1,0,0] (qj 28))
def zFW (BA BD BE lK:Nat) (eZ:List Nat) (dL:Int):lNa:=[(3,pq BA 0),(6,pq BD 0),(7,pq BE 0),(72,iV (lK:Int)),(73,iV dL)]
def yVO:Alt:=⟨Int,.normal,fun t=>zFW BA BD BE lK eZ t,fun t=>eZ,fun t σ=>q4 t σ⟩
def zTY (BA BD BE lK:Nat) (eZ:List Nat):lNa:=[(6,pq BD 0)]
def zKA:Alt:=⟨Unit,(.exit 6),fun t=>zTY BA BD BE lK eZ,fun t=>eZ,fun t σ=>Q σ⟩
def zLN:Prop:=qk ql none yEV 92 (zFW BA BD BE lK eZ dL) eZ [yVO BA BD BE lK eZ Nx,zKA BA BD BE lK eZ Q6] σ
def zSA:Prop:=qm ql none yEV 92 (zFW BA BD BE lK eZ dL) eZ [zKA BA BD BE lK eZ Q6] σ
def zKC:Prop:=∀ g:Nat→Value,∃ an,Hid (kAt Pg ql none (qj 28) [1,1,1,0,1,0] (qo 28 q5) (.exit 6) ⟨Fm 92 (ov (zTY BA BD BE lK eZ) g),eZ⟩ σ an)
def xIX:Code:=(Code.part [1,0,0] (qj 63))
def zXT:lNa:=[(0,.func (.yield l) ⟨[]⟩ ⟨[]⟩),(2,pz v1),(7,.slice q1 l1 c1),(8,iV (l1:Int)),(9,iV bV)]
def xQJ:Alt:=⟨Int,.normal,fun t=>zXT l v1 q1 l1 c1 t,fun t=>[],fun t σ=>q4 t σ⟩
def yLV (l:Nat) (v1:Addr) (q1:oAa) (l1 c1:Nat):lNa:=[]
def zXU:Alt:=⟨Unit,.ret,fun t=>yLV l v1 q1 l1 c1,fun t=>[],fun t σ=>Q σ⟩
def yLW (l:Nat) (v1:Addr) (q1:oAa) (l1 c1:Nat):lNa:=[]
def zXV:Alt:=⟨Unit,(.exit 0),fun t=>yLW l v1 q1 l1 c1,fun t=>[],fun t σ=>Q σ⟩
def yGY:Prop:=qk ql none xIX 26 (zXT l v1 q1 l1 c1 bV) [] [xQJ l v1 q1 l1 c1 Nx,zXU l v1 q1 l1 c1 Qr,zXV l v1 q1 l1 c1 q6] σ
def xIY:Prop:=qm ql none xIX 26 (zXT l v1 q1 l1 c1 bV) [] [zXU l v1 q1 l1 c1 Qr,zXV l v1 q1 l1 c1 q6] σ
def xIZ:Prop:=kZ ql (qj 63) [1,0] (qo 63 q5) .ret 26 (yLV l v1 q1 l1 c1) σ
def yLX:Prop:=kZ ql (qj 63) [1,0] (qo 63 q5) (.exit 0) 26 (yLW l v1 q1 l1 c1) σ
end
variable {BA BB BC BD BE lo lS cW db BG lL cK lT cQ lU cR lGB cDB lHB cEB lIB cOB lG cF lH cG ab ad aa ac aZ bf f8 f9 lK lJB cFB lKB cGB cM lLB cHB lMB cIB lBB cX l l1 c1:Nat} {am dg y aB aM ay az aE nN dU nS nFB nGB nJB nBR nBS nBT nBU nBV nBW nBX nBY nBZ nBa nBs nBt nBu nBv nBw nBx nBy nBz nB0 nB1 nB2 nB3 nB4 nB5 nG nB nA nE ao au aj dL nCB nHB bV nF nD:Int} {Inv:Nat→Int→St→Prop} {Q0 P0:(List Nat)→St→Prop} {fD fC:FuncId} {fp eQ cs1:lVa} {qP_a qI_a qEB_a v1 fz v0:Addr} {g:Nat→Value} {τ σ σVB σWB σXB σYB σD σ2 σZB σAC σBB σBC fP:St} {Qn Q4 P4 Pn Q6 P6 Qr Pr:St→Prop} {qI qQ qR qCB qDB qE qF af ae roster truth qFB qGB qL qHB qIB qW q1:oAa} {Nx:Int→St→Prop} {eU ms eZ:List Nat} {Q:vPa}
theorem yIG {Inv:Nat→Int→(List Nat)→St→Prop} (hb:∀ k dg eU σ,Inv k dg eU σ→zSD BA BB BC BD BE am dg eU σ (NX2 Inv k) Q0):∀ k dg eU σ,Inv k dg eU σ→zSC BA BB BC BD BE am dg eU σ Q0 :=
 zEV (ai (wI 0) trivial) hb
theorem yVF:let y0:=(τ.re.row (zF 0 0 0 0 0) 5).own (τ.re.y) (zF aB aM ay az aE) 5;let y1:=zBW BA BB BC BD BE am dg fD fp g .ready none db;∀ (hl:yK τ.heap lo=some y1) (hl1:yK y0.heap lo=some y1) (hσ:σ=y0.put lo (zBW BA BB BC BD BE am dg fD fp g .busy none db)) (h1:lz σ 29 (qg BB 0) (.slice (some qP_a) lS cW)) (h2:lz σ 3 (zN qP_a (Int.toNat y*1)) (iV nN)) (nx:Qn σ) (u1:Ix y lS:=by omega) (u2:nN=(-1):=by omega),zFA Pg lo [iV y,qh (zF aB aM ay az aE)] τ (Fm 92 (ov (zAT BA BB BC BD BE am dg fD fp) g)) [25,26] zBB uW db [⟨Unit,.normal,fun _=>[],fun _=>[],fun _ σ=>Qn σ⟩] :=
 let y0:=(τ.re.row (zF 0 0 0 0 0) 5).own (τ.re.y) (zF aB aM ay az aE) 5;fun hl hl1 hσ h1 h2 nx u1 u2=>yBR hl rfl hl1 hσ [.g,.g,.e undef y0,.l (.slice (some qP_a) lS cW),.g,.i,.l (iV nN),.g,.g,.b true,.fin ⟨Unit,.normal,fun _=>[],fun _=>[],fun _ σ=>Qn σ⟩ ()] (kc (by kernel_rfl) (ai ((zC _ _ _).store (vs:=(zF aB aM ay az aE)) rfl uE rfl (nle rfl) rfl:qq (evL [pq τ.re.y 0,qh (zF aB aM ay az aE)]) (τ.re.row (zF 0 0 0 0 0) 5) (.store 69 (.tmp 0) (.tmp 1))=some (undef,y0)) (ai (ai (rfl:Exit.normal=Exit.normal) (rfl:y0=y0)) (ai h1 (ai u1 (ai h2 (ai (xH u2) (xVU (alts:=[⟨Unit,.normal,fun _=>[],fun _=>[],fun _ σ=>Qn σ⟩]) ⟨Unit,.normal,fun _=>[],fun _=>[],fun _ σ=>Qn σ⟩ () nx in0))))))))
theorem yIF (hb:∀ k dU σ,Inv k dU σ→zLO lo BA BC BD BE y BG nN qI lL cK dU σ (NX1 Inv k) Q4):∀ k dU σ,Inv k dU σ→zSB lo BA BC BD BE y BG nN qI lL cK dU σ Q4 :=
 xJ (ai (wI 4) trivial) hb
theorem yVL:let s1:=σ.row [.int .u8 0,.nilFunc] 2;let s2:=s1.own σ.y [.int .u8 nS,.func (.func fC) ⟨[]⟩ ⟨eQ⟩] 2;∀ (h1:lz σ 98 (zN qI_a (Int.toNat dU*2)) (qh [.int .u8 nS,.func (.func fC) ⟨[]⟩ ⟨eQ⟩])) (h2:lz s2 43 (qg BA 0) (qh (wkc nFB qQ lT cQ qR lU cR nGB nJB nBR))) (h3:lz s2 69 (qg BG 0) (qh (zF nBS nBT nBU nBV nBW))) (h4:lz s2 87 ⟨BE,0+Int.toNat nN*4,none⟩ (qh (zK nBX nBY nBZ nBa))) (h5:qn fC (qh (wkc nFB qQ lT cQ qR lU cR nGB nJB nBR)::iV nN::(qh (zF nBS nBT nBU nBV nBW))::(qh (zK nBX nBY nBZ nBa))::eQ) s2 (.bool true) s2) (nx:Nx (dU+1) s2) (u1:dU<(lL:Int):=by omega) (u2:Ix dU lL:=by omega) (u3:Ix nN 6:=by omega) (u4:I6 (dU+1):=by omega),zLO lo BA BC BD BE y BG nN (some qI_a) lL cK dU σ Nx Q4:=
 let s1:=σ.row [.int .u8 0,.nilFunc] 2;let s2:=s1.own σ.y [.int .u8 nS,.func (.func fC) ⟨[]⟩ ⟨eQ⟩] 2;fun h1 h2 h3 h4 h5 nx u1 u2 u3 u4=>kO 0 (dU+1) [.b true,.i,.l (qh [.int .u8 nS,.func (.func fC) ⟨[]⟩ ⟨eQ⟩]),.g,.e undef s2,.g,.l (.func (.func fC) ⟨[]⟩ ⟨eQ⟩),.l (qh (wkc nFB qQ lT cQ qR lU cR nGB nJB nBR)),.g,.l (qh (zF nBS nBT nBU nBV nBW)),.g,.i,.l (qh (zK nBX nBY nBZ nBa)),.c (.bool true) s2,.g,.n (dU+1),.g] (fun _ f=>an5 (zR u1) u2 h1 ((zC _ _ _).store (vs:=[.int .u8 nS,.func (.func fC) ⟨[]⟩ ⟨eQ⟩]) rfl zGN rfl (nle rfl) rfl:qq (evL [pq σ.y 0,qh [.int .u8 nS,.func (.func fC) ⟨[]⟩ ⟨eQ⟩]]) s1 (.store 98 (.tmp 0) (.tmp 1))=some (undef,s2)) ((zC _ _ _).put.rw.ld xNH (k:=1) rfl:lz s2 96 (qg σ.y 1) (.func (.func fC) ⟨[]⟩ ⟨eQ⟩)) (an6 h2 h3 u3 h4 h5 (w64 u4) f)) nx
theorem yVK:let s1:=σ.row [.int .u8 0,.nilFunc] 2;let s2:=s1.own σ.y [.int .u8 nS,.func (.func fC) ⟨[]⟩ ⟨eQ⟩] 2;∀ (h1:lz σ 98 (zN qI_a (Int.toNat dU*2)) (qh [.int .u8 nS,.func (.func fC) ⟨[]⟩ ⟨eQ⟩])) (h2:lz s2 43 (qg BA 0) (qh (wkc nFB qQ lT cQ qR lU cR nGB nJB nBR))) (h3:lz s2 69 (qg BG 0) (qh (zF nBS nBT nBU nBV nBW))) (h4:lz s2 87 ⟨BE,0+Int.toNat nN*4,none⟩ (qh (zK nBX nBY nBZ nBa))) (h5:qn fC (qh (wkc nFB qQ lT cQ qR lU cR nGB nJB nBR)::iV nN::(qh (zF nBS nBT nBU nBV nBW))::(qh (zK nBX nBY nBZ nBa))::eQ) s2 (.bool false) s2) (h6:lz s2 36 (qg BD 0) (.slice qCB lGB cDB)) (h7:yD Pg 36 36 (.slice qCB lGB cDB) (.slice (some ⟨(σ.y+1),0,none⟩) 1 1) (s2.row (rcd nS nN y) 3)=some (.slice qDB lHB cEB,σVB)) (h8:qq (evL [pq BD 0,.slice qDB lHB cEB]) σVB (.store 36 (.tmp 0) (.tmp 1))=some (undef,σWB)) (nx:Nx (dU+1) σWB) (u1:dU<(lL:Int):=by omega) (u2:Ix dU lL:=by omega) (u3:Ix nN 6:=by omega) (u4:I6 (dU+1):=by omega),zLO lo BA BC BD BE y BG nN (some qI_a) lL cK dU σ Nx Q4:=
 let s1:=σ.row [.int .u8 0,.nilFunc] 2;let s2:=s1.own σ.y [.int .u8 nS,.func (.func fC) ⟨[]⟩ ⟨eQ⟩] 2;fun h1 h2 h3 h4 h5 h6 h7 h8 nx u1 u2 u3 u4=>kO 0 (dU+1) [.b true,.i,.l (qh [.int .u8 nS,.func (.func fC) ⟨[]⟩ ⟨eQ⟩]),.g,.e undef s2,.g,.l (.func (.func fC) ⟨[]⟩ ⟨eQ⟩),.l (qh (wkc nFB qQ lT cQ qR lU cR nGB nJB nBR)),.g,.l (qh (zF nBS nBT nBU nBV nBW)),.g,.i,.l (qh (zK nBX nBY nBZ nBa)),.c (.bool false) s2,.g,.l (.slice qCB lGB cDB),.g,.l (.int .u8 nS),.g,.g,.g,.g,.e (.slice qDB lHB cEB) σVB,.e undef σWB,.n (dU+1),.g] (fun _ f=>an3 (zR u1) u2 h1 (an6 ((zC _ _ _).store (vs:=[.int .u8 nS,.func (.func fC) ⟨[]⟩ ⟨eQ⟩]) rfl zGN rfl (nle rfl) rfl:qq (evL [pq σ.y 0,qh [.int .u8 nS,.func (.func fC) ⟨[]⟩ ⟨eQ⟩]]) s1 (.store 98 (.tmp 0) (.tmp 1))=some (undef,s2)) ((zC _ _ _).put.rw.ld xNH (k:=1) rfl:lz s2 96 (qg σ.y 1) (.func (.func fC) ⟨[]⟩ ⟨eQ⟩)) h2 h3 u3 h4 (an6 h5 h6 ((zC _ _ _).put.rw.ld xST (k:=0) rfl:lz s2 5 (qg σ.y 0) (.int .u8 nS)) h7 h8 (w64 u4) f))) nx
theorem yVJ (nx:Q4 σ) (u1:¬ dU<(lL:Int):=by omega):zLO lo BA BC BD BE y BG nN qI lL cK dU σ Nx Q4 :=
 kO 1 () [.b false] (fun _ f=>ai (zT u1) f) nx
theorem yVE:let y2:=τ.re.y;let y0:=(τ.re.row (zF 0 0 0 0 0) 5).own y2 (zF aB aM ay az aE) 5;let y1:=zBW BA BB BC BD BE am dg fD fp g .ready none db;∀ (hl:yK τ.heap lo=some y1) (hl1:yK y0.heap lo=some y1) (hσ:σ=y0.put lo (zBW BA BB BC BD BE am dg fD fp g .busy none db)) (h1:lz σ 29 (qg BB 0) (.slice (some qP_a) lS cW)) (h2:lz σ 3 (zN qP_a (Int.toNat y*1)) (iV nN)) (h3:qn 47 [] σ (.slice qI lL cK) σXB) (hL:zSB lo BA BC BD BE y y2 nN qI lL cK 0 σXB P4) (k4:∀ σ',P4 σ'→zKD lo BA BC BD BE y y2 nN qI lL cK σ' Qn) (u1:Ix y lS:=by omega) (u2:¬ nN=(-1):=by omega),zFA Pg lo [iV y,qh (zF aB aM ay az aE)] τ (Fm 92 (ov (zAT BA BB BC BD BE am dg fD fp) g)) [25,26] zBB uW db [⟨Unit,.normal,fun _=>[],fun _=>[],fun _ σ=>Qn σ⟩] :=
 let y2:=τ.re.y;let y0:=(τ.re.row (zF 0 0 0 0 0) 5).own y2 (zF aB aM ay az aE) 5;fun hl hl1 hσ h1 h2 h3 hL k4 u1 u2=>yBR hl rfl hl1 hσ [.g,.g,.e undef y0,.l (.slice (some qP_a) lS cW),.g,.i,.l (iV nN),.g,.g,.b false,.c (.slice qI lL cK) σXB,.g,.g,.lf 92 (zFX lo BA BC BD BE y y2 nN qI lL cK 0) [zKB lo BA BC BD BE y y2 nN qI lL cK P4]] (kc (by kernel_rfl) (ai ((zC _ _ _).store (vs:=(zF aB aM ay az aE)) rfl uE rfl (nle rfl) rfl:qq (evL [pq τ.re.y 0,qh (zF aB aM ay az aE)]) (τ.re.row (zF 0 0 0 0 0) 5) (.store 69 (.tmp 0) (.tmp 1))=some (undef,y0)) (ai (ai (rfl:Exit.normal=Exit.normal) (rfl:y0=y0)) (ai h1 (ai u1 (ai h2 (ai (xL u2) (ai h3 (ai (ai tt (ai (arf (zFX lo BA BC BD BE y y2 nN qI lL cK 0)) hL)) (ai (kz0 k4) trivial))))))))))
theorem yIB (h1:lz σ 87 ⟨BE,0+Int.toNat nN*4,none⟩ (qh (zK nBs nBt nBu nBv))) (h2:lz σ 69 (qg BG 0) (qh (zF nBw nBx nBy nBz nB0))) (h3:lz σ 29 (qg BC 0) (.slice (some qEB_a) lIB cOB)) (h4:lz σ 3 (zN qEB_a (Int.toNat y*1)) (iV nB1)) (h5:qn 48 [qh (zK nBs nBt nBu nBv),qh (zF nBw nBx nBy nBz nB0),iV nB1] σ (qh (zK nB2 nB3 nB4 nB5)) σ) (h6:qq (evL [pq BE (0+Int.toNat nN*4),qh (zK nB2 nB3 nB4 nB5)]) σ (.store 87 (.tmp 0) (.tmp 1))=some (undef,σYB)) (nx:Qn σYB) (u1:Ix nN 6:=by omega) (u2:Ix y lIB:=by omega):zKD lo BA BC BD BE y BG nN qI lL cK σ Qn :=
 sK [.g,.g,.i,.l (qh (zK nBs nBt nBu nBv)),.l (qh (zF nBw nBx nBy nBz nB0)),.l (.slice (some qEB_a) lIB cOB),.g,.i,.l (iV nB1),.c (qh (zK nB2 nB3 nB4 nB5)) σ,.i,.e undef σYB,.fin ⟨Unit,.normal,fun _=>[],fun _=>[],fun _ σ=>Qn σ⟩ ()] (an3 u1 h1 h2 (an6 h3 u2 h4 h5 u1 h6 (xVU (alts:=[⟨Unit,.normal,fun _=>[],fun _=>[],fun _ σ=>Qn σ⟩]) ⟨Unit,.normal,fun _=>[],fun _=>[],fun _ σ=>Qn σ⟩ () nx in0)))
theorem yVN {Nx:Int→(List Nat)→St→Prop} (h1:lz σ 43 (qg BA 0) (qh (wkc nG qE lG cF qF lH cG nB nA nE))) (h2:qn 46 [qh (wkc nG qE lG cF qF lH cG nB nA nE),iV dg] σ (.func (.func fD) ⟨[]⟩ ⟨fp⟩) σD) (hL:yEX BA BB BC BD BE am dg fD fp σD Pn) (kn:∀ σ',Pn σ'→zUB BA BB BC BD BE am dg fD fp (σD.y::eU) σ' Nx Q0) (u1:dg<am:=by omega):zSD BA BB BC BD BE am dg eU σ Nx Q0 :=
 zDA [.b true,.g,.g,.l (qh (wkc nG qE lG cF qF lH cG nB nA nE)),.g,.c (.func (.func fD) ⟨[]⟩ ⟨fp⟩) σD,.rf 92 (zAT BA BB BC BD BE am dg fD fp) [(.normal,Pn)]] (fun g=>kd (an3 (zR u1) h1 h2 (ai (ai tt (ai (arf (zAT BA BB BC BD BE am dg fD fp)) hL)) (ai (kz kn) trivial))))
theorem yVM {Nx:Int→(List Nat)→St→Prop} (nx:Q0 eU σ) (u1:¬ dg<am:=by omega):zSD BA BB BC BD BE am dg eU σ Nx Q0 :=
 kO 1 eU [.b false] (fun _ f=>ai (zT u1) f) nx
theorem yIC {Nx:Int→(List Nat)→St→Prop} (nx:Nx (dg+1) ms σ) (u1:I6 (dg+1):=by omega):zUB BA BB BC BD BE am dg fD fp ms σ Nx Q0 :=
 sF 0 (dg+1,ms) [.n (dg+1),.g] (fun _ f=>ai (w64 u1) f) nx
theorem xEO:let s1:=σ.row (wkc am af ab ad ae aa ac ao au aj) 6;let s2:=s1.row [.slice roster aZ bf] 1;let s3:=s2.row [.slice truth f8 f9] 1;let s4:=s3.row [.slice none 0 0] 1;let s5:=σ.y+4;let s6:=σ.y+3;let s7:=σ.y+2;let s8:=σ.y+1;∀ (h1:qn 45 [qh (wkc am af ab ad ae aa ac ao au aj)] s4 (qh cs1) s4) (h2:qq (evL [pq s5 0,qh cs1]) (s4.row [iV 0,iV 0,iV 0,iV 0,iV 0,iV 0,iV 0,iV 0,iV 0,iV 0,iV 0,iV 0,iV 0,iV 0,iV 0,iV 0,iV 0,iV 0,iV 0,iV 0,iV 0,iV 0,iV 0,iV 0] 4) (.store 89 (.tmp 0) (.tmp 1))=some (undef,σ2)) (h3:lz σ2 3 (qg σ.y 0) (iV am)) (hL:zSC σ.y s8 s7 s6 s5 am 0 [] σ2 P0) (k0:∀ ms_1' σ',P0 ms_1' σ'→zUC σ.y s8 s7 s6 s5 am ms_1' σ' Q),qi 28 [qh (wkc am af ab ad ae aa ac ao au aj),.slice roster aZ bf,.slice truth f8 f9] σ Q:=
 let s1:=σ.row (wkc am af ab ad ae aa ac ao au aj) 6;let s2:=s1.row [.slice roster aZ bf] 1;let s3:=s2.row [.slice truth f8 f9] 1;let s4:=s3.row [.slice none 0 0] 1;let s5:=σ.y+4;let s6:=σ.y+3;let s7:=σ.y+2;let s8:=σ.y+1;fun h1 h2 h3 hL k0=>zI [.g,.g,.g,.g,.l (qh (wkc am af ab ad ae aa ac ao au aj)),.c (qh cs1) s4,.g,.e undef σ2,.g,.l (iV am),.g,.lf 92 (zFY σ.y s8 s7 s6 s5 am 0 []) [zEM σ.y s8 s7 s6 s5 am P0]] (kd (an4 ((zC _ _ _).row.row.row.rw.ldN xS yW (k:=0) rfl rfl (nle rfl):lz s4 43 (qg σ.y 0) (qh (wkc am af ab ad ae aa ac ao au aj))) h1 h2 h3 (ai (ai tt (ai (arf (zFY σ.y s8 s7 s6 s5 am 0 [])) hL)) (ai (kz1 k0) trivial))))
theorem yIE (hb:∀ k dL σ,Inv k dL σ→zLN BA BD BE lK eZ dL σ (NX1 Inv k) Q6):∀ k dL σ,Inv k dL σ→zSA BA BD BE lK eZ dL σ Q6 :=
 xJ (ai (wI 6) trivial) hb
theorem yVI (h1:lz σ 3 ⟨BE,0+Int.toNat dL*4+2,none⟩ (iV nCB)) (h2:lz σ 3 (qg BA 5) (iV nHB)) (h3:lz σ 36 (qg BD 0) (.slice qFB lJB cFB)) (h4:yD Pg 36 36 (.slice qFB lJB cFB) (.slice (some (qg σ.y 0)) 1 1) (σ.row (rcd 5 dL 0) 3)=some (.slice qGB lKB cGB,σZB)) (h5:qq (evL [pq BD 0,.slice qGB lKB cGB]) σZB (.store 36 (.tmp 0) (.tmp 1))=some (undef,σAC)) (nx:Nx (dL+1) σAC) (u1:dL<(lK:Int):=by omega) (u2:Ix dL 6:=by omega) (u3:nHB<nCB:=by omega) (u4:I6 (dL+1):=by omega):zLN BA BD BE lK eZ dL σ Nx Q6 :=
 kO 0 (dL+1) [.b true,.g,.g,.g,.i,.g,.l (iV nCB),.g,.l (iV nHB),.b true,.l (.slice qFB lJB cFB),.g,.g,.g,.e (.slice qGB lKB cGB) σZB,.e undef σAC,.n (dL+1),.g] (fun _ f=>an3 (zR u1) u2 h1 (an6 h2 (zR u3) h3 h4 h5 (w64 u4) f)) nx
theorem yVH (h1:lz σ 3 ⟨BE,0+Int.toNat dL*4+2,none⟩ (iV nCB)) (h2:lz σ 3 (qg BA 5) (iV nHB)) (nx:Nx (dL+1) σ) (u1:dL<(lK:Int):=by omega) (u2:Ix dL 6:=by omega) (u3:¬ nHB<nCB:=by omega) (u4:I6 (dL+1):=by omega):zLN BA BD BE lK eZ dL σ Nx Q6 :=
 kO 0 (dL+1) [.b true,.g,.g,.g,.i,.g,.l (iV nCB),.g,.l (iV nHB),.b false,.n (dL+1),.g] (fun _ f=>an6 (zR u1) u2 h1 h2 (zT u3) (w64 u4) f) nx
theorem yVG (nx:Q6 σ) (u1:¬ dL<(lK:Int):=by omega):zLN BA BD BE lK eZ dL σ Nx Q6 :=
 kO 1 () [.b false] (fun _ f=>ai (zT u1) f) nx
theorem yID (h1:lz σ 41 (qg BA 2) (.slice qL lK cM)) (hL:zSA BA BD BE lK eU 0 σ P6) (k6:∀ σ',P6 σ'→zKC BA BD BE lK eU σ' Q):zUC BA BB BC BD BE am eU σ Q :=
 sK [.g,.l (.slice qL lK cM),.g,.g,.lf 92 (zFW BA BD BE lK eU 0) [zKA BA BD BE lK eU P6]] (ai h1 (ai (ai tt (ai (arf (zFW BA BD BE lK eU 0)) hL)) (ai (kz0 k6) trivial)))
theorem zPY (h1:lz σ 36 (qg BD 0) (.slice qHB lLB cHB)) (h2:qn 49 [.slice qHB lLB cHB,.func (.func 50) ⟨[]⟩ ⟨[]⟩] σ (.tuple ⟨[]⟩) σBB) (h3:lz σBB 36 (qg BD 0) (.slice qIB lMB cIB)) (h4:qq (evL [pq BD 0,.slice qIB lMB cIB]) σBB (.store 36 (.tmp 0) (.tmp 1))=some (undef,σBC)) (h5:yZL eZ σBC fP) (h6:lz fP 36 (qg BD 0) (.slice qW lBB cX)) (nx:Q (.slice qW lBB cX) fP):zKC BA BD BE lK eZ σ Q :=
 sK [.l (.slice qHB lLB cHB),.c (.tuple ⟨[]⟩) σBB,.l (.slice qIB lMB cIB),.e undef σBC,.l (.slice qW lBB cX)] (an4 h1 h2 h3 h4 (zMS (K:=(fun fP=>lz fP 36 (qg BD 0) (.slice qW lBB cX)∧Q (.slice qW lBB cX) fP)) h5 (ai h6 nx)))
theorem xCP {Q0:St→Prop} (hb:∀ k bV σ,Inv k bV σ→yGY l v1 q1 l1 c1 bV σ (NX1 Inv k) Qr Q0):∀ k bV σ,Inv k bV σ→xIY l v1 q1 l1 c1 bV σ Qr Q0 :=
 xJ (ai zCK (ai (wI 0) trivial)) hb
theorem xQH {Q0:St→Prop}:let s1:=σ.row (zF 0 0 0 0 0) 5;let s2:=s1.own σ.y (zF nG nF nD nB nA) 5;let y0:=zF nG nF nD nB nA;∀ (h1:lz σ 69 (zN fz (Int.toNat bV*5)) (qh y0)) (h2:lz s2 3 v1 (iV nE)) (h3:yWN Pg l [iV bV,qh y0] s2 (.bool true) σD) (nx:Nx (bV+1) σD) (u1:bV<(l1:Int):=by omega) (u2:Ix bV l1:=by omega) (u3:nG=nE:=by omega) (u4:I6 (bV+1):=by omega),yGY l v1 (some fz) l1 c1 bV σ Nx Qr Q0:=
 let s1:=σ.row (zF 0 0 0 0 0) 5;let s2:=s1.own σ.y (zF nG nF nD nB nA) 5;let y0:=zF nG nF nD nB nA;fun h1 h2 h3 nx u1 u2 u3 u4=>kO 0 (bV+1) [.b true,.g,.i,.l (qh y0),.g,.g,.e undef s2,.g,.l (iV nG),.l (iV nE),.b true,.g,.g,.g,.l (qh y0),.c (.bool true) σD,.g,.g,.n (bV+1),.g] (fun _ f=>an4 (zR u1) u2 h1 ((zC _ _ _).store (vs:=y0) rfl uE rfl (nle rfl) rfl:qq (evL [pq σ.y 0,qh y0]) s1 (.store 69 (.tmp 0) (.tmp 1))=some (undef,s2)) (an6 ((zC _ _ _).put.rw.ld zS (k:=0) rfl:lz s2 3 (qg σ.y 0) (iV nG)) h2 (xH u3) ((zC _ _ _).put.rw.ldN zMO uE (k:=0) rfl rfl (nle rfl):lz s2 69 (qg σ.y 0) (qh y0)) h3 (w64 u4) f)) nx
theorem xQG {Q0:St→Prop}:let s1:=σ.row (zF 0 0 0 0 0) 5;let s2:=s1.own σ.y (zF nG nF nD nB nA) 5;let y0:=zF nG nF nD nB nA;∀ (h1:lz σ 69 (zN fz (Int.toNat bV*5)) (qh y0)) (h2:lz s2 3 v1 (iV nE)) (nx:Nx (bV+1) s2) (u1:bV<(l1:Int):=by omega) (u2:Ix bV l1:=by omega) (u3:¬ nG=nE:=by omega) (u4:I6 (bV+1):=by omega),yGY l v1 (some fz) l1 c1 bV σ Nx Qr Q0:=
 let s1:=σ.row (zF 0 0 0 0 0) 5;let s2:=s1.own σ.y (zF nG nF nD nB nA) 5;let y0:=zF nG nF nD nB nA;fun h1 h2 nx u1 u2 u3 u4=>kO 0 (bV+1) [.b true,.g,.i,.l (qh y0),.g,.g,.e undef s2,.g,.l (iV nG),.l (iV nE),.b false,.g,.g,.n (bV+1),.g] (fun _ f=>an2 (zR u1) u2 (an6 h1 ((zC _ _ _).store (vs:=y0) rfl uE rfl (nle rfl) rfl:qq (evL [pq σ.y 0,qh y0]) s1 (.store 69 (.tmp 0) (.tmp 1))=some (undef,s2)) ((zC _ _ _).put.rw.ld zS (k:=0) rfl:lz s2 3 (qg σ.y 0) (iV nG)) h2 (xL u3) (w64 u4) f)) nx
theorem xQF {Q0:St→Prop} (nx:Q0 σ) (u1:¬ bV<(l1:Int):=by omega):yGY l v1 q1 l1 c1 bV σ Nx Qr Q0 :=
 kO 2 () [.b false] (fun _ f=>ai (zT u1) f) nx
theorem xVC {P0:St→Prop} (h1:lz σ 40 (zN v0 1) (.slice q1 l1 c1)) (hL:xIY l v1 q1 l1 c1 0 σ Pr P0) (kr:∀ σ',Pr σ'→xIZ l v1 q1 l1 c1 σ' Q) (k0:∀ σ',P0 σ'→yLX l v1 q1 l1 c1 σ' Q):qi 63 [.func (.yield l) ⟨[]⟩ ⟨[]⟩,pz v0,pz v1] σ Q :=
 zI [.g,.l (.slice q1 l1 c1),.g,.g,.lf 26 (zXT l v1 q1 l1 c1 0) [zXU l v1 q1 l1 c1 Pr,zXV l v1 q1 l1 c1 P0]] (kd (ai h1 (ai (ai tt (ai (arf (zXT l v1 q1 l1 c1 0)) hL)) (ai (kz0 kr) (ai (kz0 k0) trivial)))))
theorem xCO (nx:Q (.tuple ⟨[]⟩) σ):yLX l v1 q1 l1 c1 σ Q :=
 sK [] nx
end
theorem xMY:AppT Try.prog 36 36 47 3:=zLR (by kernel_rfl)
theorem xMB (b:Bch):zBT Try.prog 47 3 (yOP b):=.inr ⟨xNJ,yFU,_,rfl,rfl⟩
structure J (σ:St) (wl:List Value) (rv tv:Value) (X:Nat→Prop) (f:Nat→Std) (A:List Bch) (τ:St):Prop where
 new:New σ.re τ
 wk:Row τ ⟨σ.y,0,none⟩ wl
 ro:Row τ ⟨σ.y+1,0,none⟩ [rv]
 tr:Row τ ⟨σ.y+2,0,none⟩ [tv]
 nw:Own τ (σ.y+4) (stL f) 4
 out:∃ po co,Own τ (σ.y+3) [.slice po A.length co] 1∧Gr Try.prog τ (σ.y+5) 47 3 po A.length co (A.map yOP)∧∀ b,AtP po b→¬ X b
section
variable {σ τ τ':St} {wl:List Value} {rv tv:Value} {X:Nat→Prop} {f:Nat→Std} {A:List Bch}
theorem J.le (h:J σ wl rv tv X f A τ) (k:Le τ τ') (n:New σ.re τ'):J σ wl rv tv X f A τ':=by
 obtain ⟨po,co,h1,h2,h3⟩:=h.out;exact ⟨n,h.wk.le k,h.ro.le k,h.tr.le k,h.nw.le k,po,co,h1.le k,h2.le k,h3⟩
theorem J.mono {Y:Nat→Prop} (h:J σ wl rv tv X f A τ) (k:∀ b,b<τ.y→σ.y+5≤b→Y b→X b):J σ wl rv tv Y f A τ:=by
 obtain ⟨po,co,h1,h2,h3⟩:=h.out;exact ⟨h.new,h.wk,h.ro,h.tr,h.nw,po,co,h1,h2,fun b hb hy=>h3 b hb (k b (h2.bd hb).2 (h2.bd hb).1 hy)⟩
theorem J.push (h:J σ wl rv tv X f A τ) (k:Le τ τ') (n:New σ.re τ') (b:Bch) (hA:A.length≤1000) (hX3:¬ X (σ.y+3)) (hX:∀ x,X x→x<τ.y) :
    ∃ po co,zB Try.prog τ' 36 ⟨σ.y+3,0,none⟩=some (.slice po A.length co)∧∃ p' c' τ2,yD Try.prog 36 36 (.slice po A.length co) (.slice (some ⟨τ'.y,0,none⟩) 1 1) (τ'.row (rcd b.kind b.drv b.dut) 3)=some (.slice p' (A++[b]).length c',τ2) ∧
      zQ Try.prog (evL [.pointer (some ⟨σ.y+3,0,none⟩),.slice p' (A++[b]).length c']) τ2 (.store 36 (.tmp 0) (.tmp 1))=some (undef,τ2.own (σ.y+3) [.slice p' (A++[b]).length c'] 1) ∧
      J σ wl rv tv X f (A++[b]) (τ2.own (σ.y+3) [.slice p' (A++[b]).length c'] 1)∧Only (fun x=>¬ X x) τ' (τ2.own (σ.y+3) [.slice p' (A++[b]).length c'] 1):=by
  obtain ⟨po,co,o,hg,hf⟩:=h.out;have hnx:σ.y+5≤τ.y:=by have:=h.nw.lt;omega
  obtain ⟨p',c',τ2,g1,g2,g3,g4⟩:=yMV (yOP b) xMY hg k (xMB b) (by omega) hnx;have el:(A++[b]).length=A.length+1:=by simp
  rw [← el] at g1;have g2':Gr Try.prog τ2 (σ.y+5) 47 3 p' (A++[b]).length c' ((A++[b]).map yOP):=by rw [el,List.map_append];exact g2
  have hpo:∀ x,AtP po x→σ.y+5≤x:=fun x hx=>(hg.bd hx).1
  have O1:Only (AtP po) τ' τ2:=(Only.row τ' _ _).trans' g3 (fun b _ hb=>.inl hb);have o':Own τ' (σ.y+3) [.slice po A.length co] 1:=o.le k;have o2:Own τ2 (σ.y+3) [.slice po A.length co] 1:=O1.own' o' (fun hx=>by have:=hpo _ hx;omega);have hp':∀ x,AtP p' x→σ.y+5≤x:=fun x hx=>(g2'.bd hx).1
  have nkeep:∀ {a:Addr} {cs:List Value},Row τ a cs→a.block<σ.y+3→Row (τ2.own (σ.y+3) [.slice p' (A++[b]).length c'] 1) a cs:=fun hr hlt=>(O1.rw' (hr.le k) (fun hx=>by have:=hpo _ hx;omega)).own (by omega)
  have O2:Only (fun x=>¬ X x) τ' (τ2.own (σ.y+3) [.slice p' (A++[b]).length c'] 1):=by
    refine (O1.mono (T:=fun x=>¬ X x) (fun x _ hx=>hf x hx)).trans' (Only.own (S:=(·=σ.y+3)) (.inr rfl)) ?_
    rintro x _ rfl;exact .inl hX3
  refine ⟨po,co,o'.ld (k:=0) rfl yOW rfl,p',c',τ2,g1,o2.store (k:=0) (vs:=[.slice p' (A++[b]).length c']) rfl yQF rfl (by simp) rfl,⟨?_,nkeep h.wk (by show σ.y<_;omega),nkeep h.ro (by show σ.y+1<_;omega),nkeep h.tr (by show σ.y+2<_;omega), ?_,p',c',o2.put, ?_, ?_⟩,O2⟩
  · exact (n.of_only O1 (fun x hx=>by have:=hpo x hx;show σ.y≤x;omega)).own (by show σ.y≤σ.y+3;omega)
  · exact (O1.own' (h.nw.le k) (fun hx=>by have:=hpo _ hx;omega)).own (by omega)
  · exact g2'.only (Only.own (S:=(·=σ.y+3)) (.inr rfl)) (fun x hx e=>by have:=hp' x hx;omega)
  · intro x hx hXx;rcases g4 x hx with h1 | h1
    · exact hf x h1 hXx
    · have:=hX x hXx;have:=k.y;omega
theorem J.take (h:J σ wl rv tv X f A τ) {i:Nat} (hi:i<6) (s:Std) (hX4:¬ X (σ.y+4)) :
    zQ Try.prog (evL [.pointer (some ⟨σ.y+4,0+Int.toNat (i:Int)*4,none⟩),zLT s]) τ (.store 87 (.tmp 0) (.tmp 1))=some (undef,τ.own (σ.y+4) (stL (upd f i s)) 4) ∧
      J σ wl rv tv X (upd f i s) A (τ.own (σ.y+4) (stL (upd f i s)) 4)∧Only (fun x=>¬ X x) τ (τ.own (σ.y+4) (stL (upd f i s)) 4):=by
  obtain ⟨po,co,o,hg,hf⟩:=h.out;refine ⟨yPZ h.nw hi s,⟨h.new.own (by show σ.y≤σ.y+4;omega),h.wk.own (by show σ.y≠_;omega),h.ro.own (by show σ.y+1≠_;omega),h.tr.own (by show σ.y+2≠_;omega),h.nw.put,po,co,o.own (by omega), ?_,hf⟩, ?_⟩
  · exact hg.only (Only.own (S:=(·=σ.y+4)) (.inr rfl)) (fun x hx e=>by have:=(hg.bd hx).1;omega)
  · exact (Only.own (S:=(·=σ.y+4)) (.inr rfl)).mono (fun x _ e=>by rw [e];exact hX4)
end
def zMM (w:Wk) (k i:Nat) (s:Std) (j:Nat):List Bch:=(List.range j).filterMap fun n=>if holds w n (drQ w k) (dty w i) s then none else some ⟨n,k,i⟩
theorem xSB {w:Wk} {k i:Nat} {s:Std} {j:Nat}:zMM w k i s (j+1)=zMM w k i s j++(if holds w j (drQ w k) (dty w i) s then [] else [⟨j,k,i⟩]):=by
 unfold zMM;rw [List.range_succ,List.filterMap_append];simp only [List.filterMap_cons,List.filterMap_nil];split <;> simp_all
theorem xEN {w:Wk} {k i:Nat} {s:Std} {j:Nat}:(zMM w k i s j).length≤j:=by
 unfold zMM;have:=List.length_filterMap_le (fun n=>if holds w n (drQ w k) (dty w i) s=true then none else some (⟨n,k,i⟩:Bch)) (List.range j);simpa using this
abbrev yCC:List Value:=[.int .u8 0,.func (.func 64) ⟨[]⟩ ⟨[]⟩,.int .u8 1,.func (.func 65) ⟨[]⟩ ⟨[]⟩,.int .u8 2,.func (.func 66) ⟨[]⟩ ⟨[]⟩,.int .u8 3,.func (.func 67) ⟨[]⟩ ⟨[]⟩,.int .u8 4,.func (.func 68) ⟨[]⟩ ⟨[]⟩]
section
variable {σ τ:St} {w:Wk} {p q:Option Addr} {l m c d:Nat} {rv tv:Value} {X:Nat→Prop} {f:Nat→Std} {A:List Bch}
theorem zUU {b j:Nat} (h:Row τ ⟨b,0,none⟩ yCC) (hj:j<5):zB Try.prog τ 98 (zN ⟨b,0,none⟩ (Int.toNat (j:Int)*2))=some (.agg ⟨[.int .u8 (j:Int),.func (.func (64+j)) ⟨[]⟩ ⟨[]⟩]⟩):=by
 rw [Int.toNat_natCast];match j,hj with
 | 0,_=>exact h.loadN (k:=0) yAC zGN rfl rfl (by simp)
 | 1,_=>exact h.loadN (k:=2) yAC zGN rfl rfl (by simp)
 | 2,_=>exact h.loadN (k:=4) yAC zGN rfl rfl (by simp)
 | 3,_=>exact h.loadN (k:=6) yAC zGN rfl rfl (by simp)
 | 4,_=>exact h.loadN (k:=8) yAC zGN rfl rfl (by simp)
theorem xMV {lo B3 bq k i:Nat} (h:WkP σ 69 61 w p l q m) (hsh:uX w) (hm:m≤6) (hk:k<m) (hi:i<l) (hs:StOk (f k)) (hx:DtOk (dty w i)) (hA:A.length≤500)
  (hJ:J σ (wkc w.M p l c q m d w.rest w.run w.j) rv tv X f A τ) (hB:Row τ ⟨B3,0,none⟩ (zF (dty w i).day (dty w i).on (dty w i).lo (dty w i).hi (dty w i).route)) (hq:Row τ ⟨bq,0,none⟩ yCC)
  (hXB:X B3) (hXq:X bq) (hX3:¬ X (σ.y+3)) (hX:∀ x,X x→x<τ.y) :
  zSB lo σ.y (σ.y+2) (σ.y+3) (σ.y+4) (i:Int) B3 (k:Int) (some ⟨bq,0,none⟩) 5 5 0 τ (fun z=>J σ (wkc w.M p l c q m d w.rest w.run w.j) rv tv X f (A++zMM w k i (f k) 5) z∧Only (fun x=>¬ X x) τ z):=by
 refine yIF (Inv:=fun k' i35 z=>∃ j:Nat,i35=j∧j+k'=5∧J σ (wkc w.M p l c q m d w.rest w.run w.j) rv tv X f (A++zMM w k i (f k) j) z∧Only (fun x=>¬ X x) τ z) ?_ 5 0 τ ⟨0,rfl,rfl,by simpa [zMM] using hJ,Only.refl _ _⟩;rintro k' i35 z ⟨j,rfl,hk',hJz,O⟩;by_cases hj:j<5;rotate_left
 ·have:j=5:=by omega
  subst this;exact yVJ ⟨hJz,O⟩ (by omega)
 have hqz:Row z ⟨bq,0,none⟩ yCC:=O.rw' hq (fun hh=>hh hXq);have hBz:=O.rw' hB (fun hh=>hh hXB);obtain ⟨z1,hz1⟩:∃ z1,z1=(z.row [.int .u8 0,.nilFunc] 2).own z.y [.int .u8 (j:Int),.func (.func (64+j)) ⟨[]⟩ ⟨[]⟩] 2:=⟨_,rfl⟩;have L1:Le z z1:=by rw [hz1];exact (Le.row z [.int .u8 0,.nilFunc] 2).own (Nat.le_refl _)
 have N1:New σ.re z1:=by rw [hz1];exact hJz.new.row'.own hJz.new.le.y
 have O1:Only (fun x=>¬ X x) z z1:=by
  have:New z z1:=by rw [hz1];exact (New.row z [.int .u8 0,.nilFunc] 2).own (Nat.le_refl _)
  exact this.only
 have J1:=hJz.le L1 N1;have LS:Le σ z1:=(le0 σ).trans N1.le;have lw:zB Try.prog z1 43 ⟨σ.y,0,none⟩=some (.agg ⟨wkc w.M p l c q m d w.rest w.run w.j⟩):=J1.wk.ldN (k:=0) xS yW (ds:=wkc w.M p l c q m d w.rest w.run w.j) rfl rfl (by simp);have lb:zB Try.prog z1 69 ⟨B3,0,none⟩=some (uO (dty w i)):=(hBz.le L1).ldN (k:=0) zMO uE (ds:=zF (dty w i).day (dty w i).on (dty w i).lo (dty w i).hi (dty w i).route) rfl rfl (by simp);have ls:=yFQ J1.nw (i:=k) (by omega);have ca:=xTS (c:=c) (d:=d) (h.le LS) hsh hk hs hx hj;have es:=xSB (w:=w) (k:=k) (i:=i) (s:=f k) (j:=j);have hcl:=xEN (w:=w) (k:=k) (i:=i) (s:=f k) (j:=j);cases hb:holds w j (drQ w k) (dty w i) (f k) with
 | true =>
  rw [hb] at ca es;rw [if_pos rfl,List.append_nil] at es;rw [hz1] at lw lb ls ca J1 O1;refine yVL (zUU hqz hj) lw lb ls ca ⟨k' - 1,by omega,j+1,by omega,by omega, ?_,O.trans' O1 (fun b _ hb=>.inl hb)⟩ (by omega) (by omega) (by omega) (by omega);rw [es];exact J1
 | false =>
  rw [hb] at ca es;rw [if_neg (by simp)] at es;obtain ⟨po,co,g1,p',c',z2,g2,g3,g4,g5⟩:=hJz.push L1 N1 ⟨j,k,i⟩ (by rw [List.length_append];omega) hX3 (fun x hx=>Nat.lt_of_lt_of_le (hX x hx) O.y);rw [hz1] at lw lb ls ca g1 g2 O1 g5;refine yVK (zUU hqz hj) lw lb ls ca g1 g2 g3 ⟨k' - 1,by omega,j+1,by omega,by omega, ?_,(O.trans' O1 (fun b _ hb=>.inl hb)).trans' g5 (fun b _ hb=>.inl hb)⟩ (by omega) (by omega) (by omega) (by omega);rw [es,← List.append_assoc];exact g4
end
end Go.Proofs.Ytgfiniccfpfplaa
