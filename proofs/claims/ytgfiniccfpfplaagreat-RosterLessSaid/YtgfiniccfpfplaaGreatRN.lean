import Derived.Test.YtgfiniccfpfplaaGreatXE
import Derived.Test.YtgfiniccfpfplaaGreatTy
import Derived.Test.YtgfiniccfpfplaaGreatLayD
set_option linter.unusedVariables false
set_option linter.unusedSimpArgs false
set_option maxRecDepth 20000
namespace Go.Proofs.YtgfiniccfpfplaaGreat
open Go Go.Lay
open Tryz renaming prog → Pg
section
open Go.Sort (swp)
def Cmp (g:FuncId) (gc:List Value) (lt:Rec→Rec→Bool) (V:Rec→Prop):Prop:=∀ (τ:St) (x y:Rec),V x→V y→∃ n:Int,zD Pg g (zEG x::zEG y::gc) τ (iV n) τ∧(n<0↔lt x y=true)
def xQ (V:Rec→Prop) (d:Array Rec):Prop:=∀ i,i<d.size→V d[i]!
theorem yY (d:Array Rec) (i j:Nat):(swp d i j).size=d.size:=by simp [swp]
theorem yZQ (d:Array Rec) (i k:Nat) (x:Rec) (hk:k<d.size):(d.setIfInBounds i x)[k]! = if i=k then x else d[k]! := by
 rw [getElem!_pos _ k (by simpa using hk),getElem!_pos d k hk,Array.getElem_setIfInBounds]
theorem xQ.swp {V:Rec→Prop} {d:Array Rec} (h:xQ V d) {i j:Nat} (hi:i<d.size) (hj:j<d.size):xQ V (swp d i j):=by
 intro k hk;rw [yY] at hk;unfold Go.Sort.swp;rw [yZQ _ _ _ _ (by simpa using hk),yZQ _ _ _ _ hk];split
 ·exact h i hi
 ·split
  ·exact h j hj
  ·exact h k hk
theorem zEA {σ σ':St} {f:FuncId} {args:List Value} {v:Value} (h:zD Pg f args σ v σ'):σ'.low≤σ.low:=by
 obtain ⟨N0,hN0⟩:=h;have hc:=hN0 N0 (Nat.le_refl _);unfold vV at hc;split at hc
 ·cases hc
 ·rename_i v1 s1 h1;unfold vW at hc;rcases Bool.eq_false_or_eq_true (Nat.ble σ.y s1.low && zW RD v1) with e | e
  ·rw [e,cond_true] at hc;simp at hc;rw [← hc.2];exact Nat.le_refl _
  ·rw [e,cond_false] at hc;rcases Bool.eq_false_or_eq_true (Nat.ble σ.y s1.y) with e2 | e2
   ·rw [e2,cond_true,wD,uX] at hc;simp at hc;rw [← hc.2];show min _ _≤_;omega
   ·rw [e2,cond_false] at hc;cases hc
theorem xTQ {σ s:St} {f:FuncId} {args:List Value} {v:Value} (h:∃ N0,∀ N,N0≤N→zX Pg N (.func f) args σ.re=some (v,s)) (h1:σ.y≤s.y) (h2:s.low<σ.y):zD Pg f args σ v ⟨s.heap,s.y,min σ.low s.low⟩:=by
 obtain ⟨N0,hN⟩:=h;refine ⟨N0,fun N hl=>?_⟩
 unfold vV;rw [show (⟨σ.heap,σ.y,σ.y⟩:St)=σ.re from rfl,hN N hl];show vW σ v s=_;unfold vW;have e1:(Nat.ble σ.y s.low && zW RD v)=false:=by
  rw [Bool.and_eq_false_iff];left;rw [Bool.eq_false_iff];intro e;have:=(zV _ _).1 e;omega
 have e2:Nat.ble σ.y s.y=true:=(zV _ _).2 h1;rw [e1,cond_false,e2,cond_true,wD,uX]
structure W (σ τ:St) (b:Nat) (s:Option Nat) (d dk:Array Rec):Prop where
 only:Only (·=b) σ.re τ
 dt:Dt τ b s dk
 low:τ.low≤b∨dk=d
theorem W.start {σ:St} {b:Nat} {s:Option Nat} {d:Array Rec} (h:Dt σ b s d):W σ σ.re b s d d:=⟨Only.refl _ _,h,.inr rfl⟩
theorem W.swap {σ τ:St} {b:Nat} {s:Option Nat} {d dk:Array Rec} (w:W σ τ b s d dk) {i j:Int} (h0:0≤i) (hi:i<(dk.size:Int)) (k0:0≤j) (hj:j<(dk.size:Int)) :
  ∃ τ1 τ2,zQ Pg (evL [.pointer (some (zL ⟨b,0,s⟩ (Int.toNat i*3))),zEG dk[j.toNat]!]) τ (.store 45 (.tmp 0) (.tmp 1))=some (undef,τ1) ∧
   zQ Pg (evL [.pointer (some (zL ⟨b,0,s⟩ (Int.toNat j*3))),zEG dk[i.toNat]!]) τ1 (.store 45 (.tmp 0) (.tmp 1))=some (undef,τ2)∧W σ τ2 b s d (swp dk i.toNat j.toNat):=by
 obtain ⟨τ1,e1,d1,o1,l1⟩:=w.dt.st dk[j.toNat]! h0 hi;obtain ⟨τ2,e2,d2,o2,l2⟩:=d1.st (i:=j) dk[i.toNat]! k0 (by simpa using hj);exact ⟨τ1,τ2,e1,e2,⟨(w.only.trans' o1 (fun b _ h=>.inl h)).trans' o2 (fun b _ h=>.inl h),d2,.inl l2⟩⟩
def uJ (f:FuncId) (args:List Value) (v:Value) (σ:St) (b:Nat) (s:Option Nat) (d d':Array Rec):Prop:=∃ σ',zD Pg f args σ v σ'∧Only (·=b) σ σ'∧Dt σ' b s d'∧(σ'.low≤b∨d'=d)
theorem uJ.of {f:FuncId} {args:List Value} {v:Value} {σ:St} {b:Nat} {s:Option Nat} {d d':Array Rec} (h0:Dt σ b s d) (h:zP Pg f args σ.re fun v' τ=>v'=v∧W σ τ b s d d') (hv:zW RD v=true:=by rfl):uJ f args v σ b s d d':=by
  obtain ⟨_,τ,hN,rfl,w⟩:=h;by_cases hlow:τ.low<σ.y
  · have ho:Only (·=b) σ ⟨τ.heap,τ.y,min σ.low τ.low⟩:=by
      have:=w.only.lower (m:=0);exact this
    refine ⟨_,xTQ hN w.only.y hlow,ho,w.dt, ?_⟩
    rcases w.low with h | h
    · exact .inl (by show min _ _≤_;omega)
    · exact .inr h
  · have hd:d'=d:=by
      rcases w.low with h | h
      · have:=h0.1;omega
      · exact h
    exact ⟨σ,zP.pure ⟨_,τ,hN,rfl,by omega⟩ hv,Only.refl _ _,by rw [hd];exact h0,.inr hd⟩
theorem W.call {σ τ:St} {b:Nat} {s:Option Nat} {d dk d':Array Rec} {f:FuncId} {args:List Value} {v:Value} (w:W σ τ b s d dk) (h:uJ f args v τ b s dk d'):∃ τ',zD Pg f args τ v τ'∧W σ τ' b s d d':=by
 obtain ⟨τ',c,o,dt,hl⟩:=h;refine ⟨τ',c,w.only.trans' o (fun b _ h=>.inl h),dt, ?_⟩
 have:=zEA c;rcases hl with hl | hl
 ·exact .inl hl
 ·rcases w.low with h | h
  ·exact .inl (by omega)
  ·exact .inr (hl.trans h)
section
variable {σ:St} {b c:Nat} {s:Option Nat} {d:Array Rec} {g:FuncId} {gc:List Value} {lt:Rec→Rec→Bool} {V:Rec→Prop}
theorem zMF (lt:Rec→Rec→Bool) (a:Nat):∀ (j:Nat) (d:Array Rec),(Go.Sort.insInner lt a j d).size=d.size
 | 0,d=>rfl
 | j+1,d=>by
  unfold Go.Sort.insInner;split
  ·rw [zMF,yY]
  ·rfl
theorem zPM (lt:Rec→Rec→Bool) (a:Nat) {V:Rec→Prop}:∀ (j:Nat) (d:Array Rec),j<d.size→xQ V d→xQ V (Go.Sort.insInner lt a j d)
 | 0,d,_,h=>h
 | j+1,d,hj,h=>by
  unfold Go.Sort.insInner;split
  ·exact zPM lt a j _ (by rw [yY];omega) (h.swp hj (by omega))
  ·exact h
theorem xVO {a B:Nat} (h:Dt σ b s d) (hc:Cmp g gc lt V) (hv:xQ V d) (hB:B≤d.size) (hn:d.size≤1000000) (ha:a≤1000000) :
  uJ 106 [.slice (some ⟨b,0,s⟩) d.size c,iV (a:Int),iV (B:Int),.func (.func g) ⟨[]⟩ ⟨gc⟩] (.tuple ⟨[]⟩) σ b s d (Go.Sort.insertionSort lt d a B):=by
 refine uJ.of h (yZC (P0:=fun τ=>W σ τ b s d (Go.Sort.insertionSort lt d a B)) (zYT (Inv:=fun k i τ=>∃ (j:Nat) (dk:Array Rec),i=j∧k=B-j∧W σ τ b s d dk∧dk.size=d.size∧xQ V dk∧Go.Sort.insOuter lt a B j dk=Go.Sort.insertionSort lt d a B) ?_ (B-(a+1)) _ σ.re ⟨a+1,d,by omega,rfl,W.start h,rfl,hv,rfl⟩) (fun τ hw=>zYS ⟨rfl,hw⟩) (by omega));rintro k i τ ⟨j,dk,rfl,hk,w,hsz,hall,ht⟩;by_cases hj:j<B;rotate_left
 ·rw [Go.Sort.insOuter,if_neg hj] at ht;exact yNC (by rw [← ht];exact w) (by omega)
 rw [Go.Sort.insOuter,if_pos hj] at ht;refine xKU (P2:=fun τ'=>W σ τ' b s d (Go.Sort.insInner lt a j dk)) (yUG (Inv:=fun k' q' τ'=>∃ (q:Nat) (dq:Array Rec),q'=q∧q=k'∧q≤j∧W σ τ' b s d dq∧dq.size=d.size∧xQ V dq∧Go.Sort.insInner lt a q dq=Go.Sort.insInner lt a j dk) ?_ j _ τ ⟨j,dk,rfl,rfl,Nat.le_refl _,w,hsz,hall,rfl⟩)
  (fun τ' hw=>yUF ⟨k-1,by omega,j+1,_,by omega,by omega,hw,by rw [zMF,hsz],zPM _ _ _ _ (by omega) hall,ht⟩ (by omega)) (by omega)
 rintro k' q' τ' ⟨q,dq,rfl,rfl,hq,w',hsz',hall',ht'⟩;by_cases haq:a<q;rotate_left
 ·refine xKR ?_ (by omega);have e:Go.Sort.insInner lt a q dq=dq:=by
   cases q with
   | zero=>rfl
   | succ q=>unfold Go.Sort.insInner;rw [if_neg (by simp;omega)]
  rw [← ht',e];exact w'
 obtain ⟨p,rfl⟩:∃ p,q=p+1:=⟨q-1,by omega⟩;have l1:=w'.dt.ld (i:=((p+1:Nat):Int)) (by omega) (by omega);have l2:=w'.dt.ld (i:=((p+1:Nat):Int)-1) (by omega) (by omega);have e2:(((p+1:Nat):Int)-1).toNat=p:=by omega
 obtain ⟨n,hn1,hn2⟩:=hc τ' dq[(((p+1:Nat):Int)).toNat]! dq[(((p+1:Nat):Int)-1).toNat]! (hall' _ (by omega)) (hall' _ (by omega));by_cases hlt:n<0
 ·have hl:=hn2.1 hlt;rw [e2,Int.toNat_natCast] at hl;obtain ⟨τ1,τ2,s1,s2,w2⟩:=w'.swap (i:=((p+1:Nat):Int)) (j:=((p+1:Nat):Int)-1) (by omega) (by omega) (by omega) (by omega);rw [e2,Int.toNat_natCast] at w2;refine xKT l1 l2 hn1 s1 s2 ⟨p,by omega,p,_,by omega,rfl,by omega,w2,by rw [yY,hsz'],hall'.swp (by omega) (by omega), ?_⟩ (by omega) (by omega) (by omega) (by omega) (by omega);rw [← ht'];conv=>rhs;unfold Go.Sort.insInner
  rw [if_pos (by simp [hl];omega)]
 ·have hl:lt dq[p+1]! dq[p]! = false:=by
   rw [Bool.eq_false_iff];intro e;have:=hn2.2 (by rw [e2,Int.toNat_natCast];exact e);exact hlt this
  refine xKS l1 l2 hn1 ?_ (by omega) (by omega) (by omega) (by omega) (by omega);have e:Go.Sort.insInner lt a (p+1) dq=dq:=by unfold Go.Sort.insInner;rw [if_neg (by simp [hl])]
  rw [← ht',e];exact w'
end
end
section
open Go.Sort (swp)
section
variable {σ:St} {b c:Nat} {s:Option Nat} {d:Array Rec} {g:FuncId} {gc:List Value} {lt:Rec→Rec→Bool} {V:Rec→Prop}
theorem Cmp.at_ (hc:Cmp g gc lt V) {τ:St} {dk:Array Rec} (hv:xQ V dk) {i j:Nat} (hi:i<dk.size) (hj:j<dk.size):∃ n:Int,zD Tryz.prog g (zEG dk[i]! :: zEG dk[j]! :: gc) τ (iV n) τ∧((n<0∧lt dk[i]! dk[j]! = true)∨(¬ n<0∧lt dk[i]! dk[j]! = false)):=by
 obtain ⟨n,h1,h2⟩:=hc τ dk[i]! dk[j]! (hv i hi) (hv j hj);refine ⟨n,h1, ?_⟩
 by_cases h:n<0
 ·exact .inl ⟨h,h2.1 h⟩
 ·exact .inr ⟨h,by rw [Bool.eq_false_iff];exact fun e=>h (h2.2 e)⟩
theorem Dt.ldN {τ:St} {dk:Array Rec} (h:Dt τ b s dk) {i:Int} {k:Nat} (e:i=(k:Int)) (hk:k<dk.size):zB Tryz.prog τ 45 (zL ⟨b,0,s⟩ (Int.toNat i*3))=some (zEG dk[k]!):=by
 subst e;exact h.ld (by omega) (by omega)
theorem W.swapN {τ:St} {dk:Array Rec} (w:W σ τ b s d dk) {i j:Int} {p q:Nat} (ei:i=(p:Int)) (ej:j=(q:Int)) (hp:p<dk.size) (hq:q<dk.size) :
  ∃ τ1 τ2,zQ Tryz.prog (evL [.pointer (some (zL ⟨b,0,s⟩ (Int.toNat i*3))),zEG dk[q]!]) τ (.store 45 (.tmp 0) (.tmp 1))=some (undef,τ1) ∧
   zQ Tryz.prog (evL [.pointer (some (zL ⟨b,0,s⟩ (Int.toNat j*3))),zEG dk[p]!]) τ1 (.store 45 (.tmp 0) (.tmp 1))=some (undef,τ2)∧W σ τ2 b s d (swp dk p q):=by
 subst ei ej;have:=w.swap (i:=(p:Int)) (j:=(q:Int)) (by omega) (by omega) (by omega) (by omega);simpa only [Int.toNat_natCast] using this
theorem yKI (lt:Rec→Rec→Bool) (hi first root:Nat) (d:Array Rec):Go.Sort.siftDown lt hi first root d=(if 2*root+1 ≥ hi then d else
  if 2*root+1+1<hi && lt d[first+(2*root+1)]! d[first+(2*root+1)+1]! then
   if !lt d[first+root]! d[first+(2*root+2)]! then d else
    if 2*root+2<hi then Go.Sort.siftDown lt hi first (2*root+2) (swp d (first+root) (first+(2*root+2))) else d
  else
   if !lt d[first+root]! d[first+(2*root+1)]! then d else Go.Sort.siftDown lt hi first (2*root+1) (swp d (first+root) (first+(2*root+1)))):=by
 conv=>lhs;unfold Go.Sort.siftDown
 simp only [dite_eq_ite]
theorem zBT (lt:Rec→Rec→Bool) (hi first:Nat):∀ (k root:Nat) (d:Array Rec),hi-root≤k→(Go.Sort.siftDown lt hi first root d).size=d.size
 | 0,root,d,hk=>by unfold Go.Sort.siftDown;rw [dif_pos (by omega)]
 | k+1,root,d,hk=>by
  unfold Go.Sort.siftDown;split
  ·rfl
  ·split
   ·split
    ·rfl
    ·split
     ·rw [zBT lt hi first k _ _ (by omega),yY]
     ·rfl
   ·split
    ·rfl
    ·rw [zBT lt hi first k _ _ (by omega),yY]
theorem zCO (lt:Rec→Rec→Bool) (hi first:Nat) {V:Rec→Prop}:∀ (k root:Nat) (d:Array Rec),hi-root≤k→first+hi≤d.size→xQ V d→xQ V (Go.Sort.siftDown lt hi first root d)
 | 0,root,d,hk,hs,h=>by unfold Go.Sort.siftDown;rw [dif_pos (by omega)];exact h
 | k+1,root,d,hk,hs,h=>by
  unfold Go.Sort.siftDown;split
  ·exact h
  ·rename_i h1;split
   ·split
    ·exact h
    ·split
     ·rename_i h2;exact zCO lt hi first k _ _ (by omega) (by rw [yY];exact hs) (h.swp (by omega) (by omega))
     ·exact h
   ·split
    ·exact h
    ·exact zCO lt hi first k _ _ (by omega) (by rw [yY];exact hs) (h.swp (by omega) (by omega))
theorem yXW {lo hi first:Nat} (h:Dt σ b s d) (hc:Cmp g gc lt V) (hv:xQ V d) (hB:first+hi≤d.size) (hn:d.size≤1000000) (hlo:lo≤1000000) :
  uJ 121 [.slice (some ⟨b,0,s⟩) d.size c,iV (lo:Int),iV (hi:Int),iV (first:Int),.func (.func g) ⟨[]⟩ ⟨gc⟩] (.tuple ⟨[]⟩) σ b s d (Go.Sort.siftDown lt hi first lo d):=by
 refine uJ.of h (xHD (P0:=fun τ=>W σ τ b s d (Go.Sort.siftDown lt hi first lo d)) (Pr:=fun τ=>W σ τ b s d (Go.Sort.siftDown lt hi first lo d)) (yKL (Inv:=fun k i τ=>∃ (r:Nat) (dk:Array Rec),i=r∧k=hi-r∧r≤1000000+2*hi+2∧W σ τ b s d dk∧dk.size=d.size∧xQ V dk∧Go.Sort.siftDown lt hi first r dk=Go.Sort.siftDown lt hi first lo d) ?_ (hi-lo) _ σ.re ⟨lo,d,rfl,rfl,by omega,W.start h,rfl,hv,rfl⟩) (fun τ hw=>yKK ⟨rfl,hw⟩) (fun τ hw=>yKJ ⟨rfl,hw⟩));rintro k i τ ⟨r,dk,rfl,hk,hr,w,hsz,hall,ht⟩;by_cases h1:2*r+1 ≥ hi
 ·have e:Go.Sort.siftDown lt hi first r dk=dk:=by unfold Go.Sort.siftDown;rw [dif_pos h1]
  exact xAX (by rw [← ht,e];exact w) (by omega) (by omega) (by omega)
 have e0:=yKI lt hi first r dk
 rw [if_neg h1] at e0;have bR:first+r<dk.size:=by omega
 have bC:first+(2*r+1)<dk.size:=by omega
 have lR:=w.dt.ldN (i:=(first:Int)+(r:Int)) (k:=first+r) (by omega) bR;have lC:=w.dt.ldN (i:=(first:Int)+(2*(r:Int)+1)) (k:=first+(2*r+1)) (by omega) bC;obtain ⟨nC,cC,hC⟩:=hc.at_ (τ:=τ) hall bR bC;by_cases h2:2*r+1+1<hi
 ·have bD:first+(2*r+2)<dk.size:=by omega
  have lD1:=w.dt.ldN (i:=(first:Int)+(2*(r:Int)+1)+1) (k:=first+(2*r+2)) (by omega) bD;have lD2:=w.dt.ldN (i:=(first:Int)+(2*(r:Int)+1+1)) (k:=first+(2*r+2)) (by omega) bD;obtain ⟨n1,c1,hc1⟩:=hc.at_ (τ:=τ) hall bC bD;obtain ⟨n2,c2,hc2⟩:=hc.at_ (τ:=τ) hall bR bD;have eD:first+(2*r+1)+1=first+(2*r+2):=by omega
  rcases hc1 with ⟨m1,l1⟩ | ⟨m1,l1⟩
  ·rw [if_pos (by simp [h2,eD,l1])] at e0;rcases hc2 with ⟨m2,l2⟩ | ⟨m2,l2⟩
   ·rw [if_neg (by simp [l2]),if_pos (by omega)] at e0;obtain ⟨τ1,τ2,s1,s2,w2⟩:=w.swapN (i:=(first:Int)+(r:Int)) (j:=(first:Int)+(2*(r:Int)+1+1)) (p:=first+r) (q:=first+(2*r+2)) (by omega) (by omega) bR bD;exact xAW lC lD1 c1 lR lD2 c2 s1 s2 ⟨hi-(2*r+2),by omega,2*r+2,_,by omega,rfl,by omega,w2,by rw [yY,hsz],hall.swp bR bD,by rw [← e0,ht]⟩ (by omega) (by omega) (by omega) (by omega) (by omega) (by omega) (by omega) (by omega) (by omega) (by omega) (by omega) (by omega) (by omega) (by omega) (by omega)
   ·rw [if_pos (by simp [l2])] at e0;exact xAV lC lD1 c1 lR lD2 c2 (by rw [← ht,e0];exact w)
  ·rw [if_neg (by simp [eD,l1])] at e0;rcases hC with ⟨m2,l2⟩ | ⟨m2,l2⟩
   ·rw [if_neg (by simp [l2])] at e0;obtain ⟨τ1,τ2,s1,s2,w2⟩:=w.swapN (i:=(first:Int)+(r:Int)) (j:=(first:Int)+(2*(r:Int)+1)) (p:=first+r) (q:=first+(2*r+1)) (by omega) (by omega) bR bC;exact xAU lC lD1 c1 lR cC s1 s2 ⟨hi-(2*r+1),by omega,2*r+1,_,by omega,rfl,by omega,w2,by rw [yY,hsz],hall.swp bR bC,by rw [← e0,ht]⟩
   ·rw [if_pos (by simp [l2])] at e0;exact xAT lC lD1 c1 lR cC (by rw [← ht,e0];exact w)
 ·rw [if_neg (by simp [show ¬ 2*r+1+1<hi from h2])] at e0;rcases hC with ⟨m2,l2⟩ | ⟨m2,l2⟩
  ·rw [if_neg (by simp [l2])] at e0;obtain ⟨τ1,τ2,s1,s2,w2⟩:=w.swapN (i:=(first:Int)+(r:Int)) (j:=(first:Int)+(2*(r:Int)+1)) (p:=first+r) (q:=first+(2*r+1)) (by omega) (by omega) bR bC;exact xAS lR lC cC s1 s2 ⟨hi-(2*r+1),by omega,2*r+1,_,by omega,rfl,by omega,w2,by rw [yY,hsz],hall.swp bR bC,by rw [← e0,ht]⟩
  ·rw [if_pos (by simp [l2])] at e0;exact xAR lR lC cC (by rw [← ht,e0];exact w)
end
end
section
open Go.Sort (swp)
section
variable {σ:St} {b c:Nat} {s:Option Nat} {d:Array Rec} {g:FuncId} {gc:List Value} {lt:Rec→Rec→Bool} {V:Rec→Prop}
theorem xRK {a B:Nat} (h:Dt σ b s d) (hc:Cmp g gc lt V) (hv:xQ V d) (ha:a≤B) (hB:B≤d.size) (hn:d.size≤1000000) :
  uJ 107 [.slice (some ⟨b,0,s⟩) d.size c,iV (a:Int),iV (B:Int),.func (.func g) ⟨[]⟩ ⟨gc⟩] (.tuple ⟨[]⟩) σ b s d (Go.Sort.heapSort lt d a B):=by
 have e1:Int.tdiv (((B:Int)-(a:Int))-1) 2=(((B-a-1) / 2:Nat):Int):=by
  by_cases h0:B=a
  ·subst h0;have:((B:Int)-(B:Int))-1=-1:=by omega
   rw [this];have:B-B-1=0:=by omega
   rw [this];rfl
  ·rw [Int.tdiv_eq_ediv_of_nonneg (by omega)];omega
 have e2:(B:Int)-(a:Int)=((B-a:Nat):Int):=by omega
 refine uJ.of h (xLP (by rw [← vU,e1,zWC (by omega) (by omega)]) (P0:=fun τ=>∃ dk,W σ τ b s d dk∧dk.size=d.size∧xQ V dk∧Go.Sort.heapPop lt a (B-a) dk=Go.Sort.heapSort lt d a B)
  (yNN (Inv:=fun k i τ=>∃ dk,i=(k:Int)-1∧k≤(B-a-1) / 2+1∧W σ τ b s d dk∧dk.size=d.size∧xQ V dk∧Go.Sort.heapPop lt a (B-a) (Go.Sort.heapBuild lt (B-a) a k dk)=Go.Sort.heapSort lt d a B) ?_ ((B-a-1) / 2+1) _ σ.re ⟨d,by rw [e1];omega,by omega,W.start h,rfl,hv,rfl⟩) ?_)
 ·rintro k i τ ⟨dk,rfl,hk,w,hsz,hall,ht⟩;cases k with
  | zero=>exact xEB ⟨dk,w,hsz,hall,ht⟩ (by omega)
  | succ k =>
   have hs:=yXW (c:=c) (lo:=k) (hi:=B-a) (first:=a) w.dt hc hall (by omega) (by omega) (by omega);obtain ⟨τ',k1,w'⟩:=w.call hs;rw [hsz] at k1;rw [← e2] at k1;rw [show ((k+1:Nat):Int)-1=(k:Int) by omega];exact xEC k1 ⟨k,by omega,_,by omega,by omega,w',by rw [zBT lt _ _ _ _ _ (Nat.le_refl _),hsz],zCO lt _ _ _ _ _ (Nat.le_refl _) (by omega) hall,ht⟩ (by omega)
 ·rintro τ ⟨dk0,w0,hsz0,hall0,ht0⟩;refine yNL (P2:=fun τ=>W σ τ b s d (Go.Sort.heapSort lt d a B)) (yNM (Inv:=fun k i τ=>∃ dk,i=(k:Int)-1∧k≤B-a∧W σ τ b s d dk∧dk.size=d.size∧xQ V dk∧Go.Sort.heapPop lt a k dk=Go.Sort.heapSort lt d a B) ?_ (B-a) _ τ ⟨dk0,by omega,Nat.le_refl _,w0,hsz0,hall0,ht0⟩) (fun τ hw=>yNK ⟨rfl,hw⟩) (by omega);rintro k i τ ⟨dk,rfl,hk,w,hsz,hall,ht⟩;cases k with
  | zero=>exact xDZ (by rw [← ht];exact w) (by omega)
  | succ k =>
   have b1:a+k<dk.size:=by omega
   have b2:a<dk.size:=by omega
   rw [show ((k+1:Nat):Int)-1=(k:Int) by omega];have l1:=w.dt.ldN (i:=(a:Int)+(k:Int)) (k:=a+k) (by omega) b1;have l2:=w.dt.ldN (i:=(a:Int)) (k:=a) rfl b2;obtain ⟨τ1,τ2,s1,s2,w2⟩:=w.swapN (i:=(a:Int)) (j:=(a:Int)+(k:Int)) (p:=a) (q:=a+k) rfl (by omega) b2 b1;have hall2:=hall.swp b2 b1;have hs:=yXW (c:=c) (lo:=0) (hi:=k) (first:=a) w2.dt hc hall2 (by rw [yY];omega) (by rw [yY];omega) (by omega);obtain ⟨τ',k1,w'⟩:=w2.call hs;rw [yY,hsz] at k1;exact xEA l1 l2 s1 s2 k1 ⟨k,by omega,_,by omega,by omega,w',by rw [zBT lt _ _ _ _ _ (Nat.le_refl _),yY,hsz],zCO lt _ _ _ _ _ (Nat.le_refl _) (by rw [yY];omega) hall2,ht⟩ (by omega) (by omega) (by omega) (by omega)
theorem xVC {a B dA:Nat} (h:Dt σ b s d) (hc:Cmp g gc lt V) (hv:xQ V d) (ha:a≤dA) (hp:dA<B) (hB:B≤d.size) (hn:d.size≤1000000) :
  uJ 113 [.slice (some ⟨b,0,s⟩) d.size c,iV (a:Int),iV (B:Int),iV (dA:Int),.func (.func g) ⟨[]⟩ ⟨gc⟩] (.tuple ⟨[iV ((Go.Sort.partition lt d a B dA).1:Int),.bool (Go.Sort.partition lt d a B dA).2.1]⟩) σ b s d (Go.Sort.partition lt d a B dA).2.2:=by
 have w0:=W.start h;obtain ⟨τ1,τ2,s1,s2,w1⟩:=w0.swapN (i:=(a:Int)) (j:=(dA:Int)) (p:=a) (q:=dA) rfl rfl (by omega) (by omega);obtain ⟨d1,hd1⟩:∃ d1,d1=swp d a dA:=⟨_,rfl⟩;have hall1:xQ V d1:=by rw [hd1];exact hv.swp (by omega) (by omega)
 have hsz1:d1.size=d.size:=by rw [hd1,yY]
 rw [← hd1] at w1;have l0:=w0.dt.ldN (i:=(dA:Int)) (k:=dA) rfl (by omega);have l0':=w0.dt.ldN (i:=(a:Int)) (k:=a) rfl (by omega);obtain ⟨i1,hi1⟩:∃ i1,i1=Go.Sort.scanUp (fun x=>lt x d1[a]!) d1 (B-1) (a+1):=⟨_,rfl⟩;obtain ⟨j1,hj1⟩:∃ j1,j1=Go.Sort.scanDown (fun x=>!lt x d1[a]!) d1 i1 (B-1):=⟨_,rfl⟩;have hres:Go.Sort.partition lt d a B dA=if i1 > j1 then (j1,true,swp d1 j1 a) else ((Go.Sort.partLoop lt a (i1+1) (j1-1) (swp d1 i1 j1)).1,false,swp (Go.Sort.partLoop lt a (i1+1) (j1-1) (swp d1 i1 j1)).2 (Go.Sort.partLoop lt a (i1+1) (j1-1) (swp d1 i1 j1)).1 a):=by
  unfold Go.Sort.partition;simp only [← hd1,← hi1,← hj1]
 refine uJ.of h (xQM l0 l0' s1 s2 (P0:=fun i τ=>i=(i1:Int)∧a+1≤i1∧i1≤B∧W σ τ b s d d1)
  (yTJ (Inv:=fun k i τ=>∃ p:Nat,i=p∧p+k=B∧a+1≤p∧W σ τ b s d d1∧Go.Sort.scanUp (fun x=>lt x d1[a]!) d1 (B-1) p=i1) ?_ (B-(a+1)) _ τ2 ⟨a+1,by omega,by omega,by omega,w1,hi1.symm⟩) ?_)
 ·rintro k i τ ⟨p,rfl,hk,hap,w,ht⟩;by_cases hpj:p≤B-1;rotate_left
  ·rw [Go.Sort.scanUp,if_neg (by simp;omega)] at ht;exact xIY ⟨by rw [ht],by omega,by omega,w⟩ (by omega)
  have lp:=w.dt.ldN (i:=(p:Int)) (k:=p) rfl (by omega);have la:=w.dt.ldN (i:=(a:Int)) (k:=a) rfl (by omega);obtain ⟨n,cn,⟨m1,hl⟩ | ⟨m1,hl⟩⟩:=hc.at_ (τ:=τ) hall1 (i:=p) (j:=a) (by omega) (by omega)
  ·rw [Go.Sort.scanUp,if_pos (by simp [hl];omega)] at ht;exact xJA lp la cn ⟨k-1,by omega,p+1,by omega,by omega,by omega,w,ht⟩
  ·rw [Go.Sort.scanUp,if_neg (by simp [hl])] at ht;exact xIZ lp la cn ⟨by rw [ht],by omega,by omega,w⟩
 rintro i τ ⟨rfl,hai,hiB,w⟩;refine yTE (P2:=fun j τ=>j=(j1:Int)∧j1<B∧i1≤j1+1∧W σ τ b s d d1)
  (yTI (Inv:=fun k j τ=>∃ q:Nat,j=q∧q=k∧q<B∧i1≤q+1∧W σ τ b s d d1∧Go.Sort.scanDown (fun x=>!lt x d1[a]!) d1 i1 q=j1) ?_ (B-1) _ τ ⟨B-1,by omega,rfl,by omega,by omega,w,hj1.symm⟩) ?_
 ·rintro k j τ ⟨q,rfl,rfl,hqB,hiq,w,ht⟩;by_cases hij:i1≤q;rotate_left
  ·have e:j1=q:=by
    cases q with
    | zero=>rw [← ht];rfl
    | succ q=>rw [← ht,Go.Sort.scanDown,if_neg (by simp;omega)]
   exact xIV ⟨by rw [e],by omega,by omega,w⟩ (by omega)
  obtain ⟨q',rfl⟩:∃ q',q=q'+1:=⟨q-1,by omega⟩;have lp:=w.dt.ldN (i:=((q'+1:Nat):Int)) (k:=q'+1) rfl (by omega);have la:=w.dt.ldN (i:=(a:Int)) (k:=a) rfl (by omega);obtain ⟨n,cn,⟨m1,hl⟩ | ⟨m1,hl⟩⟩:=hc.at_ (τ:=τ) hall1 (i:=q'+1) (j:=a) (by omega) (by omega)
  ·rw [Go.Sort.scanDown,if_neg (by simp [hl])] at ht;exact xIX lp la cn ⟨by rw [ht],by omega,by omega,w⟩
  ·rw [Go.Sort.scanDown,if_pos (by simp [hl];omega)] at ht;exact xIW lp la cn ⟨q',by omega,q',by omega,rfl,by omega,by omega,w,ht⟩
 rintro j τ ⟨rfl,hjB,hij1,w⟩;by_cases hgt:i1 > j1
 ·rw [if_pos hgt] at hres;have lj:=w.dt.ldN (i:=(j1:Int)) (k:=j1) rfl (by omega);have la:=w.dt.ldN (i:=(a:Int)) (k:=a) rfl (by omega);obtain ⟨τ3,τ4,t1,t2,w4⟩:=w.swapN (i:=(j1:Int)) (j:=(a:Int)) (p:=j1) (q:=a) rfl rfl (by omega) (by omega);exact yTD la lj t1 t2 ⟨by rw [hres],by rw [hres];exact w4⟩
 rw [if_neg hgt] at hres;have lj:=w.dt.ldN (i:=(j1:Int)) (k:=j1) rfl (by omega);have li:=w.dt.ldN (i:=(i1:Int)) (k:=i1) rfl (by omega);obtain ⟨τ3,τ4,t1,t2,w4⟩:=w.swapN (i:=(i1:Int)) (j:=(j1:Int)) (p:=i1) (q:=j1) rfl rfl (by omega) (by omega);obtain ⟨R,hR⟩:∃ R,R=Go.Sort.partLoop lt a (i1+1) (j1-1) (swp d1 i1 j1):=⟨_,rfl⟩;rw [← hR] at hres;have hall4:=hall1.swp (i:=i1) (j:=j1) (by omega) (by omega);refine yTC lj li t1 t2 (P4:=fun j τ=>j=(R.1:Int)∧R.1<B∧a≤R.1∧R.2.size=d.size∧W σ τ b s d R.2)
  (yTH (Inv:=fun k i j τ=>∃ (p q:Nat) (dk:Array Rec),i=p∧j=q∧k=q+1-p∧a+1≤p∧q<B∧a≤q∧p≤q+2∧dk.size=d.size∧xQ V dk∧W σ τ b s d dk∧Go.Sort.partLoop lt a p q dk=R) ?_ (j1-1+1-(i1+1)) _ _ τ4 ⟨i1+1,j1-1,_,by omega,by omega,rfl,by omega,by omega,by omega,by omega,by rw [yY,hsz1],hall4,w4,hR.symm⟩) ?_
 rotate_left
 ·rintro j τ ⟨rfl,hRB,hRa,hRs,w⟩;have lj:=w.dt.ldN (i:=(R.1:Int)) (k:=R.1) rfl (by omega);have la:=w.dt.ldN (i:=(a:Int)) (k:=a) rfl (by omega);obtain ⟨τ5,τ6,t1,t2,w6⟩:=w.swapN (i:=(R.1:Int)) (j:=(a:Int)) (p:=R.1) (q:=a) rfl rfl (by omega) (by omega);exact yTB la lj t1 t2 ⟨by rw [hres],by rw [hres];exact w6⟩
 rintro k i j τ ⟨p,q,dk,rfl,rfl,hk,hap,hqB,haq,hpq,hsz,hall,w,ht⟩;obtain ⟨i2,hi2⟩:∃ i2,i2=Go.Sort.scanUp (fun x=>lt x dk[a]!) dk q p:=⟨_,rfl⟩;obtain ⟨j2,hj2⟩:∃ j2,j2=Go.Sort.scanDown (fun x=>!lt x dk[a]!) dk i2 q:=⟨_,rfl⟩;have hstep:Go.Sort.partLoop lt a p q dk=if i2 > j2 then (j2,dk) else if (j2-1)+1-(i2+1)<q+1-p then Go.Sort.partLoop lt a (i2+1) (j2-1) (swp dk i2 j2) else (j2,dk):=by
  conv=>lhs;unfold Go.Sort.partLoop
  simp only [dite_eq_ite,← hi2,← hj2]
 refine xIU (P6:=fun i τ=>i=(i2:Int)∧p≤i2∧i2≤q+2∧(i2≤q+1∨i2=p)∧W σ τ b s d dk)
  (yTG (Inv:=fun k i τ=>∃ u:Nat,i=u∧u+k=q+2∧p≤u∧(u≤q+1∨u=p)∧W σ τ b s d dk∧Go.Sort.scanUp (fun x=>lt x dk[a]!) dk q u=i2) ?_ (q+2-p) _ τ ⟨p,rfl,by omega,Nat.le_refl _,.inr rfl,w,hi2.symm⟩) ?_
 ·rintro k i τ ⟨u,rfl,hk,hpu,huq,w,ht⟩;by_cases hpj:u≤q;rotate_left
  ·rw [Go.Sort.scanUp,if_neg (by simp;omega)] at ht;exact xIR ⟨by rw [ht],by omega,by omega,by omega,w⟩ (by omega)
  have lp:=w.dt.ldN (i:=(u:Int)) (k:=u) rfl (by omega);have la:=w.dt.ldN (i:=(a:Int)) (k:=a) rfl (by omega);obtain ⟨n,cn,⟨m1,hl⟩ | ⟨m1,hl⟩⟩:=hc.at_ (τ:=τ) hall (i:=u) (j:=a) (by omega) (by omega)
  ·rw [Go.Sort.scanUp,if_pos (by simp [hl];omega)] at ht;exact xIT lp la cn ⟨k-1,by omega,u+1,by omega,by omega,by omega,by omega,w,ht⟩
  ·rw [Go.Sort.scanUp,if_neg (by simp [hl])] at ht;exact xIS lp la cn ⟨by rw [ht],by omega,by omega,by omega,w⟩
 rintro i τ ⟨rfl,hpi,hiq,hiq2,w⟩;refine yTA (P8:=fun j τ=>j=(j2:Int)∧j2≤q∧(i2≤j2+1∨j2=q)∧W σ τ b s d dk)
  (yTF (Inv:=fun k j τ=>∃ v:Nat,j=v∧v=k∧v≤q∧(i2≤v+1∨v=q)∧W σ τ b s d dk∧Go.Sort.scanDown (fun x=>!lt x dk[a]!) dk i2 v=j2) ?_ q _ τ ⟨q,rfl,rfl,Nat.le_refl _,.inr rfl,w,hj2.symm⟩) ?_
 ·rintro k j τ ⟨v,rfl,rfl,hvq,hiv,w,ht⟩;by_cases hij:i2≤v;rotate_left
  ·have e:j2=v:=by
    cases v with
    | zero=>rw [← ht];rfl
    | succ v=>rw [← ht,Go.Sort.scanDown,if_neg (by simp;omega)]
   exact xIO ⟨by rw [e],by omega,by omega,w⟩ (by omega)
  obtain ⟨v',rfl⟩:∃ v',v=v'+1:=⟨v-1,by omega⟩;have lp:=w.dt.ldN (i:=((v'+1:Nat):Int)) (k:=v'+1) rfl (by omega);have la:=w.dt.ldN (i:=(a:Int)) (k:=a) rfl (by omega);obtain ⟨n,cn,⟨m1,hl⟩ | ⟨m1,hl⟩⟩:=hc.at_ (τ:=τ) hall (i:=v'+1) (j:=a) (by omega) (by omega)
  ·rw [Go.Sort.scanDown,if_neg (by simp [hl])] at ht;exact xIQ lp la cn ⟨by rw [ht],by omega,by omega,w⟩
  ·rw [Go.Sort.scanDown,if_pos (by simp [hl];omega)] at ht;exact xIP lp la cn ⟨v',by omega,v',by omega,rfl,by omega,by omega,w,ht⟩
 rintro j τ ⟨rfl,hjq,hij2,w⟩;by_cases hgt:i2 > j2
 ·rw [if_pos hgt] at hstep;have e:R=(j2,dk):=by rw [← ht,hstep]
  exact ySZ ⟨by rw [e],by rw [e];show j2<B;omega,by rw [e];show a≤j2;omega,by rw [e];exact hsz,by rw [e];exact w⟩ (by omega)
 rw [if_neg hgt,if_pos (by omega)] at hstep;have lj:=w.dt.ldN (i:=(j2:Int)) (k:=j2) rfl (by omega);have li:=w.dt.ldN (i:=(i2:Int)) (k:=i2) rfl (by omega);obtain ⟨τ5,τ6,t1,t2,w6⟩:=w.swapN (i:=(i2:Int)) (j:=(j2:Int)) (p:=i2) (q:=j2) rfl rfl (by omega) (by omega);exact ySY lj li t1 t2 ⟨j2-1+1-(i2+1),by omega,i2+1,j2-1,_,by omega,by omega,rfl,by omega,by omega,by omega,by omega,by rw [yY,hsz],hall.swp (by omega) (by omega),w6,by rw [← hstep,ht]⟩
end
end
section
open Go.Sort (swp)
section
variable {σ:St} {b c:Nat} {s:Option Nat} {d:Array Rec} {g:FuncId} {gc:List Value} {lt:Rec→Rec→Bool} {V:Rec→Prop}
theorem xJG {a B dA:Nat} (h:Dt σ b s d) (hc:Cmp g gc lt V) (hv:xQ V d) (ha:a≤dA) (hp:dA<B) (hB:B≤d.size) (hn:d.size≤1000000) :
  uJ 112 [.slice (some ⟨b,0,s⟩) d.size c,iV (a:Int),iV (B:Int),iV (dA:Int),.func (.func g) ⟨[]⟩ ⟨gc⟩] (iV ((Go.Sort.partitionEqual lt d a B dA).1:Int)) σ b s d (Go.Sort.partitionEqual lt d a B dA).2:=by
 have w0:=W.start h;obtain ⟨τ1,τ2,s1,s2,w1⟩:=w0.swapN (i:=(a:Int)) (j:=(dA:Int)) (p:=a) (q:=dA) rfl rfl (by omega) (by omega);have l0:=w0.dt.ldN (i:=(dA:Int)) (k:=dA) rfl (by omega);have l0':=w0.dt.ldN (i:=(a:Int)) (k:=a) rfl (by omega);obtain ⟨R,hR⟩:∃ R,R=Go.Sort.partitionEqual lt d a B dA:=⟨_,rfl⟩;rw [← hR];refine uJ.of h (xDH l0 l0' s1 s2 (P0:=fun i τ=>i=(R.1:Int)∧W σ τ b s d R.2)
  (yHR (Inv:=fun k i j τ=>∃ (p q:Nat) (dk:Array Rec),i=p∧j=q∧k=q+1-p∧a+1≤p∧q<B∧a≤q∧p≤q+2∧dk.size=d.size∧xQ V dk∧W σ τ b s d dk∧Go.Sort.partEqLoop lt a p q dk=R) ?_ (B-1+1-(a+1)) _ _ τ2 ⟨a+1,B-1,_,by omega,by omega,rfl,by omega,by omega,by omega,by omega,yY _ _ _,hv.swp (by omega) (by omega),w1,by rw [hR];rfl⟩)
  (fun i τ h=>yHO ⟨by rw [h.1],h.2⟩))
 rintro k i j τ ⟨p,q,dk,rfl,rfl,hk,hap,hqB,haq,hpq,hsz,hall,w,ht⟩;obtain ⟨i2,hi2⟩:∃ i2,i2=Go.Sort.scanUp (fun x=>!lt dk[a]! x) dk q p:=⟨_,rfl⟩;obtain ⟨j2,hj2⟩:∃ j2,j2=Go.Sort.scanDown (fun x=>lt dk[a]! x) dk i2 q:=⟨_,rfl⟩;have hstep:Go.Sort.partEqLoop lt a p q dk=if i2 > j2 then (i2,dk) else if (j2-1)+1-(i2+1)<q+1-p then Go.Sort.partEqLoop lt a (i2+1) (j2-1) (swp dk i2 j2) else (i2,dk):=by
  conv=>lhs;unfold Go.Sort.partEqLoop
  simp only [dite_eq_ite,← hi2,← hj2]
 refine yTR (P2:=fun i τ=>i=(i2:Int)∧p≤i2∧i2≤q+2∧(i2≤q+1∨i2=p)∧W σ τ b s d dk)
  (yHQ (Inv:=fun k i τ=>∃ u:Nat,i=u∧u+k=q+2∧p≤u∧(u≤q+1∨u=p)∧W σ τ b s d dk∧Go.Sort.scanUp (fun x=>!lt dk[a]! x) dk q u=i2) ?_ (q+2-p) _ τ ⟨p,rfl,by omega,Nat.le_refl _,.inr rfl,w,hi2.symm⟩) ?_
 ·rintro k i τ ⟨u,rfl,hk,hpu,huq,w,ht⟩;by_cases hpj:u≤q;rotate_left
  ·rw [Go.Sort.scanUp,if_neg (by simp;omega)] at ht;exact yTO ⟨by rw [ht],by omega,by omega,by omega,w⟩ (by omega)
  have lp:=w.dt.ldN (i:=(u:Int)) (k:=u) rfl (by omega);have la:=w.dt.ldN (i:=(a:Int)) (k:=a) rfl (by omega);obtain ⟨n,cn,⟨m1,hl⟩ | ⟨m1,hl⟩⟩:=hc.at_ (τ:=τ) hall (i:=a) (j:=u) (by omega) (by omega)
  ·rw [Go.Sort.scanUp,if_neg (by simp [hl])] at ht;exact yTQ la lp cn ⟨by rw [ht],by omega,by omega,by omega,w⟩
  ·rw [Go.Sort.scanUp,if_pos (by simp [hl];omega)] at ht;exact yTP la lp cn ⟨k-1,by omega,u+1,by omega,by omega,by omega,by omega,w,ht⟩
 rintro i τ ⟨rfl,hpi,hiq,hiq2,w⟩;refine yHN (P4:=fun j τ=>j=(j2:Int)∧j2≤q∧(i2≤j2+1∨j2=q)∧W σ τ b s d dk)
  (yHP (Inv:=fun k j τ=>∃ v:Nat,j=v∧v=k∧v≤q∧(i2≤v+1∨v=q)∧W σ τ b s d dk∧Go.Sort.scanDown (fun x=>lt dk[a]! x) dk i2 v=j2) ?_ q _ τ ⟨q,rfl,rfl,Nat.le_refl _,.inr rfl,w,hj2.symm⟩) ?_
 ·rintro k j τ ⟨v,rfl,rfl,hvq,hiv,w,ht⟩;by_cases hij:i2≤v;rotate_left
  ·have e:j2=v:=by
    cases v with
    | zero=>rw [← ht];rfl
    | succ v=>rw [← ht,Go.Sort.scanDown,if_neg (by simp;omega)]
   exact yTL ⟨by rw [e],by omega,by omega,w⟩ (by omega)
  obtain ⟨v',rfl⟩:∃ v',v=v'+1:=⟨v-1,by omega⟩;have lp:=w.dt.ldN (i:=((v'+1:Nat):Int)) (k:=v'+1) rfl (by omega);have la:=w.dt.ldN (i:=(a:Int)) (k:=a) rfl (by omega);obtain ⟨n,cn,⟨m1,hl⟩ | ⟨m1,hl⟩⟩:=hc.at_ (τ:=τ) hall (i:=a) (j:=v'+1) (by omega) (by omega)
  ·rw [Go.Sort.scanDown,if_pos (by simp [hl];omega)] at ht;exact yTN la lp cn ⟨v',by omega,v',by omega,rfl,by omega,by omega,w,ht⟩
  ·rw [Go.Sort.scanDown,if_neg (by simp [hl])] at ht;exact yTM la lp cn ⟨by rw [ht],by omega,by omega,w⟩
 rintro j τ ⟨rfl,hjq,hij2,w⟩;by_cases hgt:i2 > j2
 ·rw [if_pos hgt] at hstep;have e:R=(i2,dk):=by rw [← ht,hstep]
  exact yHM ⟨by rw [e],by rw [e];exact w⟩ (by omega)
 rw [if_neg hgt,if_pos (by omega)] at hstep;have lj:=w.dt.ldN (i:=(j2:Int)) (k:=j2) rfl (by omega);have li:=w.dt.ldN (i:=(i2:Int)) (k:=i2) rfl (by omega);obtain ⟨τ5,τ6,t1,t2,w6⟩:=w.swapN (i:=(i2:Int)) (j:=(j2:Int)) (p:=i2) (q:=j2) rfl rfl (by omega) (by omega);exact yHL lj li t1 t2 ⟨j2-1+1-(i2+1),by omega,i2+1,j2-1,_,by omega,by omega,rfl,by omega,by omega,by omega,by omega,by rw [yY,hsz],hall.swp (by omega) (by omega),w6,by rw [← hstep,ht]⟩
theorem zIL (lt:Rec→Rec→Bool):∀ (j:Nat) (d:Array Rec),(Go.Sort.shiftDown lt j d).size=d.size
 | 0,d=>rfl
 | j+1,d=>by
  unfold Go.Sort.shiftDown;split
  ·rfl
  ·rw [zIL,yY]
theorem zLZ (lt:Rec→Rec→Bool) {V:Rec→Prop}:∀ (j:Nat) (d:Array Rec),j<d.size→xQ V d→xQ V (Go.Sort.shiftDown lt j d)
 | 0,d,_,h=>h
 | j+1,d,hj,h=>by
  unfold Go.Sort.shiftDown;split
  ·exact h
  ·exact zLZ lt j _ (by rw [yY];omega) (h.swp hj (by omega))
theorem zCI (lt:Rec→Rec→Bool) {V:Rec→Prop} {B:Nat}:∀ (k j:Nat) (d:Array Rec),B-j≤k→1≤j→B≤d.size→xQ V d→(Go.Sort.shiftUp lt B j d).size=d.size∧xQ V (Go.Sort.shiftUp lt B j d)
 | 0,j,d,hk,hj,hB,h=>by rw [Go.Sort.shiftUp,if_neg (by omega)];exact ⟨rfl,h⟩
 | k+1,j,d,hk,hj,hB,h=>by
  rw [Go.Sort.shiftUp];split
  ·split
   ·exact ⟨rfl,h⟩
   ·have:=zCI lt (V:=V) (B:=B) k (j+1) (swp d j (j-1)) (by omega) (by omega) (by rw [yY];exact hB) (h.swp (by omega) (by omega));rw [yY] at this;exact this
  ·exact ⟨rfl,h⟩
theorem zMA (lt:Rec→Rec→Bool) (d:Array Rec) (B:Nat):∀ (k i:Nat),B-i≤k→i≤B→i≤Go.Sort.scanSorted lt d B i∧Go.Sort.scanSorted lt d B i≤B
 | 0,i,hk,hi=>by rw [Go.Sort.scanSorted,if_neg (by simp;omega)];omega
 | k+1,i,hk,hi=>by
  rw [Go.Sort.scanSorted];split
  ·rename_i h;have:i<B:=by simp at h;exact h.1
   have:=zMA lt d B k (i+1) (by omega) (by omega);omega
  ·omega
theorem yTK {a B i10:Int} {x i:Nat} {τ:St} {dk:Array Rec} (hc:Cmp g gc lt V) (w:W σ τ b s d dk) (hsz:dk.size=d.size) (hall:xQ V dk) (hx:x<d.size) (hn:d.size≤1000000) :
  zXX ⟨b,0,s⟩ d.size c a B g gc (i:Int) i10 (x:Int) τ (fun τ'=>W σ τ' b s d (Go.Sort.shiftDown lt x dk)):=by
 refine yME (Inv:=fun k j τ'=>∃ (q:Nat) (dq:Array Rec),j=q∧q=k∧q≤x∧dq.size=d.size∧xQ V dq∧W σ τ' b s d dq∧Go.Sort.shiftDown lt q dq=Go.Sort.shiftDown lt x dk) ?_ x _ τ ⟨x,dk,rfl,rfl,Nat.le_refl _,hsz,hall,w,rfl⟩;rintro k j τ' ⟨q,dq,rfl,rfl,hq,hsz',hall',w',ht⟩;cases q with
 | zero=>exact xCW (by rw [← ht];exact w') (by omega)
 | succ q =>
  have l1:=w'.dt.ldN (i:=((q+1:Nat):Int)) (k:=q+1) rfl (by omega);have l2:=w'.dt.ldN (i:=((q+1:Nat):Int)-1) (k:=q) (by omega) (by omega);obtain ⟨n,cn,⟨m1,hl⟩ | ⟨m1,hl⟩⟩:=hc.at_ (τ:=τ') hall' (i:=q+1) (j:=q) (by omega) (by omega)
  ·obtain ⟨τ5,τ6,t1,t2,w6⟩:=w'.swapN (i:=((q+1:Nat):Int)) (j:=((q+1:Nat):Int)-1) (p:=q+1) (q:=q) rfl (by omega) (by omega) (by omega);rw [Go.Sort.shiftDown,if_neg (by simp [hl])] at ht;exact xCY l1 l2 cn t1 t2 ⟨q,by omega,q,_,by omega,rfl,by omega,by rw [yY,hsz'],hall'.swp (by omega) (by omega),w6,ht⟩
  ·rw [Go.Sort.shiftDown,if_pos (by simp [hl])] at ht;exact xCX l1 l2 cn (by rw [← ht];exact w')
theorem yMC {a i10:Int} {B x i:Nat} {τ:St} {dk:Array Rec} (hc:Cmp g gc lt V) (w:W σ τ b s d dk) (hsz:dk.size=d.size) (hall:xQ V dk) (hx:1≤x) (hxB:x≤B+2) (hB:B≤d.size) (hn:d.size≤1000000) :
  zJG ⟨b,0,s⟩ d.size c a (B:Int) g gc (i:Int) i10 (x:Int) τ (fun τ'=>W σ τ' b s d (Go.Sort.shiftUp lt B x dk)):=by
 refine yMD (Inv:=fun k j τ'=>∃ (q:Nat) (dq:Array Rec),j=q∧q+k=B+2∧1≤q∧dq.size=d.size∧xQ V dq∧W σ τ' b s d dq∧Go.Sort.shiftUp lt B q dq=Go.Sort.shiftUp lt B x dk) ?_ (B+2-x) _ τ ⟨x,dk,rfl,by omega,hx,hsz,hall,w,rfl⟩;rintro k j τ' ⟨q,dq,rfl,hk,hq,hsz',hall',w',ht⟩;by_cases hqB:q<B;rotate_left
 ·rw [Go.Sort.shiftUp,if_neg hqB] at ht;exact xCT (by rw [← ht];exact w') (by omega)
 have l1:=w'.dt.ldN (i:=(q:Int)) (k:=q) rfl (by omega);have l2:=w'.dt.ldN (i:=(q:Int)-1) (k:=q-1) (by omega) (by omega);obtain ⟨n,cn,⟨m1,hl⟩ | ⟨m1,hl⟩⟩:=hc.at_ (τ:=τ') hall' (i:=q) (j:=q-1) (by omega) (by omega)
 ·obtain ⟨τ5,τ6,t1,t2,w6⟩:=w'.swapN (i:=(q:Int)) (j:=(q:Int)-1) (p:=q) (q:=q-1) rfl (by omega) (by omega) (by omega);rw [Go.Sort.shiftUp,if_pos hqB,if_neg (by simp [hl])] at ht;exact xCV l1 l2 cn t1 t2 ⟨k-1,by omega,q+1,_,by omega,by omega,by omega,by rw [yY,hsz'],hall'.swp (by omega) (by omega),w6,ht⟩
 ·rw [Go.Sort.shiftUp,if_pos hqB,if_pos (by simp [hl])] at ht;exact xCU l1 l2 cn (by rw [← ht];exact w')
theorem yYT {a B:Nat} (h:Dt σ b s d) (hc:Cmp g gc lt V) (hv:xQ V d) (ha:a<B) (hB:B≤d.size) (hn:d.size≤1000000) :
  uJ 111 [.slice (some ⟨b,0,s⟩) d.size c,iV (a:Int),iV (B:Int),.func (.func g) ⟨[]⟩ ⟨gc⟩] (.bool (Go.Sort.partialInsertionSort lt d a B).2) σ b s d (Go.Sort.partialInsertionSort lt d a B).1:=by
 obtain ⟨R,hR⟩:∃ R,R=Go.Sort.partialInsertionSort lt d a B:=⟨_,rfl⟩;rw [← hR];refine uJ.of h (xJF (P0:=fun τ=>R.2=false∧W σ τ b s d R.1) (Pr:=fun t τ=>R.2=t∧W σ τ b s d R.1)
  (yMG (Inv:=fun k i j τ=>∃ (p:Nat) (dk:Array Rec),i=p∧j=5-(k:Int)∧k≤5∧a+1≤p∧p≤B∧dk.size=d.size∧xQ V dk∧W σ τ b s d dk∧Go.Sort.partialIns lt a B k p dk=R) ?_ 5 _ _ σ.re ⟨a+1,d,by omega,by omega,Nat.le_refl _,Nat.le_refl _,by omega,rfl,hv,W.start h,hR.symm⟩)
  (fun τ h=>yMB ⟨by rw [h.1],h.2⟩) (fun t τ h=>yMA ⟨by rw [h.1],h.2⟩))
 rintro k i j τ ⟨p,dk,rfl,rfl,hk5,hap,hpB,hsz,hall,w,ht⟩;cases k with
 | zero =>
  rw [Go.Sort.partialIns] at ht;exact xDC (by rw [← ht];exact ⟨rfl,w⟩) (by omega)
 | succ k =>
 obtain ⟨i2,hi2⟩:∃ i2,i2=Go.Sort.scanSorted lt dk B p:=⟨_,rfl⟩;have hrange:=zMA lt dk B _ p (Nat.le_refl _) hpB;rw [← hi2] at hrange;rw [Go.Sort.partialIns,← hi2] at ht;refine xDD (P2:=fun i τ=>i=(i2:Int)∧W σ τ b s d dk) (yMF (Inv:=fun k i τ=>∃ u:Nat,i=u∧u+k=B∧p≤u∧W σ τ b s d dk∧Go.Sort.scanSorted lt dk B u=i2) ?_ (B-p) _ τ ⟨p,rfl,by omega,Nat.le_refl _,w,hi2.symm⟩) ?_ (by omega)
 ·rintro k i τ ⟨u,rfl,hk,hpu,w,ht⟩;by_cases huB:u<B;rotate_left
  ·rw [Go.Sort.scanSorted,if_neg (by simp;omega)] at ht;exact xCZ ⟨by rw [ht],w⟩ (by omega)
  have l1:=w.dt.ldN (i:=(u:Int)) (k:=u) rfl (by omega);have l2:=w.dt.ldN (i:=(u:Int)-1) (k:=u-1) (by omega) (by omega);obtain ⟨n,cn,⟨m1,hl⟩ | ⟨m1,hl⟩⟩:=hc.at_ (τ:=τ) hall (i:=u) (j:=u-1) (by omega) (by omega)
  ·rw [Go.Sort.scanSorted,if_neg (by simp [hl])] at ht;exact xDB l1 l2 cn ⟨by rw [ht],w⟩
  ·rw [Go.Sort.scanSorted,if_pos (by simp [hl];omega)] at ht;exact xDA l1 l2 cn ⟨k-1,by omega,u+1,by omega,by omega,by omega,w,ht⟩
 rintro i τ ⟨rfl,w⟩;by_cases hiB:i2=B
 ·simp only [hiB,if_true] at ht;exact yLZ (by rw [← ht];exact ⟨rfl,w⟩) (by omega)
 simp only [hiB,if_false] at ht;by_cases h50:B-a<50
 ·rw [if_pos h50] at ht;exact yLY (by rw [← ht];exact ⟨rfl,w⟩) (by omega) (by omega) (by omega)
 rw [if_neg h50] at ht;have l1:=w.dt.ldN (i:=(i2:Int)-1) (k:=i2-1) (by omega) (by omega);have l2:=w.dt.ldN (i:=(i2:Int)) (k:=i2) rfl (by omega);obtain ⟨τ5,τ6,t1,t2,w6⟩:=w.swapN (i:=(i2:Int)) (j:=(i2:Int)-1) (p:=i2) (q:=i2-1) rfl (by omega) (by omega) (by omega);have hall6:=hall.swp (i:=i2) (j:=i2-1) (by omega) (by omega);have hsz6:(swp dk i2 (i2-1)).size=d.size:=by rw [yY,hsz]
 have right:∀ (dx:Array Rec) (τx:St),W σ τx b s d dx→dx.size=d.size→xQ V dx→2≤B-i2→zJG ⟨b,0,s⟩ d.size c (a:Int) (B:Int) g gc (i2:Int) (5-((k+1:Nat):Int)) ((i2:Int)+1) τx (fun τ'=>W σ τ' b s d (Go.Sort.shiftUp lt B (i2+1) dx)):=fun dx τx wx hx1 hx2 h2=>by
  have:=yMC (c:=c) (a:=(a:Int)) (i10:=5-((k+1:Nat):Int)) (B:=B) (x:=i2+1) (i:=i2) hc wx hx1 hx2 (by omega) (by omega) hB hn;rw [show ((i2+1:Nat):Int)=(i2:Int)+1 by omega] at this;exact this
 by_cases hl2:i2-a ≥ 2
 ·simp only [hl2,if_true] at ht;have left:=yTK (c:=c) (a:=(a:Int)) (B:=(B:Int)) (i10:=5-((k+1:Nat):Int)) (x:=i2-1) (i:=i2) hc w6 hsz6 hall6 (by omega) hn;rw [show ((i2-1:Nat):Int)=(i2:Int)-1 by omega] at left;have hszL:(Go.Sort.shiftDown lt (i2-1) (swp dk i2 (i2-1))).size=d.size:=by rw [zIL,hsz6]
  have hallL:=zLZ lt (V:=V) (i2-1) (swp dk i2 (i2-1)) (by omega) hall6;refine yLX l1 l2 t1 t2 left (fun τ' w7=>?_) (by omega) (by omega) (by omega) (by omega) (by omega) (by omega) (by omega) (by omega);by_cases hr2:B-i2 ≥ 2
  ·simp only [hr2,if_true] at ht;have hU:=zCI lt (V:=V) (B:=B) _ (i2+1) _ (Nat.le_refl _) (by omega) (by omega) hallL;exact yLU (right _ _ w7 hszL hallL (by omega)) (fun τ'' w8=>zTP ⟨k,by omega,i2,_,rfl,by omega,by omega,by omega,by omega,by rw [hU.1,hszL],hU.2,w8,ht⟩)
  ·simp only [hr2,if_false] at ht;exact yLT ⟨k,by omega,i2,_,rfl,by omega,by omega,by omega,by omega,hszL,hallL,w7,ht⟩
 ·simp only [hl2,if_false] at ht;by_cases hr2:B-i2 ≥ 2
  ·simp only [hr2,if_true] at ht;have hU:=zCI lt (V:=V) (B:=B) _ (i2+1) _ (Nat.le_refl _) (by omega) (by omega) hall6;exact yLW l1 l2 t1 t2 (right _ _ w6 hsz6 hall6 (by omega)) (fun τ'' w8=>zTP ⟨k,by omega,i2,_,rfl,by omega,by omega,by omega,by omega,by rw [hU.1,hsz6],hU.2,w8,ht⟩)
  ·simp only [hr2,if_false] at ht;exact yLV l1 l2 t1 t2 ⟨k,by omega,i2,_,rfl,by omega,by omega,by omega,by omega,hsz6,hall6,w6,ht⟩
end
end
section
noncomputable section
variable (data:oAa) (ag ah:Nat) (a_1 aE kB bU:Int) (q0:Int→Int→St→Prop) (BB:Nat) (n2 aF:Int) (Q:St→Prop) (q2:Int→St→Prop) (σ:St) (Nx:Int→Int→St→Prop) (q3:Int→St→Prop) (q1:vPa) (Q0:St→Prop)
def yXZ:Code:=(Code.part [1,1,0,0] (qh 110))
def zVE:lNa:=[(0,.slice data ag ah),(8,iV aE),(9,iV bU)]
def xHM:Alt:=⟨Int × Int,.normal,fun t=>zVE data ag ah t.1 t.2,fun t=>[],fun t σ=>q0 t.1 t.2 σ⟩
def yCL (data:oAa) (ag ah:Nat):lNa:=[]
def zQT:Alt:=⟨Unit,(.exit 0),fun t=>yCL data ag ah,fun t=>[],fun t σ=>Q σ⟩
def yGS:Prop:=qi qj none yXZ 34 (zVE data ag ah aE bU) [] [xHM data ag ah Nx,zQT data ag ah Q0] σ
def yYA:Prop:=qk qj none yXZ 34 (zVE data ag ah aE bU) [] [zQT data ag ah Q0] σ
def yCM:Prop:=kZ qj (qh 110) [1,1,0] (ql 110 q1) (.exit 0) 34 (yCL data ag ah) σ
def yFR:Code:=(Code.part [1,1,0,1,1,1,0,0] (qh 108))
def zLP:lNa:=[(0,.slice data ag ah),(1,iV a_1),(8,iV kB),(9,pt BB 0),(10,.int .u64 n2),(11,iV aF)]
def yWQ:Alt:=⟨Int,.normal,fun t=>zLP data ag ah a_1 kB BB n2 t,fun t=>[],fun t σ=>q2 t σ⟩
def zUL (data:oAa) (ag ah:Nat) (a_1 kB:Int) (BB:Nat) (n2:Int):lNa:=[]
def zKI:Alt:=⟨Unit,(.exit 0),fun t=>zUL data ag ah a_1 kB BB n2,fun t=>[],fun t σ=>Q σ⟩
def zLQ:Prop:=qi qj none yFR 67 (zLP data ag ah a_1 kB BB n2 aF) [] [yWQ data ag ah a_1 kB BB n2 q3,zKI data ag ah a_1 kB BB n2 Q0] σ
def yFS:Prop:=qk qj none yFR 67 (zLP data ag ah a_1 kB BB n2 aF) [] [zKI data ag ah a_1 kB BB n2 Q0] σ
def zUM:Prop:=kZ qj (qh 108) [1,1,0,1,1,1,0] (ql 108 q1) (.exit 0) 67 (zUL data ag ah a_1 kB BB n2) σ
end
variable {ag ah BB:Nat} {a_1 b n1 n2 n3 n4 n5 n6 n7 n8 c n9 aE bU nE nG nD nB nA nF kB aF zA nK nP nQ nM z1 length n10 n11 n13 x z2:Int} {swaps ar r:Addr} {az:FuncId} {am:lVa} {σ9 σ σ3 σ6 σ2 σ4 σ8 σT σE σC σX σM σ12:St} {Q:vPa} {data:oAa} {Inv:Nat→Int→Int→St→Prop} {Q0 P0:St→Prop} {Nx:Int→St→Prop}
theorem xQP (h1:lz σ 45 (zL ar (Int.toNat b*3)) (qf (rcd n1 n2 n3))) (h2:lz σ 45 (zL ar (Int.toNat a_1*3)) (qf (rcd n4 n5 n6))) (h3:qm az (qf (rcd n1 n2 n3)::(qf (rcd n4 n5 n6))::am) σ (iV n7) σ) (h4:lz σ 3 swaps (iV n8)) (h5:qn (evL [pz swaps,iV (n8+1)]) σ (.store 3 (.tmp 0) (.tmp 1))=some (undef,σ9)) (nx:Q (.tuple ⟨[iV b,iV a_1]⟩) σ9) (u1:Ix b ag:=by omega) (u2:Ix a_1 ag:=by omega) (u3:n7<0:=by omega) (u4:I6 (n8+1):=by omega):qg 130 [.slice (some ar) ag ah,iV a_1,iV b,pz swaps,.func (.func az) ⟨[]⟩ ⟨am⟩] σ Q :=
 zG [.g,.g,.g,.g,.g,.i,.l (qf (rcd n1 n2 n3)),.g,.g,.i,.l (qf (rcd n4 n5 n6)),.c (iV n7) σ,.b true,.g,.g,.l (iV n8),.n (n8+1),.g,.e undef σ9,.g,.g,.g,.g] (kd (an3 u1 h1 u2 (an6 h2 h3 (zR u3) h4 (w64 u4) h5 nx)))
theorem xQO (h1:lz σ 45 (zL ar (Int.toNat b*3)) (qf (rcd n1 n2 n3))) (h2:lz σ 45 (zL ar (Int.toNat a_1*3)) (qf (rcd n4 n5 n6))) (h3:qm az (qf (rcd n1 n2 n3)::(qf (rcd n4 n5 n6))::am) σ (iV n7) σ) (nx:Q (.tuple ⟨[iV a_1,iV b]⟩) σ) (u1:Ix b ag:=by omega) (u2:Ix a_1 ag:=by omega) (u3:¬ n7<0:=by omega):qg 130 [.slice (some ar) ag ah,iV a_1,iV b,pz swaps,.func (.func az) ⟨[]⟩ ⟨am⟩] σ Q :=
 zG [.g,.g,.g,.g,.g,.i,.l (qf (rcd n1 n2 n3)),.g,.g,.i,.l (qf (rcd n4 n5 n6)),.c (iV n7) σ,.b false,.g,.g,.g,.g] (kd (an6 u1 h1 u2 h2 h3 (zU u3) nx))
theorem xJU (h1:qm 130 [.slice data ag ah,iV a_1,iV b,pz swaps,.func (.func az) ⟨[]⟩ ⟨am⟩] σ (.tuple ⟨[iV n1,iV n2]⟩) σ3) (h2:qm 130 [.slice data ag ah,iV n2,iV c,pz swaps,.func (.func az) ⟨[]⟩ ⟨am⟩] σ3 (.tuple ⟨[iV n4,iV n5]⟩) σ6) (h3:qm 130 [.slice data ag ah,iV n1,iV n4,pz swaps,.func (.func az) ⟨[]⟩ ⟨am⟩] σ6 (.tuple ⟨[iV n7,iV n8]⟩) σ9) (nx:Q (iV n8) σ9):qg 125 [.slice data ag ah,iV a_1,iV b,iV c,pz swaps,.func (.func az) ⟨[]⟩ ⟨am⟩] σ Q :=
 zG [.g,.g,.g,.g,.g,.g,.c (.tuple ⟨[iV n1,iV n2]⟩) σ3,.g,.g,.g,.g,.g,.g,.g,.g,.g,.g,.c (.tuple ⟨[iV n4,iV n5]⟩) σ6,.g,.g,.g,.g,.g,.g,.g,.g,.g,.g,.c (.tuple ⟨[iV n7,iV n8]⟩) σ9,.g,.g,.g,.g,.g,.g,.g] (kd (an3 h1 h2 h3 nx))
theorem yYY (h1:qm 125 [.slice data ag ah,iV (a_1-1),iV a_1,iV (a_1+1),pz swaps,.func (.func az) ⟨[]⟩ ⟨am⟩] σ (iV n1) σ2) (nx:Q (iV n1) σ2) (u1:I6 (a_1-1):=by omega) (u2:I6 (a_1+1):=by omega):qg 124 [.slice data ag ah,iV a_1,pz swaps,.func (.func az) ⟨[]⟩ ⟨am⟩] σ Q :=
 zG [.g,.g,.g,.n (a_1-1),.g,.g,.n (a_1+1),.g,.g,.c (iV n1) σ2,.g] (kd (an3 (w64 u1) (w64 u2) h1 nx))
theorem yVS:let s1:=Int.tdiv (b-a_1) 4;∀ (h1:IntKind.wrap .i64 s1=Int.tdiv (b-a_1) 4) (h2:qm 124 [.slice data ag ah,iV (a_1+(s1*1)),pt σ.y 0,.func (.func az) ⟨[]⟩ ⟨am⟩] (σ.row [iV 0] 1) (iV n1) σ2) (h3:qm 124 [.slice data ag ah,iV (a_1+(s1*2)),pt σ.y 0,.func (.func az) ⟨[]⟩ ⟨am⟩] σ2 (iV n3) σ4) (h4:qm 124 [.slice data ag ah,iV (a_1+(s1*3)),pt σ.y 0,.func (.func az) ⟨[]⟩ ⟨am⟩] σ4 (iV n5) σ6) (h5:qm 125 [.slice data ag ah,iV n1,iV n3,iV n5,pt σ.y 0,.func (.func az) ⟨[]⟩ ⟨am⟩] σ6 (iV n7) σ8) (h6:lz σ8 3 (qe σ.y 0) (iV n9)) (nx:Q (.tuple ⟨[iV n7,iV 1]⟩) σ8) (u1:I6 (b-a_1):=by omega) (u2:I6 (s1*1):=by omega) (u3:I6 (a_1+(s1*1)):=by omega) (u4:I6 (s1*2):=by omega) (u5:I6 (a_1+(s1*2)):=by omega) (u6:I6 (s1*3):=by omega) (u7:I6 (a_1+(s1*3)):=by omega) (u8:8≤(b-a_1):=by omega) (u9:50≤(b-a_1):=by omega) (u10:n9=0:=by omega),qg 109 [.slice data ag ah,iV a_1,iV b,.func (.func az) ⟨[]⟩ ⟨am⟩] σ Q:=
 let s1:=Int.tdiv (b-a_1) 4;fun h1 h2 h3 h4 h5 h6 nx u1 u2 u3 u4 u5 u6 u7 u8 u9 u10=>zG [.g,.g,.g,.g,.n (b-a_1),.g,.g,.g,.g,.n s1,.n (s1*1),.n (a_1+(s1*1)),.g,.g,.g,.n s1,.n (s1*2),.n (a_1+(s1*2)),.g,.g,.g,.n s1,.n (s1*3),.n (a_1+(s1*3)),.g,.g,.b true,.g,.b true,.g,.g,.g,.c (iV n1) σ2,.g,.g,.g,.g,.c (iV n3) σ4,.g,.g,.g,.g,.c (iV n5) σ6,.g,.g,.g,.g,.g,.g,.c (iV n7) σ8,.g,.l (iV n9),.b true,.g,.g,.g,.g] (kd (an6 (w64 u1) h1 (w64 u2) (w64 u3) h1 (w64 u4) (an6 (w64 u5) h1 (w64 u6) (w64 u7) (yD u8) (yD u9) (an6 h2 h3 h4 h5 h6 (xL u10) nx))))
theorem yVR:let s1:=Int.tdiv (b-a_1) 4;∀ (h1:IntKind.wrap .i64 s1=Int.tdiv (b-a_1) 4) (h2:qm 124 [.slice data ag ah,iV (a_1+(s1*1)),pt σ.y 0,.func (.func az) ⟨[]⟩ ⟨am⟩] (σ.row [iV 0] 1) (iV n1) σ2) (h3:qm 124 [.slice data ag ah,iV (a_1+(s1*2)),pt σ.y 0,.func (.func az) ⟨[]⟩ ⟨am⟩] σ2 (iV n3) σ4) (h4:qm 124 [.slice data ag ah,iV (a_1+(s1*3)),pt σ.y 0,.func (.func az) ⟨[]⟩ ⟨am⟩] σ4 (iV n5) σ6) (h5:qm 125 [.slice data ag ah,iV n1,iV n3,iV n5,pt σ.y 0,.func (.func az) ⟨[]⟩ ⟨am⟩] σ6 (iV n7) σ8) (h6:lz σ8 3 (qe σ.y 0) (iV n9)) (nx:Q (.tuple ⟨[iV n7,iV 2]⟩) σ8) (u1:I6 (b-a_1):=by omega) (u2:I6 (s1*1):=by omega) (u3:I6 (a_1+(s1*1)):=by omega) (u4:I6 (s1*2):=by omega) (u5:I6 (a_1+(s1*2)):=by omega) (u6:I6 (s1*3):=by omega) (u7:I6 (a_1+(s1*3)):=by omega) (u8:8≤(b-a_1):=by omega) (u9:50≤(b-a_1):=by omega) (u10:¬ n9=0:=by omega) (u11:n9=12:=by omega),qg 109 [.slice data ag ah,iV a_1,iV b,.func (.func az) ⟨[]⟩ ⟨am⟩] σ Q:=
 let s1:=Int.tdiv (b-a_1) 4;fun h1 h2 h3 h4 h5 h6 nx u1 u2 u3 u4 u5 u6 u7 u8 u9 u10 u11=>zG [.g,.g,.g,.g,.n (b-a_1),.g,.g,.g,.g,.n s1,.n (s1*1),.n (a_1+(s1*1)),.g,.g,.g,.n s1,.n (s1*2),.n (a_1+(s1*2)),.g,.g,.g,.n s1,.n (s1*3),.n (a_1+(s1*3)),.g,.g,.b true,.g,.b true,.g,.g,.g,.c (iV n1) σ2,.g,.g,.g,.g,.c (iV n3) σ4,.g,.g,.g,.g,.c (iV n5) σ6,.g,.g,.g,.g,.g,.g,.c (iV n7) σ8,.g,.l (iV n9),.b false,.g,.b true,.g,.g,.g,.g] (kd (ai (w64 u1) (an6 h1 (w64 u2) (w64 u3) h1 (w64 u4) (w64 u5) (an6 h1 (w64 u6) (w64 u7) (yD u8) (yD u9) h2 (an6 h3 h4 h5 h6 (xG u10) (xL u11) nx)))))
theorem yVQ:let s1:=Int.tdiv (b-a_1) 4;∀ (h1:IntKind.wrap .i64 s1=Int.tdiv (b-a_1) 4) (h2:qm 124 [.slice data ag ah,iV (a_1+(s1*1)),pt σ.y 0,.func (.func az) ⟨[]⟩ ⟨am⟩] (σ.row [iV 0] 1) (iV n1) σ2) (h3:qm 124 [.slice data ag ah,iV (a_1+(s1*2)),pt σ.y 0,.func (.func az) ⟨[]⟩ ⟨am⟩] σ2 (iV n3) σ4) (h4:qm 124 [.slice data ag ah,iV (a_1+(s1*3)),pt σ.y 0,.func (.func az) ⟨[]⟩ ⟨am⟩] σ4 (iV n5) σ6) (h5:qm 125 [.slice data ag ah,iV n1,iV n3,iV n5,pt σ.y 0,.func (.func az) ⟨[]⟩ ⟨am⟩] σ6 (iV n7) σ8) (h6:lz σ8 3 (qe σ.y 0) (iV n9)) (nx:Q (.tuple ⟨[iV n7,iV 0]⟩) σ8) (u1:I6 (b-a_1):=by omega) (u2:I6 (s1*1):=by omega) (u3:I6 (a_1+(s1*1)):=by omega) (u4:I6 (s1*2):=by omega) (u5:I6 (a_1+(s1*2)):=by omega) (u6:I6 (s1*3):=by omega) (u7:I6 (a_1+(s1*3)):=by omega) (u8:8≤(b-a_1):=by omega) (u9:50≤(b-a_1):=by omega) (u10:¬ n9=0:=by omega) (u11:¬ n9=12:=by omega),qg 109 [.slice data ag ah,iV a_1,iV b,.func (.func az) ⟨[]⟩ ⟨am⟩] σ Q:=
 let s1:=Int.tdiv (b-a_1) 4;fun h1 h2 h3 h4 h5 h6 nx u1 u2 u3 u4 u5 u6 u7 u8 u9 u10 u11=>zG [.g,.g,.g,.g,.n (b-a_1),.g,.g,.g,.g,.n s1,.n (s1*1),.n (a_1+(s1*1)),.g,.g,.g,.n s1,.n (s1*2),.n (a_1+(s1*2)),.g,.g,.g,.n s1,.n (s1*3),.n (a_1+(s1*3)),.g,.g,.b true,.g,.b true,.g,.g,.g,.c (iV n1) σ2,.g,.g,.g,.g,.c (iV n3) σ4,.g,.g,.g,.g,.c (iV n5) σ6,.g,.g,.g,.g,.g,.g,.c (iV n7) σ8,.g,.l (iV n9),.b false,.g,.b false,.g,.g,.g,.g] (kd (ai (w64 u1) (an6 h1 (w64 u2) (w64 u3) h1 (w64 u4) (w64 u5) (an6 h1 (w64 u6) (w64 u7) (yD u8) (yD u9) h2 (an6 h3 h4 h5 h6 (xG u10) (xG u11) nx)))))
theorem yVP:let s1:=Int.tdiv (b-a_1) 4;∀ (h1:IntKind.wrap .i64 s1=Int.tdiv (b-a_1) 4) (h2:qm 125 [.slice data ag ah,iV (a_1+(s1*1)),iV (a_1+(s1*2)),iV (a_1+(s1*3)),pt σ.y 0,.func (.func az) ⟨[]⟩ ⟨am⟩] (σ.row [iV 0] 1) (iV n1) σ2) (h3:lz σ2 3 (qe σ.y 0) (iV n3)) (nx:Q (.tuple ⟨[iV n1,iV 1]⟩) σ2) (u1:I6 (b-a_1):=by omega) (u2:I6 (s1*1):=by omega) (u3:I6 (a_1+(s1*1)):=by omega) (u4:I6 (s1*2):=by omega) (u5:I6 (a_1+(s1*2)):=by omega) (u6:I6 (s1*3):=by omega) (u7:I6 (a_1+(s1*3)):=by omega) (u8:8≤(b-a_1):=by omega) (u9:¬ 50≤(b-a_1):=by omega) (u10:n3=0:=by omega),qg 109 [.slice data ag ah,iV a_1,iV b,.func (.func az) ⟨[]⟩ ⟨am⟩] σ Q:=
 let s1:=Int.tdiv (b-a_1) 4;fun h1 h2 h3 nx u1 u2 u3 u4 u5 u6 u7 u8 u9 u10=>zG [.g,.g,.g,.g,.n (b-a_1),.g,.g,.g,.g,.n s1,.n (s1*1),.n (a_1+(s1*1)),.g,.g,.g,.n s1,.n (s1*2),.n (a_1+(s1*2)),.g,.g,.g,.n s1,.n (s1*3),.n (a_1+(s1*3)),.g,.g,.b true,.g,.b false,.g,.g,.g,.g,.g,.c (iV n1) σ2,.g,.l (iV n3),.b true,.g,.g,.g,.g] (kd (an3 (w64 u1) h1 (w64 u2) (an6 (w64 u3) h1 (w64 u4) (w64 u5) h1 (w64 u6) (an6 (w64 u7) (yD u8) (yF u9) h2 h3 (xL u10) nx))))
theorem yVO:let s1:=Int.tdiv (b-a_1) 4;∀ (h1:IntKind.wrap .i64 s1=Int.tdiv (b-a_1) 4) (h2:qm 125 [.slice data ag ah,iV (a_1+(s1*1)),iV (a_1+(s1*2)),iV (a_1+(s1*3)),pt σ.y 0,.func (.func az) ⟨[]⟩ ⟨am⟩] (σ.row [iV 0] 1) (iV n1) σ2) (h3:lz σ2 3 (qe σ.y 0) (iV n3)) (nx:Q (.tuple ⟨[iV n1,iV 2]⟩) σ2) (u1:I6 (b-a_1):=by omega) (u2:I6 (s1*1):=by omega) (u3:I6 (a_1+(s1*1)):=by omega) (u4:I6 (s1*2):=by omega) (u5:I6 (a_1+(s1*2)):=by omega) (u6:I6 (s1*3):=by omega) (u7:I6 (a_1+(s1*3)):=by omega) (u8:8≤(b-a_1):=by omega) (u9:¬ 50≤(b-a_1):=by omega) (u10:¬ n3=0:=by omega) (u11:n3=12:=by omega),qg 109 [.slice data ag ah,iV a_1,iV b,.func (.func az) ⟨[]⟩ ⟨am⟩] σ Q:=
 let s1:=Int.tdiv (b-a_1) 4;fun h1 h2 h3 nx u1 u2 u3 u4 u5 u6 u7 u8 u9 u10 u11=>zG [.g,.g,.g,.g,.n (b-a_1),.g,.g,.g,.g,.n s1,.n (s1*1),.n (a_1+(s1*1)),.g,.g,.g,.n s1,.n (s1*2),.n (a_1+(s1*2)),.g,.g,.g,.n s1,.n (s1*3),.n (a_1+(s1*3)),.g,.g,.b true,.g,.b false,.g,.g,.g,.g,.g,.c (iV n1) σ2,.g,.l (iV n3),.b false,.g,.b true,.g,.g,.g,.g] (kd (an4 (w64 u1) h1 (w64 u2) (w64 u3) (an6 h1 (w64 u4) (w64 u5) h1 (w64 u6) (w64 u7) (an6 (yD u8) (yF u9) h2 h3 (xG u10) (xL u11) nx))))
theorem yVN:let s1:=Int.tdiv (b-a_1) 4;∀ (h1:IntKind.wrap .i64 s1=Int.tdiv (b-a_1) 4) (h2:qm 125 [.slice data ag ah,iV (a_1+(s1*1)),iV (a_1+(s1*2)),iV (a_1+(s1*3)),pt σ.y 0,.func (.func az) ⟨[]⟩ ⟨am⟩] (σ.row [iV 0] 1) (iV n1) σ2) (h3:lz σ2 3 (qe σ.y 0) (iV n3)) (nx:Q (.tuple ⟨[iV n1,iV 0]⟩) σ2) (u1:I6 (b-a_1):=by omega) (u2:I6 (s1*1):=by omega) (u3:I6 (a_1+(s1*1)):=by omega) (u4:I6 (s1*2):=by omega) (u5:I6 (a_1+(s1*2)):=by omega) (u6:I6 (s1*3):=by omega) (u7:I6 (a_1+(s1*3)):=by omega) (u8:8≤(b-a_1):=by omega) (u9:¬ 50≤(b-a_1):=by omega) (u10:¬ n3=0:=by omega) (u11:¬ n3=12:=by omega),qg 109 [.slice data ag ah,iV a_1,iV b,.func (.func az) ⟨[]⟩ ⟨am⟩] σ Q:=
 let s1:=Int.tdiv (b-a_1) 4;fun h1 h2 h3 nx u1 u2 u3 u4 u5 u6 u7 u8 u9 u10 u11=>zG [.g,.g,.g,.g,.n (b-a_1),.g,.g,.g,.g,.n s1,.n (s1*1),.n (a_1+(s1*1)),.g,.g,.g,.n s1,.n (s1*2),.n (a_1+(s1*2)),.g,.g,.g,.n s1,.n (s1*3),.n (a_1+(s1*3)),.g,.g,.b true,.g,.b false,.g,.g,.g,.g,.g,.c (iV n1) σ2,.g,.l (iV n3),.b false,.g,.b false,.g,.g,.g,.g] (kd (an4 (w64 u1) h1 (w64 u2) (w64 u3) (an6 h1 (w64 u4) (w64 u5) h1 (w64 u6) (w64 u7) (an6 (yD u8) (yF u9) h2 h3 (xG u10) (xG u11) nx))))
theorem yVM:let s1:=Int.tdiv (b-a_1) 4;∀ (h1:IntKind.wrap .i64 s1=Int.tdiv (b-a_1) 4) (nx:Q (.tuple ⟨[iV (a_1+(s1*2)),iV 1]⟩) (σ.row [iV 0] 1)) (u1:I6 (b-a_1):=by omega) (u2:I6 (s1*1):=by omega) (u3:I6 (a_1+(s1*1)):=by omega) (u4:I6 (s1*2):=by omega) (u5:I6 (a_1+(s1*2)):=by omega) (u6:I6 (s1*3):=by omega) (u7:I6 (a_1+(s1*3)):=by omega) (u8:¬ 8≤(b-a_1):=by omega),qg 109 [.slice data ag ah,iV a_1,iV b,.func (.func az) ⟨[]⟩ ⟨am⟩] σ Q:=
 let s1:=Int.tdiv (b-a_1) 4;fun h1 nx u1 u2 u3 u4 u5 u6 u7 u8=>zG [.g,.g,.g,.g,.n (b-a_1),.g,.g,.g,.g,.n s1,.n (s1*1),.n (a_1+(s1*1)),.g,.g,.g,.n s1,.n (s1*2),.n (a_1+(s1*2)),.g,.g,.g,.n s1,.n (s1*3),.n (a_1+(s1*3)),.g,.g,.b false,.l (iV 0),.g,.g,.g,.g,.g] (kd (an6 (w64 u1) h1 (w64 u2) (w64 u3) h1 (w64 u4) (an6 (w64 u5) h1 (w64 u6) (w64 u7) (yF u8) ((zC _ _ _).rw.ld zT (k:=0) rfl:lz (σ.row [iV 0] 1) 3 (qe σ.y 0) (iV 0)) nx)))
theorem yRH (hb:∀ k aE bU σ,Inv k aE bU σ→yGS data ag ah aE bU σ (NX2 Inv k) Q0):∀ k aE bU σ,Inv k aE bU σ→yYA data ag ah aE bU σ Q0 :=
 zDP (ai (wA 0) trivial) hb
theorem xHL {Nx:Int→Int→St→Prop} (h1:lz σ 45 (zL ar (Int.toNat bU*3)) (qf (rcd nE nG nD))) (h2:lz σ 45 (zL ar (Int.toNat aE*3)) (qf (rcd nB nA nF))) (h3:qn (evL [pz (zL ar (Int.toNat aE*3)),qf (rcd nE nG nD)]) σ (.store 45 (.tmp 0) (.tmp 1))=some (undef,σT)) (h4:qn (evL [pz (zL ar (Int.toNat bU*3)),qf (rcd nB nA nF)]) σT (.store 45 (.tmp 0) (.tmp 1))=some (undef,σE)) (nx:Nx (aE+1) (bU-1) σE) (u1:aE<bU:=by omega) (u2:Ix bU ag:=by omega) (u3:Ix aE ag:=by omega) (u4:I6 (aE+1):=by omega) (u5:I6 (bU-1):=by omega):yGS (some ar) ag ah aE bU σ Nx Q0 :=
 kO 0 (aE+1,bU-1) [.g,.g,.b true,.g,.g,.g,.g,.g,.g,.i,.l (qf (rcd nE nG nD)),.g,.g,.i,.l (qf (rcd nB nA nF)),.i,.e undef σT,.i,.e undef σE,.g,.n (aE+1),.g,.g,.n (bU-1),.g] (fun _ f=>an5 (zR u1) u2 h1 u3 h2 (an6 u3 h3 u2 h4 (w64 u4) (w64 u5) f)) nx
theorem xHK {Nx:Int→Int→St→Prop} (nx:Q0 σ) (u1:¬ aE<bU:=by omega):yGS data ag ah aE bU σ Nx Q0 :=
 kO 1 () [.g,.g,.b false] (fun _ f=>ai (zU u1) f) nx
theorem xPP (hL:yYA data ag ah a_1 (b-1) σ P0) (k0:∀ σ',P0 σ'→yCM data ag ah σ' Q) (u1:I6 (b-1):=by omega):qg 110 [.slice data ag ah,iV a_1,iV b,.func (.func az) ⟨[]⟩ ⟨am⟩] σ Q :=
 let s1:=zVE data ag ah a_1 (b-1);zG [.g,.g,.g,.n (b-1),.g,.lf 34 s1 [zQT data ag ah P0]] (kd (ai (w64 u1) (ai (ai tt (ai (arf s1) hL)) (ai (kz0 k0) trivial))))
theorem yRG (nx:Q (.tuple ⟨[]⟩) σ):yCM data ag ah σ Q :=
 sK [] nx
theorem yJA {Inv:Nat→Int→St→Prop} (hb:∀ k aF σ,Inv k aF σ→zLQ data ag ah a_1 kB BB n2 aF σ (NX1 Inv k) Q0):∀ k aF σ,Inv k aF σ→yFS data ag ah a_1 kB BB n2 aF σ Q0 :=
 xE (ai (wA 0) trivial) hb
theorem yWP:let y0:=(Int.tdiv kB 4)*2;let y1:=zL ar (Int.toNat (a_1+(nB-kB))*3);let y2:=zL ar (Int.toNat aF*3);∀ (h1:IntKind.wrap .i64 (Int.tdiv kB 4)=Int.tdiv kB 4) (h2:qm 123 [pt BB 0] σ (.int .u64 nE) σC) (h3:zAC .u64 (Int.sub n2 1)=zA) (h4:uR Pg .and 141 (.tmp 38) (.tmp 40) (.int .u64 nE) (.int .u64 zA)=some (.int .u64 nB)) (h5:lz σC 45 y1 (qf (rcd nA nF nK))) (h6:lz σC 45 y2 (qf (rcd nP nQ nM))) (h7:qn (evL [pz y2,qf (rcd nA nF nK)]) σC (.store 45 (.tmp 0) (.tmp 1))=some (undef,σX)) (h8:qn (evL [pz y1,qf (rcd nP nQ nM)]) σX (.store 45 (.tmp 0) (.tmp 1))=some (undef,σM)) (nx:Nx (aF+1) σM) (u1:I6 y0:=by omega) (u2:I6 (a_1+y0):=by omega) (u3:I6 ((a_1+y0)+1):=by omega) (u4:aF≤((a_1+y0)+1):=by omega) (u5:I6 nB:=by omega) (u6:kB≤nB:=by omega) (u7:I6 (nB-kB):=by omega) (u8:I6 (a_1+(nB-kB)):=by omega) (u9:Ix (a_1+(nB-kB)) ag:=by omega) (u10:Ix aF ag:=by omega) (u11:I6 (aF+1):=by omega),zLQ (some ar) ag ah a_1 kB BB n2 aF σ Nx Q0 :=
 let s1:=(Int.tdiv kB 4)*2;let s2:=nB-kB;fun h1 h2 h3 h4 h5 h6 h7 h8 nx u1 u2 u3 u4 u5 u6 u7 u8 u9 u10 u11=>kO 0 (aF+1) [.g,.g,.g,.n (Int.tdiv kB 4),.n s1,.n (a_1+s1),.n ((a_1+s1)+1),.b true,.c (.int .u64 nE) σC,.g,.n zA,.v (.int .u64 nB),.n nB,.g,.g,.g,.b true,.g,.g,.n s2,.g,.g,.g,.g,.g,.g,.n (a_1+s2),.g,.g,.g,.n (a_1+s2),.i,.l (qf (rcd nA nF nK)),.g,.g,.i,.l (qf (rcd nP nQ nM)),.i,.e undef σX,.i,.e undef σM,.g,.n (aF+1),.g] (fun _ f=>an4 h1 (w64 u1) (w64 u2) (w64 u3) (an6 (yD u4) h2 h3 h4 (w64 u5) (yD u6) (an6 (w64 u7) (w64 u8) (w64 u8) u9 h5 u10 (an6 h6 u10 h7 u9 h8 (w64 u11) f)))) nx
theorem yWO:let y0:=(Int.tdiv kB 4)*2;let y1:=zL ar (Int.toNat (a_1+nB)*3);let y2:=zL ar (Int.toNat aF*3);∀ (h1:IntKind.wrap .i64 (Int.tdiv kB 4)=Int.tdiv kB 4) (h2:qm 123 [pt BB 0] σ (.int .u64 nE) σC) (h3:zAC .u64 (Int.sub n2 1)=zA) (h4:uR Pg .and 141 (.tmp 38) (.tmp 40) (.int .u64 nE) (.int .u64 zA)=some (.int .u64 nB)) (h5:lz σC 45 y1 (qf (rcd nA nF nK))) (h6:lz σC 45 y2 (qf (rcd nP nQ nM))) (h7:qn (evL [pz y2,qf (rcd nA nF nK)]) σC (.store 45 (.tmp 0) (.tmp 1))=some (undef,σX)) (h8:qn (evL [pz y1,qf (rcd nP nQ nM)]) σX (.store 45 (.tmp 0) (.tmp 1))=some (undef,σM)) (nx:Nx (aF+1) σM) (u1:I6 y0:=by omega) (u2:I6 (a_1+y0):=by omega) (u3:I6 ((a_1+y0)+1):=by omega) (u4:aF≤((a_1+y0)+1):=by omega) (u5:I6 nB:=by omega) (u6:¬ kB≤nB:=by omega) (u7:I6 (a_1+nB):=by omega) (u8:Ix (a_1+nB) ag:=by omega) (u9:Ix aF ag:=by omega) (u10:I6 (aF+1):=by omega),zLQ (some ar) ag ah a_1 kB BB n2 aF σ Nx Q0 :=
 let s1:=(Int.tdiv kB 4)*2;fun h1 h2 h3 h4 h5 h6 h7 h8 nx u1 u2 u3 u4 u5 u6 u7 u8 u9 u10=>kO 0 (aF+1) [.g,.g,.g,.n (Int.tdiv kB 4),.n s1,.n (a_1+s1),.n ((a_1+s1)+1),.b true,.c (.int .u64 nE) σC,.g,.n zA,.v (.int .u64 nB),.n nB,.g,.g,.g,.b false,.g,.g,.g,.g,.g,.n (a_1+nB),.g,.g,.g,.n (a_1+nB),.i,.l (qf (rcd nA nF nK)),.g,.g,.i,.l (qf (rcd nP nQ nM)),.i,.e undef σX,.i,.e undef σM,.g,.n (aF+1),.g] (fun _ f=>an3 h1 (w64 u1) (w64 u2) (an6 (w64 u3) (yD u4) h2 h3 h4 (w64 u5) (an6 (yF u6) (w64 u7) (w64 u7) u8 h5 u9 (an6 h6 u9 h7 u8 h8 (w64 u10) f)))) nx
theorem yWN:let s1:=(Int.tdiv kB 4)*2;∀ (h1:IntKind.wrap .i64 (Int.tdiv kB 4)=Int.tdiv kB 4) (nx:Q0 σ) (u1:I6 s1:=by omega) (u2:I6 (a_1+s1):=by omega) (u3:I6 ((a_1+s1)+1):=by omega) (u4:¬ aF≤((a_1+s1)+1):=by omega),zLQ data ag ah a_1 kB BB n2 aF σ Nx Q0:=
 let s1:=(Int.tdiv kB 4)*2;fun h1 nx u1 u2 u3 u4=>kO 1 () [.g,.g,.g,.n (Int.tdiv kB 4),.n s1,.n (a_1+s1),.n ((a_1+s1)+1),.b false] (fun _ f=>an5 h1 (w64 u1) (w64 u2) (w64 u3) (yF u4) f) nx
theorem xFK:let s1:=σ.row [.int .u64 0] 1;let s2:=s1.own σ.y [.int .u64 z1] 1;let s3:=(Int.tdiv (b-a_1) 4)*2;∀ (h1:zAC .u64 ((b-a_1))=z1) (h2:qm 122 [iV (b-a_1)] s2 (.int .u64 n2) s2) (h3:IntKind.wrap .i64 (Int.tdiv (b-a_1) 4)=Int.tdiv (b-a_1) 4) (hL:yFS data ag ah a_1 (b-a_1) σ.y n2 ((a_1+s3)-1) s2 P0) (k0:∀ σ',P0 σ'→zUM data ag ah a_1 (b-a_1) σ.y n2 σ' Q) (u1:I6 (b-a_1):=by omega) (u2:8≤(b-a_1):=by omega) (u3:I6 s3:=by omega) (u4:I6 (a_1+s3):=by omega) (u5:I6 ((a_1+s3)-1):=by omega),qg 108 [.slice data ag ah,iV a_1,iV b,.func (.func az) ⟨[]⟩ ⟨am⟩] σ Q:=
 let s1:=σ.row [.int .u64 0] 1;let s2:=s1.own σ.y [.int .u64 z1] 1;let s3:=(Int.tdiv (b-a_1) 4)*2;let s4:=zLP data ag ah a_1 (b-a_1) σ.y n2 ((a_1+s3)-1);fun h1 h2 h3 hL k0 u1 u2 u3 u4 u5=>zG [.g,.g,.n (b-a_1),.g,.g,.b true,.g,.n z1,.g,.e undef s2,.g,.c (.int .u64 n2) s2,.g,.g,.g,.n (Int.tdiv (b-a_1) 4),.n s3,.n (a_1+s3),.n ((a_1+s3)-1),.g,.lf 67 s4 [zKI data ag ah a_1 (b-a_1) σ.y n2 P0]] (kd (an3 (w64 u1) (yD u2) h1 (an6 ((zC _ _ _).store (vs:=[.int .u64 z1]) rfl zVD rfl (nle rfl) rfl:qn (evL [pt σ.y 0,.int .u64 z1]) s1 (.store 166 (.tmp 0) (.tmp 1))=some (undef,s2)) h2 h3 (w64 u3) (w64 u4) (w64 u5) (ai (ai tt (ai (arf s4) hL)) (ai (kz0 k0) trivial)))))
theorem xFJ (nx:Q (.tuple ⟨[]⟩) σ) (u1:I6 (b-a_1):=by omega) (u2:¬ 8≤(b-a_1):=by omega):qg 108 [.slice data ag ah,iV a_1,iV b,.func (.func az) ⟨[]⟩ ⟨am⟩] σ Q :=
 zG [.g,.g,.n (b-a_1),.g,.g,.b false] (kd (an2 (w64 u1) (yF u2) nx))
theorem yIZ (nx:Q (.tuple ⟨[]⟩) σ):zUM data ag ah a_1 kB BB n2 σ Q :=
 sK [] nx
theorem xJT (h1:zAC .u64 (length)=z1) (h2:qm 98 [.int .u64 z1] σ (iV n2) σ) (h3:uR Pg .shl 141 (.const (.int .u64 1)) (.tmp 5) (.int .u64 1) (iV n2)=some (.int .u64 n3)) (nx:Q (.int .u64 n3) σ):qg 122 [iV length] σ Q :=
 zG [.g,.g,.n z1,.c (iV n2) σ,.v (.int .u64 n3),.g] (kd (an3 h1 h2 h3 nx))
theorem xOT (h1:lz σ 166 r (.int .u64 n1)) (h2:uR Pg .shl 166 (.tmp 8) (.const (.int .u64 13)) (.int .u64 n1) (.int .u64 13)=some (.int .u64 n2)) (h3:uR Pg .xor 166 (.tmp 5) (.tmp 9) (.int .u64 n1) (.int .u64 n2)=some (.int .u64 n3)) (h4:qn (evL [pz r,.int .u64 n3]) σ (.store 166 (.tmp 0) (.tmp 1))=some (undef,σ4)) (h5:lz σ4 166 r (.int .u64 n5)) (h6:uR Pg .shr 166 (.tmp 17) (.const (.int .u64 7)) (.int .u64 n5) (.int .u64 7)=some (.int .u64 n6)) (h7:uR Pg .xor 166 (.tmp 14) (.tmp 18) (.int .u64 n5) (.int .u64 n6)=some (.int .u64 n7)) (h8:qn (evL [pz r,.int .u64 n7]) σ4 (.store 166 (.tmp 0) (.tmp 1))=some (undef,σ8)) (h9:lz σ8 166 r (.int .u64 n9)) (h10:uR Pg .shl 166 (.tmp 26) (.const (.int .u64 17)) (.int .u64 n9) (.int .u64 17)=some (.int .u64 n10)) (h11:uR Pg .xor 166 (.tmp 23) (.tmp 27) (.int .u64 n9) (.int .u64 n10)=some (.int .u64 n11)) (h12:qn (evL [pz r,.int .u64 n11]) σ8 (.store 166 (.tmp 0) (.tmp 1))=some (undef,σ12)) (h13:lz σ12 166 r (.int .u64 n13)) (nx:Q (.int .u64 n13) σ12):qg 123 [pz r] σ Q :=
 zG [.g,.g,.g,.l (.int .u64 n1),.g,.g,.l (.int .u64 n1),.v (.int .u64 n2),.v (.int .u64 n3),.g,.e undef σ4,.g,.g,.l (.int .u64 n5),.g,.g,.l (.int .u64 n5),.v (.int .u64 n6),.v (.int .u64 n7),.g,.e undef σ8,.g,.g,.l (.int .u64 n9),.g,.g,.l (.int .u64 n9),.v (.int .u64 n10),.v (.int .u64 n11),.g,.e undef σ12,.g,.g,.l (.int .u64 n13),.g] (kd (an4 h1 h1 h2 h3 (an6 h4 h5 h5 h6 h7 h8 (an6 h9 h9 h10 h11 h12 h13 nx))))
theorem xAA (h1:qm 115 [.int .u64 x] σ (iV n1) σ) (nx:Q (iV n1) σ):qg 98 [.int .u64 x] σ Q :=
 zG [.g,.g,.c (iV n1) σ,.g] (kd (ai h1 nx))
theorem xFU (h1:uR Pg .shr 162 (.tmp 15) (.const (.int .u64 8)) (.int .u64 x) (.int .u64 8)=some (.int .u64 n1)) (h2:zAC .u8 (n1)=z2) (h3:zAB Pg 9 (.string ⟨#[0,1,2,2,3,3,3,3,4,4,4,4,4,4,4,4,5,5,5,5,5,5,5,5,5,5,5,5,5,5,5,5,6,6,6,6,6,6,6,6,6,6,6,6,6,6,6,6,6,6,6,6,6,6,6,6,6,6,6,6,6,6,6,6,7,7,7,7,7,7,7,7,7,7,7,7,7,7,7,7,7,7,7,7,7,7,7,7,7,7,7,7,7,7,7,7,7,7,7,7,7,7,7,7,7,7,7,7,7,7,7,7,7,7,7,7,7,7,7,7,7,7,7,7,7,7,7,7,8,8,8,8,8,8,8,8,8,8,8,8,8,8,8,8,8,8,8,8,8,8,8,8,8,8,8,8,8,8,8,8,8,8,8,8,8,8,8,8,8,8,8,8,8,8,8,8,8,8,8,8,8,8,8,8,8,8,8,8,8,8,8,8,8,8,8,8,8,8,8,8,8,8,8,8,8,8,8,8,8,8,8,8,8,8,8,8,8,8,8,8,8,8,8,8,8,8,8,8,8,8,8,8,8,8,8,8,8,8,8,8,8,8,8,8,8,8,8,8,8,8,8,8,8,8,8,8]⟩) (.int .u8 z2)=some (.int .u8 n3)) (nx:Q (iV (8+n3)) σ) (u1:¬ 4294967296≤x:=by omega) (u2:¬ 65536≤x:=by omega) (u3:256≤x:=by omega) (u4:I6 n3:=by omega) (u5:I6 (8+n3):=by omega):qg 115 [.int .u64 x] σ Q :=
 zG [.g,.g,.b false,.g,.b false,.g,.b true,.g,.v (.int .u64 n1),.g,.g,.g,.g,.g,.g,.n z2,.v (.int .u8 n3),.n n3,.n (8+n3),.g] (kd (an2 (yF u1) (yF u2) (an6 (yD u3) h1 h2 h3 (w64 u4) (w64 u5) nx)))
theorem xFT (h1:zAC .u8 (x)=z1) (h2:zAB Pg 9 (.string ⟨#[0,1,2,2,3,3,3,3,4,4,4,4,4,4,4,4,5,5,5,5,5,5,5,5,5,5,5,5,5,5,5,5,6,6,6,6,6,6,6,6,6,6,6,6,6,6,6,6,6,6,6,6,6,6,6,6,6,6,6,6,6,6,6,6,7,7,7,7,7,7,7,7,7,7,7,7,7,7,7,7,7,7,7,7,7,7,7,7,7,7,7,7,7,7,7,7,7,7,7,7,7,7,7,7,7,7,7,7,7,7,7,7,7,7,7,7,7,7,7,7,7,7,7,7,7,7,7,7,8,8,8,8,8,8,8,8,8,8,8,8,8,8,8,8,8,8,8,8,8,8,8,8,8,8,8,8,8,8,8,8,8,8,8,8,8,8,8,8,8,8,8,8,8,8,8,8,8,8,8,8,8,8,8,8,8,8,8,8,8,8,8,8,8,8,8,8,8,8,8,8,8,8,8,8,8,8,8,8,8,8,8,8,8,8,8,8,8,8,8,8,8,8,8,8,8,8,8,8,8,8,8,8,8,8,8,8,8,8,8,8,8,8,8,8,8,8,8,8,8,8,8,8,8,8,8,8]⟩) (.int .u8 z1)=some (.int .u8 n2)) (nx:Q (iV (0+n2)) σ) (u1:¬ 4294967296≤x:=by omega) (u2:¬ 65536≤x:=by omega) (u3:¬ 256≤x:=by omega) (u4:I6 n2:=by omega) (u5:I6 (0+n2):=by omega):qg 115 [.int .u64 x] σ Q :=
 zG [.g,.g,.b false,.g,.b false,.g,.b false,.g,.g,.n z1,.v (.int .u8 n2),.n n2,.n (0+n2),.g] (kd (ai (yF u1) (an6 (yF u2) (yF u3) h1 h2 (w64 u4) (w64 u5) nx)))
end
section
open Go.Sort (swp PermIn)
section
variable {σ:St} {b c:Nat} {s:Option Nat} {d:Array Rec} {g:FuncId} {gc:List Value} {lt:Rec→Rec→Bool} {V:Rec→Prop}
theorem xUP {a B:Nat} (h:Dt σ b s d) (hv:xQ V d) (ha:a<B) (hB:B≤d.size) (hn:d.size≤1000000) :
  uJ 110 [.slice (some ⟨b,0,s⟩) d.size c,iV (a:Int),iV (B:Int),.func (.func g) ⟨[]⟩ ⟨gc⟩] (.tuple ⟨[]⟩) σ b s d (Go.Sort.reverseRange d a B):=by
 refine uJ.of h (xPP (P0:=fun τ=>W σ τ b s d (Go.Sort.reverseRange d a B)) (yRH (Inv:=fun k i j τ=>∃ (p q:Nat) (dk:Array Rec),i=p∧j=q∧k=q-p∧p≤B∧q<B∧W σ τ b s d dk∧dk.size=d.size∧Go.Sort.reverseLoop p q dk=Go.Sort.reverseRange d a B) ?_ (B-1-a) _ _ σ.re ⟨a,B-1,d,rfl,by omega,rfl,by omega,by omega,W.start h,rfl,rfl⟩) (fun τ hw=>yRG ⟨rfl,hw⟩) (by omega));rintro k i j τ ⟨p,q,dk,rfl,rfl,hk,hp,hq,w,hsz,ht⟩;by_cases hpq:p<q;rotate_left
 ·rw [Go.Sort.reverseLoop,if_neg hpq] at ht;exact xHK (by rw [← ht];exact w) (by omega)
 rw [Go.Sort.reverseLoop,if_pos hpq] at ht;have l1:=w.dt.ldN (i:=(q:Int)) (k:=q) rfl (by omega);have l2:=w.dt.ldN (i:=(p:Int)) (k:=p) rfl (by omega);obtain ⟨τ5,τ6,t1,t2,w6⟩:=w.swapN (i:=(p:Int)) (j:=(q:Int)) (p:=p) (q:=q) rfl rfl (by omega) (by omega);exact xHL l1 l2 t1 t2 ⟨q-1-(p+1),by omega,p+1,q-1,_,by omega,by omega,rfl,by omega,by omega,w6,by rw [yY,hsz],ht⟩
def zEV:List UInt8:=[0,1,2,2,3,3,3,3,4,4,4,4,4,4,4,4,5,5,5,5,5,5,5,5,5,5,5,5,5,5,5,5]++List.replicate 32 6++List.replicate 64 7++List.replicate 128 8
theorem xKG:zEV.length=256:=by decide
theorem yMX:∀ n:Fin 256,(zEV.getD n.val 0).toNat≤8∧(0<n.val→2 ^ (zEV.getD n.val 0).toNat≤2*n.val):=by decide +kernel
theorem xVP {n:Nat} (hn:n<256):zAB Tryz.prog 9 (.string ⟨⟨zEV⟩⟩) (iV (n:Int))=some (.int .u8 ((zEV.getD n 0).toNat:Int)):=by
 have hl:n<zEV.length:=by rw [xKG];exact hn
 have e:zAB Tryz.prog 9 (.string ⟨⟨zEV⟩⟩) (iV (n:Int))=if 0≤(n:Int) then (((⟨⟨zEV⟩⟩:ByteArray)[(n:Int).toNat]?).map fun b=>Value.int .u8 b.toNat) else none:=by
  unfold zAB;have hu:Tryz.prog.underlying 9=some .string:=by kernel_rfl
  simp only [hu]
 rw [e,if_pos (by omega),Int.toNat_natCast];have hb:(⟨⟨zEV⟩⟩:ByteArray)[n]?=some (zEV.getD n 0):=by
  rw [getElem?_pos _ n (by show n<zEV.length;exact hl)];congr 1;rw [List.getD_eq_getElem?_getD,List.getElem?_eq_getElem hl];rfl
 rw [hb];rfl
end
end
section
open Go.Sort (swp PermIn)
theorem xVF {σ:St} {f:FuncId} {args:List Value} {S:Nat→Prop} {Q:Value→St→Prop} (h:zP Pg f args σ.re fun v s=>Only S σ.re s∧(s.low<σ.y∨zW RD v=false∨Q v σ)∧Q v s) (hQ:∀ v s m,Q v s→Q v ⟨s.heap,s.y,m⟩):∃ v σ',zD Pg f args σ v σ'∧Only S σ σ'∧Q v σ':=by
 obtain ⟨v,s,hN,h1,h2,h3⟩:=h;by_cases hlow:s.low<σ.y
 ·exact zP.mut ⟨v,s,hN,h1,.inl hlow,h3⟩ hQ
 ·cases hr:zW RD v with
  | false=>exact zP.mut ⟨v,s,hN,h1,.inr hr,h3⟩ hQ
  | true =>
   refine ⟨v,σ,zP.pure ⟨v,s,hN,rfl,by omega⟩ hr,Only.refl _ _, ?_⟩
   rcases h2 with h2 | h2 | h2
   ·exact absurd h2 hlow
   ·rw [hr] at h2;cases h2
   ·exact h2
theorem xGG (n:Int):zAC .u8 n=n % 256:=by
 have e1:(2:Int) ^ 8=256:=by decide
 rw [vU];simp only [IntKind.wrap,IntKind.bits,IntKind.signed,e1,Bool.false_and,Bool.false_eq_true,if_false]
theorem zWB (n:Int):zAC .u64 n=n % 18446744073709551616:=by
 have e1:(2:Int) ^ 64=18446744073709551616:=by decide
 rw [vU];simp only [IntKind.wrap,IntKind.bits,IntKind.signed,e1,Bool.false_and,Bool.false_eq_true,if_false]
theorem xWY {x z:Int} {o1 o2:Operand} (hz:0≤z):∃ y,uR Pg .shl 166 o1 o2 (.int .u64 x) (.int .u64 z)=some (.int .u64 y):=by
 refine ⟨IntKind.u64.wrap (x*2 ^ (min z.toNat IntKind.u64.bits)), ?_⟩
 have e:Op.shift .shl .u64 x .u64 z=pure (.int .u64 (IntKind.u64.wrap (x*2 ^ (min z.toNat IntKind.u64.bits)))):=by unfold Op.shift;rw [if_neg (by omega)]
 show ((zZ Pg (do eqGuard .shl 166 o1 o2 (.int .u64 x) (.int .u64 z);Op.shift .shl .u64 x .u64 z)).filter (zW RD))=_;rw [e];rfl
theorem xYF {x z:Int} {o1 o2:Operand} (hz:0≤z):∃ y,uR Pg .shr 166 o1 o2 (.int .u64 x) (.int .u64 z)=some (.int .u64 y):=by
 refine ⟨x.fdiv (2 ^ (min z.toNat IntKind.u64.bits)), ?_⟩
 have e:Op.shift .shr .u64 x .u64 z=pure (.int .u64 (x.fdiv (2 ^ (min z.toNat IntKind.u64.bits)))):=by unfold Op.shift;rw [if_neg (by omega)]
 show ((zZ Pg (do eqGuard .shr 166 o1 o2 (.int .u64 x) (.int .u64 z);Op.shift .shr .u64 x .u64 z)).filter (zW RD))=_;rw [e];rfl
theorem xUA {x z:Int} {o1 o2:Operand}:∃ y,uR Pg .xor 166 o1 o2 (.int .u64 x) (.int .u64 z)=some (.int .u64 y):=by
 refine ⟨IntKind.u64.wrap ((BitVec.ofInt IntKind.u64.bits x ^^^ BitVec.ofInt IntKind.u64.bits z).toNat:Int), ?_⟩
 have e:Op.intBits .xor .u64 x z=pure (.int .u64 (IntKind.u64.wrap ((BitVec.ofInt IntKind.u64.bits x ^^^ BitVec.ofInt IntKind.u64.bits z).toNat:Int))):=rfl;show ((zZ Pg (do eqGuard .xor 166 o1 o2 (.int .u64 x) (.int .u64 z);Op.intBits .xor .u64 x z)).filter (zW RD))=_;rw [e];rfl
theorem xYV {x:Int} {m:Nat} {o1 o2:Operand} (hm:m<18446744073709551616):∃ y:Nat,uR Pg .and 141 o1 o2 (.int .u64 x) (.int .u64 (m:Int))=some (.int .u64 (y:Int))∧y≤m:=by
 have e64:(2:Nat) ^ IntKind.u64.bits=18446744073709551616:=by decide
 have hb:(BitVec.ofInt IntKind.u64.bits (m:Int)).toNat=m:=by
  rw [BitVec.toNat_ofInt,e64];omega
 have hle:(BitVec.ofInt IntKind.u64.bits x &&& BitVec.ofInt IntKind.u64.bits (m:Int)).toNat≤m:=by
  rw [BitVec.toNat_and,hb];exact Nat.and_le_right
 refine ⟨(BitVec.ofInt IntKind.u64.bits x &&& BitVec.ofInt IntKind.u64.bits (m:Int)).toNat, ?_,hle⟩
 have e:Op.intBits .and .u64 x (m:Int)=pure (.int .u64 (IntKind.u64.wrap ((BitVec.ofInt IntKind.u64.bits x &&& BitVec.ofInt IntKind.u64.bits (m:Int)).toNat:Int))):=rfl;show ((zZ Pg (do eqGuard .and 141 o1 o2 (.int .u64 x) (.int .u64 (m:Int));Op.intBits .and .u64 x (m:Int))).filter (zW RD))=_;rw [e,← vU,zWB,Int.emod_eq_of_lt (by omega) (by omega)];rfl
theorem xYG {n:Nat} {o1 o2:Operand}:uR Pg .shr 162 o1 o2 (.int .u64 (n:Int)) (.int .u64 8)=some (.int .u64 ((n / 256:Nat):Int)):=by
 have e:Op.shift .shr .u64 (n:Int) .u64 8=pure (.int .u64 ((n / 256:Nat):Int)):=by
  unfold Op.shift;rw [if_neg (by omega)];show pure (Value.int .u64 (Int.fdiv (n:Int) (2 ^ (min (8:Int).toNat IntKind.u64.bits))))=_;rw [show (2:Int) ^ (min (8:Int).toNat IntKind.u64.bits)=((256:Nat):Int) by decide,← Int.ofNat_fdiv]
 show ((zZ Pg (do eqGuard .shr 162 o1 o2 (.int .u64 (n:Int)) (.int .u64 8);Op.shift .shr .u64 (n:Int) .u64 8)).filter (zW RD))=_;rw [e];rfl
theorem xYH {n:Nat} {o1 o2:Operand} (h:n≤16):uR Pg .shl 141 o1 o2 (.int .u64 1) (iV (n:Int))=some (.int .u64 ((2 ^ n:Nat):Int)):=by
 have e:Op.shift .shl .u64 1 .i64 (n:Int)=pure (.int .u64 (IntKind.u64.wrap (1*2 ^ (min (n:Int).toNat IntKind.u64.bits)))):=by unfold Op.shift;rw [if_neg (by omega)]
 have e2:IntKind.u64.wrap (1*2 ^ (min (n:Int).toNat IntKind.u64.bits))=((2 ^ n:Nat):Int):=by
  have hp:2 ^ n≤2 ^ 16:=Nat.pow_le_pow_right (by omega) h;have h16:(2:Nat) ^ 16=65536:=by decide
  rw [Int.toNat_natCast,show min n IntKind.u64.bits=n from Nat.min_eq_left (by show n≤64;omega),← vU,zWB,Int.one_mul];have e3:(2:Int) ^ n=((2 ^ n:Nat):Int):=by simp
  rw [e3];obtain ⟨k,hk⟩:∃ k:Nat,k=2 ^ n:=⟨_,rfl⟩;rw [← hk] at hp ⊢;omega
 show ((zZ Pg (do eqGuard .shl 141 o1 o2 (.int .u64 1) (iV (n:Int));Op.shift .shl .u64 1 .i64 (n:Int))).filter (zW RD))=_;rw [e,e2];rfl
theorem yZG {n:Nat} (hn:n<256):zAB Pg 9 (.string ⟨⟨zEV⟩⟩) (.int .u8 (n:Int))=some (.int .u8 ((zEV.getD n 0).toNat:Int)):=by
 have h:=xVP hn;have e:zAB Pg 9 (.string ⟨⟨zEV⟩⟩) (.int .u8 (n:Int))=zAB Pg 9 (.string ⟨⟨zEV⟩⟩) (iV (n:Int)):=by
  unfold zAB;have hu:Pg.underlying 9=some .string:=by kernel_rfl
  simp only [hu]
 rw [e,h]
section
variable {σ:St} {b c:Nat} {s:Option Nat} {d:Array Rec} {g:FuncId} {gc:List Value} {lt:Rec→Rec→Bool} {V:Rec→Prop}
theorem yWW {x:Nat} (hx:x<65536):∃ n:Nat,n≤16∧(0<x→2 ^ n≤2*x)∧zD Pg 98 [.int .u64 (x:Int)] σ (iV (n:Int)) σ:=by
 by_cases h:x<256
 ·obtain ⟨p1,p2⟩:=yMX ⟨x,h⟩;refine ⟨(zEV.getD x 0).toNat,by simp only at p1;omega,fun h0=>p2 h0, ?_⟩
  refine (xAA (n1:=((zEV.getD x 0).toNat:Int)) (xFT (z1:=(x:Int)) (n2:=((zEV.getD x 0).toNat:Int)) (by rw [xGG];omega) (yZG h) ⟨by rw [Int.zero_add],Nat.le_refl _⟩ (by omega) (by omega) (by omega) (by simp only at p1;omega) (by simp only at p1;omega)).pure ⟨rfl,Nat.le_refl _⟩).pure
 ·have h2:x / 256<256:=by omega
  obtain ⟨p1,p2⟩:=yMX ⟨x / 256,h2⟩;simp only at p1 p2;refine ⟨8+(zEV.getD (x / 256) 0).toNat,by omega,fun _=>?_, ?_⟩
  ·have:=p2 (by omega);rw [Nat.pow_add,show (2:Nat) ^ 8=256 from rfl];omega
  ·refine (xAA (n1:=((8+(zEV.getD (x / 256) 0).toNat:Nat):Int)) (xFU (n1:=((x / 256:Nat):Int)) (z2:=((x / 256:Nat):Int)) (n3:=((zEV.getD (x / 256) 0).toNat:Int)) xYG (by rw [xGG];omega) (yZG h2) ⟨by congr 1,Nat.le_refl _⟩ (by omega) (by omega) (by omega) (by omega) (by omega)).pure ⟨rfl,Nat.le_refl _⟩).pure
theorem xQW {l:Nat} (h0:0<l) (hl:l<65536):∃ m:Nat,1≤m∧m≤2*l∧zD Pg 122 [iV (l:Int)] σ (.int .u64 (m:Int)) σ:=by
 obtain ⟨n,h1,h2,h3⟩:=yWW (σ:=σ.re) (x:=l) hl;exact ⟨2 ^ n,Nat.pow_pos (by omega),h2 h0,(xJT (z1:=(l:Int)) (by rw [zWB];omega) h3 (xYH h1) ⟨rfl,Nat.le_refl _⟩).pure⟩
theorem xUB {r:Nat} {n:Int} (o:Own σ r [.int .u64 n] 1):∃ n' σ',zD Pg 123 [.pointer (some ⟨r,0,none⟩)] σ (.int .u64 n') σ'∧Only (·=r) σ σ'∧Own σ' r [.int .u64 n'] 1:=by
 obtain ⟨n2,b2⟩:=xWY (x:=n) (z:=13) (o1:=.tmp 8) (o2:=.const (.int .u64 13)) (by omega);obtain ⟨n3,b3⟩:=xUA (x:=n) (z:=n2) (o1:=.tmp 5) (o2:=.tmp 9);obtain ⟨n6,b6⟩:=xYF (x:=n3) (z:=7) (o1:=.tmp 17) (o2:=.const (.int .u64 7)) (by omega);obtain ⟨n7,b7⟩:=xUA (x:=n3) (z:=n6) (o1:=.tmp 14) (o2:=.tmp 18);obtain ⟨n10,b10⟩:=xWY (x:=n7) (z:=17) (o1:=.tmp 26) (o2:=.const (.int .u64 17)) (by omega);obtain ⟨n11,b11⟩:=xUA (x:=n7) (z:=n10) (o1:=.tmp 23) (o2:=.tmp 27);have o0:Own σ.re r [.int .u64 n] 1:=o.re;have s1:=o0.store (P:=Pg) (k:=0) (t:=166) (v:=.int .u64 n3) (vs:=[.int .u64 n3]) (ds:=[.int .u64 n3]) rfl zVD rfl (by simp) rfl;have o1:Own (σ.re.own r [.int .u64 n3] 1) r [.int .u64 n3] 1:=o0.put;have s2:=o1.store (P:=Pg) (k:=0) (t:=166) (v:=.int .u64 n7) (vs:=[.int .u64 n7]) (ds:=[.int .u64 n7]) rfl zVD rfl (by simp) rfl;have o2:Own ((σ.re.own r [.int .u64 n3] 1).own r [.int .u64 n7] 1) r [.int .u64 n7] 1:=o1.put;have s3:=o2.store (P:=Pg) (k:=0) (t:=166) (v:=.int .u64 n11) (vs:=[.int .u64 n11]) (ds:=[.int .u64 n11]) rfl zVD rfl (by simp) rfl;have o3:Own (((σ.re.own r [.int .u64 n3] 1).own r [.int .u64 n7] 1).own r [.int .u64 n11] 1) r [.int .u64 n11] 1:=o2.put;have hr:=o.lt;obtain ⟨v,σ',k1,k2,n',rfl,k3⟩:=zP.mut (P:=Pg) (f:=123) (args:=[.pointer (some ⟨r,0,none⟩)]) (σ:=σ) (S:=(·=r)) (Q:=fun v s=>∃ n',v=.int .u64 n'∧Own s r [.int .u64 n'] 1)
  (xOT (o0.ld rfl yJF rfl) b2 b3 s1 (o1.ld rfl yJF rfl) b6 b7 s2 (o2.ld rfl yJF rfl) b10 b11 s3 (o3.ld rfl yJF rfl)
   ⟨(((Only.own (S:=(·=r)) (.inr rfl)).trans' (Only.own (S:=(·=r)) (.inr rfl)) (fun b _ h=>.inl h)).trans' (Only.own (S:=(·=r)) (.inr rfl)) (fun b _ h=>.inl h)),.inl (by simp [St.own];omega),n11,rfl,o3⟩)
  (by rintro v s m ⟨n',rfl,h⟩;exact ⟨n',rfl,h.low⟩)
 exact ⟨n',σ',k1,k2,k3⟩
theorem W.other {τ τ':St} {dk:Array Rec} {S:Nat→Prop} (w:W σ τ b s d dk) (hb:b<σ.y) (o:Only S τ τ') (hS:∀ x,S x→σ.y≤x) (hl:τ'.low≤τ.low):W σ τ' b s d dk:=by
 refine ⟨w.only.trans' o (fun x _ h=>.inr (hS x h)),w.dt.only o (fun h=>by have:=hS b h;omega), ?_⟩
 rcases w.low with h | h
 ·exact .inl (by omega)
 ·exact .inr h
theorem xNA {a B:Nat} (h:Dt σ b s d) (ha:a≤B) (hB:B≤d.size) (hn:d.size≤60000) (hv:xQ V d) :
  ∃ d',PermIn a B d d'∧xQ V d'∧uJ 108 [.slice (some ⟨b,0,s⟩) d.size c,iV (a:Int),iV (B:Int),.func (.func g) ⟨[]⟩ ⟨gc⟩] (.tuple ⟨[]⟩) σ b s d d':=by
 suffices hmain:zP Pg 108 [.slice (some ⟨b,0,s⟩) d.size c,iV (a:Int),iV (B:Int),.func (.func g) ⟨[]⟩ ⟨gc⟩] σ.re fun v τ=>v=.tuple ⟨[]⟩∧∃ d',W σ τ b s d d'∧PermIn a B d d'∧xQ V d' by
  obtain ⟨v,τ,hN,e,d',w,r1,r2⟩:=hmain
  exact ⟨d',r1,r2,uJ.of h ⟨v,τ,hN,e,w⟩⟩
 by_cases h8:B-a<8
 ·exact xFJ ⟨rfl,d,W.start h,Go.Sort.permIn_refl _ _ _,hv⟩ (by omega) (by omega)
 obtain ⟨l,hl⟩:∃ l,l=B-a:=⟨_,rfl⟩;have el:(B:Int)-(a:Int)=(l:Int):=by omega
 have e4:Int.tdiv (l:Int) 4=((l / 4:Nat):Int):=by rw [Int.tdiv_eq_ediv_of_nonneg (by omega)];omega
 have w4:IntKind.wrap .i64 (Int.tdiv (l:Int) 4)=Int.tdiv (l:Int) 4:=by rw [← vU,e4,zWC (by omega) (by omega)]
 have ez:zAC .u64 ((B:Int)-(a:Int))=(l:Int):=by rw [el,zWB];omega
 have hbn:=h.1;obtain ⟨m,hm1,hm2,km⟩:=xQW (σ:=(σ.re.row [.int .u64 0] 1).own σ.re.y [.int .u64 (l:Int)] 1) (l:=l) (by omega) (by omega);have o1:Own ((σ.re.row [.int .u64 0] 1).own σ.re.y [.int .u64 (l:Int)] 1) σ.y [.int .u64 (l:Int)] 1:=(zC _ _ _).put;have O1:Only (·=σ.y) σ.re ((σ.re.row [.int .u64 0] 1).own σ.re.y [.int .u64 (l:Int)] 1):=(Only.row (S:=(·=σ.y)) _ _ _).trans' (Only.own (S:=(·=σ.y)) (.inr rfl)) (fun b _ h=>.inl h);have w1:W σ ((σ.re.row [.int .u64 0] 1).own σ.re.y [.int .u64 (l:Int)] 1) b s d d:=(W.start h).other hbn O1 (fun x hx=>by omega) (by simp [St.own]);refine xFK ez (by rw [el];exact km) (by rw [el];exact w4) (P0:=fun τ=>∃ d',W σ τ b s d d'∧PermIn a B d d'∧xQ V d')
  (by
   rw [el];refine yJA (Inv:=fun k i τ=>∃ (p:Nat) (dk:Array Rec) (n:Int),i=p∧p+k=a+l / 4*2+2∧a≤p∧W σ τ b s d dk∧PermIn a B d dk∧xQ V dk∧Own τ σ.y [.int .u64 n] 1) ?_ 3 _ _ ⟨a+l / 4*2-1,d,_,by rw [e4];omega,by omega,by omega,w1,Go.Sort.permIn_refl _ _ _,hv,o1⟩;rintro k i τ ⟨p,dk,n,rfl,hk,hap,w,hperm,hall,o⟩;have hsz:dk.size=d.size:=hperm.1;by_cases hp:p≤a+l / 4*2+1;rotate_left
   ·exact yWN w4 ⟨dk,w,hperm,hall⟩ (by rw [e4];omega) (by rw [e4];omega) (by rw [e4];omega) (by rw [e4];omega)
   obtain ⟨n',τ',kx,ox,oo⟩:=xUB o;have w2:=w.other hbn ox (fun x hx=>by omega) (zEA kx);obtain ⟨y,by1,by2⟩:=xYV (x:=n') (m:=m-1) (o1:=.tmp 38) (o2:=.tmp 40) (by omega);have em:zAC .u64 (Int.sub (m:Int) 1)=((m-1:Nat):Int):=by
    rw [show Int.sub (m:Int) 1=(m:Int)-1 from rfl,zWB];omega
   have key:∀ (q:Nat) (j:Int),j=(q:Int)→a≤q→q<B→∃ τ1 τ2,zQ Pg (evL [.pointer (some (zL ⟨b,0,s⟩ (Int.toNat (p:Int)*3))),zEG dk[q]!]) τ' (.store 45 (.tmp 0) (.tmp 1))=some (undef,τ1) ∧
     zQ Pg (evL [.pointer (some (zL ⟨b,0,s⟩ (Int.toNat j*3))),zEG dk[p]!]) τ1 (.store 45 (.tmp 0) (.tmp 1))=some (undef,τ2) ∧
     ∃ k',k' < k∧∃ (p':Nat) (dk':Array Rec) (n:Int),(p:Int)+1=p'∧p'+k'=a+l / 4*2+2∧a≤p'∧W σ τ2 b s d dk'∧PermIn a B d dk'∧xQ V dk'∧Own τ2 σ.y [.int .u64 n] 1:=by
    intro q j hj h1 h2
    obtain ⟨τ1,e1,d1,q1,l1⟩:=w2.dt.st (i:=(p:Int)) dk[q]! (by omega) (by omega)
    obtain ⟨τ2,e2,d2,q2,l2⟩:=d1.st (i:=j) dk[p]! (by omega) (by rw [Array.size_setIfInBounds];omega)
    have es:(dk.setIfInBounds (p:Int).toNat dk[q]!).setIfInBounds j.toNat dk[p]! = swp dk p q:=by rw [hj,Int.toNat_natCast,Int.toNat_natCast];rfl
    rw [es] at d2
    exact ⟨τ1,τ2,e1,e2,k-1,by omega,p+1,swp dk p q,n',by omega,by omega,by omega,⟨(w2.only.trans' q1 (fun b _ h=>.inl h)).trans' q2 (fun b _ h=>.inl h),d2,.inl l2⟩,
     Go.Sort.permIn_trans _ _ _ a B hperm (Go.Sort.swp_permIn dk a B p q (by omega) (by omega) h1 h2 (by omega)),hall.swp (by omega) (by omega),q2.own' (q1.own' oo (fun e=>by omega)) (fun e=>by omega)⟩
   have lp:=w2.dt.ldN (i:=(p:Int)) (k:=p) rfl (by omega);by_cases hy:l≤y
   ·obtain ⟨τ1,τ2,e1,e2,hk'⟩:=key (a+(y-l)) ((a:Int)+((y:Int)-(l:Int))) (by omega) (by omega) (by omega);have lq:=w2.dt.ldN (i:=(a:Int)+((y:Int)-(l:Int))) (k:=a+(y-l)) (by omega) (by omega);exact yWP w4 kx em by1 lq lp e1 e2 hk' (by rw [e4];omega) (by rw [e4];omega) (by rw [e4];omega) (by rw [e4];omega) (by omega) (by omega) (by omega) (by omega) (by omega) (by omega)
   ·obtain ⟨τ1,τ2,e1,e2,hk'⟩:=key (a+y) ((a:Int)+(y:Int)) (by omega) (by omega) (by omega);have lq:=w2.dt.ldN (i:=(a:Int)+(y:Int)) (k:=a+y) (by omega) (by omega);exact yWO w4 kx em by1 lq lp e1 e2 hk' (by rw [e4];omega) (by rw [e4];omega) (by rw [e4];omega) (by rw [e4];omega) (by omega) (by omega) (by omega) (by omega) (by omega))
  (fun τ hw=>yIZ ⟨rfl,hw⟩) (by omega) (by omega) (by rw [el,e4];omega) (by rw [el,e4];omega) (by rw [el,e4];omega)
end
end
section
variable {σ:St} {b c:Nat} {s:Option Nat} {d:Array Rec} {g:FuncId} {gc:List Value} {lt:Rec→Rec→Bool} {V:Rec→Prop}
theorem yTU {bs i j:Nat} {n:Int} (h:Dt σ b s d) (hc:Cmp g gc lt V) (hv:xQ V d) (o:Own σ bs [iV n] 1) (hi:i<d.size) (hj:j<d.size) (hn:0≤n∧n≤1000) :
  ∃ (x y:Nat) (n':Int) (σ':St),zD Tryz.prog 130 [.slice (some ⟨b,0,s⟩) d.size c,iV (i:Int),iV (j:Int),.pointer (some ⟨bs,0,none⟩),.func (.func g) ⟨[]⟩ ⟨gc⟩] σ (.tuple ⟨[iV (x:Int),iV (y:Int)]⟩) σ'∧Only (·=bs) σ σ' ∧
   ((x=i∧y=j)∨(x=j∧y=i))∧n≤n'∧n'≤n+1∧Own σ' bs [iV n'] 1:=by
 have h0:Dt σ.re b s d:=h;have l1:=h0.ldN (i:=(j:Int)) (k:=j) rfl hj;have l2:=h0.ldN (i:=(i:Int)) (k:=i) rfl hi;have hbs:=o.lt;obtain ⟨m,cm,hm⟩:=hc.at_ (τ:=σ.re) hv hj hi;suffices hmain:zP Tryz.prog 130 [.slice (some ⟨b,0,s⟩) d.size c,iV (i:Int),iV (j:Int),.pointer (some ⟨bs,0,none⟩),.func (.func g) ⟨[]⟩ ⟨gc⟩] σ.re fun v τ=>Only (·=bs) σ.re τ∧(τ.low<σ.y∨zW RD v=false∨∃ (x y:Nat) (n':Int),v=.tuple ⟨[iV (x:Int),iV (y:Int)]⟩∧((x=i∧y=j)∨(x=j∧y=i))∧n≤n'∧n'≤n+1∧Own σ bs [iV n'] 1) ∧
   ∃ (x y:Nat) (n':Int),v=.tuple ⟨[iV (x:Int),iV (y:Int)]⟩∧((x=i∧y=j)∨(x=j∧y=i))∧n≤n'∧n'≤n+1∧Own τ bs [iV n'] 1 by
  obtain ⟨v,σ',k1,k2,x,y,n',rfl,k3,k4,k5,k6⟩:=xVF (Q:=fun v τ=>∃ (x y:Nat) (n':Int),v=.tuple ⟨[iV (x:Int),iV (y:Int)]⟩∧((x=i∧y=j)∨(x=j∧y=i))∧n≤n'∧n'≤n+1∧Own τ bs [iV n'] 1) hmain
   (by rintro v s m ⟨x,y,n',rfl,a1,a2,a3,a4⟩;exact ⟨x,y,n',rfl,a1,a2,a3,a4.low⟩)
  exact ⟨x,y,n',σ',k1,k2,k3,k4,k5,k6⟩
 rcases hm with ⟨m1,_⟩ | ⟨m1,_⟩
 ·have o0:Own σ.re bs [iV n] 1:=o.re;have st:=o0.store (P:=Tryz.prog) (k:=0) (t:=3) (v:=iV (n+1)) (vs:=[iV (n+1)]) (ds:=[iV (n+1)]) rfl vE rfl (by simp) rfl;exact xQP l1 l2 cm (o0.ld rfl zT rfl) st ⟨Only.own (.inr rfl),.inl (by simp [St.own];omega),j,i,n+1,rfl,.inr ⟨rfl,rfl⟩,by omega,by omega,o0.put⟩
 ·exact xQO l1 l2 cm ⟨Only.refl _ _,.inr (.inr ⟨i,j,n,rfl,.inl ⟨rfl,rfl⟩,by omega,by omega,o⟩),i,j,n,rfl,.inl ⟨rfl,rfl⟩,by omega,by omega,o.re⟩
theorem xJV {bs i j k:Nat} {n:Int} (h:Dt σ b s d) (hc:Cmp g gc lt V) (hv:xQ V d) (o:Own σ bs [iV n] 1) (hb:b≠bs) (hi:i<d.size) (hj:j<d.size) (hk:k<d.size) (hn:0≤n∧n≤900) :
    ∃ (x:Nat) (n':Int) (σ':St),zD Tryz.prog 125 [.slice (some ⟨b,0,s⟩) d.size c,iV (i:Int),iV (j:Int),iV (k:Int),.pointer (some ⟨bs,0,none⟩),.func (.func g) ⟨[]⟩ ⟨gc⟩] σ (iV (x:Int)) σ'∧Only (·=bs) σ σ' ∧
      (x=i∨x=j∨x=k)∧n≤n'∧n'≤n+3∧Own σ' bs [iV n'] 1:=by
  have hbs:=o.lt;obtain ⟨x1,y1,n1,σ1,k1,q1,z1,e1,f1,o1⟩:=yTU (c:=c) (σ:=σ.re) h hc hv o.re hi hj (by omega);have h1:Dt σ1 b s d:=(show Dt σ.re b s d from h).only q1 (by omega);obtain ⟨x2,y2,n2,σ2,k2,q2,z2,e2,f2,o2⟩:=yTU (c:=c) h1 hc hv o1 (i:=y1) (j:=k) (by omega) hk (by omega);have h2:=h1.only q2 (by omega);obtain ⟨x3,y3,n3,σ3,k3,q3,z3,e3,f3,o3⟩:=yTU (c:=c) h2 hc hv o2 (i:=x1) (j:=x2) (by omega) (by omega) (by omega);have Q3:=(q1.trans' q2 (fun b _ h=>.inl h)).trans' q3 (fun b _ h=>.inl h);have hz:y3=i∨y3=j∨y3=k:=by omega
  by_cases hlow:σ3.low<σ.y
  · obtain ⟨v,σ',r1,r2,x,n',rfl,r3,r4,r5,r6⟩:=xVF (σ:=σ) (f:=125) (args:=[.slice (some ⟨b,0,s⟩) d.size c,iV (i:Int),iV (j:Int),iV (k:Int),.pointer (some ⟨bs,0,none⟩),.func (.func g) ⟨[]⟩ ⟨gc⟩]) (S:=(·=bs)) (Q:=fun v τ=>∃ (x:Nat) (n':Int),v=iV (x:Int)∧(x=i∨x=j∨x=k)∧n≤n'∧n'≤n+3∧Own τ bs [iV n'] 1)
      (xJU k1 k2 k3 ⟨Q3,.inl hlow,y3,n3,rfl,hz,by omega,by omega,o3⟩) (by rintro v s m ⟨x,n',rfl,a1,a2,a3,a4⟩;exact ⟨x,n',rfl,a1,a2,a3,a4.low⟩)
    exact ⟨x,n',σ',r1,r2,r3,r4,r5,r6⟩
  · exact ⟨y3,n,σ,zP.pure (xJU k1 k2 k3 ⟨rfl,by omega⟩),Only.refl _ _,hz,by omega,by omega,o⟩
theorem yTY {bs i:Nat} {n:Int} (h:Dt σ b s d) (hc:Cmp g gc lt V) (hv:xQ V d) (o:Own σ bs [iV n] 1) (hb:b≠bs) (hi:1≤i) (hj:i+1<d.size) (hsz:d.size≤1000000) (hn:0≤n∧n≤800) :
    ∃ (x:Nat) (n':Int) (σ':St),zD Tryz.prog 124 [.slice (some ⟨b,0,s⟩) d.size c,iV (i:Int),.pointer (some ⟨bs,0,none⟩),.func (.func g) ⟨[]⟩ ⟨gc⟩] σ (iV (x:Int)) σ'∧Only (·=bs) σ σ' ∧
      (i≤x+1∧x≤i+1)∧n≤n'∧n'≤n+3∧Own σ' bs [iV n'] 1:=by
  have hbs:=o.lt;obtain ⟨x1,n1,σ1,k1,q1,z1,e1,f1,o1⟩:=xJV (c:=c) (σ:=σ.re) h hc hv o.re hb (i:=i-1) (j:=i) (k:=i+1) (by omega) (by omega) hj (by omega);rw [show ((i-1:Nat):Int)=(i:Int)-1 by omega,show ((i+1:Nat):Int)=(i:Int)+1 by omega] at k1;have hz:i≤x1+1∧x1≤i+1:=by omega
  by_cases hlow:σ1.low<σ.y
  · obtain ⟨v,σ',r1,r2,x,n',rfl,r3,r4,r5,r6⟩:=xVF (σ:=σ) (f:=124) (args:=[.slice (some ⟨b,0,s⟩) d.size c,iV (i:Int),.pointer (some ⟨bs,0,none⟩),.func (.func g) ⟨[]⟩ ⟨gc⟩]) (S:=(·=bs)) (Q:=fun v τ=>∃ (x:Nat) (n':Int),v=iV (x:Int)∧(i≤x+1∧x≤i+1)∧n≤n'∧n'≤n+3∧Own τ bs [iV n'] 1)
      (yYY k1 ⟨q1,.inl hlow,x1,n1,rfl,hz,by omega,by omega,o1⟩) (by rintro v s m ⟨x,n',rfl,a1,a2,a3,a4⟩;exact ⟨x,n',rfl,a1,a2,a3,a4.low⟩)
    exact ⟨x,n',σ',r1,r2,r3,r4,r5,r6⟩
  · exact ⟨x1,n,σ,zP.pure (yYY k1 ⟨rfl,by omega⟩),Only.refl _ _,hz,by omega,by omega,o⟩
theorem xFE {a B:Nat} (h:Dt σ b s d) (hc:Cmp g gc lt V) (hv:xQ V d) (ha:a<B) (hB:B≤d.size) (hsz:d.size≤1000000) :
  ∃ (x:Nat) (k:Int),a≤x∧x<B∧zD Tryz.prog 109 [.slice (some ⟨b,0,s⟩) d.size c,iV (a:Int),iV (B:Int),.func (.func g) ⟨[]⟩ ⟨gc⟩] σ (.tuple ⟨[iV (x:Int),iV k]⟩) σ:=by
 obtain ⟨l,hl⟩:∃ l,l=B-a:=⟨_,rfl⟩;have el:(B:Int)-(a:Int)=(l:Int):=by omega
 have e4:Int.tdiv ((B:Int)-(a:Int)) 4=((l / 4:Nat):Int):=by rw [el,Int.tdiv_eq_ediv_of_nonneg (by omega)];omega
 have w4:IntKind.wrap .i64 (Int.tdiv ((B:Int)-(a:Int)) 4)=Int.tdiv ((B:Int)-(a:Int)) 4:=by rw [← vU,e4,zWC (by omega) (by omega)]
 have hbn:=h.1;have o1:Own (σ.re.row [iV 0] 1) σ.y [iV 0] 1:=zC _ _ _;have N1:New σ.re (σ.re.row [iV 0] 1):=New.row _ _ _;have h1:Dt (σ.re.row [iV 0] 1) b s d:=(show Dt σ.re b s d from h).le N1.le;have hS:∀ x,x=σ.y→σ.y≤x:=fun x e=>by omega
 by_cases h8:8≤l;rotate_left
 ·exact ⟨a+l / 4*2,1,by omega,by omega,zP.pure (yVM w4 ⟨by rw [e4];congr 3,N1.lw⟩ (by omega) (by rw [e4];omega) (by rw [e4];omega) (by rw [e4];omega) (by rw [e4];omega) (by rw [e4];omega) (by rw [e4];omega) (by omega))⟩
 have i1:(a:Int)+Int.tdiv ((B:Int)-(a:Int)) 4*1=((a+l / 4*1:Nat):Int):=by rw [e4];omega
 have i2:(a:Int)+Int.tdiv ((B:Int)-(a:Int)) 4*2=((a+l / 4*2:Nat):Int):=by rw [e4];omega
 have i3:(a:Int)+Int.tdiv ((B:Int)-(a:Int)) 4*3=((a+l / 4*3:Nat):Int):=by rw [e4];omega
 by_cases h50:50≤l;rotate_left
 ·obtain ⟨x,n',σ2,k2,q2,z2,m1,m2,o2⟩:=xJV (c:=c) h1 hc hv o1 (by omega) (i:=a+l / 4*1) (j:=a+l / 4*2) (k:=a+l / 4*3) (by omega) (by omega) (by omega) (by omega);rw [← i1,← i2,← i3] at k2;have N2:=N1.of_only q2 hS;by_cases g0:n'=0
  ·exact ⟨x,1,by omega,by omega,zP.pure (yVP w4 k2 (o2.ld rfl zT rfl) ⟨rfl,N2.lw⟩ (by omega) (by rw [e4];omega) (by rw [e4];omega) (by rw [e4];omega) (by rw [e4];omega) (by rw [e4];omega) (by rw [e4];omega) (by omega) (by omega) (by omega))⟩
  by_cases g12:n'=12
  ·exact ⟨x,2,by omega,by omega,zP.pure (yVO w4 k2 (o2.ld rfl zT rfl) ⟨rfl,N2.lw⟩ (by omega) (by rw [e4];omega) (by rw [e4];omega) (by rw [e4];omega) (by rw [e4];omega) (by rw [e4];omega) (by rw [e4];omega) (by omega) (by omega) (by omega) (by omega))⟩
  ·exact ⟨x,0,by omega,by omega,zP.pure (yVN w4 k2 (o2.ld rfl zT rfl) ⟨rfl,N2.lw⟩ (by omega) (by rw [e4];omega) (by rw [e4];omega) (by rw [e4];omega) (by rw [e4];omega) (by rw [e4];omega) (by rw [e4];omega) (by omega) (by omega) (by omega) (by omega))⟩
 obtain ⟨x1,n1,σ2,k2,q2,z2,m1,m2,o2⟩:=yTY (c:=c) h1 hc hv o1 (by omega) (i:=a+l / 4*1) (by omega) (by omega) hsz (by omega);have N2:=N1.of_only q2 hS;have h2:=h1.only q2 (by omega);obtain ⟨x2,n2,σ3,k3,q3,z3,m3,m4,o3⟩:=yTY (c:=c) h2 hc hv o2 (by omega) (i:=a+l / 4*2) (by omega) (by omega) hsz (by omega);have N3:=N2.of_only q3 hS;have h3:=h2.only q3 (by omega);obtain ⟨x3,n3,σ4,k4,q4,z4,m5,m6,o4⟩:=yTY (c:=c) h3 hc hv o3 (by omega) (i:=a+l / 4*3) (by omega) (by omega) hsz (by omega);have N4:=N3.of_only q4 hS;have h4:=h3.only q4 (by omega);obtain ⟨x,n',σ5,k5,q5,z5,m7,m8,o5⟩:=xJV (c:=c) h4 hc hv o4 (by omega) (i:=x1) (j:=x2) (k:=x3) (by omega) (by omega) (by omega) (by omega);have N5:=N4.of_only q5 hS;rw [← i1] at k2;rw [← i2] at k3;rw [← i3] at k4;by_cases g0:n'=0
 ·exact ⟨x,1,by omega,by omega,zP.pure (yVS w4 k2 k3 k4 k5 (o5.ld rfl zT rfl) ⟨rfl,N5.lw⟩ (by omega) (by rw [e4];omega) (by rw [e4];omega) (by rw [e4];omega) (by rw [e4];omega) (by rw [e4];omega) (by rw [e4];omega) (by omega) (by omega) (by omega))⟩
 by_cases g12:n'=12
 ·exact ⟨x,2,by omega,by omega,zP.pure (yVR w4 k2 k3 k4 k5 (o5.ld rfl zT rfl) ⟨rfl,N5.lw⟩ (by omega) (by rw [e4];omega) (by rw [e4];omega) (by rw [e4];omega) (by rw [e4];omega) (by rw [e4];omega) (by rw [e4];omega) (by omega) (by omega) (by omega) (by omega))⟩
 ·exact ⟨x,0,by omega,by omega,zP.pure (yVQ w4 k2 k3 k4 k5 (o5.ld rfl zT rfl) ⟨rfl,N5.lw⟩ (by omega) (by rw [e4];omega) (by rw [e4];omega) (by rw [e4];omega) (by rw [e4];omega) (by rw [e4];omega) (by rw [e4];omega) (by omega) (by omega) (by omega) (by omega))⟩
end
section
noncomputable section
variable (data:oAa) (ag ah:Nat) (aU:Int) (az:FuncId) (am:lVa) (q0:Int→Int→Int→Bool→Bool→St→Prop) (bA:Bool) (q1:St→Prop) (aX nL aH kD aW kE kC:Int) (fq fj bj:Bool) (q4:Int→Int→Bool→St→Prop) (fu ft:Int) (t10_5:Bool) (σ:St) (Nx:Int→Int→Int→Bool→Bool→St→Prop) (q6:vPa) (q5:Int→Int→Bool→St→Prop) (Qr:St→Prop)
def zNA:Code:=(Code.part [1,1,0,0] (qh 97))
def zXM:lNa:=[(0,.slice data ag ah),(1,iV aX),(2,iV aH),(3,iV aW),(4,.func (.func az) ⟨[]⟩ ⟨am⟩),(10,.bool fq),(11,.bool bj)]
def zKX:Alt:=⟨Int × Int × Int × Bool × Bool,.normal,fun t=>zXM data ag ah az am t.1 t.2.1 t.2.2.1 t.2.2.2.1 t.2.2.2.2,fun t=>[],fun t σ=>q0 t.1 t.2.1 t.2.2.1 t.2.2.2.1 t.2.2.2.2 σ⟩
def yLP (data:oAa) (ag ah:Nat) (az:FuncId) (am:lVa):lNa:=[]
def zCA:Alt:=⟨Unit,.ret,fun t=>yLP data ag ah az am,fun t=>[],fun t σ=>q1 σ⟩
def zRA:Prop:=qi qj none zNA 148 (zXM data ag ah az am aX aH aW fq bj) [] [zKX data ag ah az am Nx,zCA data ag ah az am Qr] σ
def xII:Prop:=qk qj none zNA 148 (zXM data ag ah az am aX aH aW fq bj) [] [zCA data ag ah az am Qr] σ
def xVA:Code:=(Code.part [1,1,0,0,0,1,1,1,0,1] (qh 97))
def ySV (data:oAa) (ag ah:Nat) (aX aH:Int) (az:FuncId) (am:lVa) (dd bj:Bool) (kA:Int) (fK:Bool) (aU:Int):lNa:=[(0,.slice data ag ah),(1,iV aX),(2,iV aH),(3,iV aU),(4,.func (.func az) ⟨[]⟩ ⟨am⟩),(10,.bool dd),(11,.bool bj),(12,iV kA),(39,.bool fK)]
def yLO (data:oAa) (ag ah:Nat) (aX aH:Int) (az:FuncId) (am:lVa) (dd bj:Bool) (kA:Int) (fK:Bool) (aU:Int):lNa:=[(0,.slice data ag ah),(1,iV aX),(2,iV aH),(3,iV aU),(4,.func (.func az) ⟨[]⟩ ⟨am⟩),(10,.bool dd),(11,.bool bj),(12,iV kA)]
def zXP (data:oAa) (ag ah:Nat) (aX aH:Int) (az:FuncId) (am:lVa) (dd bj:Bool) (kA:Int) (fK:Bool) (Q:Int→St→Prop):Alt:=⟨Int,.normal,fun t=>yLO data ag ah aX aH az am dd bj kA fK t,fun t=>[],fun t σ=>Q t σ⟩
def yHK (data:oAa) (ag ah:Nat) (aX aH:Int) (az:FuncId) (am:lVa) (dd bj:Bool) (kA:Int) (fK:Bool) (aU:Int) (σ:St) (Qn:Int→St→Prop):Prop:=qi qj none xVA 148 (ySV data ag ah aX aH az am dd bj kA fK aU) [] [zXP data ag ah aX aH az am dd bj kA fK Qn] σ
def zJC (data:oAa) (ag ah:Nat) (aX aH:Int) (az:FuncId) (am:lVa) (dd bj:Bool) (kA:Int) (fK:Bool) (aU:Int) (σ:St) (Nx:Int→Int→Int→Bool→Bool→St→Prop) (Qr:St→Prop):Prop:=kZ qj zNA [0,1,1,1,0,1] (zFY 148 [zKX data ag ah az am Nx,zCA data ag ah az am Qr]) .normal 148 (yLO data ag ah aX aH az am dd bj kA fK aU) σ
def xUZ:Code:=(Code.part [1,1,0,0,0,1,1,1,1,1,0,1] (qh 97))
def zXL (data:oAa) (ag ah:Nat) (aX aH aU:Int) (az:FuncId) (am:lVa) (dd bj:Bool) (kA:Int) (eE:Bool) (aD dB:Int):lNa:=[(0,.slice data ag ah),(1,iV aX),(2,iV aH),(3,iV aU),(4,.func (.func az) ⟨[]⟩ ⟨am⟩),(10,.bool dd),(11,.bool bj),(12,iV kA),(13,iV aD),(14,iV dB),(56,.bool eE)]
def yLN (data:oAa) (ag ah:Nat) (aX aH aU:Int) (az:FuncId) (am:lVa) (dd bj:Bool) (kA:Int) (eE:Bool) (aD dB:Int):lNa:=[(0,.slice data ag ah),(1,iV aX),(2,iV aH),(3,iV aU),(4,.func (.func az) ⟨[]⟩ ⟨am⟩),(10,.bool dd),(11,.bool bj),(12,iV kA),(13,iV aD),(14,iV dB)]
def zXO (data:oAa) (ag ah:Nat) (aX aH aU:Int) (az:FuncId) (am:lVa) (dd bj:Bool) (kA:Int) (eE:Bool) (Q:Int→Int→St→Prop):Alt:=⟨Int × Int,.normal,fun t=>yLN data ag ah aX aH aU az am dd bj kA eE t.1 t.2,fun t=>[],fun t σ=>Q t.1 t.2 σ⟩
def yHJ (data:oAa) (ag ah:Nat) (aX aH aU:Int) (az:FuncId) (am:lVa) (dd bj:Bool) (kA:Int) (eE:Bool) (aD dB:Int) (σ:St) (Qn:Int→Int→St→Prop):Prop:=qi qj none xUZ 148 (zXL data ag ah aX aH aU az am dd bj kA eE aD dB) [] [zXO data ag ah aX aH aU az am dd bj kA eE Qn] σ
def xZ (data:oAa) (ag ah:Nat) (aX aH aU:Int) (az:FuncId) (am:lVa) (dd bj:Bool) (kA:Int) (eE:Bool) (aD dB:Int) (σ:St) (Nx:Int→Int→Int→Bool→Bool→St→Prop) (Qr:St→Prop):Prop:=kZ qj zNA [0,1,1,1,1,1,0,1] (zFY 148 [zKX data ag ah az am Nx,zCA data ag ah az am Qr]) .normal 148 (yLN data ag ah aX aH aU az am dd bj kA eE aD dB) σ
def xUY:Code:=(Code.part [1,1,0,0,0,1,1,1,1,1,1,1,0,1] (qh 97))
def wE (data:oAa) (ag ah:Nat) (aH aU:Int) (az:FuncId) (am:lVa) (eC eB:Bool) (kA aD:Int) (eM:Bool) (dU:Int):lNa:=[(0,.slice data ag ah),(1,iV dU),(2,iV aH),(3,iV aU),(4,.func (.func az) ⟨[]⟩ ⟨am⟩),(10,.bool eC),(11,.bool eB),(12,iV kA),(13,iV aD),(97,.bool eM)]
def yLM (data:oAa) (ag ah:Nat) (aH aU:Int) (az:FuncId) (am:lVa) (eC eB:Bool) (kA aD:Int) (eM:Bool) (dU:Int):lNa:=[(0,.slice data ag ah),(1,iV dU),(2,iV aH),(3,iV aU),(4,.func (.func az) ⟨[]⟩ ⟨am⟩),(10,.bool eC),(11,.bool eB)]
def vG (data:oAa) (ag ah:Nat) (aH aU:Int) (az:FuncId) (am:lVa) (eC eB:Bool) (kA aD:Int) (eM:Bool) (Q:Int→St→Prop):Alt:=⟨Int,(.exit 1),fun t=>yLM data ag ah aH aU az am eC eB kA aD eM t,fun t=>[],fun t σ=>Q t σ⟩
def yLL (data:oAa) (ag ah:Nat) (aH aU:Int) (az:FuncId) (am:lVa) (eC eB:Bool) (kA aD:Int) (eM:Bool) (dU:Int):lNa:=[(0,.slice data ag ah),(1,iV dU),(2,iV aH),(3,iV aU),(4,.func (.func az) ⟨[]⟩ ⟨am⟩),(12,iV kA),(13,iV aD)]
def vF (data:oAa) (ag ah:Nat) (aH aU:Int) (az:FuncId) (am:lVa) (eC eB:Bool) (kA aD:Int) (eM:Bool) (Q:Int→St→Prop):Alt:=⟨Int,.normal,fun t=>yLL data ag ah aH aU az am eC eB kA aD eM t,fun t=>[],fun t σ=>Q t σ⟩
def uQ (data:oAa) (ag ah:Nat) (aH aU:Int) (az:FuncId) (am:lVa) (eC eB:Bool) (kA aD:Int) (eM:Bool) (dU:Int) (σ:St) (Q1:Int→St→Prop) (Qn:Int→St→Prop):Prop:=qi qj none xUY 148 (wE data ag ah aH aU az am eC eB kA aD eM dU) [] [vG data ag ah aH aU az am eC eB kA aD eM Q1,vF data ag ah aH aU az am eC eB kA aD eM Qn] σ
def wV (data:oAa) (ag ah:Nat) (aH aU:Int) (az:FuncId) (am:lVa) (eC eB:Bool) (kA aD:Int) (eM:Bool) (dU:Int) (σ:St) (Nx:Int→Int→Int→Bool→Bool→St→Prop) (Qr:St→Prop):Prop:=kZ qj zNA [0,1,1,1,1,1,1,1,0,1] (zFY 148 [zKX data ag ah az am Nx,zCA data ag ah az am Qr]) (.exit 1) 148 (yLM data ag ah aH aU az am eC eB kA aD eM dU) σ
def wF (data:oAa) (ag ah:Nat) (aH aU:Int) (az:FuncId) (am:lVa) (eC eB:Bool) (kA aD:Int) (eM:Bool) (dU:Int) (σ:St) (Nx:Int→Int→Int→Bool→Bool→St→Prop) (Qr:St→Prop):Prop:=kZ qj zNA [0,1,1,1,1,1,1,1,0,1] (zFY 148 [zKX data ag ah az am Nx,zCA data ag ah az am Qr]) .normal 148 (yLL data ag ah aH aU az am eC eB kA aD eM dU) σ
def xUX:Code:=(Code.part [1,1,0,0,0,1,1,1,1,1,1,1,1,1,1,1,1,1] (qh 97))
def ySU:lNa:=[(0,.slice data ag ah),(1,iV fu),(2,iV ft),(3,iV aU),(4,.func (.func az) ⟨[]⟩ ⟨am⟩),(11,.bool bA),(16,iV nL),(18,iV kD),(19,iV kE),(20,iV kC),(125,.bool fj)]
def yLK (data:oAa) (ag ah:Nat) (aU:Int) (az:FuncId) (am:lVa) (bA:Bool) (nL kD kE kC:Int) (fj:Bool) (fu ft:Int) (t10_5:Bool):lNa:=[(0,.slice data ag ah),(1,iV fu),(2,iV ft),(3,iV aU),(4,.func (.func az) ⟨[]⟩ ⟨am⟩),(10,.bool t10_5),(11,.bool bA)]
def zXN:Alt:=⟨Int × Int × Bool,.normal,fun t=>yLK data ag ah aU az am bA nL kD kE kC fj t.1 t.2.1 t.2.2,fun t=>[],fun t σ=>q4 t.1 t.2.1 t.2.2 σ⟩
def zQZ:Prop:=qi qj none xUX 148 (ySU data ag ah aU az am bA nL kD kE kC fj fu ft) [] [zXN data ag ah aU az am bA nL kD kE kC fj q5] σ
def zXQ:Prop:=kZ qj zNA [0,1,1,1,1,1,1,1,1,1,1,1,1,1] (zFY 148 [zKX data ag ah az am Nx,zCA data ag ah az am Qr]) .normal 148 (yLK data ag ah aU az am bA nL kD kE kC fj fu ft t10_5) σ
def yLQ:Prop:=kZ qj (qh 97) [1,1,0] (ql 97 q6) .ret 148 (yLP data ag ah az am) σ
end
variable {data x:oAa} {ag ah x_l x_c:Nat} {az:FuncId} {am:lVa} {Inv:Nat→Int→Int→Int→Bool→Bool→St→Prop} {Qr Pr:St→Prop} {aX aH aW kA aU aD dB nKB nIB dU nCB nX nY nZ nAB nBB nBJ nBK nDB nEB kD kE kC nL fu ft a_1 b limit z1 n2:Int} {fq bj dd fK eE eC eB eM bA fj t10_5:Bool} {σN σ σSB σTB σD σUB σJ σY σ3:St} {Nx:Int→Int→Int→Bool→Bool→St→Prop} {Qn Pn Q1 P1:Int→St→Prop} {ar:Addr} {Q:vPa}
theorem yDE (hb:∀ k aX aH aW fq bj σ,Inv k aX aH aW fq bj σ→zRA data ag ah az am aX aH aW fq bj σ (NX5 Inv k) Qr):∀ k aX aH aW fq bj σ,Inv k aX aH aW fq bj σ→xII data ag ah az am aX aH aW fq bj σ Qr :=
 xVM (ai zAN trivial) hb
theorem yYF (h1:qm 106 [.slice data ag ah,iV aX,iV aH,.func (.func az) ⟨[]⟩ ⟨am⟩] σ (.tuple ⟨[]⟩) σN) (nx:Qr σN) (u1:I6 (aH-aX):=by omega) (u2:(aH-aX)≤12:=by omega):zRA data ag ah az am aX aH aW fq bj σ Nx Qr :=
 kO 1 () [.g,.g,.n (aH-aX),.g,.g,.b true,.g,.g,.g,.g,.c (.tuple ⟨[]⟩) σN] (fun _ f=>an3 (w64 u1) (yD u2) h1 f) nx
theorem xQJ (h1:qm 107 [.slice data ag ah,iV aX,iV aH,.func (.func az) ⟨[]⟩ ⟨am⟩] σ (.tuple ⟨[]⟩) σN) (nx:Qr σN) (u1:I6 (aH-aX):=by omega) (u2:¬ (aH-aX)≤12:=by omega) (u3:aW=0:=by omega):zRA data ag ah az am aX aH aW fq bj σ Nx Qr :=
 kO 1 () [.g,.g,.n (aH-aX),.g,.g,.b false,.g,.b true,.g,.g,.g,.g,.c (.tuple ⟨[]⟩) σN] (fun _ f=>an4 (w64 u1) (yF u2) (xL u3) h1 f) nx
theorem xQG (h1:qm 108 [.slice data ag ah,iV aX,iV aH,.func (.func az) ⟨[]⟩ ⟨am⟩] σ (.tuple ⟨[]⟩) σSB) (nx:Qn (aU-1) σSB) (u1:I6 (aU-1):=by omega):yHK data ag ah aX aH az am dd bj kA true aU σ Qn :=
 kO 0 (aU-1) [.g,.g,.g,.g,.c (.tuple ⟨[]⟩) σSB,.g,.n (aU-1),.g] (fun _ f=>an2 h1 (w64 u1) f) nx
theorem xQF (nx:Qn aU σ):yHK data ag ah aX aH az am dd bj kA false aU σ Qn :=
 kO 0 aU [] (fun _ f=>f) nx
theorem xQI (hL:yHK data ag ah aX aH az am true bj (aH-aX) false aW σ Pn) (kn:∀ i3_2' σ',Pn i3_2' σ'→zJC data ag ah aX aH az am true bj (aH-aX) false i3_2' σ' Nx Qr) (u1:I6 (aH-aX):=by omega) (u2:¬ (aH-aX)≤12:=by omega) (u3:¬ aW=0:=by omega):zRA data ag ah az am aX aH aW true bj σ Nx Qr :=
 let s1:=ySV data ag ah aX aH az am true bj (aH-aX) false aW;zCT [.g,.g,.n (aH-aX),.g,.g,.b false,.g,.b false,.g,.g,.cut 148 s1 [zXP data ag ah aX aH az am true bj (aH-aX) false Pn]] (fun g=>kd (an3 (w64 u1) (yF u2) (xG u3) (ai (ai tt (ai (arf s1) hL)) (ai (kz1 kn) trivial))))
theorem xQH (hL:yHK data ag ah aX aH az am false bj (aH-aX) true aW σ Pn) (kn:∀ i3_2' σ',Pn i3_2' σ'→zJC data ag ah aX aH az am false bj (aH-aX) true i3_2' σ' Nx Qr) (u1:I6 (aH-aX):=by omega) (u2:¬ (aH-aX)≤12:=by omega) (u3:¬ aW=0:=by omega):zRA data ag ah az am aX aH aW false bj σ Nx Qr :=
 let s1:=ySV data ag ah aX aH az am false bj (aH-aX) true aW;zCT [.g,.g,.n (aH-aX),.g,.g,.b false,.g,.b false,.g,.g,.cut 148 s1 [zXP data ag ah aX aH az am false bj (aH-aX) true Pn]] (fun g=>kd (an3 (w64 u1) (yF u2) (xG u3) (ai (ai tt (ai (arf s1) hL)) (ai (kz1 kn) trivial))))
theorem xQE {Qn:Int→Int→St→Prop} (h1:qm 110 [.slice data ag ah,iV aX,iV aH,.func (.func az) ⟨[]⟩ ⟨am⟩] σ (.tuple ⟨[]⟩) σTB) (nx:Qn ((aH-1)-(aD-aX)) (1:Int) σTB) (u1:I6 (aH-1):=by omega) (u2:I6 (aD-aX):=by omega) (u3:I6 ((aH-1)-(aD-aX)):=by omega):yHJ data ag ah aX aH aU az am dd bj kA true aD dB σ Qn :=
 let s1:=aD-aX;kO 0 ((aH-1)-s1,(1:Int)) [.g,.g,.g,.g,.c (.tuple ⟨[]⟩) σTB,.g,.n (aH-1),.g,.g,.n s1,.n ((aH-1)-s1),.g,.g] (fun _ f=>an4 h1 (w64 u1) (w64 u2) (w64 u3) f) nx
theorem xQD {Qn:Int→Int→St→Prop} (nx:Qn aD dB σ):yHJ data ag ah aX aH aU az am dd bj kA false aD dB σ Qn :=
 kO 0 (aD,dB) [] (fun _ f=>f) nx
theorem xCR {Pn:Int→Int→St→Prop} (h1:qm 109 [.slice data ag ah,iV aX,iV aH,.func (.func az) ⟨[]⟩ ⟨am⟩] σ (.tuple ⟨[iV nKB,iV nIB]⟩) σ) (hL:yHJ data ag ah aX aH aU az am dd bj kA true nKB nIB σ Pn) (kn:∀ i13_3' i14_3' σ',Pn i13_3' i14_3' σ'→xZ data ag ah aX aH aU az am dd bj kA true i13_3' i14_3' σ' Nx Qr) (u1:nIB=2:=by omega):zJC data ag ah aX aH az am dd bj kA fK aU σ Nx Qr :=
 sK [.g,.g,.g,.g,.c (.tuple ⟨[iV nKB,iV nIB]⟩) σ,.g,.g,.g,.g,.g,.g,.b true,.cut 148 (zXL data ag ah aX aH aU az am dd bj kA true nKB nIB) [zXO data ag ah aX aH aU az am dd bj kA true Pn]] (an2 h1 (xL u1) (ai (ai tt (ai (arf (zXL data ag ah aX aH aU az am dd bj kA true nKB nIB)) hL)) (ai (kz2 kn) trivial)))
theorem xCQ {Pn:Int→Int→St→Prop} (h1:qm 109 [.slice data ag ah,iV aX,iV aH,.func (.func az) ⟨[]⟩ ⟨am⟩] σ (.tuple ⟨[iV nKB,iV nIB]⟩) σ) (hL:yHJ data ag ah aX aH aU az am dd bj kA false nKB nIB σ Pn) (kn:∀ i13_3' i14_3' σ',Pn i13_3' i14_3' σ'→xZ data ag ah aX aH aU az am dd bj kA false i13_3' i14_3' σ' Nx Qr) (u1:¬ nIB=2:=by omega):zJC data ag ah aX aH az am dd bj kA fK aU σ Nx Qr :=
 sK [.g,.g,.g,.g,.c (.tuple ⟨[iV nKB,iV nIB]⟩) σ,.g,.g,.g,.g,.g,.g,.b false,.cut 148 (zXL data ag ah aX aH aU az am dd bj kA false nKB nIB) [zXO data ag ah aX aH aU az am dd bj kA false Pn]] (an2 h1 (xG u1) (ai (ai tt (ai (arf (zXL data ag ah aX aH aU az am dd bj kA false nKB nIB)) hL)) (ai (kz2 kn) trivial)))
theorem yDC (h1:qm 111 [.slice data ag ah,iV aX,iV aH,.func (.func az) ⟨[]⟩ ⟨am⟩] σ (.bool true) σD) (nx:Qr σD) (u1:dB=1:=by omega):xZ data ag ah aX aH aU az am true true kA eE aD dB σ Nx Qr :=
 sF 1 () [.g,.g,.g,.g,.g,.g,.b true,.g,.g,.g,.g,.g,.c (.bool true) σD] (fun _ f=>an2 (xL u1) h1 f) nx
theorem xQC (h1:qm 112 [.slice data ag ah,iV dU,iV aH,iV aD,.func (.func az) ⟨[]⟩ ⟨am⟩] σ (iV nCB) σUB) (nx:Q1 nCB σUB):uQ data ag ah aH aU az am eC eB kA aD true dU σ Q1 Qn :=
 kO 0 nCB [.g,.g,.g,.g,.g,.c (iV nCB) σUB,.g,.g,.g] (fun _ f=>ai h1 f) nx
theorem xQB (nx:Qn dU σ):uQ data ag ah aH aU az am eC eB kA aD false dU σ Q1 Qn :=
 kO 1 dU [] (fun _ f=>f) nx
theorem xCP (h1:qm 111 [.slice (some ar) ag ah,iV aX,iV aH,.func (.func az) ⟨[]⟩ ⟨am⟩] σ (.bool false) σD) (h2:lz σD 45 (zL ar (Int.toNat (aX-1)*3)) (qf (rcd nX nY nZ))) (h3:lz σD 45 (zL ar (Int.toNat aD*3)) (qf (rcd nAB nBB nBJ))) (h4:qm az (qf (rcd nX nY nZ)::(qf (rcd nAB nBB nBJ))::am) σD (iV nBK) σD) (hL:uQ (some ar) ag ah aH aU az am true true kA aD false aX σD P1 Pn) (k1:∀ i1_4' σ',P1 i1_4' σ'→wV (some ar) ag ah aH aU az am true true kA aD false i1_4' σ' Nx Qr) (kn:∀ i1_4' σ',Pn i1_4' σ'→wF (some ar) ag ah aH aU az am true true kA aD false i1_4' σ' Nx Qr) (u1:dB=1:=by omega) (u2:0<aX:=by omega) (u3:I6 (aX-1):=by omega) (u4:Ix (aX-1) ag:=by omega) (u5:Ix aD ag:=by omega) (u6:nBK<0:=by omega):xZ (some ar) ag ah aX aH aU az am true true kA eE aD dB σ Nx Qr :=
 sK [.g,.g,.g,.g,.g,.g,.b true,.g,.g,.g,.g,.g,.c (.bool false) σD,.g,.b true,.g,.g,.g,.g,.n (aX-1),.i,.l (qf (rcd nX nY nZ)),.g,.g,.i,.l (qf (rcd nAB nBB nBJ)),.c (iV nBK) σD,.b true,.g,.g,.cut 148 (wE (some ar) ag ah aH aU az am true true kA aD false aX) [vG (some ar) ag ah aH aU az am true true kA aD false P1,vF (some ar) ag ah aH aU az am true true kA aD false Pn]] (an4 (xL u1) h1 (zR u2) (w64 u3) (an6 u4 h2 u5 h3 h4 (zR u6) (ai (ai tt (ai (arf (wE (some ar) ag ah aH aU az am true true kA aD false aX)) hL)) (ai (kz1 k1) (ai (kz1 kn) trivial)))))
theorem xCO (h1:qm 111 [.slice (some ar) ag ah,iV aX,iV aH,.func (.func az) ⟨[]⟩ ⟨am⟩] σ (.bool false) σD) (h2:lz σD 45 (zL ar (Int.toNat (aX-1)*3)) (qf (rcd nX nY nZ))) (h3:lz σD 45 (zL ar (Int.toNat aD*3)) (qf (rcd nAB nBB nBJ))) (h4:qm az (qf (rcd nX nY nZ)::(qf (rcd nAB nBB nBJ))::am) σD (iV nBK) σD) (hL:uQ (some ar) ag ah aH aU az am true true kA aD true aX σD P1 Pn) (k1:∀ i1_4' σ',P1 i1_4' σ'→wV (some ar) ag ah aH aU az am true true kA aD true i1_4' σ' Nx Qr) (kn:∀ i1_4' σ',Pn i1_4' σ'→wF (some ar) ag ah aH aU az am true true kA aD true i1_4' σ' Nx Qr) (u1:dB=1:=by omega) (u2:0<aX:=by omega) (u3:I6 (aX-1):=by omega) (u4:Ix (aX-1) ag:=by omega) (u5:Ix aD ag:=by omega) (u6:¬ nBK<0:=by omega):xZ (some ar) ag ah aX aH aU az am true true kA eE aD dB σ Nx Qr :=
 sK [.g,.g,.g,.g,.g,.g,.b true,.g,.g,.g,.g,.g,.c (.bool false) σD,.g,.b true,.g,.g,.g,.g,.n (aX-1),.i,.l (qf (rcd nX nY nZ)),.g,.g,.i,.l (qf (rcd nAB nBB nBJ)),.c (iV nBK) σD,.b false,.g,.g,.cut 148 (wE (some ar) ag ah aH aU az am true true kA aD true aX) [vG (some ar) ag ah aH aU az am true true kA aD true P1,vF (some ar) ag ah aH aU az am true true kA aD true Pn]] (an4 (xL u1) h1 (zR u2) (w64 u3) (an6 u4 h2 u5 h3 h4 (zU u6) (ai (ai tt (ai (arf (wE (some ar) ag ah aH aU az am true true kA aD true aX)) hL)) (ai (kz1 k1) (ai (kz1 kn) trivial)))))
theorem xCN (h1:qm 111 [.slice data ag ah,iV aX,iV aH,.func (.func az) ⟨[]⟩ ⟨am⟩] σ (.bool false) σD) (hL:uQ data ag ah aH aU az am true true kA aD false aX σD P1 Pn) (k1:∀ i1_4' σ',P1 i1_4' σ'→wV data ag ah aH aU az am true true kA aD false i1_4' σ' Nx Qr) (kn:∀ i1_4' σ',Pn i1_4' σ'→wF data ag ah aH aU az am true true kA aD false i1_4' σ' Nx Qr) (u1:dB=1:=by omega) (u2:¬ 0<aX:=by omega):xZ data ag ah aX aH aU az am true true kA eE aD dB σ Nx Qr :=
 sK [.g,.g,.g,.g,.g,.g,.b true,.g,.g,.g,.g,.g,.c (.bool false) σD,.g,.b false,.g,.g,.cut 148 (wE data ag ah aH aU az am true true kA aD false aX) [vG data ag ah aH aU az am true true kA aD false P1,vF data ag ah aH aU az am true true kA aD false Pn]] (an3 (xL u1) h1 (zU u2) (ai (ai tt (ai (arf (wE data ag ah aH aU az am true true kA aD false aX)) hL)) (ai (kz1 k1) (ai (kz1 kn) trivial))))
theorem xCM (h1:lz σ 45 (zL ar (Int.toNat (aX-1)*3)) (qf (rcd nDB nEB nX))) (h2:lz σ 45 (zL ar (Int.toNat aD*3)) (qf (rcd nY nZ nAB))) (h3:qm az (qf (rcd nDB nEB nX)::(qf (rcd nY nZ nAB))::am) σ (iV nBB) σ) (hL:uQ (some ar) ag ah aH aU az am true true kA aD false aX σ P1 Pn) (k1:∀ i1_4' σ',P1 i1_4' σ'→wV (some ar) ag ah aH aU az am true true kA aD false i1_4' σ' Nx Qr) (kn:∀ i1_4' σ',Pn i1_4' σ'→wF (some ar) ag ah aH aU az am true true kA aD false i1_4' σ' Nx Qr) (u1:¬ dB=1:=by omega) (u2:0<aX:=by omega) (u3:I6 (aX-1):=by omega) (u4:Ix (aX-1) ag:=by omega) (u5:Ix aD ag:=by omega) (u6:nBB<0:=by omega):xZ (some ar) ag ah aX aH aU az am true true kA eE aD dB σ Nx Qr :=
 sK [.g,.g,.g,.g,.g,.g,.b false,.g,.g,.b true,.g,.g,.g,.g,.n (aX-1),.i,.l (qf (rcd nDB nEB nX)),.g,.g,.i,.l (qf (rcd nY nZ nAB)),.c (iV nBB) σ,.b true,.g,.g,.cut 148 (wE (some ar) ag ah aH aU az am true true kA aD false aX) [vG (some ar) ag ah aH aU az am true true kA aD false P1,vF (some ar) ag ah aH aU az am true true kA aD false Pn]] (an3 (xG u1) (zR u2) (w64 u3) (an6 u4 h1 u5 h2 h3 (zR u6) (ai (ai tt (ai (arf (wE (some ar) ag ah aH aU az am true true kA aD false aX)) hL)) (ai (kz1 k1) (ai (kz1 kn) trivial)))))
theorem xCL (h1:lz σ 45 (zL ar (Int.toNat (aX-1)*3)) (qf (rcd nDB nEB nX))) (h2:lz σ 45 (zL ar (Int.toNat aD*3)) (qf (rcd nY nZ nAB))) (h3:qm az (qf (rcd nDB nEB nX)::(qf (rcd nY nZ nAB))::am) σ (iV nBB) σ) (hL:uQ (some ar) ag ah aH aU az am true true kA aD true aX σ P1 Pn) (k1:∀ i1_4' σ',P1 i1_4' σ'→wV (some ar) ag ah aH aU az am true true kA aD true i1_4' σ' Nx Qr) (kn:∀ i1_4' σ',Pn i1_4' σ'→wF (some ar) ag ah aH aU az am true true kA aD true i1_4' σ' Nx Qr) (u1:¬ dB=1:=by omega) (u2:0<aX:=by omega) (u3:I6 (aX-1):=by omega) (u4:Ix (aX-1) ag:=by omega) (u5:Ix aD ag:=by omega) (u6:¬ nBB<0:=by omega):xZ (some ar) ag ah aX aH aU az am true true kA eE aD dB σ Nx Qr :=
 sK [.g,.g,.g,.g,.g,.g,.b false,.g,.g,.b true,.g,.g,.g,.g,.n (aX-1),.i,.l (qf (rcd nDB nEB nX)),.g,.g,.i,.l (qf (rcd nY nZ nAB)),.c (iV nBB) σ,.b false,.g,.g,.cut 148 (wE (some ar) ag ah aH aU az am true true kA aD true aX) [vG (some ar) ag ah aH aU az am true true kA aD true P1,vF (some ar) ag ah aH aU az am true true kA aD true Pn]] (an3 (xG u1) (zR u2) (w64 u3) (an6 u4 h1 u5 h2 h3 (zU u6) (ai (ai tt (ai (arf (wE (some ar) ag ah aH aU az am true true kA aD true aX)) hL)) (ai (kz1 k1) (ai (kz1 kn) trivial)))))
theorem xCK (hL:uQ data ag ah aH aU az am true true kA aD false aX σ P1 Pn) (k1:∀ i1_4' σ',P1 i1_4' σ'→wV data ag ah aH aU az am true true kA aD false i1_4' σ' Nx Qr) (kn:∀ i1_4' σ',Pn i1_4' σ'→wF data ag ah aH aU az am true true kA aD false i1_4' σ' Nx Qr) (u1:¬ dB=1:=by omega) (u2:¬ 0<aX:=by omega):xZ data ag ah aX aH aU az am true true kA eE aD dB σ Nx Qr :=
 sK [.g,.g,.g,.g,.g,.g,.b false,.g,.g,.b false,.g,.g,.cut 148 (wE data ag ah aH aU az am true true kA aD false aX) [vG data ag ah aH aU az am true true kA aD false P1,vF data ag ah aH aU az am true true kA aD false Pn]] (an2 (xG u1) (zU u2) (ai (ai tt (ai (arf (wE data ag ah aH aU az am true true kA aD false aX)) hL)) (ai (kz1 k1) (ai (kz1 kn) trivial))))
theorem xCJ (h1:lz σ 45 (zL ar (Int.toNat (aX-1)*3)) (qf (rcd nDB nEB nX))) (h2:lz σ 45 (zL ar (Int.toNat aD*3)) (qf (rcd nY nZ nAB))) (h3:qm az (qf (rcd nDB nEB nX)::(qf (rcd nY nZ nAB))::am) σ (iV nBB) σ) (hL:uQ (some ar) ag ah aH aU az am true false kA aD false aX σ P1 Pn) (k1:∀ i1_4' σ',P1 i1_4' σ'→wV (some ar) ag ah aH aU az am true false kA aD false i1_4' σ' Nx Qr) (kn:∀ i1_4' σ',Pn i1_4' σ'→wF (some ar) ag ah aH aU az am true false kA aD false i1_4' σ' Nx Qr) (u1:0<aX:=by omega) (u2:I6 (aX-1):=by omega) (u3:Ix (aX-1) ag:=by omega) (u4:Ix aD ag:=by omega) (u5:nBB<0:=by omega):xZ (some ar) ag ah aX aH aU az am true false kA eE aD dB σ Nx Qr :=
 sK [.g,.g,.g,.g,.g,.g,.g,.b true,.g,.g,.g,.g,.n (aX-1),.i,.l (qf (rcd nDB nEB nX)),.g,.g,.i,.l (qf (rcd nY nZ nAB)),.c (iV nBB) σ,.b true,.g,.g,.cut 148 (wE (some ar) ag ah aH aU az am true false kA aD false aX) [vG (some ar) ag ah aH aU az am true false kA aD false P1,vF (some ar) ag ah aH aU az am true false kA aD false Pn]] (an2 (zR u1) (w64 u2) (an6 u3 h1 u4 h2 h3 (zR u5) (ai (ai tt (ai (arf (wE (some ar) ag ah aH aU az am true false kA aD false aX)) hL)) (ai (kz1 k1) (ai (kz1 kn) trivial)))))
theorem xCI (h1:lz σ 45 (zL ar (Int.toNat (aX-1)*3)) (qf (rcd nDB nEB nX))) (h2:lz σ 45 (zL ar (Int.toNat aD*3)) (qf (rcd nY nZ nAB))) (h3:qm az (qf (rcd nDB nEB nX)::(qf (rcd nY nZ nAB))::am) σ (iV nBB) σ) (hL:uQ (some ar) ag ah aH aU az am true false kA aD true aX σ P1 Pn) (k1:∀ i1_4' σ',P1 i1_4' σ'→wV (some ar) ag ah aH aU az am true false kA aD true i1_4' σ' Nx Qr) (kn:∀ i1_4' σ',Pn i1_4' σ'→wF (some ar) ag ah aH aU az am true false kA aD true i1_4' σ' Nx Qr) (u1:0<aX:=by omega) (u2:I6 (aX-1):=by omega) (u3:Ix (aX-1) ag:=by omega) (u4:Ix aD ag:=by omega) (u5:¬ nBB<0:=by omega):xZ (some ar) ag ah aX aH aU az am true false kA eE aD dB σ Nx Qr :=
 sK [.g,.g,.g,.g,.g,.g,.g,.b true,.g,.g,.g,.g,.n (aX-1),.i,.l (qf (rcd nDB nEB nX)),.g,.g,.i,.l (qf (rcd nY nZ nAB)),.c (iV nBB) σ,.b false,.g,.g,.cut 148 (wE (some ar) ag ah aH aU az am true false kA aD true aX) [vG (some ar) ag ah aH aU az am true false kA aD true P1,vF (some ar) ag ah aH aU az am true false kA aD true Pn]] (an2 (zR u1) (w64 u2) (an6 u3 h1 u4 h2 h3 (zU u5) (ai (ai tt (ai (arf (wE (some ar) ag ah aH aU az am true false kA aD true aX)) hL)) (ai (kz1 k1) (ai (kz1 kn) trivial)))))
theorem xCH (hL:uQ data ag ah aH aU az am true false kA aD false aX σ P1 Pn) (k1:∀ i1_4' σ',P1 i1_4' σ'→wV data ag ah aH aU az am true false kA aD false i1_4' σ' Nx Qr) (kn:∀ i1_4' σ',Pn i1_4' σ'→wF data ag ah aH aU az am true false kA aD false i1_4' σ' Nx Qr) (u1:¬ 0<aX:=by omega):xZ data ag ah aX aH aU az am true false kA eE aD dB σ Nx Qr :=
 sK [.g,.g,.g,.g,.g,.g,.g,.b false,.g,.g,.cut 148 (wE data ag ah aH aU az am true false kA aD false aX) [vG data ag ah aH aU az am true false kA aD false P1,vF data ag ah aH aU az am true false kA aD false Pn]] (ai (zU u1) (ai (ai tt (ai (arf (wE data ag ah aH aU az am true false kA aD false aX)) hL)) (ai (kz1 k1) (ai (kz1 kn) trivial))))
theorem xCG (h1:lz σ 45 (zL ar (Int.toNat (aX-1)*3)) (qf (rcd nDB nEB nX))) (h2:lz σ 45 (zL ar (Int.toNat aD*3)) (qf (rcd nY nZ nAB))) (h3:qm az (qf (rcd nDB nEB nX)::(qf (rcd nY nZ nAB))::am) σ (iV nBB) σ) (hL:uQ (some ar) ag ah aH aU az am false bj kA aD false aX σ P1 Pn) (k1:∀ i1_4' σ',P1 i1_4' σ'→wV (some ar) ag ah aH aU az am false bj kA aD false i1_4' σ' Nx Qr) (kn:∀ i1_4' σ',Pn i1_4' σ'→wF (some ar) ag ah aH aU az am false bj kA aD false i1_4' σ' Nx Qr) (u1:0<aX:=by omega) (u2:I6 (aX-1):=by omega) (u3:Ix (aX-1) ag:=by omega) (u4:Ix aD ag:=by omega) (u5:nBB<0:=by omega):xZ (some ar) ag ah aX aH aU az am false bj kA eE aD dB σ Nx Qr :=
 sK [.g,.g,.g,.g,.g,.g,.b true,.g,.g,.g,.g,.n (aX-1),.i,.l (qf (rcd nDB nEB nX)),.g,.g,.i,.l (qf (rcd nY nZ nAB)),.c (iV nBB) σ,.b true,.g,.g,.cut 148 (wE (some ar) ag ah aH aU az am false bj kA aD false aX) [vG (some ar) ag ah aH aU az am false bj kA aD false P1,vF (some ar) ag ah aH aU az am false bj kA aD false Pn]] (an2 (zR u1) (w64 u2) (an6 u3 h1 u4 h2 h3 (zR u5) (ai (ai tt (ai (arf (wE (some ar) ag ah aH aU az am false bj kA aD false aX)) hL)) (ai (kz1 k1) (ai (kz1 kn) trivial)))))
theorem xCF (h1:lz σ 45 (zL ar (Int.toNat (aX-1)*3)) (qf (rcd nDB nEB nX))) (h2:lz σ 45 (zL ar (Int.toNat aD*3)) (qf (rcd nY nZ nAB))) (h3:qm az (qf (rcd nDB nEB nX)::(qf (rcd nY nZ nAB))::am) σ (iV nBB) σ) (hL:uQ (some ar) ag ah aH aU az am false bj kA aD true aX σ P1 Pn) (k1:∀ i1_4' σ',P1 i1_4' σ'→wV (some ar) ag ah aH aU az am false bj kA aD true i1_4' σ' Nx Qr) (kn:∀ i1_4' σ',Pn i1_4' σ'→wF (some ar) ag ah aH aU az am false bj kA aD true i1_4' σ' Nx Qr) (u1:0<aX:=by omega) (u2:I6 (aX-1):=by omega) (u3:Ix (aX-1) ag:=by omega) (u4:Ix aD ag:=by omega) (u5:¬ nBB<0:=by omega):xZ (some ar) ag ah aX aH aU az am false bj kA eE aD dB σ Nx Qr :=
 sK [.g,.g,.g,.g,.g,.g,.b true,.g,.g,.g,.g,.n (aX-1),.i,.l (qf (rcd nDB nEB nX)),.g,.g,.i,.l (qf (rcd nY nZ nAB)),.c (iV nBB) σ,.b false,.g,.g,.cut 148 (wE (some ar) ag ah aH aU az am false bj kA aD true aX) [vG (some ar) ag ah aH aU az am false bj kA aD true P1,vF (some ar) ag ah aH aU az am false bj kA aD true Pn]] (an2 (zR u1) (w64 u2) (an6 u3 h1 u4 h2 h3 (zU u5) (ai (ai tt (ai (arf (wE (some ar) ag ah aH aU az am false bj kA aD true aX)) hL)) (ai (kz1 k1) (ai (kz1 kn) trivial)))))
theorem xCE (hL:uQ data ag ah aH aU az am false bj kA aD false aX σ P1 Pn) (k1:∀ i1_4' σ',P1 i1_4' σ'→wV data ag ah aH aU az am false bj kA aD false i1_4' σ' Nx Qr) (kn:∀ i1_4' σ',Pn i1_4' σ'→wF data ag ah aH aU az am false bj kA aD false i1_4' σ' Nx Qr) (u1:¬ 0<aX:=by omega):xZ data ag ah aX aH aU az am false bj kA eE aD dB σ Nx Qr :=
 sK [.g,.g,.g,.g,.g,.g,.b false,.g,.g,.cut 148 (wE data ag ah aH aU az am false bj kA aD false aX) [vG data ag ah aH aU az am false bj kA aD false P1,vF data ag ah aH aU az am false bj kA aD false Pn]] (ai (zU u1) (ai (ai tt (ai (arf (wE data ag ah aH aU az am false bj kA aD false aX)) hL)) (ai (kz1 k1) (ai (kz1 kn) trivial))))
theorem xCD (nx:Nx dU aH aU eC eB σ):wV data ag ah aH aU az am eC eB kA aD eM dU σ Nx Qr :=
 sF 0 (dU,aH,aU,eC,eB) [] (fun _ f=>f) nx
theorem xQA {Qn:Int→Int→Bool→St→Prop} (h1:qm 97 [.slice data ag ah,iV fu,iV nL,iV aU,.func (.func az) ⟨[]⟩ ⟨am⟩] σ (.tuple ⟨[]⟩) σJ) (nx:Qn (nL+1) ft true σJ) (u1:kC≤kD:=by omega) (u2:I6 (nL+1):=by omega):zQZ data ag ah aU az am bA nL kD kE kC true fu ft σ Qn :=
 kO 0 (nL+1,ft,true) [.g,.g,.b true,.g,.g,.g,.g,.g,.g,.c (.tuple ⟨[]⟩) σJ,.g,.n (nL+1),.g] (fun _ f=>an3 (yD u1) h1 (w64 u2) f) nx
theorem xPZ {Qn:Int→Int→Bool→St→Prop} (h1:qm 97 [.slice data ag ah,iV fu,iV nL,iV aU,.func (.func az) ⟨[]⟩ ⟨am⟩] σ (.tuple ⟨[]⟩) σJ) (nx:Qn (nL+1) ft false σJ) (u1:¬ kC≤kD:=by omega) (u2:I6 (nL+1):=by omega):zQZ data ag ah aU az am bA nL kD kE kC true fu ft σ Qn :=
 kO 0 (nL+1,ft,false) [.g,.g,.b false,.g,.g,.g,.g,.g,.g,.c (.tuple ⟨[]⟩) σJ,.g,.n (nL+1),.g] (fun _ f=>an3 (yF u1) h1 (w64 u2) f) nx
theorem xPY {Qn:Int→Int→Bool→St→Prop} (h1:qm 97 [.slice data ag ah,iV (nL+1),iV ft,iV aU,.func (.func az) ⟨[]⟩ ⟨am⟩] σ (.tuple ⟨[]⟩) σJ) (nx:Qn fu nL true σJ) (u1:kC≤kE:=by omega) (u2:I6 (nL+1):=by omega):zQZ data ag ah aU az am bA nL kD kE kC false fu ft σ Qn :=
 kO 0 (fu,nL,true) [.g,.g,.b true,.g,.g,.g,.n (nL+1),.g,.g,.g,.c (.tuple ⟨[]⟩) σJ,.g,.g] (fun _ f=>an3 (yD u1) (w64 u2) h1 f) nx
theorem xPX {Qn:Int→Int→Bool→St→Prop} (h1:qm 97 [.slice data ag ah,iV (nL+1),iV ft,iV aU,.func (.func az) ⟨[]⟩ ⟨am⟩] σ (.tuple ⟨[]⟩) σJ) (nx:Qn fu nL false σJ) (u1:¬ kC≤kE:=by omega) (u2:I6 (nL+1):=by omega):zQZ data ag ah aU az am bA nL kD kE kC false fu ft σ Qn :=
 kO 0 (fu,nL,false) [.g,.g,.b false,.g,.g,.g,.n (nL+1),.g,.g,.g,.c (.tuple ⟨[]⟩) σJ,.g,.g] (fun _ f=>an3 (yF u1) (w64 u2) h1 f) nx
theorem xCC {Pn:Int→Int→Bool→St→Prop} (h1:qm 113 [.slice data ag ah,iV dU,iV aH,iV aD,.func (.func az) ⟨[]⟩ ⟨am⟩] σ (.tuple ⟨[iV nL,.bool bA]⟩) σY) (h2:IntKind.wrap .i64 (Int.tdiv kA 8)=Int.tdiv kA 8) (hL:zQZ data ag ah aU az am bA nL (nL-dU) (aH-nL) (Int.tdiv kA 8) true dU aH σY Pn) (kn:∀ i1_5' i2_5' t10_5' σ',Pn i1_5' i2_5' t10_5' σ'→zXQ data ag ah aU az am bA nL (nL-dU) (aH-nL) (Int.tdiv kA 8) true i1_5' i2_5' t10_5' σ' Nx Qr) (u1:I6 (nL-dU):=by omega) (u2:I6 (aH-nL):=by omega) (u3:(nL-dU)<(aH-nL):=by omega):wF data ag ah aH aU az am eC eB kA aD eM dU σ Nx Qr :=
 let s1:=ySU data ag ah aU az am bA nL (nL-dU) (aH-nL) (Int.tdiv kA 8) true dU aH;sK [.g,.g,.g,.g,.g,.c (.tuple ⟨[iV nL,.bool bA]⟩) σY,.g,.g,.g,.g,.g,.g,.g,.g,.g,.n (nL-dU),.g,.g,.n (aH-nL),.g,.g,.g,.n (Int.tdiv kA 8),.g,.g,.g,.b true,.cut 148 s1 [zXN data ag ah aU az am bA nL (nL-dU) (aH-nL) (Int.tdiv kA 8) true Pn]] (an5 h1 (w64 u1) (w64 u2) h2 (zR u3) (ai (ai tt (ai (arf s1) hL)) (ai (kz3 kn) trivial)))
theorem xCB {Pn:Int→Int→Bool→St→Prop} (h1:qm 113 [.slice data ag ah,iV dU,iV aH,iV aD,.func (.func az) ⟨[]⟩ ⟨am⟩] σ (.tuple ⟨[iV nL,.bool bA]⟩) σY) (h2:IntKind.wrap .i64 (Int.tdiv kA 8)=Int.tdiv kA 8) (hL:zQZ data ag ah aU az am bA nL (nL-dU) (aH-nL) (Int.tdiv kA 8) false dU aH σY Pn) (kn:∀ i1_5' i2_5' t10_5' σ',Pn i1_5' i2_5' t10_5' σ'→zXQ data ag ah aU az am bA nL (nL-dU) (aH-nL) (Int.tdiv kA 8) false i1_5' i2_5' t10_5' σ' Nx Qr) (u1:I6 (nL-dU):=by omega) (u2:I6 (aH-nL):=by omega) (u3:¬ (nL-dU)<(aH-nL):=by omega):wF data ag ah aH aU az am eC eB kA aD eM dU σ Nx Qr :=
 let s1:=ySU data ag ah aU az am bA nL (nL-dU) (aH-nL) (Int.tdiv kA 8) false dU aH;sK [.g,.g,.g,.g,.g,.c (.tuple ⟨[iV nL,.bool bA]⟩) σY,.g,.g,.g,.g,.g,.g,.g,.g,.g,.n (nL-dU),.g,.g,.n (aH-nL),.g,.g,.g,.n (Int.tdiv kA 8),.g,.g,.g,.b false,.cut 148 s1 [zXN data ag ah aU az am bA nL (nL-dU) (aH-nL) (Int.tdiv kA 8) false Pn]] (an5 h1 (w64 u1) (w64 u2) h2 (zU u3) (ai (ai tt (ai (arf s1) hL)) (ai (kz3 kn) trivial)))
theorem yDB (nx:Nx fu ft aU t10_5 bA σ):zXQ data ag ah aU az am bA nL kD kE kC fj fu ft t10_5 σ Nx Qr :=
 sF 0 (fu,ft,aU,t10_5,bA) [] (fun _ f=>f) nx
theorem xIH (hL:xII data ag ah az am a_1 b limit true true σ Pr) (kr:∀ σ',Pr σ'→yLQ data ag ah az am σ' Q):qg 97 [.slice data ag ah,iV a_1,iV b,iV limit,.func (.func az) ⟨[]⟩ ⟨am⟩] σ Q :=
 zG [.g,.g,.lf 148 (zXM data ag ah az am a_1 b limit true true) [zCA data ag ah az am Pr]] (kd (ai (ai tt (ai (arf (zXM data ag ah az am a_1 b limit true true)) hL)) (ai (kz0 kr) trivial)))
theorem yDD (nx:Q (.tuple ⟨[]⟩) σ):yLQ data ag ah az am σ Q :=
 sK [] nx
theorem yKG (h1:zAC .u64 ((x_l:Int))=z1) (h2:qm 98 [.int .u64 z1] σ (iV n2) σ) (h3:qm 97 [.slice x x_l x_c,iV 0,iV (x_l:Int),iV n2,.func (.func az) ⟨[]⟩ ⟨am⟩] σ (.tuple ⟨[]⟩) σ3) (nx:Q (.tuple ⟨[]⟩) σ3):qg 78 [.slice x x_l x_c,.func (.func az) ⟨[]⟩ ⟨am⟩] σ Q :=
 zG [.g,.g,.g,.g,.g,.g,.n z1,.c (iV n2) σ,.g,.c (.tuple ⟨[]⟩) σ3] (kd (an3 h1 h2 h3 nx))
end
section
open Go.Sort (swp PermIn SortedIn Below SWO)
theorem xQ.perm {V:Rec→Prop} {d d':Array Rec} {a B:Nat} (h:xQ V d) (hB:B≤d.size) (hp:PermIn a B d d'):xQ V d':=by
 intro i hi;rw [hp.1] at hi;by_cases hr:a≤i∧i<B
 ·exact Go.Sort.permIn_all d d' a B V hB hp (fun j h1 h2=>h j (by omega)) i hr.1 hr.2
 ·rw [hp.2.1 i (by omega)];exact h i hi
section
variable {b c:Nat} {s:Option Nat} {g:FuncId} {gc:List Value} {lt:Rec→Rec→Bool} {V:Rec→Prop}
theorem xXA (hS:SWO lt) (hc:Cmp g gc lt V):∀ (n:Nat) (σ:St) (d:Array Rec) (a B:Nat) (limit:Int),B-a≤n→Dt σ b s d→xQ V d→a≤B→B≤d.size→d.size≤60000→Below lt a B d→0≤limit∧limit≤100 →
  ∃ d',PermIn a B d d'∧SortedIn lt a B d'∧uJ 97 [.slice (some ⟨b,0,s⟩) d.size c,iV (a:Int),iV (B:Int),iV limit,.func (.func g) ⟨[]⟩ ⟨gc⟩] (.tuple ⟨[]⟩) σ b s d d':=by
 intro n;induction n using Nat.strongRecOn with
 | _ n ih =>
 intro σ d a B limit hn hd hv ha hB hsz hbel hlim;suffices hmain:zP Tryz.prog 97 [.slice (some ⟨b,0,s⟩) d.size c,iV (a:Int),iV (B:Int),iV limit,.func (.func g) ⟨[]⟩ ⟨gc⟩] σ.re fun v τ=>v=.tuple ⟨[]⟩∧∃ d',W σ τ b s d d'∧PermIn a B d d'∧SortedIn lt a B d' by
  obtain ⟨v,τ,hN,e,d',w,r1,r2⟩:=hmain
  exact ⟨d',r1,r2,uJ.of hd ⟨v,τ,hN,e,w⟩⟩
 refine xIH (Pr:=fun τ=>∃ d',W σ τ b s d d'∧PermIn a B d d'∧SortedIn lt a B d') (yDE (Inv:=fun k i1 i2 i3 t10 t11 τ=>∃ (p q:Nat) (dk:Array Rec),i1=p∧i2=q∧k=q-p∧a≤p∧p≤q∧q≤B∧(0≤i3∧i3≤100)∧W σ τ b s d dk∧dk.size=d.size∧xQ V dk∧Below lt p q dk∧(∀ R,PermIn p q dk R→SortedIn lt p q R→PermIn a B d R∧SortedIn lt a B R)) ?_ (B-a) _ _ _ _ _ σ.re ⟨a,B,d,rfl,rfl,rfl,Nat.le_refl _,ha,Nat.le_refl _,hlim,W.start hd,rfl,hv,hbel,fun R h1 h2=>⟨h1,h2⟩⟩) (fun τ h=>yDD ⟨rfl,h⟩);rintro k i1 i2 i3 t10 t11 τ ⟨p,q,dk,rfl,rfl,hk,hap,hpq,hqB,hi3,w,hdk,hall,hbk,hJ⟩;suffices hgo:∀ (NX:Int→Int→Int→Bool→Bool→St→Prop) (QR:St→Prop),(∀ (p' q':Nat) (dk':Array Rec) (i3':Int) (t10' t11':Bool) (τ':St),q' - p' < k→a≤p'→p'≤q'→q'≤B→(0≤i3'∧i3'≤100)→W σ τ' b s d dk'→dk'.size=d.size→xQ V dk'→Below lt p' q' dk'→(∀ R,PermIn p' q' dk' R→SortedIn lt p' q' R→PermIn a B d R∧SortedIn lt a B R)→NX (p':Int) (q':Int) i3' t10' t11' τ') →
   (∀ (τ':St) (d':Array Rec),W σ τ' b s d d'→PermIn a B d d'∧SortedIn lt a B d'→QR τ')→zRA (some ⟨b,0,s⟩) d.size c g gc (p:Int) (q:Int) i3 t10 t11 τ NX QR from
  hgo _ _ (fun p' q' dk' i3' t10' t11' τ' h1 h2 h3 h4 h5 h6 h7 h8 h9 h10=>⟨q' - p',h1,p',q',dk',rfl,rfl,rfl,h2,h3,h4,h5,h6,h7,h8,h9,h10⟩) (fun τ' d' h1 h2=>⟨d',h1,h2.1,h2.2⟩)
 intro NX QR hNX hQR;have hqs:q≤dk.size:=by omega
 by_cases h12:q-p≤12
 ·have hins:=Go.Sort.insertionSort_holds (lt:=lt) hS dk p q hpq hqs;obtain ⟨τ',k1,w1⟩:=w.call (xVO (c:=c) (a:=p) (B:=q) w.dt hc hall hqs (by omega) (by omega));rw [hdk] at k1;exact yYF k1 (hQR _ _ w1 (hJ _ hins.1 hins.2)) (by omega) (by omega)
 by_cases h0:i3=0
 ·have hheap:=Go.Sort.heapSort_holds (lt:=lt) hS dk p q hpq hqs;obtain ⟨τ',k1,w1⟩:=w.call (xRK (c:=c) (a:=p) (B:=q) w.dt hc hall hpq hqs (by omega));rw [hdk] at k1;exact xQJ k1 (hQR _ _ w1 (hJ _ hheap.1 hheap.2)) (by omega) (by omega) h0
 have k8:IntKind.wrap .i64 (Int.tdiv ((q:Int)-(p:Int)) 8)=Int.tdiv ((q:Int)-(p:Int)) 8:=by
  have e8:Int.tdiv ((q:Int)-(p:Int)) 8=(((q-p) / 8:Nat):Int):=by rw [Int.tdiv_eq_ediv_of_nonneg (by omega)];omega
  rw [← vU,e8,zWC (by omega) (by omega)]
 have stepN:∀ (i3':Int) (t10 t11:Bool) (x:Nat) (h97:Bool) (d3:Array Rec) (τ3:St),(0≤i3'∧i3'≤100)→p≤x→x<q→W σ τ3 b s d d3→PermIn p q dk d3→xQ V d3 →
   wF (some ⟨b,0,s⟩) d.size c (q:Int) i3' g gc t10 t11 ((q:Int)-(p:Int)) (x:Int) h97 (p:Int) τ3 NX QR:=by
  intro i3' t10 t11 x h97 d3 τ3 hi3' hx1 hx2 w3 hp3 hall3
  have hd3:d3.size=d.size:=by rw [hp3.1,hdk]
  have hq3:q≤d3.size:=by omega
  have hb3:Below lt p q d3:=Go.Sort.Below.permA Go.Sort.permIn_all hqs hbk hp3
  have hJ3:∀ R,PermIn p q d3 R→SortedIn lt p q R→PermIn a B d R∧SortedIn lt a B R:=fun R h1 h2=>hJ R (Go.Sort.permIn_trans _ _ _ p q hp3 h1) h2
  obtain ⟨mid,hmid⟩:∃ mid,mid=(Go.Sort.partition lt d3 p q x).1:=⟨_,rfl⟩
  obtain ⟨ap,hap'⟩:∃ ap,ap=(Go.Sort.partition lt d3 p q x).2.1:=⟨_,rfl⟩
  obtain ⟨d4,hd4⟩:∃ d4,d4=(Go.Sort.partition lt d3 p q x).2.2:=⟨_,rfl⟩
  have hpt:Go.Sort.partition lt d3 p q x=(mid,ap,d4):=by rw [hmid,hap',hd4]
  obtain ⟨m1,m2,m3,m4,m5,m6,m7⟩:=Go.Sort.round_part hS (Go.Sort.partition_holds lt) hx1 hx2 hq3 hb3 hpt
  have hpc:=xVC (c:=c) w3.dt hc hall3 hx1 hx2 hq3 (by omega)
  rw [← hmid,← hap',← hd4] at hpc
  obtain ⟨τ4,kp,w4⟩:=w3.call hpc
  rw [hd3] at kp
  have hd4s:d4.size=d.size:=by omega
  have hall4:xQ V d4:=by
   have:=(Go.Sort.partition_holds lt hS d3 p q x hx1 hx2 hq3).2.2.1;rw [hpt] at this;exact hall3.perm hq3 this
  by_cases hlr:mid-p<q-mid
  ·obtain ⟨L,hL1,hL2,hL3⟩:=ih (mid-p) (by omega) τ4 d4 p mid i3' (Nat.le_refl _) w4.dt hall4 m1 (by omega) (by omega) m4 hi3';obtain ⟨τ5,k5,w5⟩:=w4.call hL3;rw [hd4s] at k5;obtain ⟨n1,n2⟩:=m6 L hL1 hL2;have go:∀ t,NX ((mid:Int)+1) (q:Int) i3' t ap τ5:=fun t=>by
    rw [show (mid:Int)+1=((mid+1:Nat):Int) by omega];exact hNX _ _ L _ _ _ _ (by omega) (by omega) (by omega) hqB hi3' w5 (by rw [hL1.1,hd4s]) (hall4.perm (by omega) hL1) n1 (fun R h1 h2=>hJ3 R (n2 R h1 h2).1 (n2 R h1 h2).2)
   refine xCC kp k8 (Pn:=fun i1 i2 t τ'=>i1=(mid:Int)+1∧i2=(q:Int)∧τ'=τ5) ?_ (fun i1 i2 t τ' ⟨e1,e2,e3⟩=>by subst e1 e2 e3;exact yDB (go t)) (by omega);by_cases hT:Int.tdiv ((q:Int)-(p:Int)) 8≤(mid:Int)-(p:Int)
   ·exact xQA k5 ⟨rfl,rfl,rfl⟩ hT
   ·exact xPZ k5 ⟨rfl,rfl,rfl⟩ hT
  ·obtain ⟨L,hL1,hL2,hL3⟩:=ih (q-(mid+1)) (by omega) τ4 d4 (mid+1) q i3' (Nat.le_refl _) w4.dt hall4 (by omega) (by omega) (by omega) m5 hi3';obtain ⟨τ5,k5,w5⟩:=w4.call hL3;rw [hd4s,show ((mid+1:Nat):Int)=(mid:Int)+1 by omega] at k5;obtain ⟨n1,n2⟩:=m7 L hL1 hL2;have go:∀ t,NX (p:Int) (mid:Int) i3' t ap τ5:=fun t=>hNX _ _ L _ _ _ _ (by omega) (by omega) (by omega) (by omega) hi3' w5 (by rw [hL1.1,hd4s]) (hall4.perm (by omega) hL1) n1 (fun R h1 h2=>hJ3 R (n2 R h1 h2).1 (n2 R h1 h2).2)
   refine xCB kp k8 (Pn:=fun i1 i2 t τ'=>i1=(p:Int)∧i2=(mid:Int)∧τ'=τ5) ?_ (fun i1 i2 t τ' ⟨e1,e2,e3⟩=>by subst e1 e2 e3;exact yDB (go t)) (by omega);by_cases hT:Int.tdiv ((q:Int)-(p:Int)) 8≤(q:Int)-(mid:Int)
   ·exact xPY k5 ⟨rfl,rfl,rfl⟩ hT
   ·exact xPX k5 ⟨rfl,rfl,rfl⟩ hT
 have stepE:∀ (i3':Int) (t10 t11:Bool) (x:Nat) (d3:Array Rec) (τ3:St),(0≤i3'∧i3'≤100)→p≤x→x<q→W σ τ3 b s d d3→PermIn p q dk d3→xQ V d3→0<p→lt d3[p-1]! d3[x]! = false →
   ∃ (me:Nat) (τ5:St),zD Tryz.prog 112 [.slice (some ⟨b,0,s⟩) d.size c,iV (p:Int),iV (q:Int),iV (x:Int),.func (.func g) ⟨[]⟩ ⟨gc⟩] τ3 (iV (me:Int)) τ5∧NX (me:Int) (q:Int) i3' t10 t11 τ5:=by
  intro i3' t10 t11 x d3 τ3 hi3' hx1 hx2 w3 hp3 hall3 hp0 hl
  have hd3:d3.size=d.size:=by rw [hp3.1,hdk]
  have hq3:q≤d3.size:=by omega
  have hb3:Below lt p q d3:=Go.Sort.Below.permA Go.Sort.permIn_all hqs hbk hp3
  have hJ3:∀ R,PermIn p q d3 R→SortedIn lt p q R→PermIn a B d R∧SortedIn lt a B R:=fun R h1 h2=>hJ R (Go.Sort.permIn_trans _ _ _ p q hp3 h1) h2
  obtain ⟨me,hme⟩:∃ me,me=(Go.Sort.partitionEqual lt d3 p q x).1:=⟨_,rfl⟩
  obtain ⟨de,hde⟩:∃ de,de=(Go.Sort.partitionEqual lt d3 p q x).2:=⟨_,rfl⟩
  have hpe:Go.Sort.partitionEqual lt d3 p q x=(me,de):=by rw [hme,hde]
  obtain ⟨e1,e2,e3,e4,e5⟩:=Go.Sort.round_eq hS (Go.Sort.partitionEqual_holds lt) hp0 hx1 hx2 hq3 hb3 hl hpe
  have hpc:=xJG (c:=c) w3.dt hc hall3 hx1 hx2 hq3 (by omega)
  rw [← hme,← hde] at hpc
  obtain ⟨τ5,k5,w5⟩:=w3.call hpc
  rw [hd3] at k5
  have hge:∀ i,p≤i→i<q→lt d3[i]! d3[x]! = false:=fun i hi hi'=>by
   rcases hb3 with h0 | hB'
   ·omega
   ·exact hS.ntrans _ _ _ (hB' i hi hi') hl
  have hperm:=(Go.Sort.partitionEqual_holds lt hS d3 p q x hx1 hx2 hq3 hge).2.2.1
  rw [hpe] at hperm
  exact ⟨me,τ5,k5,hNX _ _ de _ _ _ _ (by omega) (by omega) e2 hqB hi3' w5 (by omega) (hall3.perm hq3 hperm) e4 (fun R h1 h2=>hJ3 R (e5 R h1 h2).1 (e5 R h1 h2).2)⟩
 have stepK:∀ (i3':Int) (t10 t11 h56:Bool) (x:Nat) (i14:Int) (d2:Array Rec) (τ2:St),(0≤i3'∧i3'≤100)→p≤x→x<q→W σ τ2 b s d d2→PermIn p q dk d2→xQ V d2 →
   xZ (some ⟨b,0,s⟩) d.size c (p:Int) (q:Int) i3' g gc t10 t11 ((q:Int)-(p:Int)) h56 (x:Int) i14 τ2 NX QR:=by
  intro i3' t10 t11 h56 x i14 d2 τ2 hi3' hx1 hx2 w2 hp2 hall2
  have hd2:d2.size=d.size:=by rw [hp2.1,hdk]
  have hq2:q≤d2.size:=by omega
  have hb2:Below lt p q d2:=Go.Sort.Below.permA Go.Sort.permIn_all hqs hbk hp2
  have out1:∀ (t10 t11 h97:Bool) (i1:Int) (τ':St),NX i1 (q:Int) i3' t10 t11 τ'→wV (some ⟨b,0,s⟩) d.size c (q:Int) i3' g gc t10 t11 ((q:Int)-(p:Int)) (x:Int) h97 i1 τ' NX QR:=fun t10 t11 h97 i1 τ' h=>xCD h
  have eq:∀ (t10 t11:Bool) (d3:Array Rec) (τ3:St),W σ τ3 b s d d3→PermIn p q dk d3→xQ V d3→0<p→lt d3[p-1]! d3[x]! = false→uQ (some ⟨b,0,s⟩) d.size c (q:Int) i3' g gc t10 t11 ((q:Int)-(p:Int)) (x:Int) true (p:Int) τ3 (fun i1 τ'=>NX i1 (q:Int) i3' t10 t11 τ') (fun i1 τ'=>i1=(p:Int)∧τ'=τ3):=by
   intro t10 t11 d3 τ3 w3 hp3 hall3 hp0 hl;obtain ⟨me,τ5,k5,h5⟩:=stepE i3' t10 t11 x d3 τ3 hi3' hx1 hx2 w3 hp3 hall3 hp0 hl;exact xQC k5 h5
  have nq:∀ (t10 t11:Bool) (τ3:St),uQ (some ⟨b,0,s⟩) d.size c (q:Int) i3' g gc t10 t11 ((q:Int)-(p:Int)) (x:Int) false (p:Int) τ3 (fun i1 τ'=>NX i1 (q:Int) i3' t10 t11 τ') (fun i1 τ'=>i1=(p:Int)∧τ'=τ3):=fun t10 t11 τ3=>xQB ⟨rfl,rfl⟩
  have outN:∀ (t10 t11 h97:Bool) (d3:Array Rec) (τ3:St),W σ τ3 b s d d3→PermIn p q dk d3→xQ V d3→∀ (i1:Int) (τ':St),(i1=(p:Int)∧τ'=τ3)→wF (some ⟨b,0,s⟩) d.size c (q:Int) i3' g gc t10 t11 ((q:Int)-(p:Int)) (x:Int) h97 i1 τ' NX QR:=by
   rintro t10 t11 h97 d3 τ3 w3 hp3 hall3 i1 τ' ⟨rfl,rfl⟩;exact stepN i3' t10 t11 x h97 d3 _ hi3' hx1 hx2 w3 hp3 hall3
  have ldp:∀ (d3:Array Rec) (τ3:St),W σ τ3 b s d d3→d3.size=d.size→0<p→zB Tryz.prog τ3 45 (zL ⟨b,0,s⟩ (Int.toNat ((p:Int)-1)*3))=some (zEG d3[p-1]!):=fun d3 τ3 w3 hd3 hp0=>w3.dt.ldN (by omega) (by omega)
  have ldx:∀ (d3:Array Rec) (τ3:St),W σ τ3 b s d d3→d3.size=d.size→zB Tryz.prog τ3 45 (zL ⟨b,0,s⟩ (Int.toNat (x:Int)*3))=some (zEG d3[x]!):=fun d3 τ3 w3 hd3=>w3.dt.ldN rfl (by omega)
  by_cases hp0:0<p
  ·cases t10 with
   | false =>
    obtain ⟨m,cm,⟨g1,hl⟩ | ⟨g1,hl⟩⟩:=hc.at_ (τ:=τ2) hall2 (i:=p-1) (j:=x) (by omega) (by omega)
    ·exact xCG (ldp _ _ w2 hd2 hp0) (ldx _ _ w2 hd2) cm (nq _ _ _) (fun i1 τ' h=>out1 _ _ _ _ _ h) (outN _ _ _ _ _ w2 hp2 hall2)
    ·exact xCF (ldp _ _ w2 hd2 hp0) (ldx _ _ w2 hd2) cm (eq _ _ _ _ w2 hp2 hall2 hp0 hl) (fun i1 τ' h=>out1 _ _ _ _ _ h) (outN _ _ _ _ _ w2 hp2 hall2)
   | true =>
   cases t11 with
   | false =>
    obtain ⟨m,cm,⟨g1,hl⟩ | ⟨g1,hl⟩⟩:=hc.at_ (τ:=τ2) hall2 (i:=p-1) (j:=x) (by omega) (by omega)
    ·exact xCJ (ldp _ _ w2 hd2 hp0) (ldx _ _ w2 hd2) cm (nq _ _ _) (fun i1 τ' h=>out1 _ _ _ _ _ h) (outN _ _ _ _ _ w2 hp2 hall2)
    ·exact xCI (ldp _ _ w2 hd2 hp0) (ldx _ _ w2 hd2) cm (eq _ _ _ _ w2 hp2 hall2 hp0 hl) (fun i1 τ' h=>out1 _ _ _ _ _ h) (outN _ _ _ _ _ w2 hp2 hall2)
   | true =>
   by_cases h14:i14=1;rotate_left
   ·obtain ⟨m,cm,⟨g1,hl⟩ | ⟨g1,hl⟩⟩:=hc.at_ (τ:=τ2) hall2 (i:=p-1) (j:=x) (by omega) (by omega)
    ·exact xCM (ldp _ _ w2 hd2 hp0) (ldx _ _ w2 hd2) cm (nq _ _ _) (fun i1 τ' h=>out1 _ _ _ _ _ h) (outN _ _ _ _ _ w2 hp2 hall2)
    ·exact xCL (ldp _ _ w2 hd2 hp0) (ldx _ _ w2 hd2) cm (eq _ _ _ _ w2 hp2 hall2 hp0 hl) (fun i1 τ' h=>out1 _ _ _ _ _ h) (outN _ _ _ _ _ w2 hp2 hall2)
   have hpi:=Go.Sort.partialInsertionSort_holds (lt:=lt) hS d2 p q (by omega) hq2 hb2;have hpc:=yYT (c:=c) (a:=p) (B:=q) w2.dt hc hall2 (by omega) hq2 (by omega);obtain ⟨R,hR⟩:∃ R,R=Go.Sort.partialInsertionSort lt d2 p q:=⟨_,rfl⟩;rw [← hR] at hpi hpc;obtain ⟨τ3,k3,w3⟩:=w2.call hpc;rw [hd2] at k3;have hp3:=Go.Sort.permIn_trans _ _ _ p q hp2 hpi.1;have hall3:=hall2.perm hq2 hpi.1;have hd3:R.1.size=d.size:=by rw [hp3.1,hdk]
   cases hR2:R.2 with
   | true=>rw [hR2] at k3 hpi;exact yDC k3 (hQR _ _ w3 (hJ _ hp3 (hpi.2 rfl))) h14
   | false =>
    rw [hR2] at k3;obtain ⟨m,cm,⟨g1,hl⟩ | ⟨g1,hl⟩⟩:=hc.at_ (τ:=τ3) hall3 (i:=p-1) (j:=x) (by omega) (by omega)
    ·exact xCP k3 (ldp _ _ w3 hd3 hp0) (ldx _ _ w3 hd3) cm (nq _ _ _) (fun i1 τ' h=>out1 _ _ _ _ _ h) (outN _ _ _ _ _ w3 hp3 hall3)
    ·exact xCO k3 (ldp _ _ w3 hd3 hp0) (ldx _ _ w3 hd3) cm (eq _ _ _ _ w3 hp3 hall3 hp0 hl) (fun i1 τ' h=>out1 _ _ _ _ _ h) (outN _ _ _ _ _ w3 hp3 hall3)
  ·cases t10 with
   | false=>exact xCE (nq _ _ _) (fun i1 τ' h=>out1 _ _ _ _ _ h) (outN _ _ _ _ _ w2 hp2 hall2)
   | true =>
   cases t11 with
   | false=>exact xCH (nq _ _ _) (fun i1 τ' h=>out1 _ _ _ _ _ h) (outN _ _ _ _ _ w2 hp2 hall2)
   | true =>
   by_cases h14:i14=1;rotate_left
   ·exact xCK (nq _ _ _) (fun i1 τ' h=>out1 _ _ _ _ _ h) (outN _ _ _ _ _ w2 hp2 hall2) h14
   have hpi:=Go.Sort.partialInsertionSort_holds (lt:=lt) hS d2 p q (by omega) hq2 hb2;have hpc:=yYT (c:=c) (a:=p) (B:=q) w2.dt hc hall2 (by omega) hq2 (by omega);obtain ⟨R,hR⟩:∃ R,R=Go.Sort.partialInsertionSort lt d2 p q:=⟨_,rfl⟩;rw [← hR] at hpi hpc;obtain ⟨τ3,k3,w3⟩:=w2.call hpc;rw [hd2] at k3;have hp3:=Go.Sort.permIn_trans _ _ _ p q hp2 hpi.1;have hall3:=hall2.perm hq2 hpi.1;cases hR2:R.2 with
   | true=>rw [hR2] at k3 hpi;exact yDC k3 (hQR _ _ w3 (hJ _ hp3 (hpi.2 rfl))) h14
   | false =>
    rw [hR2] at k3;exact xCN k3 (nq _ _ _) (fun i1 τ' h=>out1 _ _ _ _ _ h) (outN _ _ _ _ _ w3 hp3 hall3) h14
 have stepP:∀ (i3':Int) (t10 t11 h39:Bool) (d1:Array Rec) (τ1:St),(0≤i3'∧i3'≤100)→W σ τ1 b s d d1→PermIn p q dk d1→xQ V d1 →
   zJC (some ⟨b,0,s⟩) d.size c (p:Int) (q:Int) g gc t10 t11 ((q:Int)-(p:Int)) h39 i3' τ1 NX QR:=by
  intro i3' t10 t11 h39 d1 τ1 hi3' w1 hp1 hall1
  have hd1:d1.size=d.size:=by rw [hp1.1,hdk]
  have hq1:q≤d1.size:=by omega
  obtain ⟨x,kk,hx1,hx2,kc⟩:=xFE (c:=c) (a:=p) (B:=q) w1.dt hc hall1 (by omega) hq1 (by omega)
  rw [hd1] at kc
  have go:∀ (i13 i14:Int) (h56:Bool) (τ2:St),(∃ (x:Nat) (d2:Array Rec),i13=x∧p≤x∧x<q∧W σ τ2 b s d d2∧PermIn p q dk d2∧xQ V d2)→xZ (some ⟨b,0,s⟩) d.size c (p:Int) (q:Int) i3' g gc t10 t11 ((q:Int)-(p:Int)) h56 i13 i14 τ2 NX QR:=by
   rintro i13 i14 h56 τ2 ⟨x,d2,rfl,hx1,hx2,w2,hp2,hall2⟩;exact stepK _ _ _ _ _ _ _ _ hi3' hx1 hx2 w2 hp2 hall2
  by_cases hk2:kk=2
  ·have hrev:=Go.Sort.reverseRange_holds (α:=Rec) d1 p q hpq hq1;obtain ⟨τ2,k2,w2⟩:=w1.call (xUP (c:=c) (g:=g) (gc:=gc) (a:=p) (B:=q) w1.dt hall1 (by omega) hq1 (by omega));rw [hd1] at k2;exact xCR kc (Pn:=fun i13 i14 τ2=>∃ (x:Nat) (d2:Array Rec),i13=x∧p≤x∧x<q∧W σ τ2 b s d d2∧PermIn p q dk d2∧xQ V d2) (xQE k2 ⟨(q-1)-(x-p),_,by omega,by omega,by omega,w2,Go.Sort.permIn_trans _ _ _ p q hp1 hrev,hall1.perm hq1 hrev⟩ (by omega) (by omega) (by omega)) (fun i13 i14 τ2 h=>go _ _ _ _ h) hk2
  ·exact xCQ kc (Pn:=fun i13 i14 τ2=>∃ (x:Nat) (d2:Array Rec),i13=x∧p≤x∧x<q∧W σ τ2 b s d d2∧PermIn p q dk d2∧xQ V d2) (xQD ⟨x,d1,rfl,hx1,hx2,w1,hp1,hall1⟩) (fun i13 i14 τ2 h=>go _ _ _ _ h) hk2
 cases t10 with
 | true=>exact xQI (Pn:=fun i3' τ'=>(0≤i3'∧i3'≤100)∧∃ d1,W σ τ' b s d d1∧PermIn p q dk d1∧xQ V d1) (xQF ⟨hi3,dk,w,Go.Sort.permIn_refl _ _ _,hall⟩) (fun i3' τ' ⟨h1,d1,h2,h3,h4⟩=>stepP _ _ _ _ _ _ h1 h2 h3 h4) (by omega) (by omega) h0
 | false =>
  obtain ⟨d1,hp1,hall1,hs1⟩:=xNA (c:=c) (g:=g) (gc:=gc) (a:=p) (B:=q) w.dt hpq hqs (by omega) hall;obtain ⟨τ1,k1,w1⟩:=w.call hs1;rw [hdk] at k1;exact xQH (Pn:=fun i3' τ'=>(0≤i3'∧i3'≤100)∧∃ d1,W σ τ' b s d d1∧PermIn p q dk d1∧xQ V d1) (xQG k1 ⟨by omega,d1,w1,hp1,hall1⟩ (by omega)) (fun i3' τ' ⟨h1,d1,h2,h3,h4⟩=>stepP _ _ _ _ _ _ h1 h2 h3 h4) (by omega) (by omega) h0
end
end
section
open Go.Sort (swp PermIn SortedIn Below SWO)
section
variable {σ:St} {b c:Nat} {s:Option Nat} {d:Array Rec} {g:FuncId} {gc:List Value} {lt:Rec→Rec→Bool} {V:Rec→Prop}
theorem xPD (hS:SWO lt) (hc:Cmp g gc lt V) (hd:Dt σ b s d) (hv:xQ V d) (hsz:d.size≤60000) :
  ∃ d',PermIn 0 d.size d d'∧SortedIn lt 0 d.size d'∧uJ 78 [.slice (some ⟨b,0,s⟩) d.size c,.func (.func g) ⟨[]⟩ ⟨gc⟩] (.tuple ⟨[]⟩) σ b s d d':=by
 obtain ⟨n,n1,n2,n3⟩:=yWW (σ:=σ.re) (x:=d.size) (by omega);obtain ⟨d',p1,p2,p3⟩:=xXA (c:=c) (s:=s) hS hc d.size σ.re d 0 d.size (n:Int) (by omega) hd hv (Nat.zero_le _) (Nat.le_refl _) hsz (.inl rfl) (by omega);have w0:W σ σ.re b s d d:=W.start hd;obtain ⟨τ',k1,w1⟩:=w0.call p3;exact ⟨d',p1,p2,uJ.of hd (yKG (z1:=(d.size:Int)) (by rw [zWB];omega) n3 k1 ⟨rfl,w1⟩)⟩
theorem xKV:zD Tryz.prog 106 [.slice none 0 c,iV 0,iV 0,.func (.func g) ⟨[]⟩ ⟨gc⟩] σ (.tuple ⟨[]⟩) σ :=
 zP.pure (yZC (P0:=fun τ=>τ=σ.re) (zYT (Inv:=fun k i τ=>i=1∧τ=σ.re) (fun k i τ h=>by obtain ⟨rfl,rfl⟩:=h;exact yNC rfl (by omega)) 0 _ σ.re ⟨rfl,rfl⟩) (fun τ h=>zYS ⟨rfl,by rw [h];exact Nat.le_refl _⟩) (by omega))
theorem xQK {n:Int}:zD Tryz.prog 97 [.slice none 0 c,iV 0,iV 0,iV n,.func (.func g) ⟨[]⟩ ⟨gc⟩] σ (.tuple ⟨[]⟩) σ :=
 zP.pure (xIH (Pr:=fun τ=>τ=σ.re) (yDE (Inv:=fun k i1 i2 i3 t10 t11 τ=>i1=0∧i2=0∧τ=σ.re) (fun k i1 i2 i3 t10 t11 τ h=>by obtain ⟨rfl,rfl,rfl⟩:=h;exact yYF xKV rfl (by omega) (by omega)) 0 _ _ _ _ _ σ.re ⟨rfl,rfl,rfl⟩) (fun τ h=>yDD ⟨rfl,by rw [h];exact Nat.le_refl _⟩))
theorem xAQ:zD Tryz.prog 78 [.slice none 0 c,.func (.func g) ⟨[]⟩ ⟨gc⟩] σ (.tuple ⟨[]⟩) σ:=by
 obtain ⟨n,n1,n2,n3⟩:=yWW (σ:=σ.re) (x:=0) (by omega);exact zP.pure (yKG (x_l:=0) (z1:=((0:Nat):Int)) (by rw [zWB];rfl) n3 xQK ⟨rfl,Nat.le_refl _⟩)
end
end
abbrev zLS (s:Std):Value:=.agg ⟨zK s.free s.row s.used s.day⟩
structure StOk (s:Std):Prop where
 free:-1000000≤s.free∧s.free≤1000000
 row:0≤s.row∧s.row≤1000000
 used:-1000000≤s.used∧s.used≤1000000
 day:-1≤s.day∧s.day≤6
structure DtOk (d:Dty):Prop where
 day:0≤d.day∧d.day≤6
 on:0≤d.on∧d.on≤1439
section
variable {σ:St} {w:Wk} {p q:Option Addr} {l m c d:Nat} {k:Nat}
theorem xMV {p:Option Addr} {l c:Nat} {xs:List Int} {n:Int} (h:yI σ p l xs) (hl:l≤1073741824):zD Pg 58 [.slice p l c,iV n] σ (.bool (xs.contains n)) σ:=by
 have h1:=(SlV.re h).re;have e1:=h.len;have ci:∃ r:Int,zD Pg 83 [.slice p l c,iV n] σ.re (iV r) σ.re∧(0≤r↔n∈xs):=by
  have key:zP Pg 83 [.slice p l c,iV n] σ.re.re fun v s=>(∃ r:Int,v=iV r∧(0≤r↔n∈xs))∧s=σ.re.re:=by
   refine xKX (yNG (Inv:=fun k i τ=>τ=σ.re.re∧∃ j:Nat,i=j∧j+k=l∧n ∉ xs.take j) (Qr:=fun i τ=>τ=σ.re.re∧0≤i∧n∈xs) (Q0:=fun τ=>τ=σ.re.re∧n ∉ xs) ?_ l 0 _ ⟨rfl,0,rfl,by omega,by simp⟩) ?_ ?_
   ·rintro k i τ ⟨rfl,j,rfl,hk,he⟩;by_cases hj:j<l
    ·obtain ⟨a,rfl,x,hx,l1⟩:=vB h1 hj;by_cases hxy:n=x
     ·exact xDX l1 ⟨rfl,by omega,hxy ▸ List.mem_of_getElem? hx⟩ (by omega) (by omega) hxy
     ·exact xDW l1 ⟨k-1,by omega,rfl,j+1,by omega,by omega,by rw [wO hx,List.mem_append];simp;exact ⟨he,hxy⟩⟩ (by omega) (by omega) hxy (by omega)
    ·rw [List.take_of_length_le (by omega)] at he;exact xDV ⟨rfl,he⟩ (by omega)
   ·rintro i τ ⟨rfl,h2,hn⟩;exact yNE ⟨⟨i,rfl,by simp [h2,hn]⟩,rfl⟩
   ·rintro τ ⟨rfl,hn⟩;exact yNF ⟨⟨-1,rfl,by simp [hn]⟩,rfl⟩
  obtain ⟨v,s,h3,⟨r,rfl,h2⟩,rfl⟩:=key;exact ⟨r,zQY h3 (Nat.le_refl _) rfl,h2⟩
 obtain ⟨r,c1,c2⟩:=ci;by_cases hn:n∈xs
 ·rw [show xs.contains n=true by simp [hn]];exact (xSB c1 ⟨rfl,Nat.le_refl _⟩ (c2.2 hn)).pure
 ·rw [show xs.contains n=false by simp [hn]];exact (xSA c1 ⟨rfl,Nat.le_refl _⟩ (fun h=>hn (c2.1 h))).pure
theorem yGI {s:Std} {x:Dty} {e:Int} (hs:StOk s) (hx:DtOk x) (he:-1000000≤e∧e≤1000000):zD Pg 77 [zLS s,zBM x,iV e] σ (zLS (take s x e)) σ:=by
 have h1:=hs.used;have h2:=hs.row;have h3:=hs.day;have h4:=hx.day;have h5:=hx.on;unfold take;by_cases e1:s.day=x.day
 ·rw [if_pos e1];exact (xGT ⟨rfl,by simp⟩ (by omega) (by omega) e1).pure
 ·rw [if_neg e1];by_cases e2:s.day=x.day-1
  ·rw [if_pos e2];exact (xGR ⟨rfl,by simp⟩ (by omega) (by omega) e1 (by omega) e2 (by omega) (by omega) (by omega)).pure
  ·rw [if_neg e2];exact (xGS ⟨rfl,by simp⟩ (by omega) (by omega) e1 (by omega) e2 (by omega) (by omega)).pure
theorem xTU (h:WkP σ 85 88 w p l q m) (hsh:zCF w) (hk:k<m) {s:Std} {x:Dty} (hs:StOk s) (hx:DtOk x) {n:Nat} (hn:n<5):zD Pg (92+n) [.agg ⟨wkc w.days p l c q m d w.rest w.run w.hours⟩,iV (k:Int),zBM x,zLS s] σ (.bool (holds w n (drv w k) x s)) σ:=by
 have h1:=hs.free;have h4:=hx.day;have h5:=hx.on;have L:Le σ (((σ.re.row (wkc w.days p l c q m d w.rest w.run w.hours) 6).row (zF x.day x.on x.lo x.hi x.route) 5).row (zK s.free s.row s.used s.day) 4):=(((le0 σ).trans (Le.row _ _ _)).trans (Le.row _ _ _)).trans (Le.row _ _ _);obtain ⟨a,rfl,p',l',c',r',n',d',s',j',e',_,hkn,hlv,_,hf⟩:=(h.le L).vld yPS zQS hk;have hm:=h.len.2;have hmem:drv w k∈w.drivers:=by
  unfold drv;rw [List.getD_eq_getElem?_getD,List.getElem?_eq_getElem (by omega)];exact List.getElem_mem _
 have hsx:=hsh _ hmem;match n,hn with
 | 0,_=>exact (xBT (hf 0 _ rfl 26 yV) (xMV hkn (by have:=hkn.len;omega)) ⟨rfl,Nat.le_refl _⟩ (by omega)).pure
 | 1,_ =>
  have cc:=xMV (c:=d') (n:=x.day) hlv (by have:=hlv.len;omega);show zD Pg 93 _ σ (.bool (!(drv w k).leave.contains x.day)) σ;cases hc:(drv w k).leave.contains x.day with
  | true=>rw [hc] at cc;exact (xHZ (hf 1 _ rfl 26 yV) cc ⟨rfl,Nat.le_refl _⟩ (by omega)).pure
  | false=>rw [hc] at cc;exact (xHY (hf 1 _ rfl 26 yV) cc ⟨rfl,Nat.le_refl _⟩ (by omega)).pure
 | 2,_ =>
  show zD Pg 94 _ σ (.bool (decide (s.day≠x.day))) σ;by_cases e:s.day=x.day
  ·rw [decide_eq_false (by simp [e])];exact (ySO ⟨rfl,Nat.le_refl _⟩ e).pure
  ·rw [decide_eq_true e];exact (ySP ⟨rfl,Nat.le_refl _⟩ e).pure
 | 3,_ =>
  show zD Pg 95 _ σ (.bool (decide (s.day=x.day) || decide (w.rest≤x.day*1440+x.on-s.free))) σ;by_cases e:s.day=x.day
  ·rw [decide_eq_true e];exact (ySS ⟨rfl,Nat.le_refl _⟩ e).pure
  ·rw [decide_eq_false e,Bool.false_or];by_cases e2:w.rest≤x.day*1440+x.on-s.free
   ·rw [decide_eq_true e2];exact (ySR ⟨rfl,Nat.le_refl _⟩ e (by omega) (by omega) (by omega) e2).pure
   ·rw [decide_eq_false e2];exact (ySQ ⟨rfl,Nat.le_refl _⟩ e (by omega) (by omega) (by omega) e2).pure
 | 4,_ =>
  show zD Pg 96 _ σ (.bool (decide (s.day=x.day) || decide ((take s x x.on).row≤w.run))) σ;by_cases e:s.day=x.day
  ·rw [decide_eq_true e];exact (xBW ⟨rfl,Nat.le_refl _⟩ e).pure
  ·rw [decide_eq_false e,Bool.false_or];have ct:=yGI (σ:=((σ.re.row (wkc w.days p l c (some a) m d w.rest w.run w.hours) 6).row (zF x.day x.on x.lo x.hi x.route) 5).row (zK s.free s.row s.used s.day) 4) (e:=x.on) hs hx (by omega);by_cases e2:(take s x x.on).row≤w.run
   ·rw [decide_eq_true e2];exact (xBV ct ⟨rfl,Nat.le_refl _⟩ e e2).pure
   ·rw [decide_eq_false e2];exact (xBU ct ⟨rfl,Nat.le_refl _⟩ e e2).pure
end
section
open Go.Sort (swp PermIn SortedIn Below SWO)
def bLt (x y:Rec):Prop:=x.a<y.a∨x.a=y.a∧(x.k<y.k∨x.k=y.k∧x.b<y.b)
instance (x y:Rec):Decidable (bLt x y):=by unfold bLt;infer_instance
def yPN (x y:Rec):Bool:=decide (bLt x y)
theorem xWW:SWO yPN:=by
 refine ⟨fun x=>?_,fun x y z h1 h2=>?_,fun x y z h1 h2=>?_⟩
 ·simp only [yPN,decide_eq_false_iff_not];unfold bLt;omega
 ·simp only [yPN,decide_eq_true_eq] at *;unfold bLt at *;omega
 ·simp only [yPN,decide_eq_false_iff_not] at *;unfold bLt at *;omega
def BOk (x:Rec):Prop:=0≤x.k∧x.k≤5∧0≤x.a∧x.a≤100∧0≤x.b∧x.b≤100
section
variable {σ:St}
theorem xSE {x y z:Int} {b c:Nat} (o:Own σ b [iV x,iV y,iV z] 1):zD Tryz.prog 80 [.slice (some ⟨b,0,none⟩) 3 c] σ (iV (if x=0 then (if y=0 then z else y) else x)) σ:=by
 have h0:=o.re;have l0:=h0.ldI (P:=Tryz.prog) (t:=3) (i:=0) (v:=iV x) zT rfl;have l1:=h0.ldI (P:=Tryz.prog) (t:=3) (i:=1) (v:=iV y) zT rfl;have l2:=h0.ldI (P:=Tryz.prog) (t:=3) (i:=2) (v:=iV z) zT rfl;refine zP.pure (xMX (Pr:=fun n τ=>τ=σ.re∧n=if x=0 then (if y=0 then z else y) else x) (P0:=fun τ=>τ=σ.re∧x=0∧y=0∧z=0)
  (yOZ (Inv:=fun k i τ=>τ=σ.re∧((i=0∧k=3)∨(i=1∧k=2∧x=0)∨(i=2∧k=1∧x=0∧y=0)∨(i=3∧x=0∧y=0∧z=0))) ?_ 3 0 σ.re ⟨rfl,.inl ⟨rfl,rfl⟩⟩)
  (fun n τ h=>yOX ⟨by rw [h.2],by rw [h.1];exact Nat.le_refl _⟩) (fun τ h=>yOY ⟨by simp [h.2.1,h.2.2.1,h.2.2.2],by rw [h.1];exact Nat.le_refl _⟩))
 rintro k i τ ⟨rfl,⟨rfl,rfl⟩ | ⟨rfl,rfl,hx⟩ | ⟨rfl,rfl,hx,hy⟩ | ⟨rfl,hx,hy,hz⟩⟩
 ·by_cases hx:x=0
  ·exact zSD l0 ⟨2,by omega,rfl,.inr (.inl ⟨rfl,rfl,hx⟩)⟩
  ·exact zSE l0 ⟨rfl,by rw [if_neg hx]⟩
 ·by_cases hy:y=0
  ·exact zSD l1 ⟨1,by omega,rfl,.inr (.inr (.inl ⟨rfl,rfl,hx,hy⟩))⟩
  ·exact zSE l1 ⟨rfl,by rw [if_pos hx,if_neg hy]⟩
 ·by_cases hz:z=0
  ·exact zSD l2 ⟨0,by omega,rfl,.inr (.inr (.inr ⟨rfl,hx,hy,hz⟩))⟩
  ·exact zSE l2 ⟨rfl,by rw [if_pos hx,if_pos hy]⟩
 ·exact xFA ⟨rfl,hx,hy,hz⟩
theorem xXY:Cmp 79 [] yPN BOk:=by
 intro τ x y hx hy;unfold BOk at hx hy;refine ⟨if x.a-y.a=0 then (if x.k-y.k=0 then x.b-y.b else x.k-y.k) else x.a-y.a, ?_, ?_⟩
 ·have N:New τ.re (((τ.re.row (zAX x) 3).row (zAX y) 3).row [iV (x.a-y.a),iV (x.k-y.k),iV (x.b-y.b)] 1):=((New.row _ _ _).row').row';exact zP.pure (xSI (xSE (zC _ _ _)) ⟨rfl,N.lw⟩ (by omega) (by omega) (by omega) (by omega) (by omega))
 ·simp only [yPN,decide_eq_true_eq];unfold bLt;by_cases h:x.a-y.a=0
  ·rw [if_pos h];by_cases h2:x.k-y.k=0
   ·rw [if_pos h2];omega
   ·rw [if_neg h2];omega
  ·rw [if_neg h];omega
end
end
abbrev zES (s:Std):List Value:=zK s.free s.row s.used s.day
def stL (f:Nat→Std):List Value:=zES (f 0)++(zES (f 1)++(zES (f 2)++(zES (f 3)++(zES (f 4)++zES (f 5)))))
def zEP:List Value:=[yA 0,yA 0,yA 0,yA 0,yA 0,yA 0,yA 0,yA 0,yA 0,yA 0,yA 0,yA 0,yA 0,yA 0,yA 0,yA 0,yA 0,yA 0,yA 0,yA 0,yA 0,yA 0,yA 0,yA 0]
def zUU:Std:=⟨0,0,0,0⟩
theorem yCB:zEP=stL fun _=>zUU:=rfl
section
variable {σ:St} {b n:Nat} {f:Nat→Std}
theorem yGJ (o:Own σ b (stL f) n) {i:Nat} (hi:i<6):zB Tryz.prog σ 107 ⟨b,0+Int.toNat (i:Int)*4,none⟩=some (zLS (f i)):=by
 rw [Int.toNat_natCast];match i,hi with
 | 0,_=>exact o.ldN (k:=0) vM xA (ds:=zES (f 0)) rfl rfl (by simp [stL])
 | 1,_=>exact o.ldN (k:=4) vM xA (ds:=zES (f 1)) rfl rfl (by simp [stL])
 | 2,_=>exact o.ldN (k:=8) vM xA (ds:=zES (f 2)) rfl rfl (by simp [stL])
 | 3,_=>exact o.ldN (k:=12) vM xA (ds:=zES (f 3)) rfl rfl (by simp [stL])
 | 4,_=>exact o.ldN (k:=16) vM xA (ds:=zES (f 4)) rfl rfl (by simp [stL])
 | 5,_=>exact o.ldN (k:=20) vM xA (ds:=zES (f 5)) rfl rfl (by simp [stL])
theorem xGU (o:Own σ b (stL f) n) {i:Nat} (hi:i<6):zB Tryz.prog σ 3 ⟨b,0+Int.toNat (i:Int)*4+2,none⟩=some (yA (f i).used):=by
 rw [Int.toNat_natCast];match i,hi with
 | 0,_=>exact o.ld (k:=2) rfl zT rfl
 | 1,_=>exact o.ld (k:=6) rfl zT rfl
 | 2,_=>exact o.ld (k:=10) rfl zT rfl
 | 3,_=>exact o.ld (k:=14) rfl zT rfl
 | 4,_=>exact o.ld (k:=18) rfl zT rfl
 | 5,_=>exact o.ld (k:=22) rfl zT rfl
theorem vZ (o:Own σ b (stL f) n):zB Tryz.prog σ 109 ⟨b,0,none⟩=some (.agg ⟨stL f⟩):=o.ldN (k:=0) xNZ yGO (ds:=stL f) rfl rfl (by simp [stL])
theorem yQR (o:Own σ b (stL f) n) {i:Nat} (hi:i<6) (s:Std):zQ Tryz.prog (evL [.pointer (some ⟨b,0+Int.toNat (i:Int)*4,none⟩),zLS s]) σ (.store 107 (.tmp 0) (.tmp 1))=some (undef,σ.own b (stL (upd f i s)) n):=by
 rw [Int.toNat_natCast];match i,hi with
 | 0,_=>exact o.store (k:=0) (vs:=zES s) rfl xA rfl (by simp [stL]) rfl
 | 1,_=>exact o.store (k:=4) (vs:=zES s) rfl xA rfl (by simp [stL]) rfl
 | 2,_=>exact o.store (k:=8) (vs:=zES s) rfl xA rfl (by simp [stL]) rfl
 | 3,_=>exact o.store (k:=12) (vs:=zES s) rfl xA rfl (by simp [stL]) rfl
 | 4,_=>exact o.store (k:=16) (vs:=zES s) rfl xA rfl (by simp [stL]) rfl
 | 5,_=>exact o.store (k:=20) (vs:=zES s) rfl xA rfl (by simp [stL]) rfl
theorem zVC (o:Own σ b (stL f) n) (g:Nat→Std):zQ Tryz.prog (evL [.pointer (some ⟨b,0,none⟩),.agg ⟨stL g⟩]) σ (.store 109 (.tmp 0) (.tmp 1))=some (undef,σ.own b (stL g) n) :=
 o.store (k:=0) (vs:=stL g) rfl yGO rfl (by simp [stL]) rfl
def st0 (w:Wk) (j:Nat):Nat→Std:=fun k=>if k<j then before (drv w k) else zUU
theorem xWX {w:Wk} {j:Nat}:upd (st0 w j) j (before (drv w j))=st0 w (j+1):=by
 funext k;unfold upd st0;by_cases e:k=j
 ·subst e;rw [if_pos rfl,if_pos (by omega)]
 ·rw [if_neg e];by_cases h:k<j
  ·rw [if_pos h,if_pos (by omega)]
  ·rw [if_neg h,if_neg (by omega)]
variable {w:Wk} {p q:Option Addr} {l m c d:Nat}
theorem yCE (h:WkP σ 85 88 w p l q m) (hm:m≤6):zD Tryz.prog 74 [.agg ⟨wkc w.days p l c q m d w.rest w.run w.hours⟩] σ (.agg ⟨stL (st0 w m)⟩) σ:=by
 have hmm:=h.len.2;obtain ⟨σ1,hσ1⟩:∃ σ1,σ1=(σ.re.row (wkc w.days p l c q m d w.rest w.run w.hours) 6).row zEP 4:=⟨_,rfl⟩;have N1:New σ.re σ1:=by rw [hσ1];exact (New.row _ _ _).row'
 have L1:Le σ σ1:=(le0 σ).trans N1.le;have o1:Own σ1 (σ.y+1) (stL (st0 w 0)) 4:=by
  rw [hσ1];exact zC (σ.re.row (wkc w.days p l c q m d w.rest w.run w.hours) 6) zEP 4
 have hr:zW RD (.agg ⟨stL (st0 w m)⟩)=true:=rfl;refine zP.pure (hv:=hr) (yQO (yBF (Inv:=fun k i τ=>New σ.re τ∧∃ j:Nat,i=j∧j+k=m∧Own τ (σ.y+1) (stL (st0 w j)) 4) (Q0:=fun τ=>New σ.re τ∧Own τ (σ.y+1) (stL (st0 w m)) 4) ?_ m 0 σ1 ⟨N1,0,rfl,by omega,o1⟩ |> fun h=>by rw [hσ1] at h;exact h) ?_)
 ·rintro k i τ ⟨hN,j,rfl,hk,o⟩;by_cases hj:j<m;rotate_left
  ·have:j=m:=by omega
   subst this;exact yJX ⟨hN,o⟩ (by omega)
  have LL:=(le0 σ).trans hN.le;obtain ⟨a,rfl,p',l',c',r',n',d',s',j',e',lx,_,_,_,_⟩:=(h.le LL).vld yPS zQS hj;have hN2:New σ.re ((τ.row (zO none 0 0 none 0 0 none 0 0 0 0 0) 6).own τ.y (zO p' l' c' r' n' d' s' j' e' (drv w j).off (drv w j).row (drv w j).used) 6):=hN.row'.own hN.le.y;have o2:Own ((τ.row (zO none 0 0 none 0 0 none 0 0 0 0 0) 6).own τ.y (zO p' l' c' r' n' d' s' j' e' (drv w j).off (drv w j).row (drv w j).used) 6) (σ.y+1) (stL (st0 w j)) 4:=o.row.own (by have:=o.lt;omega);refine yJY lx (yQR o2 (i:=j) (by omega) (before (drv w j))) ⟨k-1,by omega,hN2.own (by show σ.y≤σ.y+1;omega),j+1,by omega,by omega, ?_⟩ (by omega) (by omega) (by omega) (by omega);rw [← xWX];exact o2.put
 ·rintro τ ⟨hN,o⟩;exact yBE (vZ o) (zVC o _) (vZ o.put) ⟨rfl,(hN.own (by show σ.y≤σ.y+1;omega)).lw⟩
theorem zTN:∃ b σ',zD Tryz.prog 76 [] σ (.slice (some ⟨b,0,none⟩) 5 5) σ'∧New σ σ'∧σ.y≤b∧Row σ' ⟨b,0,none⟩ [.int .u8 0,.func (.func 92) ⟨[]⟩ ⟨[]⟩,.int .u8 1,.func (.func 93) ⟨[]⟩ ⟨[]⟩,.int .u8 2,.func (.func 94) ⟨[]⟩ ⟨[]⟩,.int .u8 3,.func (.func 95) ⟨[]⟩ ⟨[]⟩,.int .u8 4,.func (.func 96) ⟨[]⟩ ⟨[]⟩]:=by
 obtain ⟨v,σ',h1,h2,b,rfl,h3,h4⟩:=zP.new (σ:=σ) (P:=Tryz.prog) (f:=76) (args:=[]) (Q:=fun v s=>∃ b,v=.slice (some ⟨b,0,none⟩) 5 5∧σ.y≤b∧Row s ⟨b,0,none⟩ [.int .u8 0,.func (.func 92) ⟨[]⟩ ⟨[]⟩,.int .u8 1,.func (.func 93) ⟨[]⟩ ⟨[]⟩,.int .u8 2,.func (.func 94) ⟨[]⟩ ⟨[]⟩,.int .u8 3,.func (.func 95) ⟨[]⟩ ⟨[]⟩,.int .u8 4,.func (.func 96) ⟨[]⟩ ⟨[]⟩])
  (yHF ⟨New.row _ _ _,σ.re.y,rfl,Nat.le_refl _,xN _ _ _⟩) (by rintro v s s' ⟨b,rfl,g1,g2⟩ hle;exact ⟨b,rfl,g1,g2.le hle⟩) (by rintro v s hr ⟨b,rfl,_⟩;cases hr)
 exact ⟨b,σ',h1,h2,h3,h4⟩
end
section
noncomputable section
variable (BA BB:Nat) (s1 slices:oAa) (o:lVa) (dF aV dX ba:Nat) (aE aW:Int) (s2 ff:oAa) (qC:(Option Addr)→Nat→Nat→St→Prop) (qB:(Option Addr)→Nat→Nat→Int→St→Prop) (q7:Int→Int→St→Prop) (dR fh dY fm:Nat) (q0:Int→St→Prop) (q4:St→Prop) (bu aF eG:Int) (σ:St) (Nx Qr:Int→St→Prop) (q8:Int→Int→St→Prop) (Q:vPa) (qD:(Option Addr)→Nat→Nat→Int→St→Prop) (Q0:St→Prop) (q9:Int→St→Prop) (Q2:(Option Addr)→Nat→Nat→St→Prop)
def yNW:Code:=(Code.part [1,0,1,0,0] (qh 102))
def zPU:lNa:=[(2,pt BA 0),(4,pt BB 0),(7,qf o),(8,iV aE)]
def xEH:Alt:=⟨Int,.normal,fun t=>zPU BA BB o t,fun t=>[],fun t σ=>q0 t σ⟩
def zZI (BA BB:Nat) (o:lVa):lNa:=[(2,pt BA 0),(4,pt BB 0)]
def zNQ:Alt:=⟨Unit,(.exit 0),fun t=>zZI BA BB o,fun t=>[],fun t σ=>q4 σ⟩
def zZK:Prop:=qi qj none yNW 20 (zPU BA BB o aE) [] [xEH BA BB o Nx,zNQ BA BB o Q0] σ
def yNX:Prop:=qk qj none yNW 20 (zPU BA BB o aE) [] [zNQ BA BB o Q0] σ
def zZJ:Prop:=kZ qj (qh 102) [1,0,1,0] (ql 102 Q) (.exit 0) 20 (zZI BA BB o) σ
def yAB:Code:=(Code.part [1,0,1,0,0] (qh 119))
def zDZ:lNa:=[(0,.slice s1 dF dX),(1,.slice s2 dR dY),(9,.slice s1 dF dX),(10,iV (dF:Int)),(11,iV aF)]
def yOW:Alt:=⟨Int,.normal,fun t=>zDZ s1 dF dX s2 dR dY t,fun t=>[],fun t σ=>q0 t σ⟩
def zPY (s1:oAa) (dF dX:Nat) (s2:oAa) (dR dY:Nat) (bu:Int):lNa:=[(4,iV bu)]
def zHF:Alt:=⟨Int,.ret,fun t=>zPY s1 dF dX s2 dR dY t,fun t=>[],fun t σ=>q0 t σ⟩
def zPZ:lNa:=[(0,.slice s1 dF dX),(1,.slice s2 dR dY)]
def zHG:Alt:=⟨Unit,(.exit 0),fun t=>zPZ s1 dF dX s2 dR dY,fun t=>[],fun t σ=>q4 σ⟩
def zHH:Prop:=qi qj none yAB 36 (zDZ s1 dF dX s2 dR dY aF) [] [yOW s1 dF dX s2 dR dY Nx,zHF s1 dF dX s2 dR dY Qr,zHG s1 dF dX s2 dR dY Q0] σ
def yAC:Prop:=qk qj none yAB 36 (zDZ s1 dF dX s2 dR dY aF) [] [zHF s1 dF dX s2 dR dY Qr,zHG s1 dF dX s2 dR dY Q0] σ
def zQA:Prop:=kZ qj (qh 119) [1,0,1,0] (ql 119 Q) .ret 36 (zPY s1 dF dX s2 dR dY bu) σ
def zQB:Prop:=kZ qj (qh 119) [1,0,1,0] (ql 119 Q) (.exit 0) 36 (zPZ s1 dF dX s2 dR dY) σ
def yOR:Code:=(Code.part [1,1,0,1,0,0] (qh 104))
def zKB:lNa:=[(0,.slice slices aV ba),(3,iV aW),(9,.slice slices aV ba),(10,iV (aV:Int)),(11,iV aF)]
def xEY:Alt:=⟨Int × Int,.normal,fun t=>zKB slices aV ba t.1 t.2,fun t=>[],fun t σ=>q7 t.1 t.2 σ⟩
def zZW:lNa:=[(0,.slice slices aV ba),(3,iV aW)]
def zNU:Alt:=⟨Int,(.exit 0),fun t=>zZW slices aV ba t,fun t=>[],fun t σ=>q0 t σ⟩
def yAA:Prop:=qi qj none yOR 36 (zKB slices aV ba aW aF) [] [xEY slices aV ba q8,zNU slices aV ba q9] σ
def yOT:Prop:=qk qj none yOR 36 (zKB slices aV ba aW aF) [] [zNU slices aV ba q9] σ
def zZY:Prop:=kZ qj (qh 104) [1,1,0,1,0] (ql 104 Q) (.exit 0) 36 (zZW slices aV ba aW) σ
def yOQ:Code:=(Code.part [1,1,1,1,0,1,0,0] (qh 104))
def zKA:lNa:=[(6,.slice ff fh fm),(25,.slice slices aV ba),(26,iV (aV:Int)),(27,iV eG)]
def xEX:Alt:=⟨(Option Addr) × Nat × Nat × Int,.normal,fun t=>zKA slices aV ba t.1 t.2.1 t.2.2.1 t.2.2.2,fun t=>[],fun t σ=>qB t.1 t.2.1 t.2.2.1 t.2.2.2 σ⟩
def zZV (slices:oAa) (aV ba:Nat) (ff:oAa) (fh fm:Nat):lNa:=[(6,.slice ff fh fm)]
def zNT:Alt:=⟨(Option Addr) × Nat × Nat,(.exit 2),fun t=>zZV slices aV ba t.1 t.2.1 t.2.2,fun t=>[],fun t σ=>qC t.1 t.2.1 t.2.2 σ⟩
def zZZ:Prop:=qi qj none yOQ 36 (zKA slices aV ba ff fh fm eG) [] [xEX slices aV ba qD,zNT slices aV ba Q2] σ
def yOS:Prop:=qk qj none yOQ 36 (zKA slices aV ba ff fh fm eG) [] [zNT slices aV ba Q2] σ
def zZX:Prop:=kZ qj (qh 104) [1,1,1,1,0,1,0] (ql 104 Q) (.exit 2) 36 (zZV slices aV ba ff fh fm) σ
end
variable {BA BB l1 c1 l2 c2 dF dX dR dY aV ba lF cF fh fm lI cI lA cA lK cP s_l s_c l3 c3 l5 c5 l6 c6:Nat} {o g_0 cs1838 cs1840:lVa} {Inv:Nat→Int→St→Prop} {Q0 P0:St→Prop} {aE nE nG n3 aF nD bu x y aW eG n n1 n2:Int} {σZ σ σG σVB σ4:St} {Nx Qr Pr:Int→St→Prop} {Q:vPa} {q1 q2 s1 s2 slices qE ff qH qA qO s q3 q5 q6:oAa} {s1_a s2_a fY:Addr} {Q2 P2:(Option Addr)→Nat→Nat→St→Prop}
theorem yNV (hb:∀ k aE σ,Inv k aE σ→zZK BA BB o aE σ (NX1 Inv k) Q0):∀ k aE σ,Inv k aE σ→yNX BA BB o aE σ Q0 :=
 xE (ai (wA 0) trivial) hb
theorem xEG (h1:zAB Pg 98 (qf o) (iV aE)=some (iV nE)) (h2:lz σ 3 ⟨BA,0+Int.toNat aE*1,none⟩ (iV nG)) (h3:qn (evL [pt BA (0+Int.toNat aE*1),iV (nG+nE)]) σ (.store 3 (.tmp 0) (.tmp 1))=some (undef,σZ)) (nx:Nx (aE+1) σZ) (u1:aE<6:=by omega) (u2:Ix aE 6:=by omega) (u3:I6 (nG+nE):=by omega) (u4:I6 (aE+1):=by omega):zZK BA BB o aE σ Nx Q0 :=
 kO 0 (aE+1) [.b true,.g,.v (iV nE),.g,.g,.g,.i,.l (iV nG),.g,.n (nG+nE),.i,.e undef σZ,.n (aE+1),.g] (fun _ f=>an2 (zR u1) h1 (an6 u2 h2 (w64 u3) u2 h3 (w64 u4) f)) nx
theorem xEF (nx:Q0 σ) (u1:¬ aE<6:=by omega):zZK BA BB o aE σ Nx Q0 :=
 kO 1 () [.b false] (fun _ f=>ai (zU u1) f) nx
theorem xLU:let y0:=((σ.row g_0 1).row o 1).row (zJ 0 0 0 0 0 0) 1;∀ (h1:lz y0 98 ⟨(σ.y+1),0,none⟩ (qf o)) (hL:yNX σ.y (σ.y+2) o 0 y0 P0) (k0:∀ σ',P0 σ'→zZJ σ.y (σ.y+2) o σ' Q),qg 102 [qf g_0,qf o] σ Q :=
 let s1:=zPU σ.y (σ.y+2) o 0;fun h1 hL k0=>zG [.g,.g,.g,.l (qf o),.g,.lf 20 s1 [zNQ σ.y (σ.y+2) o P0]] (kd (ai h1 (ai (ai tt (ai (arf s1) hL)) (ai (kz0 k0) trivial))))
theorem yNU (h1:lz σ 98 (qe BA 0) (qf cs1838)) (h2:qn (evL [pt BB 0,qf cs1838]) σ (.store 98 (.tmp 0) (.tmp 1))=some (undef,σG)) (h3:lz σG 98 (qe BB 0) (qf cs1840)) (nx:Q (qf cs1840) σG):zZJ BA BB o σ Q :=
 sK [.l (qf cs1838),.e undef σG,.l (qf cs1840)] (an3 h1 h2 h3 nx)
theorem xLX:let y0:=(σ.row g_0 1).row o 1;∀ (h1:lz y0 98 (qe σ.y 0) (qf g_0)) (h2:lz y0 98 ⟨(σ.y+1),0,none⟩ (qf o)) (h3:uR Pg .neq 98 (.tmp 5) (.tmp 6) (qf g_0) (qf o)=some (.bool true)) (h4:uP Pg y0 98 (pt σ.y 0) none none none=some (.slice q1 l1 c1)) (h5:uP Pg y0 98 (pt ((σ.y+1)) 0) none none none=some (.slice q2 l2 c2)) (h6:qm 119 [.slice q1 l1 c1,.slice q2 l2 c2] y0 (iV n3) y0) (nx:Q (.bool true) y0) (u1:0<n3:=by omega),qg 103 [qf g_0,qf o] σ Q :=
 let y0:=(σ.row g_0 1).row o 1;fun h1 h2 h3 h4 h5 h6 nx u1=>zG [.g,.g,.g,.l (qf g_0),.l (qf o),.v (.bool true),.g,.v (.slice q1 l1 c1),.v (.slice q2 l2 c2),.c (iV n3) y0,.b true,.g,.g] (kd (ai h1 (an6 h2 h3 h4 h5 h6 (zR u1) nx)))
theorem xLW:let y0:=(σ.row g_0 1).row o 1;∀ (h1:lz y0 98 (qe σ.y 0) (qf g_0)) (h2:lz y0 98 ⟨(σ.y+1),0,none⟩ (qf o)) (h3:uR Pg .neq 98 (.tmp 5) (.tmp 6) (qf g_0) (qf o)=some (.bool true)) (h4:uP Pg y0 98 (pt σ.y 0) none none none=some (.slice q1 l1 c1)) (h5:uP Pg y0 98 (pt ((σ.y+1)) 0) none none none=some (.slice q2 l2 c2)) (h6:qm 119 [.slice q1 l1 c1,.slice q2 l2 c2] y0 (iV n3) y0) (nx:Q (.bool false) y0) (u1:¬ 0<n3:=by omega),qg 103 [qf g_0,qf o] σ Q :=
 let y0:=(σ.row g_0 1).row o 1;fun h1 h2 h3 h4 h5 h6 nx u1=>zG [.g,.g,.g,.l (qf g_0),.l (qf o),.v (.bool true),.g,.v (.slice q1 l1 c1),.v (.slice q2 l2 c2),.c (iV n3) y0,.b false,.g,.g] (kd (ai h1 (an6 h2 h3 h4 h5 h6 (zU u1) nx)))
theorem xLV:let y0:=(σ.row g_0 1).row o 1;∀ (h1:lz y0 98 (qe σ.y 0) (qf g_0)) (h2:lz y0 98 ⟨(σ.y+1),0,none⟩ (qf o)) (h3:uR Pg .neq 98 (.tmp 5) (.tmp 6) (qf g_0) (qf o)=some (.bool false)) (nx:Q (.bool false) y0),qg 103 [qf g_0,qf o] σ Q :=
 fun h1 h2 h3 nx=>zG [.g,.g,.g,.l (qf g_0),.l (qf o),.v (.bool false),.g,.g,.g] (kd (an3 h1 h2 h3 nx))
theorem yBW (hb:∀ k aF σ,Inv k aF σ→zHH s1 dF dX s2 dR dY aF σ (NX1 Inv k) Qr Q0):∀ k aF σ,Inv k aF σ→yAC s1 dF dX s2 dR dY aF σ Qr Q0 :=
 xE (ai zAN (ai (wA 0) trivial)) hb
theorem zUE (h1:lz σ 3 (zL s1_a (Int.toNat aF*1)) (iV nE)) (h2:lz σ 3 (zL s2_a (Int.toNat aF*1)) (iV nG)) (h3:qm 129 [iV nE,iV nG] σ (iV nD) σ) (nx:Qr nD σ) (u1:aF<(dF:Int):=by omega) (u2:Ix aF dF:=by omega) (u3:¬ (dR:Int)≤aF:=by omega) (u4:Ix aF dR:=by omega) (u5:¬ nD=0:=by omega):zHH (some s1_a) dF dX (some s2_a) dR dY aF σ Nx Qr Q0 :=
 kO 1 nD [.b true,.g,.i,.l (iV nE),.g,.g,.g,.g,.g,.b false,.g,.g,.i,.l (iV nG),.g,.g,.g,.c (iV nD) σ,.g,.g,.b true,.g,.g] (fun _ f=>an2 (zR u1) u2 (an6 h1 (yF u3) u4 h2 h3 (zGQ u5) f)) nx
theorem yOV (h1:lz σ 3 (zL s1_a (Int.toNat aF*1)) (iV nE)) (h2:lz σ 3 (zL s2_a (Int.toNat aF*1)) (iV nG)) (h3:qm 129 [iV nE,iV nG] σ (iV nD) σ) (nx:Nx (aF+1) σ) (u1:aF<(dF:Int):=by omega) (u2:Ix aF dF:=by omega) (u3:¬ (dR:Int)≤aF:=by omega) (u4:Ix aF dR:=by omega) (u5:nD=0:=by omega) (u6:I6 (aF+1):=by omega):zHH (some s1_a) dF dX (some s2_a) dR dY aF σ Nx Qr Q0 :=
 kO 0 (aF+1) [.b true,.g,.i,.l (iV nE),.g,.g,.g,.g,.g,.b false,.g,.g,.i,.l (iV nG),.g,.g,.g,.c (iV nD) σ,.g,.g,.b false,.n (aF+1),.g] (fun _ f=>an3 (zR u1) u2 h1 (an6 (yF u3) u4 h2 h3 (zCQ u5) (w64 u6) f)) nx
theorem yOU (nx:Q0 σ) (u1:¬ aF<(dF:Int):=by omega):zHH s1 dF dX s2 dR dY aF σ Nx Qr Q0 :=
 kO 2 () [.b false] (fun _ f=>ai (zU u1) f) nx
theorem yVL (hL:yAC s1 dF dX s2 dR dY 0 σ Pr P0) (kr:∀ i4_1' σ',Pr i4_1' σ'→zQA s1 dF dX s2 dR dY i4_1' σ' Q) (k0:∀ σ',P0 σ'→zQB s1 dF dX s2 dR dY σ' Q):qg 119 [.slice s1 dF dX,.slice s2 dR dY] σ Q :=
 zG [.g,.g,.g,.g,.lf 36 (zDZ s1 dF dX s2 dR dY 0) [zHF s1 dF dX s2 dR dY Pr,zHG s1 dF dX s2 dR dY P0]] (kd (ai (ai tt (ai (arf (zDZ s1 dF dX s2 dR dY 0)) hL)) (ai (kz1 kr) (ai (kz0 k0) trivial))))
theorem yBU (nx:Q (iV bu) σ):zQA s1 dF dX s2 dR dY bu σ Q :=
 sK [] nx
theorem yBV (nx:Q (iV 0) σ) (u1:¬ (dF:Int)<(dR:Int):=by omega):zQB s1 dF dX s2 dR dY σ Q :=
 sK [.g,.g,.g,.g,.b false,.g] (ai (zU u1) nx)
theorem xSH (h1:qm 132 [iV x] σ (.bool false) σ) (h2:qm 132 [iV y] σ (.bool false) σ) (nx:Q (iV (-1)) σ) (u1:x<y:=by omega):qg 129 [iV x,iV y] σ Q :=
 zG [.g,.g,.c (.bool false) σ,.g,.g,.c (.bool false) σ,.g,.g,.g,.g,.g,.b true,.g] (kd (an3 h1 h2 (zR u1) nx))
theorem xSG (h1:qm 132 [iV x] σ (.bool false) σ) (h2:qm 132 [iV y] σ (.bool false) σ) (nx:Q (iV 1) σ) (u1:¬ x<y:=by omega) (u2:y<x:=by omega):qg 129 [iV x,iV y] σ Q :=
 zG [.g,.g,.c (.bool false) σ,.g,.g,.c (.bool false) σ,.g,.g,.g,.g,.g,.b false,.g,.g,.b true,.g] (kd (an4 h1 h2 (zU u1) (zR u2) nx))
theorem xSF (h1:qm 132 [iV x] σ (.bool false) σ) (h2:qm 132 [iV y] σ (.bool false) σ) (nx:Q (iV 0) σ) (u1:¬ x<y:=by omega) (u2:¬ y<x:=by omega):qg 129 [iV x,iV y] σ Q :=
 zG [.g,.g,.c (.bool false) σ,.g,.g,.c (.bool false) σ,.g,.g,.g,.g,.g,.b false,.g,.g,.b false,.g] (kd (an4 h1 h2 (zU u1) (zU u2) nx))
theorem xKP (nx:Q (.bool false) σ) (u1:x=x:=by omega):qg 132 [iV x] σ Q :=
 zG [.g,.g,.g,.b false,.g] (kd (ai (zCQ u1) nx))
theorem yOP {Inv:Nat→Int→Int→St→Prop} {Q0:Int→St→Prop} (hb:∀ k aW aF σ,Inv k aW aF σ→yAA slices aV ba aW aF σ (NX2 Inv k) Q0):∀ k aW aF σ,Inv k aW aF σ→yOT slices aV ba aW aF σ Q0 :=
 zDP (ai (wA 0) trivial) hb
theorem xEW {Nx:Int→Int→St→Prop} {Q0:Int→St→Prop} (h1:lz σ 26 (zL fY (Int.toNat aF*1)) (.slice qE lF cF)) (nx:Nx (aW+(lF:Int)) (aF+1) σ) (u1:aF<(aV:Int):=by omega) (u2:Ix aF aV:=by omega) (u3:I6 (aW+(lF:Int)):=by omega) (u4:¬ (aW+(lF:Int))<0:=by omega) (u5:I6 (aF+1):=by omega):yAA (some fY) aV ba aW aF σ Nx Q0 :=
 kO 0 ((aW+(lF:Int)),aF+1) [.b true,.i,.l (.slice qE lF cF),.g,.g,.g,.g,.n (aW+(lF:Int)),.g,.g,.b false,.n (aF+1),.g] (fun _ f=>an6 (zR u1) u2 h1 (w64 u3) (zU u4) (w64 u5) f) nx
theorem xEV {Nx:Int→Int→St→Prop} {Q0:Int→St→Prop} (nx:Q0 aW σ) (u1:¬ aF<(aV:Int):=by omega):yAA slices aV ba aW aF σ Nx Q0 :=
 kO 1 aW [.b false] (fun _ f=>ai (zU u1) f) nx
theorem xMU {P0:Int→St→Prop} (hL:yOT slices aV ba 0 0 σ P0) (k0:∀ i3_1' σ',P0 i3_1' σ'→zZY slices aV ba i3_1' σ' Q):qg 104 [.slice slices aV ba] σ Q :=
 zG [.g,.g,.g,.g,.g,.lf 36 (zKB slices aV ba 0 0) [zNU slices aV ba P0]] (kd (ai (ai tt (ai (arf (zKB slices aV ba 0 0)) hL)) (ai (kz1 k0) trivial)))
theorem yOO {Inv:Nat→(Option Addr)→Nat→Nat→Int→St→Prop} (hb:∀ k ff fh fm eG σ,Inv k ff fh fm eG σ→zZZ slices aV ba ff fh fm eG σ (NX4 Inv k) Q2):∀ k ff fh fm eG σ,Inv k ff fh fm eG σ→yOS slices aV ba ff fh fm eG σ Q2 :=
 yUA (ai (wA 2) trivial) hb
theorem xEU {Nx:(Option Addr)→Nat→Nat→Int→St→Prop} (h1:lz σ 26 (zL fY (Int.toNat eG*1)) (.slice qH lI cI)) (h2:yG Pg 26 26 (.slice ff fh fm) (.slice qH lI cI) σ=some (.slice qA lA cA,σVB)) (nx:Nx qA lA cA (eG+1) σVB) (u1:eG<(aV:Int):=by omega) (u2:Ix eG aV:=by omega) (u3:I6 (eG+1):=by omega):zZZ (some fY) aV ba ff fh fm eG σ Nx Q2 :=
 kO 0 (qA,lA,cA,eG+1) [.b true,.i,.l (.slice qH lI cI),.g,.g,.g,.e (.slice qA lA cA) σVB,.g,.n (eG+1),.g] (fun _ f=>an5 (zR u1) u2 h1 h2 (w64 u3) f) nx
theorem xET {Nx:(Option Addr)→Nat→Nat→Int→St→Prop} (nx:Q2 ff fh fm σ) (u1:¬ eG<(aV:Int):=by omega):zZZ slices aV ba ff fh fm eG σ Nx Q2 :=
 kO 1 (ff,fh,fm) [.b false] (fun _ f=>ai (zU u1) f) nx
theorem yON (h1:qm 120 [.slice none 0 0,iV aW] σ (.slice qO lK cP) σG) (hL:yOS slices aV ba qO lK cP 0 σG P2) (k2:∀ p6_2' l6_2' c6_2' σ',P2 p6_2' l6_2' c6_2' σ'→zZX slices aV ba p6_2' l6_2' c6_2' σ' Q):zZY slices aV ba aW σ Q :=
 sK [.g,.c (.slice qO lK cP) σG,.g,.g,.g,.g,.lf 36 (zKA slices aV ba qO lK cP 0) [zNT slices aV ba P2]] (ai h1 (ai (ai tt (ai (arf (zKA slices aV ba qO lK cP 0)) hL)) (ai (kz3 k2) trivial)))
theorem yOM (nx:Q (.slice ff fh fm) σ):zZX slices aV ba ff fh fm σ Q :=
 sK [.g,.g] nx
theorem xLT (h1:xM Pg (evL [.slice s s_l s_c]) σ (.call { callee:=.builtin .cap,args:=⟨wT 1⟩,argTypes:=⟨[26]⟩ })=some (iV n1)) (h2:xM Pg (evL [.slice s s_l s_c]) σ (.call { callee:=.builtin .cap,args:=⟨wT 1⟩,argTypes:=⟨[26]⟩ })=some (iV n2)) (h3:uP Pg σ 26 (.slice s s_l s_c) none (some (iV n2)) none=some (.slice q3 l3 c3)) (h4:yG Pg 26 3 (.slice q3 l3 c3) (iV (n-(n1-(s_l:Int)))) σ=some (.slice q5 l5 c5,σ4)) (h5:uP Pg σ4 26 (.slice q5 l5 c5) none (some (iV (s_l:Int))) none=some (.slice q6 l6 c6)) (nx:Q (.slice q6 l6 c6) σ4) (u1:¬ n<0:=by omega) (u2:I6 (n1-(s_l:Int)):=by omega) (u3:I6 (n-(n1-(s_l:Int))):=by omega) (u4:0<(n-(n1-(s_l:Int))):=by omega):qg 120 [.slice s s_l s_c,iV n] σ Q :=
 zG [.g,.g,.b false,.g,.g,.v (iV n1),.g,.g,.n (n1-(s_l:Int)),.n (n-(n1-(s_l:Int))),.g,.g,.b true,.g,.g,.v (iV n2),.v (.slice q3 l3 c3),.g,.e (.slice q5 l5 c5) σ4,.g,.g,.v (.slice q6 l6 c6),.g,.g,.g] (kd (an3 (zU u1) h1 (w64 u2) (an6 (w64 u3) (zR u4) h2 h3 h4 h5 nx)))
theorem xLS (h1:xM Pg (evL [.slice s s_l s_c]) σ (.call { callee:=.builtin .cap,args:=⟨wT 1⟩,argTypes:=⟨[26]⟩ })=some (iV n1)) (nx:Q (.slice s s_l s_c) σ) (u1:¬ n<0:=by omega) (u2:I6 (n1-(s_l:Int)):=by omega) (u3:I6 (n-(n1-(s_l:Int))):=by omega) (u4:¬ 0<(n-(n1-(s_l:Int))):=by omega):qg 120 [.slice s s_l s_c,iV n] σ Q :=
 zG [.g,.g,.b false,.g,.g,.v (iV n1),.g,.g,.n (n1-(s_l:Int)),.n (n-(n1-(s_l:Int))),.g,.g,.b false,.g,.g] (kd (an5 (zU u1) h1 (w64 u2) (w64 u3) (zU u4) nx))
end
section
noncomputable section
variable (s:oAa) (p x_a:Addr) (s_l x_l s_c x_c:Nat) (day aW:Int) (f:FuncId) (q5:Int→Int→St→Prop) (BA BB l1:Nat) (f_c:lVa) (dy aE bu:Int) (q0:St→Prop) (Q:Int→St→Prop) (σ:St) (Nx Qr:Int→St→Prop) (q6:Int→Int→St→Prop) (q2:vPa) (Q0:St→Prop) (q8:Int→St→Prop)
def yZK:Code:=(Code.part [1,0,1,0,0] (qh 131))
def zPP:lNa:=[(0,.slice s s_l s_c),(1,.func (.func f) ⟨[]⟩ ⟨f_c⟩),(7,iV (s_l:Int)),(8,iV aE)]
def xLF:Alt:=⟨Int,.normal,fun t=>zPP s s_l s_c f f_c t,fun t=>[],fun t σ=>Q t σ⟩
def yEL (s:oAa) (s_l s_c:Nat) (f:FuncId) (f_c:lVa) (bu:Int):lNa:=[(4,iV bu)]
def zRP:Alt:=⟨Int,.ret,fun t=>yEL s s_l s_c f f_c t,fun t=>[],fun t σ=>Q t σ⟩
def yEM (s:oAa) (s_l s_c:Nat) (f:FuncId) (f_c:lVa):lNa:=[]
def zRQ:Alt:=⟨Unit,(.exit 0),fun t=>yEM s s_l s_c f f_c,fun t=>[],fun t σ=>q0 σ⟩
def zVT:Prop:=qi qj none yZK 19 (zPP s s_l s_c f f_c aE) [] [xLF s s_l s_c f f_c Nx,zRP s s_l s_c f f_c Qr,zRQ s s_l s_c f f_c Q0] σ
def yZL:Prop:=qk qj none yZK 19 (zPP s s_l s_c f f_c aE) [] [zRP s s_l s_c f f_c Qr,zRQ s s_l s_c f f_c Q0] σ
def yEN:Prop:=kZ qj (qh 131) [1,0,1,0] (ql 131 q2) .ret 19 (yEL s s_l s_c f f_c bu) σ
def yEO:Prop:=kZ qj (qh 131) [1,0,1,0] (ql 131 q2) (.exit 0) 19 (yEM s s_l s_c f f_c) σ
def yYG:Code:=(Code.part [1,0,1,0,0] (qh 101))
def zVH:lNa:=[(0,pz p),(1,iV day),(5,pt BA 0),(6,pt BB 0),(13,iV (l1:Int)),(14,iV dy)]
def xIN:Alt:=⟨Int,.normal,fun t=>zVH p day BA BB l1 t,fun t=>[],fun t σ=>Q t σ⟩
def yDF (p:Addr) (day:Int) (BA BB l1:Nat):lNa:=[(5,pt BA 0),(6,pt BB 0)]
def zRB:Alt:=⟨Unit,(.exit 0),fun t=>yDF p day BA BB l1,fun t=>[],fun t σ=>q0 σ⟩
def zVI:Prop:=qi qj none yYG 46 (zVH p day BA BB l1 dy) [] [xIN p day BA BB l1 Nx,zRB p day BA BB l1 Q0] σ
def yYH:Prop:=qk qj none yYG 46 (zVH p day BA BB l1 dy) [] [zRB p day BA BB l1 Q0] σ
def yDG:Prop:=kZ qj (qh 101) [1,0,1,0] (ql 101 q2) (.exit 0) 46 (yDF p day BA BB l1) σ
def yXU:Code:=(Code.part [1,1,1,0,1,0,0] (qh 128))
def zOM:lNa:=[(0,.slice (some x_a) x_l x_c),(3,iV aW),(4,iV bu)]
def xHB:Alt:=⟨Int × Int,.normal,fun t=>zOM x_a x_l x_c t.1 t.2,fun t=>[],fun t σ=>q5 t.1 t.2 σ⟩
def yCH (x_a:Addr) (x_l x_c:Nat) (aW:Int):lNa:=[(3,iV aW)]
def zQR:Alt:=⟨Int,(.exit 0),fun t=>yCH x_a x_l x_c t,fun t=>[],fun t σ=>Q t σ⟩
def yGK:Prop:=qi qj none yXU 25 (zOM x_a x_l x_c aW bu) [] [xHB x_a x_l x_c q6,zQR x_a x_l x_c q8] σ
def yXV:Prop:=qk qj none yXU 25 (zOM x_a x_l x_c aW bu) [] [zQR x_a x_l x_c q8] σ
def yCI:Prop:=kZ qj (qh 128) [1,1,1,0,1,0] (ql 128 q2) (.exit 0) 25 (yCH x_a x_l x_c aW) σ
end
variable {p fZ a30 v0 v1 v2 v3 a1 s_a x_a:Addr} {df duty aT bk a7 aZ n2 n3 n4 n5 n6 n10 n11 n12 n13 n14 n15 n16 n17 n18 n19 n20 n21 n22 n23 n25 n26 n27 n28 n29 n31 n33 n34 n35 n36 eJ n7 n8 n9 ee aE nE bu n1 day dy nD nB nA aW nG:Int} {l1 c1 l7 c7 l3 c3 l4 c4 s_l s_c l_l l_c BA BB x_l x_c:Nat} {q7 q3 q4 l q1:oAa} {σ8 σ24 σ32 σ σ14 σC σL σG:St} {Q:vPa} {dE dH f1 f fG right:FuncId} {cj cy bW dT f_c fG_c bG cs1838 cs1840:lVa} {b18:Bool} {Inv:Nat→Int→St→Prop} {Qr Nx Pr:Int→St→Prop} {Q0 P0:St→Prop}
theorem xVK:let s1:=σ.row [pz p] 1;let s2:=s1.row [iV df] 1;let s3:=s2.row (zK aT bk a7 aZ) 4;let s4:=s3.row (zK 0 0 0 0) 4;let s5:=s4.row (zF 0 0 0 0 0) 5;let s6:=s5.own (σ.y+4) (zF n2 n3 n4 n5 n6) 5;∀ (h1:lz s4 31 (zL p 1) (.slice (some fZ) l1 c1)) (h2:lz s4 85 (zL fZ (Int.toNat duty*5)) (qf (zF n2 n3 n4 n5 n6))) (h3:qm 76 [] s6 (.slice q7 l7 c7) σ8) (h4:qm 116 [.slice q7 l7 c7,.func (.func 117) ⟨[]⟩ ⟨[pt σ.y 0,pt ((σ.y+1)) 0,pt ((σ.y+4)) 0,pt ((σ.y+2)) 0]⟩] σ8 (.bool true) σ8) (h5:lz σ8 107 ⟨(σ.y+2),0,none⟩ (qf (zK n10 n11 n12 n13))) (h6:lz σ8 85 ⟨(σ.y+4),0,none⟩ (qf (zF n14 n15 n16 n17 n18))) (h7:lz σ8 3 ⟨(σ.y+4),3,none⟩ (iV n19)) (h8:qm 77 [qf (zK n10 n11 n12 n13),qf (zF n14 n15 n16 n17 n18),iV n19] σ8 (qf (zK n20 n21 n22 n23)) σ8) (h9:qn (evL [pt ((σ.y+2)) 0,qf (zK n20 n21 n22 n23)]) σ8 (.store 107 (.tmp 0) (.tmp 1))=some (undef,σ24)) (h10:lz σ24 107 ⟨(σ.y+2),0,none⟩ (qf (zK n25 n26 n27 n28))) (h11:lz σ24 3 ⟨(σ.y+2),2,none⟩ (iV n29)) (h12:lz σ24 125 (qe σ.y 0) (pz a30)) (h13:lz σ24 3 (zL a30 5) (iV n31)) (h14:qn (evL [pt ((σ.y+3)) 0,qf (zK n25 n26 n27 n28)]) σ24 (.store 107 (.tmp 0) (.tmp 1))=some (undef,σ32)) (h15:zI σ24.y [pt ((σ.y+2)) 0]) (h16:zI σ24.y [pt ((σ.y+2)) 2]) (h17:zI σ24.y [pt σ.y 0]) (h18:zI σ24.y [pz (zL a30 5)]) (h19:zI σ24.y [pt ((σ.y+3)) 0,qf (zK n25 n26 n27 n28)]) (h20:(zLq σ24 3 ⟨(σ.y+2),2,none⟩ (iV n29))) (h21:(zLq σ32 3 ⟨(σ.y+2),2,none⟩ (iV n29))) (h22:(zLq σ24 125 (qe σ.y 0) (pz a30))) (h23:(zLq σ32 125 (qe σ.y 0) (pz a30))) (h24:(zLq σ24 3 (zL a30 5) (iV n31))) (h25:(zLq σ32 3 (zL a30 5) (iV n31))) (h26:lz σ32 107 ⟨(σ.y+3),0,none⟩ (qf (zK n33 n34 n35 n36))) (nx:Q (.tuple ⟨[qf (zK n33 n34 n35 n36),.bool true]⟩) σ32) (u1:Ix duty l1:=by omega) (u2:n29≤n31:=by omega),qg 99 [pz p,iV df,iV duty,qf (zK aT bk a7 aZ)] σ Q:=
 let s1:=σ.row [pz p] 1;let s2:=s1.row [iV df] 1;let s3:=s2.row (zK aT bk a7 aZ) 4;let s4:=s3.row (zK 0 0 0 0) 4;let s5:=s4.row (zF 0 0 0 0 0) 5;let s6:=s5.own (σ.y+4) (zF n2 n3 n4 n5 n6) 5;fun h1 h2 h3 h4 h5 h6 h7 h8 h9 h10 h11 h12 h13 h14 h15 h16 h17 h18 h19 h20 h21 h22 h23 h24 h25 h26 nx u1 u2=>zG [.g,.g,.g,.g,.g,.l (pz p),.g,.g,.g,.l (.slice (some fZ) l1 c1),.g,.i,.l (qf (zF n2 n3 n4 n5 n6)),.g,.e undef s6,.c (.slice q7 l7 c7) σ8,.g,.c (.bool true) σ8,.g,.l (qf (zK n10 n11 n12 n13)),.l (qf (zF n14 n15 n16 n17 n18)),.g,.g,.l (iV n19),.c (qf (zK n20 n21 n22 n23)) σ8,.e undef σ24,.l (qf (zK n25 n26 n27 n28)),.g,.l (iV n29),.l (pz a30),.g,.g,.g,.l (iV n31),.b true,.e undef σ32,.g,.l (qf (zK n33 n34 n35 n36))] (kd (an6 ((zC _ _ _).row.row.row.rw.ld uI (k:=0) rfl:lz s4 125 (qe σ.y 0) (pz p)) h1 u1 h2 ((zC _ _ _).store (vs:=(zF n2 n3 n4 n5 n6)) rfl vY rfl (nle rfl) rfl:qn (evL [pt ((σ.y+4)) 0,qf (zF n2 n3 n4 n5 n6)]) s5 (.store 85 (.tmp 0) (.tmp 1))=some (undef,s6)) h3 (an6 h4 h5 h6 h7 h8 h9 (an6 h10 h11 h12 h13 (yD u2) h14 (an6 h15 h16 h17 h18 h19 h20 (an6 h21 h22 h23 h24 h25 h26 nx))))))
theorem xVJ:let s1:=σ.row [pz p] 1;let s2:=s1.row [iV df] 1;let s3:=s2.row (zK aT bk a7 aZ) 4;let s4:=s3.row (zK 0 0 0 0) 4;let s5:=s4.row (zF 0 0 0 0 0) 5;let s6:=s5.own (σ.y+4) (zF n2 n3 n4 n5 n6) 5;∀ (h1:lz s4 31 (zL p 1) (.slice (some fZ) l1 c1)) (h2:lz s4 85 (zL fZ (Int.toNat duty*5)) (qf (zF n2 n3 n4 n5 n6))) (h3:qm 76 [] s6 (.slice q7 l7 c7) σ8) (h4:qm 116 [.slice q7 l7 c7,.func (.func 117) ⟨[]⟩ ⟨[pt σ.y 0,pt ((σ.y+1)) 0,pt ((σ.y+4)) 0,pt ((σ.y+2)) 0]⟩] σ8 (.bool true) σ8) (h5:lz σ8 107 ⟨(σ.y+2),0,none⟩ (qf (zK n10 n11 n12 n13))) (h6:lz σ8 85 ⟨(σ.y+4),0,none⟩ (qf (zF n14 n15 n16 n17 n18))) (h7:lz σ8 3 ⟨(σ.y+4),3,none⟩ (iV n19)) (h8:qm 77 [qf (zK n10 n11 n12 n13),qf (zF n14 n15 n16 n17 n18),iV n19] σ8 (qf (zK n20 n21 n22 n23)) σ8) (h9:qn (evL [pt ((σ.y+2)) 0,qf (zK n20 n21 n22 n23)]) σ8 (.store 107 (.tmp 0) (.tmp 1))=some (undef,σ24)) (h10:lz σ24 107 ⟨(σ.y+2),0,none⟩ (qf (zK n25 n26 n27 n28))) (h11:lz σ24 3 ⟨(σ.y+2),2,none⟩ (iV n29)) (h12:lz σ24 125 (qe σ.y 0) (pz a30)) (h13:lz σ24 3 (zL a30 5) (iV n31)) (h14:qn (evL [pt ((σ.y+3)) 0,qf (zK n25 n26 n27 n28)]) σ24 (.store 107 (.tmp 0) (.tmp 1))=some (undef,σ32)) (h15:zI σ24.y [pt ((σ.y+2)) 0]) (h16:zI σ24.y [pt ((σ.y+2)) 2]) (h17:zI σ24.y [pt σ.y 0]) (h18:zI σ24.y [pz (zL a30 5)]) (h19:zI σ24.y [pt ((σ.y+3)) 0,qf (zK n25 n26 n27 n28)]) (h20:(zLq σ24 3 ⟨(σ.y+2),2,none⟩ (iV n29))) (h21:(zLq σ32 3 ⟨(σ.y+2),2,none⟩ (iV n29))) (h22:(zLq σ24 125 (qe σ.y 0) (pz a30))) (h23:(zLq σ32 125 (qe σ.y 0) (pz a30))) (h24:(zLq σ24 3 (zL a30 5) (iV n31))) (h25:(zLq σ32 3 (zL a30 5) (iV n31))) (h26:lz σ32 107 ⟨(σ.y+3),0,none⟩ (qf (zK n33 n34 n35 n36))) (nx:Q (.tuple ⟨[qf (zK n33 n34 n35 n36),.bool false]⟩) σ32) (u1:Ix duty l1:=by omega) (u2:¬ n29≤n31:=by omega),qg 99 [pz p,iV df,iV duty,qf (zK aT bk a7 aZ)] σ Q:=
 let s1:=σ.row [pz p] 1;let s2:=s1.row [iV df] 1;let s3:=s2.row (zK aT bk a7 aZ) 4;let s4:=s3.row (zK 0 0 0 0) 4;let s5:=s4.row (zF 0 0 0 0 0) 5;let s6:=s5.own (σ.y+4) (zF n2 n3 n4 n5 n6) 5;fun h1 h2 h3 h4 h5 h6 h7 h8 h9 h10 h11 h12 h13 h14 h15 h16 h17 h18 h19 h20 h21 h22 h23 h24 h25 h26 nx u1 u2=>zG [.g,.g,.g,.g,.g,.l (pz p),.g,.g,.g,.l (.slice (some fZ) l1 c1),.g,.i,.l (qf (zF n2 n3 n4 n5 n6)),.g,.e undef s6,.c (.slice q7 l7 c7) σ8,.g,.c (.bool true) σ8,.g,.l (qf (zK n10 n11 n12 n13)),.l (qf (zF n14 n15 n16 n17 n18)),.g,.g,.l (iV n19),.c (qf (zK n20 n21 n22 n23)) σ8,.e undef σ24,.l (qf (zK n25 n26 n27 n28)),.g,.l (iV n29),.l (pz a30),.g,.g,.g,.l (iV n31),.b false,.e undef σ32,.g,.l (qf (zK n33 n34 n35 n36))] (kd (an6 ((zC _ _ _).row.row.row.rw.ld uI (k:=0) rfl:lz s4 125 (qe σ.y 0) (pz p)) h1 u1 h2 ((zC _ _ _).store (vs:=(zF n2 n3 n4 n5 n6)) rfl vY rfl (nle rfl) rfl:qn (evL [pt ((σ.y+4)) 0,qf (zF n2 n3 n4 n5 n6)]) s5 (.store 85 (.tmp 0) (.tmp 1))=some (undef,s6)) h3 (an6 h4 h5 h6 h7 h8 h9 (an6 h10 h11 h12 h13 (yF u2) h14 (an6 h15 h16 h17 h18 h19 h20 (an6 h21 h22 h23 h24 h25 h26 nx))))))
theorem xVI:let s1:=σ.row [pz p] 1;let s2:=s1.row [iV df] 1;let s3:=s2.row (zK aT bk a7 aZ) 4;let s4:=s3.row (zK 0 0 0 0) 4;let s5:=s4.row (zF 0 0 0 0 0) 5;let s6:=s5.own (σ.y+4) (zF n2 n3 n4 n5 n6) 5;∀ (h1:lz s4 31 (zL p 1) (.slice (some fZ) l1 c1)) (h2:lz s4 85 (zL fZ (Int.toNat duty*5)) (qf (zF n2 n3 n4 n5 n6))) (h3:qm 76 [] s6 (.slice q7 l7 c7) σ8) (h4:qm 116 [.slice q7 l7 c7,.func (.func 117) ⟨[]⟩ ⟨[pt σ.y 0,pt ((σ.y+1)) 0,pt ((σ.y+4)) 0,pt ((σ.y+2)) 0]⟩] σ8 (.bool false) σ8) (h5:lz σ8 107 ⟨(σ.y+2),0,none⟩ (qf (zK n10 n11 n12 n13))) (h6:qn (evL [pt ((σ.y+3)) 0,qf (zK n10 n11 n12 n13)]) σ8 (.store 107 (.tmp 0) (.tmp 1))=some (undef,σ14)) (h7:lz σ14 107 ⟨(σ.y+3),0,none⟩ (qf (zK n15 n16 n17 n18))) (nx:Q (.tuple ⟨[qf (zK n15 n16 n17 n18),.bool false]⟩) σ14) (u1:Ix duty l1:=by omega),qg 99 [pz p,iV df,iV duty,qf (zK aT bk a7 aZ)] σ Q:=
 let s1:=σ.row [pz p] 1;let s2:=s1.row [iV df] 1;let s3:=s2.row (zK aT bk a7 aZ) 4;let s4:=s3.row (zK 0 0 0 0) 4;let s5:=s4.row (zF 0 0 0 0 0) 5;let s6:=s5.own (σ.y+4) (zF n2 n3 n4 n5 n6) 5;fun h1 h2 h3 h4 h5 h6 h7 nx u1=>zG [.g,.g,.g,.g,.g,.l (pz p),.g,.g,.g,.l (.slice (some fZ) l1 c1),.g,.i,.l (qf (zF n2 n3 n4 n5 n6)),.g,.e undef s6,.c (.slice q7 l7 c7) σ8,.g,.c (.bool false) σ8,.g,.l (qf (zK n10 n11 n12 n13)),.e undef σ14,.g,.l (qf (zK n15 n16 n17 n18))] (kd (an4 ((zC _ _ _).row.row.row.rw.ld uI (k:=0) rfl:lz s4 125 (qe σ.y 0) (pz p)) h1 u1 h2 (an6 ((zC _ _ _).store (vs:=(zF n2 n3 n4 n5 n6)) rfl vY rfl (nle rfl) rfl:qn (evL [pt ((σ.y+4)) 0,qf (zF n2 n3 n4 n5 n6)]) s5 (.store 85 (.tmp 0) (.tmp 1))=some (undef,s6)) h3 h4 h5 h6 h7 nx)))
theorem xQX:let s1:=σ.row [.int .u8 eJ,.func (.func dE) ⟨cy⟩ ⟨cj⟩] 2;∀ (h1:lz s1 125 v0 (pz a1)) (h2:lz s1 34 a1 (qf (wkc n2 q3 l3 c3 q4 l4 c4 n5 n6 n7))) (h3:lz s1 3 v1 (iV n8)) (h4:lz s1 85 v2 (qf (zF n9 n10 n11 n12 n13))) (h5:lz s1 107 v3 (qf (zK n14 n15 n16 n17))) (h6:qm dE (cy ++ (qf (wkc n2 q3 l3 c3 q4 l4 c4 n5 n6 n7)::iV n8::(qf (zF n9 n10 n11 n12 n13))::(qf (zK n14 n15 n16 n17))::cj)) s1 (.bool b18) s1) (nx:Q (.bool b18) s1),qg 117 [qf [.int .u8 eJ,.func (.func dE) ⟨cy⟩ ⟨cj⟩],pz v0,pz v1,pz v2,pz v3] σ Q:=
 let s1:=σ.row [.int .u8 eJ,.func (.func dE) ⟨cy⟩ ⟨cj⟩] 2;fun h1 h2 h3 h4 h5 h6 nx=>zG [.g,.g,.g,.l (.func (.func dE) ⟨cy⟩ ⟨cj⟩),.l (pz a1),.g,.g,.l (qf (wkc n2 q3 l3 c3 q4 l4 c4 n5 n6 n7)),.l (iV n8),.l (qf (zF n9 n10 n11 n12 n13)),.l (qf (zK n14 n15 n16 n17)),.c (.bool b18) s1,.g] (kd (ai ((zC _ _ _).rw.ld yXA (k:=1) rfl:lz s1 116 (qe σ.y 1) (.func (.func dE) ⟨cy⟩ ⟨cj⟩)) (an6 h1 h2 h3 h4 h5 h6 nx)))
theorem xNR:let s1:=σ.row [.int .u8 ee,.func (.func dH) ⟨[]⟩ ⟨bW⟩] 2;∀ (h1:lz s1 164 v0 (.func (.func f1) ⟨[]⟩ ⟨dT⟩)) (h2:qm f1 (qf [.int .u8 ee,.func (.func dH) ⟨[]⟩ ⟨bW⟩]::dT) s1 (.bool true) s1) (nx:Q (.bool false) s1),qg 127 [qf [.int .u8 ee,.func (.func dH) ⟨[]⟩ ⟨bW⟩],pz v0] σ Q:=
 let s1:=σ.row [.int .u8 ee,.func (.func dH) ⟨[]⟩ ⟨bW⟩] 2;fun h1 h2 nx=>zG [.g,.g,.l (.func (.func f1) ⟨[]⟩ ⟨dT⟩),.l (qf [.int .u8 ee,.func (.func dH) ⟨[]⟩ ⟨bW⟩]),.c (.bool true) s1,.g,.g] (kd (an3 h1 ((zC _ _ _).rw.ldN zOA zCN (k:=0) rfl rfl (nle rfl):lz s1 118 (qe σ.y 0) (qf [.int .u8 ee,.func (.func dH) ⟨[]⟩ ⟨bW⟩])) h2 nx))
theorem xNQ:let s1:=σ.row [.int .u8 ee,.func (.func dH) ⟨[]⟩ ⟨bW⟩] 2;∀ (h1:lz s1 164 v0 (.func (.func f1) ⟨[]⟩ ⟨dT⟩)) (h2:qm f1 (qf [.int .u8 ee,.func (.func dH) ⟨[]⟩ ⟨bW⟩]::dT) s1 (.bool false) s1) (nx:Q (.bool true) s1),qg 127 [qf [.int .u8 ee,.func (.func dH) ⟨[]⟩ ⟨bW⟩],pz v0] σ Q:=
 let s1:=σ.row [.int .u8 ee,.func (.func dH) ⟨[]⟩ ⟨bW⟩] 2;fun h1 h2 nx=>zG [.g,.g,.l (.func (.func f1) ⟨[]⟩ ⟨dT⟩),.l (qf [.int .u8 ee,.func (.func dH) ⟨[]⟩ ⟨bW⟩]),.c (.bool false) s1,.g,.g] (kd (an3 h1 ((zC _ _ _).rw.ldN zOA zCN (k:=0) rfl rfl (nle rfl):lz s1 118 (qe σ.y 0) (qf [.int .u8 ee,.func (.func dH) ⟨[]⟩ ⟨bW⟩])) h2 nx))
theorem zYZ {s:oAa} (hb:∀ k aE σ,Inv k aE σ→zVT s s_l s_c f f_c aE σ (NX1 Inv k) Qr Q0):∀ k aE σ,Inv k aE σ→yZL s s_l s_c f f_c aE σ Qr Q0 :=
 xE (ai zAN (ai (wA 0) trivial)) hb
theorem xLE (h1:lz σ 118 (zL s_a (Int.toNat aE*2)) (qf [.int .u8 nE,.func (.func fG) ⟨[]⟩ ⟨fG_c⟩])) (h2:qm f (qf [.int .u8 nE,.func (.func fG) ⟨[]⟩ ⟨fG_c⟩]::f_c) σ (.bool true) σ) (nx:Qr aE σ) (u1:aE<(s_l:Int):=by omega) (u2:Ix aE s_l:=by omega):zVT (some s_a) s_l s_c f f_c aE σ Nx Qr Q0 :=
 kO 1 aE [.b true,.g,.g,.g,.g,.g,.i,.l (qf [.int .u8 nE,.func (.func fG) ⟨[]⟩ ⟨fG_c⟩]),.c (.bool true) σ,.g,.g] (fun _ f=>an4 (zR u1) u2 h1 h2 f) nx
theorem yNJ (h1:lz σ 118 (zL s_a (Int.toNat aE*2)) (qf [.int .u8 nE,.func (.func fG) ⟨[]⟩ ⟨fG_c⟩])) (h2:qm f (qf [.int .u8 nE,.func (.func fG) ⟨[]⟩ ⟨fG_c⟩]::f_c) σ (.bool false) σ) (nx:Nx (aE+1) σ) (u1:aE<(s_l:Int):=by omega) (u2:Ix aE s_l:=by omega) (u3:I6 (aE+1):=by omega):zVT (some s_a) s_l s_c f f_c aE σ Nx Qr Q0 :=
 kO 0 (aE+1) [.b true,.g,.g,.g,.g,.g,.i,.l (qf [.int .u8 nE,.func (.func fG) ⟨[]⟩ ⟨fG_c⟩]),.c (.bool false) σ,.n (aE+1),.g] (fun _ f=>an5 (zR u1) u2 h1 h2 (w64 u3) f) nx
theorem xLD {s:oAa} (nx:Q0 σ) (u1:¬ aE<(s_l:Int):=by omega):zVT s s_l s_c f f_c aE σ Nx Qr Q0 :=
 kO 2 () [.b false] (fun _ f=>ai (zU u1) f) nx
theorem yZJ {s:oAa} (hL:yZL s s_l s_c f f_c 0 σ Pr P0) (kr:∀ i4_1' σ',Pr i4_1' σ'→yEN s s_l s_c f f_c i4_1' σ' Q) (k0:∀ σ',P0 σ'→yEO s s_l s_c f f_c σ' Q):qg 131 [.slice s s_l s_c,.func (.func f) ⟨[]⟩ ⟨f_c⟩] σ Q :=
 zG [.g,.g,.g,.g,.lf 19 (zPP s s_l s_c f f_c 0) [zRP s s_l s_c f f_c Pr,zRQ s s_l s_c f f_c P0]] (kd (ai (ai tt (ai (arf (zPP s s_l s_c f f_c 0)) hL)) (ai (kz1 kr) (ai (kz0 k0) trivial))))
theorem yUL {s:oAa} (nx:Q (iV bu) σ):yEN s s_l s_c f f_c bu σ Q :=
 sK [] nx
theorem yUM {s:oAa} (nx:Q (iV (-1)) σ):yEO s s_l s_c f f_c σ Q :=
 sK [.g] nx
theorem xRX {s:oAa} (h1:qm 131 [.slice s s_l s_c,.func (.func f) ⟨[]⟩ ⟨f_c⟩] σ (iV n1) σ) (nx:Q (.bool true) σ) (u1:0≤n1:=by omega):qg 126 [.slice s s_l s_c,.func (.func f) ⟨[]⟩ ⟨f_c⟩] σ Q :=
 zG [.g,.g,.g,.c (iV n1) σ,.b true,.g] (kd (an2 h1 (yD u1) nx))
theorem xRW {s:oAa} (h1:qm 131 [.slice s s_l s_c,.func (.func f) ⟨[]⟩ ⟨f_c⟩] σ (iV n1) σ) (nx:Q (.bool false) σ) (u1:¬ 0≤n1:=by omega):qg 126 [.slice s s_l s_c,.func (.func f) ⟨[]⟩ ⟨f_c⟩] σ Q :=
 zG [.g,.g,.g,.c (iV n1) σ,.b false,.g] (kd (an2 h1 (yF u1) nx))
theorem xSU:let Y1:=σ.row [.func (.func right) ⟨[]⟩ ⟨bG⟩] 1;∀ (h1:qm 126 [.slice l l_l l_c,.func (.func 127) ⟨[]⟩ ⟨[pt σ.y 0]⟩] Y1 (.bool true) Y1) (nx:Q (.bool false) Y1),qg 116 [.slice l l_l l_c,.func (.func right) ⟨[]⟩ ⟨bG⟩] σ Q:=
 fun h1 nx=>zG [.g,.g,.g,.g,.c (.bool true) (σ.row [.func (.func right) ⟨[]⟩ ⟨bG⟩] 1),.g,.g] (kd (ai h1 nx))
theorem xST:let Y1:=σ.row [.func (.func right) ⟨[]⟩ ⟨bG⟩] 1;∀ (h1:qm 126 [.slice l l_l l_c,.func (.func 127) ⟨[]⟩ ⟨[pt σ.y 0]⟩] Y1 (.bool false) Y1) (nx:Q (.bool true) Y1),qg 116 [.slice l l_l l_c,.func (.func right) ⟨[]⟩ ⟨bG⟩] σ Q:=
 fun h1 nx=>zG [.g,.g,.g,.g,.c (.bool false) (σ.row [.func (.func right) ⟨[]⟩ ⟨bG⟩] 1),.g,.g] (kd (ai h1 nx))
theorem ySX (hb:∀ k dy σ,Inv k dy σ→zVI p day BA BB l1 dy σ (NX1 Inv k) Q0):∀ k dy σ,Inv k dy σ→yYH p day BA BB l1 dy σ Q0 :=
 xE (ai (wA 0) trivial) hb
theorem xIM:let s1:=(day+1)*1440;let Y1:=σC.row [iV nD,iV (s1-nB)] 1;∀ (h1:lz σ 3 ⟨BA,0+Int.toNat dy*4+3,none⟩ (iV nE)) (h2:qn (evL [pt BA (0+Int.toNat dy*4+1),iV 0]) σ (.store 3 (.tmp 0) (.tmp 1))=some (undef,σC)) (h3:lz σC 3 ⟨BA,0+Int.toNat dy*4+0,none⟩ (iV nD)) (h4:lz σC 3 (zL p 3) (iV nB)) (h5:qm 118 [.slice (some (qe σC.y 0)) 2 2] Y1 (iV nA) Y1) (h6:qn (evL [pt BA (0+Int.toNat dy*4+0),iV nA]) Y1 (.store 3 (.tmp 0) (.tmp 1))=some (undef,σL)) (nx:Nx (dy+1) σL) (u1:dy<(l1:Int):=by omega) (u2:Ix dy 6:=by omega) (u3:¬ nE=day:=by omega) (u4:I6 (day+1):=by omega) (u5:I6 s1:=by omega) (u6:I6 (s1-nB):=by omega) (u7:I6 (dy+1):=by omega),zVI p day BA BB l1 dy σ Nx Q0:=
 let s1:=(day+1)*1440;fun h1 h2 h3 h4 h5 h6 nx u1 u2 u3 u4 u5 u6 u7=>kO 0 (dy+1) [.b true,.g,.g,.g,.i,.g,.l (iV nE),.g,.b true,.g,.i,.g,.e undef σC,.g,.g,.i,.g,.l (iV nD),.g,.n (day+1),.n s1,.g,.g,.g,.g,.l (iV nB),.n (s1-nB),.g,.c (iV nA) (σC.row [iV nD,iV (s1-nB)] 1),.i,.g,.e undef σL,.n (dy+1),.g] (fun _ f=>an4 (zR u1) u2 h1 (zGQ u3) (an6 u2 h2 u2 h3 (w64 u4) (w64 u5) (an6 h4 (w64 u6) h5 u2 h6 (w64 u7) f))) nx
theorem xIL (h1:lz σ 3 ⟨BA,0+Int.toNat dy*4+3,none⟩ (iV nE)) (nx:Nx (dy+1) σ) (u1:dy<(l1:Int):=by omega) (u2:Ix dy 6:=by omega) (u3:nE=day:=by omega) (u4:I6 (dy+1):=by omega):zVI p day BA BB l1 dy σ Nx Q0 :=
 kO 0 (dy+1) [.b true,.g,.g,.g,.i,.g,.l (iV nE),.g,.b false,.n (dy+1),.g] (fun _ f=>an5 (zR u1) u2 h1 (zCQ u3) (w64 u4) f) nx
theorem xIK (nx:Q0 σ) (u1:¬ dy<(l1:Int):=by omega):zVI p day BA BB l1 dy σ Nx Q0 :=
 kO 1 () [.b false] (fun _ f=>ai (zU u1) f) nx
theorem xQL {s:lVa}:let y0:=(σ.row s 4).row [iV 0,iV 0,iV 0,iV 0,iV 0,iV 0,iV 0,iV 0,iV 0,iV 0,iV 0,iV 0,iV 0,iV 0,iV 0,iV 0,iV 0,iV 0,iV 0,iV 0,iV 0,iV 0,iV 0,iV 0] 4;∀ (h1:lz y0 32 (zL p 2) (.slice q1 l1 c1)) (hL:yYH p day σ.y (σ.y+1) l1 0 y0 P0) (k0:∀ σ',P0 σ'→yDG p day σ.y (σ.y+1) l1 σ' Q),qg 101 [pz p,iV day,qf s] σ Q :=
 let s1:=zVH p day σ.y (σ.y+1) l1 0;fun h1 hL k0=>zG [.g,.g,.g,.g,.g,.g,.l (.slice q1 l1 c1),.g,.g,.lf 46 s1 [zRB p day σ.y (σ.y+1) l1 P0]] (kd (ai h1 (ai (ai tt (ai (arf s1) hL)) (ai (kz0 k0) trivial))))
theorem ySW (h1:lz σ 109 (qe BA 0) (qf cs1838)) (h2:qn (evL [pt BB 0,qf cs1838]) σ (.store 109 (.tmp 0) (.tmp 1))=some (undef,σG)) (h3:lz σG 109 (qe BB 0) (qf cs1840)) (nx:Q (qf cs1840) σG):yDG p day BA BB l1 σ Q :=
 sK [.l (qf cs1838),.e undef σG,.l (qf cs1840)] (an3 h1 h2 h3 nx)
theorem xDO (h1:qm 128 [.slice l l_l l_c] σ (iV n1) σ) (nx:Q (iV n1) σ):qg 118 [.slice l l_l l_c] σ Q :=
 zG [.g,.g,.c (iV n1) σ,.g] (kd (ai h1 nx))
theorem yQU {Inv:Nat→Int→Int→St→Prop} {Q0:Int→St→Prop} (hb:∀ k aW bu σ,Inv k aW bu σ→yGK x_a x_l x_c aW bu σ (NX2 Inv k) Q0):∀ k aW bu σ,Inv k aW bu σ→yXV x_a x_l x_c aW bu σ Q0 :=
 zDP (ai (wA 0) trivial) hb
theorem xHA {Nx:Int→Int→St→Prop} {Q0:Int→St→Prop} (h1:lz σ 3 (zL x_a (Int.toNat bu*1)) (iV nE)) (h2:xM Pg (evL [iV aW,iV nE]) σ (.call { callee:=.builtin .max,args:=⟨wT 2⟩,argTypes:=⟨[3,3]⟩ })=some (iV nG)) (nx:Nx nG (bu+1) σ) (u1:bu<(x_l:Int):=by omega) (u2:Ix bu x_l:=by omega) (u3:I6 (bu+1):=by omega):yGK x_a x_l x_c aW bu σ Nx Q0 :=
 kO 0 (nG,bu+1) [.g,.g,.g,.b true,.g,.g,.g,.i,.l (iV nE),.v (iV nG),.g,.g,.n (bu+1),.g] (fun _ f=>an5 (zR u1) u2 h1 h2 (w64 u3) f) nx
theorem xGZ {Nx:Int→Int→St→Prop} {Q0:Int→St→Prop} (nx:Q0 aW σ) (u1:¬ bu<(x_l:Int):=by omega):yGK x_a x_l x_c aW bu σ Nx Q0 :=
 kO 1 aW [.g,.g,.g,.b false] (fun _ f=>ai (zU u1) f) nx
theorem xPE {P0:Int→St→Prop} (h1:lz σ 3 x_a (iV n1)) (hL:yXV x_a x_l x_c n1 1 σ P0) (k0:∀ i3_1' σ',P0 i3_1' σ'→yCI x_a x_l x_c i3_1' σ' Q) (u1:¬ (x_l:Int)<1:=by omega) (u2:Ix 0 x_l:=by omega):qg 128 [.slice (some x_a) x_l x_c] σ Q :=
 zG [.g,.g,.g,.b false,.g,.i,.l (iV n1),.g,.g,.lf 25 (zOM x_a x_l x_c n1 1) [zQR x_a x_l x_c P0]] (kd (an3 (zU u1) u2 h1 (ai (ai tt (ai (arf (zOM x_a x_l x_c n1 1)) hL)) (ai (kz1 k0) trivial))))
theorem yQT (nx:Q (iV aW) σ):yCI x_a x_l x_c aW σ Q :=
 sK [.g,.g] nx
end
section
variable {P:Program}
theorem xIC {e sz d:Nat} {xs ys:Array Value} {R:Nat→Bool}:∀ (L:List Nat),(∀ i∈L,∃ a b,zZ P (part e xs (i*sz))=some a∧zZ P (part e ys (i*sz))=some b∧zZ P (Op.equalIn d e a b)=some (R i)) →
  zZ P (forIn L ((none,()):Option Bool × Unit) fun i __s=>do
    let a ← part e xs (i*sz)
    let b ← part e ys (i*sz)
    let r ← Op.equalIn d e a b
    if (!r)=true then pure (ForInStep.done (some false,())) else pure (ForInStep.yield (none,())))=some (if ∀ i∈L,R i=true then (none,()) else (some false,()))
 | [],_=>by simp;rfl
 | i::L,h=>by
  obtain ⟨a,b,h1,h2,h3⟩:=h i List.mem_cons_self;rw [List.forIn_cons,xD,xD,h1];simp only [Option.bind_some];rw [xD,h2];simp only [Option.bind_some];rw [xD,h3];simp only [Option.bind_some];cases e1:R i with
  | true =>
   simp only [Bool.not_true,Bool.false_eq_true,if_false,zOY,Option.bind_some];rw [xIC L (fun j hj=>h j (List.mem_cons_of_mem _ hj))];by_cases e2:∀ j∈L,R j=true
   ·rw [if_pos e2,if_pos (fun j hj=>by rcases List.mem_cons.1 hj with rfl | hj;exact e1;exact e2 j hj)]
   ·rw [if_neg e2,if_neg (fun h=>e2 fun j hj=>h j (List.mem_cons_of_mem _ hj))]
  | false =>
   simp only [Bool.not_false,if_true,zOY,Option.bind_some];rw [if_neg (fun h=>by rw [h i List.mem_cons_self] at e1;cases e1)]
theorem xID {t e n sz d:Nat} (hu:P.underlying t=some (.array n e)) (hs:zZ P (sizeOf e)=some sz) {xs ys:Array Value} {R:Nat→Bool} (h:∀ i,i<n→∃ a b,zZ P (part e xs (i*sz))=some a∧zZ P (part e ys (i*sz))=some b∧zZ P (Op.equalIn d e a b)=some (R i)) :
  zZ P (Op.equalIn (d+1) t (.agg xs) (.agg ys))=some ((List.range n).all R):=by
 have key:=xIC (P:=P) (e:=e) (sz:=sz) (d:=d) (xs:=xs) (ys:=ys) (R:=R) (List.range' 0 n) (fun i hi=>h i (by simpa using hi));unfold Op.equalIn;rw [xD,zJB hu];simp only [Option.bind_some];rw [xD,hs];simp only [Option.bind_some];rw [xD,Std.Legacy.Range.forIn_eq_forIn_range'];simp only [Std.Legacy.Range.size,Nat.sub_zero,Nat.add_sub_cancel,Nat.div_one];rw [key];simp only [Option.bind_some];cases e:(List.range n).all R with
 | true=>rw [if_pos (fun i hi=>List.all_eq_true.1 e i (by simpa using hi))];rfl
 | false=>rw [if_neg (fun h=>by rw [List.all_eq_true.2 fun i hi=>h i (by simpa using hi)] at e;cases e)];rfl
theorem xUT {t d : Nat} {f1 f2 : Field} (hu : P.underlying t = some (.struct #[f1, f2])) (hh : P.stoodInHeld t = false) (n1 : f1.name ≠ "_") (n2 : f2.name ≠ "_") {xs ys : Array Value} {a1 b1 a2 b2 : Value} {r1 r2 : Bool}
  (h1:zZ P (part f1.type xs f1.offset)=some a1) (h2:zZ P (part f1.type ys f1.offset)=some b1) (e1:zZ P (Op.equalIn d f1.type a1 b1)=some r1)
  (h3:zZ P (part f2.type xs f2.offset)=some a2) (h4:zZ P (part f2.type ys f2.offset)=some b2) (e2:zZ P (Op.equalIn d f2.type a2 b2)=some r2) :
  zZ P (Op.equalIn (d+1) t (.agg xs) (.agg ys))=some (r1 && r2):=by
 unfold Op.equalIn;rw [xD,zJB hu];simp only [Option.bind_some];rw [xD,yHG];simp only [Option.bind_some,hh,Bool.false_eq_true,if_false];rw [xD,← Array.forIn_toList];show (zZ P (forIn [f1,f2] _ _)).bind _=_;rw [List.forIn_cons,xD];simp only [if_pos n1];rw [xD,h1];simp only [Option.bind_some];rw [xD,h2];simp only [Option.bind_some];rw [xD,e1];simp only [Option.bind_some];cases r1 with
 | false=>rfl
 | true =>
  simp only [Bool.not_true,Bool.false_eq_true,if_false,zOY,Option.bind_some];rw [List.forIn_cons,xD];simp only [if_pos n2];rw [xD,h3];simp only [Option.bind_some];rw [xD,h4];simp only [Option.bind_some];rw [xD,e2];simp only [Option.bind_some];cases r2 <;> rfl
end
theorem xUU (d:Nat) (s t:Std):zZ Pg (Op.equalIn (d+2) 107 (zLS s) (zLS t))=some (decide (s=t)):=by
 have h:zZ Pg (Op.equalIn (d+2) 107 (.agg ⟨[s.free,s.row,s.used,s.day].map fun x=>iV x⟩) (.agg ⟨[t.free,t.row,t.used,t.day].map fun x=>iV x⟩))=some (decide ([s.free,s.row,s.used,s.day]=[t.free,t.row,t.used,t.day])):=xUV (n:=4) (by kernel_rfl) rfl rfl;have e:decide ([s.free,s.row,s.used,s.day]=[t.free,t.row,t.used,t.day])=decide (s=t):=by
  refine decide_eq_decide.2 ?_
  cases s;cases t
  simp
 rw [← e];exact h
theorem yLS (f:Nat→Std) {i:Nat} (hi:i<6):zZ Pg (part 107 ⟨stL f⟩ (i*4))=some (zLS (f i)):=by
 match i,hi with
 | 0,_=>show _=_;kernel_rfl
 | 1,_=>show _=_;kernel_rfl
 | 2,_=>show _=_;kernel_rfl
 | 3,_=>show _=_;kernel_rfl
 | 4,_=>show _=_;kernel_rfl
 | 5,_=>show _=_;kernel_rfl
theorem xBX (d:Nat) (f g:Nat→Std):zZ Pg (Op.equalIn (d+3) 109 (.agg ⟨stL f⟩) (.agg ⟨stL g⟩))=some ((List.range 6).all fun i=>decide (f i=g i)) :=
 xID (P:=Pg) (t:=109) (e:=107) (n:=6) (sz:=4) (d:=d+2) (by kernel_rfl) (by kernel_rfl) (xs:=⟨stL f⟩) (ys:=⟨stL g⟩) (R:=fun i=>decide (f i=g i)) (fun i hi=>⟨_,_,yLS f hi,yLS g hi,xUU d _ _⟩)
structure Key where
 day:Int
 l:List Std
 h:l.length=6
 deriving DecidableEq
def zGW (k:Key) (i:Nat):Std:=k.l.getD i zUU
def yNB (k:Key):Value:=.agg ⟨iV k.day::stL (zGW k)⟩
def zJO (D:Int) (f:Nat→Std):Key:=⟨D,(List.range 6).map f,by simp⟩
theorem zBU {D:Int} {f:Nat→Std} {i:Nat} (hi:i<6):zGW (zJO D f) i=f i:=by
 unfold zGW zJO;simp [hi]
theorem yHZ (D:Int) (f:Nat→Std):yNB (zJO D f)=.agg ⟨iV D::stL f⟩:=by
 unfold yNB stL;rw [zBU (by omega),zBU (by omega),zBU (by omega),zBU (by omega),zBU (by omega),zBU (by omega)];rfl
theorem xKN {a b:Key}:a=b↔a.day=b.day∧∀ i,i<6→zGW a i=zGW b i:=by
 constructor
 ·rintro rfl;exact ⟨rfl,fun _ _=>rfl⟩
 ·rintro ⟨h1,h2⟩;obtain ⟨d,l,hl⟩:=a;obtain ⟨e,m,hm⟩:=b;have:l=m:=by
   apply List.ext_getElem (by omega);intro i g1 g2;have:=h2 i (by omega);simpa [zGW,g1,g2] using this
  subst this;simp only at h1;subst h1;rfl
theorem xKO {D E:Int} {f g:Nat→Std}:zJO D f=zJO E g↔D=E∧∀ i,i<6→f i=g i:=by
 rw [xKN];refine and_congr_right fun _=>⟨fun h i hi=>?_,fun h i hi=>?_⟩
 ·have:=h i hi;rwa [zBU hi,zBU hi] at this
 ·rw [zBU hi,zBU hi];exact h i hi
theorem xIA (a b:Key):zZ Pg (Op.equal 133 (yNB a) (yNB b))=some (decide (a=b)):=by
 have e:decide (a=b)=((a.day == b.day) && (List.range 6).all fun i=>decide (zGW a i=zGW b i)):=by
  rw [Bool.eq_iff_iff,decide_eq_true_eq,Bool.and_eq_true,beq_iff_eq,zCV,xKN];exact and_congr_right fun _=>⟨fun h i hi=>decide_eq_true (h i hi),fun h i hi=>of_decide_eq_true (h i hi)⟩
 rw [e];have hu : ∃ f1 f2 : Field, Pg.underlying 133 = some (.struct #[f1, f2]) ∧ f1.type = 3 ∧ f1.offset = 0 ∧ f1.name ≠ "_" ∧ f2.type = 109 ∧ f2.offset = 1 ∧ f2.name ≠ "_" := ⟨_, _, Tryz.underlying133, rfl, rfl, by decide, rfl, rfl, by decide⟩
 obtain ⟨f1,f2,hu,t1,o1,n1,t2,o2,n2⟩:=hu;refine xUT (P:=Pg) (t:=133) (d:=9999) hu (by kernel_rfl) n1 n2 (xs:=⟨iV a.day::stL (zGW a)⟩) (ys:=⟨iV b.day::stL (zGW b)⟩)
  (a1:=iV a.day) (b1:=iV b.day) (a2:=.agg ⟨stL (zGW a)⟩) (b2:=.agg ⟨stL (zGW b)⟩) (r1:=a.day == b.day) (r2:=(List.range 6).all fun i=>decide (zGW a i=zGW b i)) ?_ ?_ ?_ ?_ ?_ ?_
 ·rw [t1,o1];kernel_rfl
 ·rw [t1,o1];kernel_rfl
 ·rw [t1];exact zGM (d:=9998) (k:=.i64) (by kernel_rfl) _ _ _
 ·rw [t2,o2];kernel_rfl
 ·rw [t2,o2];kernel_rfl
 ·rw [t2];exact xBX 9996 _ _
theorem yBK:∀ (n:Nat) (xs:List Int),Instr.sameBits (n+2) (.agg ⟨xs.map yA⟩) (.agg ⟨xs.map yA⟩)=true:=by
 intro n xs;simp [Instr.sameBits];intro x y hxy;have key:∀ (m:List Int),(x,y)∈(m.map yA).zip (m.map yA)→∃ c,x=yA c∧y=yA c:=by
  intro m;induction m with
  | nil=>intro h;cases h
  | cons c m ih =>
   intro h;simp only [List.map_cons,List.zip_cons_cons,List.mem_cons,Prod.mk.injEq] at h;rcases h with h | h
   ·exact ⟨c,h.1,h.2⟩
   ·exact ih h
 obtain ⟨c,rfl,rfl⟩:=key xs hxy;simp [Instr.sameBits]
def xYL (k:Key):List Int:=k.day::(List.range 6).flatMap fun i=>[(zGW k i).free,(zGW k i).row,(zGW k i).used,(zGW k i).day]
theorem zDT:KeyT Pg 133 yNB:=by
 refine ⟨xIA,fun e a=>?_,fun a=>?_⟩
 ·have h:∀ (e:Bool) (D:Int) (f:Nat→Std),zHT Pg e 133 (.agg ⟨iV D::stL f⟩)=true:=fun e D f=>by kernel_rfl
  exact h e a.day (zGW a)
 ·have:yNB a=.agg ⟨(xYL a).map yA⟩:=rfl;rw [this];exact yBK 9998 _
theorem xJY:zDO Pg 126=some (133,130):=by kernel_rfl
def six (v:List Int):List Value:=vO 6 fun i=>v.getD i 0
theorem zGH (v:List Int):six v=zJ (v.getD 0 0) (v.getD 1 0) (v.getD 2 0) (v.getD 3 0) (v.getD 4 0) (v.getD 5 0):=rfl
section
variable {σ:St}
theorem xPI {f:Nat→Int} {i:Nat} (hi:i<6):zAB Pg 98 (.agg ⟨vO 6 f⟩) (iV (i:Int))=some (iV (f i)):=by
 match i,hi with
 | 0,_=>show _=_;kernel_rfl
 | 1,_=>show _=_;kernel_rfl
 | 2,_=>show _=_;kernel_rfl
 | 3,_=>show _=_;kernel_rfl
 | 4,_=>show _=_;kernel_rfl
 | 5,_=>show _=_;kernel_rfl
theorem xUF {b i:Nat} {f:Nat→Int} (o:Own σ b (vO 6 f) 1) (hi:i<6):zB Pg σ 3 ⟨b,0+Int.toNat (i:Int)*1,none⟩=some (iV (f i)):=by
 have:=o.ldI (P:=Pg) (t:=3) (i:=i) zT (zWH hi);simpa [zL] using this
theorem xUE {b i:Nat} {f:Nat→Int} {x:Int} (o:Own σ b (vO 6 f) 1) (hi:i<6):zQ Pg (evL [.pointer (some ⟨b,0+Int.toNat (i:Int)*1,none⟩),iV x]) σ (.store 3 (.tmp 0) (.tmp 1))=some (undef,σ.own b (vO 6 fun s=>if s=i then x else f s) 1):=by
 have:=o.stI (P:=Pg) (t:=3) (v:=iV x) (i:=i) rfl vE rfl (by rw [zBX];exact hi);rw [xGP hi] at this;simpa [zL] using this
theorem zOI {b:Nat} {f:Nat→Int} (o:Own σ b (vO 6 f) 1):zB Pg σ 98 ⟨b,0,none⟩=some (.agg ⟨vO 6 f⟩):=o.ldN (k:=0) zCM wI (ds:=vO 6 f) rfl rfl (by rw [zBX];decide)
theorem xOY {b:Nat} {f g:Nat→Int} (o:Own σ b (vO 6 f) 1):zQ Pg (evL [.pointer (some ⟨b,0,none⟩),.agg ⟨vO 6 g⟩]) σ (.store 98 (.tmp 0) (.tmp 1))=some (undef,σ.own b (vO 6 g) 1) :=
 o.store (k:=0) (vs:=vO 6 g) rfl wI (by simp [vO];intro x _;rfl) (by rw [zBX,zBX];decide) (by simp [zBX,List.drop_eq_nil_of_le])
theorem xBZ {a b:List Int} {i:Nat} (ha:a.length=6) (hb:b.length=6) (hi:i<6):(vQ a b).getD i 0=a.getD i 0+b.getD i 0:=by
 unfold vQ;rw [List.getD_eq_getElem?_getD,List.getD_eq_getElem?_getD,List.getD_eq_getElem?_getD,List.getElem?_zipWith,List.getElem?_eq_getElem (by omega:i<a.length),List.getElem?_eq_getElem (by omega:i<b.length)];rfl
def Bd (n:Int) (v:List Int):Prop:=∀ x∈v,0≤x∧x≤n
theorem Bd.get {n:Int} {v:List Int} (h:Bd n v) (hn:0≤n) (i:Nat):0≤v.getD i 0∧v.getD i 0≤n:=by
 rw [List.getD_eq_getElem?_getD];cases hx:v[i]? with
 | none=>exact ⟨Int.le_refl _,hn⟩
 | some x=>exact h x (List.mem_of_getElem? hx)
theorem xUW {a b:List Int} (ha:a.length=6) (hb:b.length=6) (h1:Bd 1000000 a) (h2:Bd 1000000 b):zD Pg 102 [.agg ⟨six a⟩,.agg ⟨six b⟩] σ (.agg ⟨six (vQ a b)⟩) σ:=by
 obtain ⟨τ0,hτ0⟩:∃ τ0,τ0=((σ.re.row (six a) 1).row (six b) 1).row (zJ 0 0 0 0 0 0) 1:=⟨_,rfl⟩;have N0:New σ.re τ0:=by rw [hτ0];exact ((New.row _ _ _).row').row'
 have o1:Own τ0 σ.y (six a) 1:=by rw [hτ0];exact (zC σ.re (six a) 1).row.row
 have o2:Own τ0 (σ.y+1) (six b) 1:=by rw [hτ0];exact (zC (σ.re.row (six a) 1) (six b) 1).row
 have o3:Own τ0 (σ.y+2) (vO 6 fun _=>0) 1:=by rw [hτ0];exact zC ((σ.re.row (six a) 1).row (six b) 1) (zJ 0 0 0 0 0 0) 1
 have l1:=zOI o2;rw [hτ0] at l1;refine (xLU l1 (yNV (Inv:=fun k i τ=>New σ.re τ∧∃ j:Nat,i=j∧j+k=6∧Own τ σ.y (vO 6 fun s=>if s<j then a.getD s 0+b.getD s 0 else a.getD s 0) 1∧Own τ (σ.y+2) (vO 6 fun _=>0) 1)
  (Q0:=fun τ=>New σ.re τ∧Own τ σ.y (six (vQ a b)) 1∧Own τ (σ.y+2) (vO 6 fun _=>0) 1) ?_ 6 0 _ ⟨by rw [← hτ0];exact N0,0,rfl,rfl,by rw [← hτ0];exact o1,by rw [← hτ0];exact o3⟩) ?_).pure
 ·rintro k i τ ⟨hN,j,rfl,hk,w1,w2⟩;by_cases hj:j<6
  ·have hid:=xPI (f:=fun i=>b.getD i 0) hj;have hl:=xUF w1 hj;rw [if_neg (by omega)] at hl;have b1:=h1.get (by decide) j;have b2:=h2.get (by decide) j;have st:=xUE (x:=a.getD j 0+b.getD j 0) w1 hj;have hlt:=w2.lt;refine xEG hid hl st ⟨k-1,by omega,hN.own (by show σ.y≤σ.y;omega),j+1,by omega,by omega, ?_,w2.own (by omega)⟩ (by omega) (by omega) (by omega) (by omega);have e:(vO 6 fun s=>if s=j then a.getD j 0+b.getD j 0 else if s<j then a.getD s 0+b.getD s 0 else a.getD s 0)=vO 6 fun s=>if s<j+1 then a.getD s 0+b.getD s 0 else a.getD s 0:=by
    refine zWI fun s hs=>?_
    by_cases e1:s=j
    ·subst e1;rw [if_pos rfl,if_pos (by omega)]
    ·rw [if_neg e1];by_cases e2:s<j
     ·rw [if_pos e2,if_pos (by omega)]
     ·rw [if_neg e2,if_neg (by omega)]
   rw [← e];exact w1.put
  ·have:j=6:=by omega
   subst this;refine xEF ⟨hN, ?_,w2⟩ (by omega);have e:(vO 6 fun s=>if s<6 then a.getD s 0+b.getD s 0 else a.getD s 0)=six (vQ a b):=by
    refine zWI fun s hs=>?_
    rw [if_pos hs,xBZ ha hb hs]
   rw [← e];exact w1
 ·rintro τ ⟨hN,w1,w2⟩;exact yNU (zOI w1) (xOY w2) (zOI w2.put) ⟨rfl,(hN.own (b:=σ.y+2) (n:=1) (cs:=six (vQ a b)) (by show σ.y≤σ.y+2;omega)).lw⟩
theorem yDX {x:Int}:zD Pg 132 [iV x] σ (.bool false) σ:=(xKP ⟨rfl,Nat.le_refl _⟩ rfl).pure
theorem xWC {x y:Int}:zD Pg 129 [iV x,iV y] σ (iV (if x<y then -1 else if y<x then 1 else 0)) σ:=by
 by_cases h1:x<y
 ·rw [if_pos h1];exact (xSH yDX yDX ⟨rfl,Nat.le_refl _⟩ h1).pure
 ·rw [if_neg h1];by_cases h2:y<x
  ·rw [if_pos h2];exact (xSG yDX yDX ⟨rfl,Nat.le_refl _⟩ h1 h2).pure
  ·rw [if_neg h2];exact (xSF yDX yDX ⟨rfl,Nat.le_refl _⟩ h1 h2).pure
def zQD:List Int→List Int→Int
 | a::l,b::m=>if a<b then -1 else if b<a then 1 else zQD l m
 | _,_=>0
theorem zSF:∀ {a b:List Int},(0<zQD a b↔wW a b=true)
 | [],b=>by simp [zQD,wW]
 | a::l,[]=>by simp [zQD,wW]
 | a::l,b::m=>by
  unfold zQD wW;by_cases h1:a<b
  ·rw [if_pos h1,if_neg (by omega),decide_eq_false (by omega)];simp
  ·rw [if_neg h1];by_cases h2:b<a
   ·rw [if_pos h2,if_neg (by omega),decide_eq_true h2];simp
   ·rw [if_neg h2,if_pos (by omega)];exact zSF
theorem xFC {a b:List Int} {j:Nat} {x y:Int} (hx:a[j]?=some x) (hy:b[j]?=some y):zQD (a.drop j) (b.drop j)=if x<y then -1 else if y<x then 1 else zQD (a.drop (j+1)) (b.drop (j+1)):=by
 obtain ⟨h1,rfl⟩:=List.getElem?_eq_some_iff.1 hx;obtain ⟨h2,rfl⟩:=List.getElem?_eq_some_iff.1 hy;rw [List.drop_eq_getElem_cons h1,List.drop_eq_getElem_cons h2,zQD]
theorem xEZ {p q:Option Addr} {l c d:Nat} {a b:List Int} (h1:yI σ p l a) (h2:yI σ q l b) (hl:l≤1000):zD Pg 119 [.slice p l c,.slice q l d] σ (iV (zQD a b)) σ:=by
 have e1:=h1.len;have e2:=h2.len;have h1:=h1.re;have h2:=h2.re;refine (yVL (yBW (Inv:=fun k i τ=>τ=σ.re∧∃ j:Nat,i=j∧j+k=l∧zQD a b=zQD (a.drop j) (b.drop j)) (Qr:=fun x τ=>τ=σ.re∧x=zQD a b) (Q0:=fun τ=>τ=σ.re∧zQD a b=0) ?_ l 0 σ.re ⟨rfl,0,rfl,by omega,rfl⟩) ?_ ?_).pure
 ·rintro k i τ ⟨rfl,j,rfl,hk,he⟩;by_cases hj:j<l
  ·obtain ⟨a1,rfl,x,hx,l1⟩:=vB h1 hj;obtain ⟨a2,rfl,y,hy,l2⟩:=vB h2 hj;have hd:=xFC hx hy;have cc:=xWC (σ:=σ.re) (x:=x) (y:=y);by_cases g1:x<y
   ·rw [if_pos g1] at cc hd;exact zUE l1 l2 cc ⟨rfl,by rw [he,hd]⟩ (by omega) (by omega) (by omega) (by omega) (by omega)
   ·rw [if_neg g1] at cc hd;by_cases g2:y<x
    ·rw [if_pos g2] at cc hd;exact zUE l1 l2 cc ⟨rfl,by rw [he,hd]⟩ (by omega) (by omega) (by omega) (by omega) (by omega)
    ·rw [if_neg g2] at cc hd;exact yOV l1 l2 cc ⟨k-1,by omega,rfl,j+1,by omega,by omega,by rw [he,hd]⟩ (by omega) (by omega) (by omega) (by omega) (by omega) (by omega)
  ·refine yOU ⟨rfl, ?_⟩ (by omega);rw [he,List.drop_eq_nil_of_le (by omega)];rfl
 ·rintro x τ ⟨rfl,rfl⟩;exact yBU ⟨rfl,Nat.le_refl _⟩
 ·rintro τ ⟨rfl,e⟩;exact yBV ⟨by rw [e],Nat.le_refl _⟩ (by omega)
theorem xXE {a b:List Int} (ha:a.length=6) (hb:b.length=6) {o1 o2:Operand}:uR Pg .neq 98 o1 o2 (.agg ⟨six a⟩) (.agg ⟨six b⟩)=some (.bool (!decide (a=b))):=by
 have e:∀ (f g:Nat→Int),uR Pg .neq 98 o1 o2 (.agg ⟨vO 6 f⟩) (.agg ⟨vO 6 g⟩)=(zZ Pg (do eqGuard .neq 98 o1 o2 (.agg ⟨vO 6 f⟩) (.agg ⟨vO 6 g⟩);binOp .neq 98 (.agg ⟨vO 6 f⟩) (.agg ⟨vO 6 g⟩))).filter (zW RD):=fun _ _=>by kernel_rfl
 have e1:∀ (f g:Nat→Int),zZ Pg (eqGuard .neq 98 o1 o2 (.agg ⟨vO 6 f⟩) (.agg ⟨vO 6 g⟩))=some ():=fun _ _=>by kernel_rfl
 have e2:∀ x y:List Value,binOp .neq 98 (.agg ⟨x⟩) (.agg ⟨y⟩)=(do let r ← Op.equal 98 (.agg ⟨x⟩) (.agg ⟨y⟩);pure (.bool (!r))):=fun _ _=>rfl
 have hp:∀ (f:Nat→Int) {i:Nat},i<6→zZ Pg (part 3 ⟨vO 6 f⟩ (i*1))=some (iV (f i)):=by
  intro f i hi;match i,hi with
  | 0,_=>show _=_;kernel_rfl
  | 1,_=>show _=_;kernel_rfl
  | 2,_=>show _=_;kernel_rfl
  | 3,_=>show _=_;kernel_rfl
  | 4,_=>show _=_;kernel_rfl
  | 5,_=>show _=_;kernel_rfl
 have h:=xID (P:=Pg) (t:=98) (e:=3) (n:=6) (sz:=1) (d:=9999) (by kernel_rfl) (by kernel_rfl) (xs:=⟨six a⟩) (ys:=⟨six b⟩) (R:=fun i=>a.getD i 0 == b.getD i 0) (fun i hi=>⟨_,_,hp _ hi,hp _ hi,zGM (d:=9998) (k:=.i64) (by kernel_rfl) _ _ _⟩);have e3:((List.range 6).all fun i=>a.getD i 0 == b.getD i 0)=decide (a=b):=by
  rw [Bool.eq_iff_iff,decide_eq_true_eq,zCV];refine ⟨fun h=>?_,fun h i hi=>by rw [h];simp⟩
  apply List.ext_getElem (by omega);intro i g1 g2;have:=h i (by omega);rw [beq_iff_eq,List.getD_eq_getElem?_getD,List.getD_eq_getElem?_getD,List.getElem?_eq_getElem g1,List.getElem?_eq_getElem g2] at this;exact this
 rw [e3] at h;have h:zZ Pg (Op.equal 98 (.agg ⟨six a⟩) (.agg ⟨six b⟩))=some (decide (a=b)):=h;unfold six at h ⊢;rw [e,xD,e1];simp only [Option.bind_some];rw [e2,xD,h];rfl
theorem xHC {b:Nat} {v:List Int} (o:Own σ b (six v) 1):uP Pg σ 98 (.pointer (some ⟨b,0,none⟩)) none none none=some (.slice (some ⟨b,0,none⟩) 6 6):=by
 have hu:Pg.underlying 98=some (.array 6 3):=by kernel_rfl
 have ha:yFT σ ⟨b,0,none⟩ (6*1) 1=true:=by unfold yFT;simp only [o.get];rfl
 unfold uP;simp only [hu,vE,ha,cond_true];rfl
theorem yKH {b:Nat} {v:List Int} (hv:v.length=6) (o:Own σ b (six v) 1):yI σ (some ⟨b,0,none⟩) 6 v:=by
 have e:six v=v.map yA:=by
  apply List.ext_getElem (by rw [six,zBX,List.length_map,hv]);intro i g1 g2;have g3:i<v.length:=by simpa using g2
  simp [six,vO,g3]
 refine ⟨?_,by simpa using hv,fun x hx=>?_⟩
 ·rw [zAH v .i64,← e];exact ⟨rfl,o.rw⟩
 ·obtain ⟨x,_,rfl⟩:=List.mem_map.1 hx;exact uV x
theorem xVH {a b:List Int} (ha:a.length=6) (hb:b.length=6):zD Pg 103 [.agg ⟨six a⟩,.agg ⟨six b⟩] σ (.bool (wW a b)) σ:=by
 obtain ⟨τ0,hτ0⟩:∃ τ0,τ0=(σ.re.row (six a) 1).row (six b) 1:=⟨_,rfl⟩;have o1:Own τ0 σ.y (six a) 1:=by rw [hτ0];exact (zC σ.re (six a) 1).row
 have o2:Own τ0 (σ.y+1) (six b) 1:=by rw [hτ0];exact zC (σ.re.row (six a) 1) (six b) 1
 have hne:=xXE ha hb (o1:=.tmp 5) (o2:=.tmp 6);have l1:=zOI o1;have l2:=zOI o2;have hlow:σ.y≤τ0.low:=by rw [hτ0];exact Nat.le_refl _
 have s1:=xHC o1;have s2:=xHC o2;have cc:=xEZ (c:=6) (d:=6) (yKH ha o1) (yKH hb o2) (by omega);rw [hτ0] at l1 l2 hlow s1 s2 cc;by_cases e:a=b
 ·rw [decide_eq_true e] at hne;have:wW a b=false:=by rw [e];exact zGR b
  rw [this];exact (xLV l1 l2 hne ⟨rfl,hlow⟩).pure
 ·rw [decide_eq_false e] at hne;by_cases h:0<zQD a b
  ·rw [zSF.1 h];exact (xLX l1 l2 hne s1 s2 cc ⟨rfl,hlow⟩ h).pure
  ·have:wW a b=false:=by rw [← Bool.not_eq_true];exact fun k=>h (zSF.2 k)
   rw [this];exact (xLW l1 l2 hne s1 s2 cc ⟨rfl,hlow⟩ h).pure
theorem xQY {a b:Int} {σ:St}:xM Pg (evL [iV a,iV b]) σ (.call { callee:=.builtin .max,args:=⟨wT 2⟩,argTypes:=⟨[3,3]⟩ })=some (iV (max a b)):=by
 have e:zZ Pg (Builtin.max_ ⟨[3,3]⟩ 0 ⟨[iV a,iV b]⟩)=some (iV (max a b)):=by
  rw [show max a b=if a<b then b else a by split <;> omega];simp only [Builtin.max_,List.foldlM,Builtin.max2];rfl
 have e2:xM Pg (evL [iV a,iV b]) σ (.call { callee:=.builtin .max,args:=⟨wT 2⟩,argTypes:=⟨[3,3]⟩ }) =
   match ((zZ Pg (Builtin.max_ ⟨[3,3]⟩ 0 ⟨[iV a,iV b]⟩)).filter (zW RD)) with | some v=>some v | none=>xK Pg (evL [iV a,iV b]) σ (.call { callee:=.builtin .max,args:=⟨wT 2⟩,argTypes:=⟨[3,3]⟩ }):=rfl
 rw [e2,e];rfl
theorem xKJ {b c:Nat} {x y:Int} (h:Row σ ⟨b,0,none⟩ [iV x,iV y]):zD Pg 118 [.slice (some ⟨b,0,none⟩) 2 c] σ (iV (max x y)) σ:=by
 have key:∀ w:St,Row w ⟨b,0,none⟩ [iV x,iV y]→zD Pg 128 [.slice (some ⟨b,0,none⟩) 2 c] w (iV (max x y)) w:=fun w hw=>by
  refine zP.pure ?_
  have h0:=hw.le (le0 w);have l0:zB Pg w.re 3 ⟨b,0,none⟩=some (iV x):=by simpa [zL] using h0.load1 (t:=3) zT (k:=0) rfl
  have l1:zB Pg w.re 3 (zL ⟨b,0,none⟩ (Int.toNat ((1:Nat):Int)*1))=some (iV y):=h0.load1 (t:=3) zT (k:=1) rfl;refine xPE (P0:=fun n τ=>τ=w.re∧n=max x y) l0 (yQU (Inv:=fun k n i τ=>∃ s:Nat,i=s∧s+k=2∧τ=w.re∧((s=1∧n=x)∨(s=2∧n=max x y))) ?_ 1 x 1 w.re ⟨1,rfl,rfl,rfl,.inl ⟨rfl,rfl⟩⟩) (fun n τ h=>yQT ⟨by rw [h.2],by rw [h.1];exact Nat.le_refl _⟩) (by omega) (by omega);rintro k n i τ ⟨s,rfl,hk,rfl,⟨rfl,rfl⟩ | ⟨rfl,rfl⟩⟩
  ·exact xHA l1 xQY ⟨k-1,by omega,2,rfl,by omega,rfl,.inr ⟨rfl,rfl⟩⟩ (by omega) (by omega) (by omega)
  ·exact xGZ ⟨rfl,rfl⟩ (by omega)
 refine zP.pure ?_
 exact xDO (key _ (h.le (le0 σ))) ⟨rfl,Nat.le_refl _⟩
end
section
noncomputable section
variable (lo l BA BB BC BD BE lK:Nat) (v1:Addr) (y ak cg:Int) (eW eP:List Nat) (q1:oAa) (BG l1 c1:Nat) (q0:Int→(List Nat)→St→Prop) (q2:(List Nat)→St→Prop) (fD:FuncId) (dG nO bU:Int) (fk:lVa) (qI:oAa) (ms:List Nat) (g:Nat→Value) (lL cK:Nat) (st:LoopState) (q4:Int→St→Prop) (Q:St→Prop) (dP:Int) (pend:Option Code) (σ:St) (db:Nat) (Nx:Int→St→Prop) (q5:vPa) (q3:Int→(List Nat)→St→Prop) (Qn Q4 Q6 Qr q6:St→Prop) (Q0:(List Nat)→St→Prop)
def zSH:Code:=(Code.part [1,1,0,1,0,0] (qh 54))
def zFV (BA BB BC BD BE:Nat) (ak cg:Int) (eP:List Nat):lNa:=[(3,pt BA 0),(4,pt BB 0),(5,pt BC 0),(6,pt BD 0),(7,pt BE 0),(18,iV ak),(19,iV cg)]
def yAL:Alt:=⟨Int × (List Nat),.normal,fun t=>zFV BA BB BC BD BE ak t.1 t.2,fun t=>t.2,fun t σ=>q0 t.1 t.2 σ⟩
def zUI (BA BB BC BD BE:Nat) (ak:Int) (eP:List Nat):lNa:=[(3,pt BA 0),(6,pt BD 0),(7,pt BE 0)]
def zEL:Alt:=⟨(List Nat),(.exit 0),fun t=>zUI BA BB BC BD BE ak t,fun t=>t,fun t σ=>q2 t σ⟩
def zSL:Prop:=qi qj none zSH 92 (zFV BA BB BC BD BE ak cg eP) eP [yAL BA BB BC BD BE ak q3,zEL BA BB BC BD BE ak Q0] σ
def zSK:Prop:=qk qj none zSH 92 (zFV BA BB BC BD BE ak cg eP) eP [zEL BA BB BC BD BE ak Q0] σ
def zAS:Code:=(Code.part [1,1,0,1,0,0,1,1,0,0,1,1,0,0] (qh 54))
def uN:Code:=(Code.part [1,1,0,1,0,0,1,1,0,0,1,1,0,1] (qh 54))
def zAJ:lNa:=[(3,pt BA 0),(4,pt BB 0),(5,pt BC 0),(6,pt BD 0),(7,pt BE 0),(18,iV ak),(19,iV cg),(24,.func (.func fD) ⟨[]⟩ ⟨fk⟩)]
def zBO:Blk:=.loop (Fm 92 (ov (zAJ BA BB BC BD BE ak cg fD fk) g)) [25,26] zAS uN st pend db
def yFQ:Prop:=zST Pg qj (.tmp 24) ⟨[25,26]⟩ zAS uN 92 (zAJ BA BB BC BD BE ak cg fD fk) [(.normal,Qn)] σ
def yFP:Code:=(Code.part [1,1,0,1,0,0,1,1,0,0,1,1,0,1,0,1,1,0,1,0,0] (qh 54))
def zFU (lo BA BC BD BE:Nat) (y:Int) (BG:Nat) (nO:Int) (qI:oAa) (lL cK:Nat) (dP:Int):lNa:=[(3,pt BA 0),(5,pt BC 0),(6,pt BD 0),(7,pt BE 0),(9,iV y),(10,pt BG 0),(11,iV nO),(33,.slice qI lL cK),(34,iV (lL:Int)),(35,iV dP)]
def yWM:Alt:=⟨Int,.normal,fun t=>zFU lo BA BC BD BE y BG nO qI lL cK t,fun t=>[],fun t σ=>q4 t σ⟩
def zUH (lo BA BC BD BE:Nat) (y:Int) (BG:Nat) (nO:Int) (qI:oAa) (lL cK:Nat):lNa:=[(5,pt BC 0),(7,pt BE 0),(9,iV y),(10,pt BG 0),(11,iV nO)]
def zKF:Alt:=⟨Unit,(.exit 4),fun t=>zUH lo BA BC BD BE y BG nO qI lL cK,fun t=>[],fun t σ=>Q σ⟩
def zLO:Prop:=qi qj (some lo) yFP 92 (zFU lo BA BC BD BE y BG nO qI lL cK dP) [] [yWM lo BA BC BD BE y BG nO qI lL cK Nx,zKF lo BA BC BD BE y BG nO qI lL cK Q4] σ
def zSJ:Prop:=qk qj (some lo) yFP 92 (zFU lo BA BC BD BE y BG nO qI lL cK dP) [] [zKF lo BA BC BD BE y BG nO qI lL cK Q4] σ
def zKH (lo BA BC BD BE:Nat) (y:Int) (BG:Nat) (nO:Int) (qI:oAa) (lL cK:Nat) (σ:St) (Qn:St→Prop):Prop:=∀ g:Nat→Value,∃ an,Hid (kAt Pg qj (some lo) uN [0,1,1,0,1,0] (yPY [⟨Unit,.normal,fun _=>[],fun _=>[],fun _ σ=>Qn σ⟩]) (.exit 4) ⟨Fm 92 (ov (zUH lo BA BC BD BE y BG nO qI lL cK) g),[]⟩ σ an)
def zUJ:Prop:=∀ g:Nat→Value,∃ an,Hid (kAt Pg qj none zSH [1,1,0,0,1,1,0] (zFY 92 [yAL BA BB BC BD BE ak q3,zEL BA BB BC BD BE ak Q0]) .normal ⟨Fm 92 (ov (zAJ BA BB BC BD BE ak cg fD fk) g),ms⟩ σ an)
def zUK:Prop:=∀ g:Nat→Value,∃ an,Hid (kAt Pg qj none (qh 54) [1,1,0,1,0] (ql 54 q5) (.exit 0) ⟨Fm 92 (ov (zUI BA BB BC BD BE ak eP) g),eP⟩ σ an)
def yFO:Code:=(Code.part [1,1,1,0,1,0,0] (qh 54))
def zFT (BA BD BE lK:Nat) (eW:List Nat) (dG:Int):lNa:=[(3,pt BA 0),(6,pt BD 0),(7,pt BE 0),(72,iV (lK:Int)),(73,iV dG)]
def yWL:Alt:=⟨Int,.normal,fun t=>zFT BA BD BE lK eW t,fun t=>eW,fun t σ=>q4 t σ⟩
def zUG (BA BD BE lK:Nat) (eW:List Nat):lNa:=[(6,pt BD 0)]
def zKE:Alt:=⟨Unit,(.exit 6),fun t=>zUG BA BD BE lK eW,fun t=>eW,fun t σ=>Q σ⟩
def zLN:Prop:=qi qj none yFO 92 (zFT BA BD BE lK eW dG) eW [yWL BA BD BE lK eW Nx,zKE BA BD BE lK eW Q6] σ
def zSI:Prop:=qk qj none yFO 92 (zFT BA BD BE lK eW dG) eW [zKE BA BD BE lK eW Q6] σ
def zKG:Prop:=∀ g:Nat→Value,∃ an,Hid (kAt Pg qj none (qh 54) [1,1,1,0,1,0] (ql 54 q5) (.exit 6) ⟨Fm 92 (ov (zUG BA BD BE lK eW) g),eW⟩ σ an)
def xJN:Code:=(Code.part [1,0,0] (qh 91))
def zYE:lNa:=[(0,.func (.yield l) ⟨[]⟩ ⟨[]⟩),(2,pz v1),(7,.slice q1 l1 c1),(8,iV (l1:Int)),(9,iV bU)]
def xQV:Alt:=⟨Int,.normal,fun t=>zYE l v1 q1 l1 c1 t,fun t=>[],fun t σ=>q4 t σ⟩
def yMP (l:Nat) (v1:Addr) (q1:oAa) (l1 c1:Nat):lNa:=[]
def zYF:Alt:=⟨Unit,.ret,fun t=>yMP l v1 q1 l1 c1,fun t=>[],fun t σ=>Q σ⟩
def yMQ (l:Nat) (v1:Addr) (q1:oAa) (l1 c1:Nat):lNa:=[]
def zYG:Alt:=⟨Unit,(.exit 0),fun t=>yMQ l v1 q1 l1 c1,fun t=>[],fun t σ=>Q σ⟩
def yHT:Prop:=qi qj none xJN 26 (zYE l v1 q1 l1 c1 bU) [] [xQV l v1 q1 l1 c1 Nx,zYF l v1 q1 l1 c1 Qr,zYG l v1 q1 l1 c1 q6] σ
def xJO:Prop:=qk qj none xJN 26 (zYE l v1 q1 l1 c1 bU) [] [zYF l v1 q1 l1 c1 Qr,zYG l v1 q1 l1 c1 q6] σ
def xJP:Prop:=kZ qj (qh 91) [1,0] (ql 91 q5) .ret 26 (yMP l v1 q1 l1 c1) σ
def yMR:Prop:=kZ qj (qh 91) [1,0] (ql 91 q5) (.exit 0) 26 (yMQ l v1 q1 l1 c1) σ
end
variable {BA BB BC BD BE lo lZ cCB db BG lL cK lAB cW lBB cX lPB cMB lQB cNB lRB cWB lG cE lH cG ac ad aa ab aG aN fW fX lK lSB cOB lTB cPB cP lUB cQB lVB cRB lHB cDB l l1 c1:Nat} {ak cg y aA aO ax ay aC nO dP nT nFB nGB nJB nBL nBM nBN nBO nBP nBQ nBR nBS nBT nBU nBv nBw nBx nBy nBz nB0 nB1 nB2 nB3 nB4 nB5 nB6 nB7 nB8 nE nB nA nF ao au aj dG nCB nHB bU nG nD:Int} {Inv:Nat→Int→St→Prop} {Q0 P0:(List Nat)→St→Prop} {fD fC:FuncId} {fk eN cs1:lVa} {qV_a qI_a qNB_a v1 fZ v0:Addr} {g:Nat→Value} {τ σ σWB σXB σYB σZB σE σ2 σAC σBC σCB σCC fy:St} {Qn Q4 P4 Pn Q6 P6 Qr Pr:St→Prop} {qI qW qX qLB qMB qD qF af ae roster truth qOB qPB qO qQB qRB qCB q1:oAa} {Nx:Int→St→Prop} {eP ms eW:List Nat} {Q:vPa}
theorem yIY {Inv:Nat→Int→(List Nat)→St→Prop} (hb:∀ k cg eP σ,Inv k cg eP σ→zSL BA BB BC BD BE ak cg eP σ (NX2 Inv k) Q0):∀ k cg eP σ,Inv k cg eP σ→zSK BA BB BC BD BE ak cg eP σ Q0 :=
 zDP (ai (wA 0) trivial) hb
theorem yWC:let y0:=(τ.re.row (zF 0 0 0 0 0) 5).own (τ.re.y) (zF aA aO ax ay aC) 5;let y1:=zBO BA BB BC BD BE ak cg fD fk g .ready none db;∀ (hl:yH τ.heap lo=some y1) (hl1:yH y0.heap lo=some y1) (hσ:σ=y0.put lo (zBO BA BB BC BD BE ak cg fD fk g .busy none db)) (h1:lz σ 26 (qe BB 0) (.slice (some qV_a) lZ cCB)) (h2:lz σ 3 (zL qV_a (Int.toNat y*1)) (iV nO)) (nx:Qn σ) (u1:Ix y lZ:=by omega) (u2:nO=(-1):=by omega),zEZ Pg lo [iV y,qf (zF aA aO ax ay aC)] τ (Fm 92 (ov (zAJ BA BB BC BD BE ak cg fD fk) g)) [25,26] zAS uN db [⟨Unit,.normal,fun _=>[],fun _=>[],fun _ σ=>Qn σ⟩] :=
 let y0:=(τ.re.row (zF 0 0 0 0 0) 5).own (τ.re.y) (zF aA aO ax ay aC) 5;fun hl hl1 hσ h1 h2 nx u1 u2=>yCJ hl rfl hl1 hσ [.g,.g,.e undef y0,.l (.slice (some qV_a) lZ cCB),.g,.i,.l (iV nO),.g,.g,.b true,.fin ⟨Unit,.normal,fun _=>[],fun _=>[],fun _ σ=>Qn σ⟩ ()] (kc (by kernel_rfl) (ai ((zC _ _ _).store (vs:=(zF aA aO ax ay aC)) rfl vY rfl (nle rfl) rfl:qn (evL [pt τ.re.y 0,qf (zF aA aO ax ay aC)]) (τ.re.row (zF 0 0 0 0 0) 5) (.store 85 (.tmp 0) (.tmp 1))=some (undef,y0)) (ai (ai (rfl:Exit.normal=Exit.normal) (rfl:y0=y0)) (ai h1 (ai u1 (ai h2 (ai (xL u2) (xVU (alts:=[⟨Unit,.normal,fun _=>[],fun _=>[],fun _ σ=>Qn σ⟩]) ⟨Unit,.normal,fun _=>[],fun _=>[],fun _ σ=>Qn σ⟩ () nx in0))))))))
theorem yIX (hb:∀ k dP σ,Inv k dP σ→zLO lo BA BC BD BE y BG nO qI lL cK dP σ (NX1 Inv k) Q4):∀ k dP σ,Inv k dP σ→zSJ lo BA BC BD BE y BG nO qI lL cK dP σ Q4 :=
 xE (ai (wA 4) trivial) hb
theorem yWI:let s1:=σ.row [.int .u8 0,.nilFunc] 2;let s2:=s1.own σ.y [.int .u8 nT,.func (.func fC) ⟨[]⟩ ⟨eN⟩] 2;∀ (h1:lz σ 118 (zL qI_a (Int.toNat dP*2)) (qf [.int .u8 nT,.func (.func fC) ⟨[]⟩ ⟨eN⟩])) (h2:lz s2 34 (qe BA 0) (qf (wkc nFB qW lAB cW qX lBB cX nGB nJB nBL))) (h3:lz s2 85 (qe BG 0) (qf (zF nBM nBN nBO nBP nBQ))) (h4:lz s2 107 ⟨BE,0+Int.toNat nO*4,none⟩ (qf (zK nBR nBS nBT nBU))) (h5:qm fC (qf (wkc nFB qW lAB cW qX lBB cX nGB nJB nBL)::iV nO::(qf (zF nBM nBN nBO nBP nBQ))::(qf (zK nBR nBS nBT nBU))::eN) s2 (.bool true) s2) (nx:Nx (dP+1) s2) (u1:dP<(lL:Int):=by omega) (u2:Ix dP lL:=by omega) (u3:Ix nO 6:=by omega) (u4:I6 (dP+1):=by omega),zLO lo BA BC BD BE y BG nO (some qI_a) lL cK dP σ Nx Q4:=
 let s1:=σ.row [.int .u8 0,.nilFunc] 2;let s2:=s1.own σ.y [.int .u8 nT,.func (.func fC) ⟨[]⟩ ⟨eN⟩] 2;fun h1 h2 h3 h4 h5 nx u1 u2 u3 u4=>kO 0 (dP+1) [.b true,.i,.l (qf [.int .u8 nT,.func (.func fC) ⟨[]⟩ ⟨eN⟩]),.g,.e undef s2,.g,.l (.func (.func fC) ⟨[]⟩ ⟨eN⟩),.l (qf (wkc nFB qW lAB cW qX lBB cX nGB nJB nBL)),.g,.l (qf (zF nBM nBN nBO nBP nBQ)),.g,.i,.l (qf (zK nBR nBS nBT nBU)),.c (.bool true) s2,.g,.n (dP+1),.g] (fun _ f=>an5 (zR u1) u2 h1 ((zC _ _ _).store (vs:=[.int .u8 nT,.func (.func fC) ⟨[]⟩ ⟨eN⟩]) rfl zCN rfl (nle rfl) rfl:qn (evL [pt σ.y 0,qf [.int .u8 nT,.func (.func fC) ⟨[]⟩ ⟨eN⟩]]) s1 (.store 118 (.tmp 0) (.tmp 1))=some (undef,s2)) ((zC _ _ _).put.rw.ld yXA (k:=1) rfl:lz s2 116 (qe σ.y 1) (.func (.func fC) ⟨[]⟩ ⟨eN⟩)) (an6 h2 h3 u3 h4 h5 (w64 u4) f)) nx
theorem yWH:let s1:=σ.row [.int .u8 0,.nilFunc] 2;let s2:=s1.own σ.y [.int .u8 nT,.func (.func fC) ⟨[]⟩ ⟨eN⟩] 2;∀ (h1:lz σ 118 (zL qI_a (Int.toNat dP*2)) (qf [.int .u8 nT,.func (.func fC) ⟨[]⟩ ⟨eN⟩])) (h2:lz s2 34 (qe BA 0) (qf (wkc nFB qW lAB cW qX lBB cX nGB nJB nBL))) (h3:lz s2 85 (qe BG 0) (qf (zF nBM nBN nBO nBP nBQ))) (h4:lz s2 107 ⟨BE,0+Int.toNat nO*4,none⟩ (qf (zK nBR nBS nBT nBU))) (h5:qm fC (qf (wkc nFB qW lAB cW qX lBB cX nGB nJB nBL)::iV nO::(qf (zF nBM nBN nBO nBP nBQ))::(qf (zK nBR nBS nBT nBU))::eN) s2 (.bool false) s2) (h6:lz s2 36 (qe BD 0) (.slice qLB lPB cMB)) (h7:yG Pg 36 36 (.slice qLB lPB cMB) (.slice (some ⟨(σ.y+1),0,none⟩) 1 1) (s2.row (rcd nT nO y) 3)=some (.slice qMB lQB cNB,σWB)) (h8:qn (evL [pt BD 0,.slice qMB lQB cNB]) σWB (.store 36 (.tmp 0) (.tmp 1))=some (undef,σXB)) (nx:Nx (dP+1) σXB) (u1:dP<(lL:Int):=by omega) (u2:Ix dP lL:=by omega) (u3:Ix nO 6:=by omega) (u4:I6 (dP+1):=by omega),zLO lo BA BC BD BE y BG nO (some qI_a) lL cK dP σ Nx Q4:=
 let s1:=σ.row [.int .u8 0,.nilFunc] 2;let s2:=s1.own σ.y [.int .u8 nT,.func (.func fC) ⟨[]⟩ ⟨eN⟩] 2;fun h1 h2 h3 h4 h5 h6 h7 h8 nx u1 u2 u3 u4=>kO 0 (dP+1) [.b true,.i,.l (qf [.int .u8 nT,.func (.func fC) ⟨[]⟩ ⟨eN⟩]),.g,.e undef s2,.g,.l (.func (.func fC) ⟨[]⟩ ⟨eN⟩),.l (qf (wkc nFB qW lAB cW qX lBB cX nGB nJB nBL)),.g,.l (qf (zF nBM nBN nBO nBP nBQ)),.g,.i,.l (qf (zK nBR nBS nBT nBU)),.c (.bool false) s2,.g,.l (.slice qLB lPB cMB),.g,.l (.int .u8 nT),.g,.g,.g,.g,.e (.slice qMB lQB cNB) σWB,.e undef σXB,.n (dP+1),.g] (fun _ f=>an3 (zR u1) u2 h1 (an6 ((zC _ _ _).store (vs:=[.int .u8 nT,.func (.func fC) ⟨[]⟩ ⟨eN⟩]) rfl zCN rfl (nle rfl) rfl:qn (evL [pt σ.y 0,qf [.int .u8 nT,.func (.func fC) ⟨[]⟩ ⟨eN⟩]]) s1 (.store 118 (.tmp 0) (.tmp 1))=some (undef,s2)) ((zC _ _ _).put.rw.ld yXA (k:=1) rfl:lz s2 116 (qe σ.y 1) (.func (.func fC) ⟨[]⟩ ⟨eN⟩)) h2 h3 u3 h4 (an6 h5 h6 ((zC _ _ _).put.rw.ld xTB (k:=0) rfl:lz s2 5 (qe σ.y 0) (.int .u8 nT)) h7 h8 (w64 u4) f))) nx
theorem yWG (nx:Q4 σ) (u1:¬ dP<(lL:Int):=by omega):zLO lo BA BC BD BE y BG nO qI lL cK dP σ Nx Q4 :=
 kO 1 () [.b false] (fun _ f=>ai (zU u1) f) nx
theorem yWB:let y2:=τ.re.y;let y0:=(τ.re.row (zF 0 0 0 0 0) 5).own y2 (zF aA aO ax ay aC) 5;let y1:=zBO BA BB BC BD BE ak cg fD fk g .ready none db;∀ (hl:yH τ.heap lo=some y1) (hl1:yH y0.heap lo=some y1) (hσ:σ=y0.put lo (zBO BA BB BC BD BE ak cg fD fk g .busy none db)) (h1:lz σ 26 (qe BB 0) (.slice (some qV_a) lZ cCB)) (h2:lz σ 3 (zL qV_a (Int.toNat y*1)) (iV nO)) (h3:qm 76 [] σ (.slice qI lL cK) σYB) (hL:zSJ lo BA BC BD BE y y2 nO qI lL cK 0 σYB P4) (k4:∀ σ',P4 σ'→zKH lo BA BC BD BE y y2 nO qI lL cK σ' Qn) (u1:Ix y lZ:=by omega) (u2:¬ nO=(-1):=by omega),zEZ Pg lo [iV y,qf (zF aA aO ax ay aC)] τ (Fm 92 (ov (zAJ BA BB BC BD BE ak cg fD fk) g)) [25,26] zAS uN db [⟨Unit,.normal,fun _=>[],fun _=>[],fun _ σ=>Qn σ⟩] :=
 let y2:=τ.re.y;let y0:=(τ.re.row (zF 0 0 0 0 0) 5).own y2 (zF aA aO ax ay aC) 5;fun hl hl1 hσ h1 h2 h3 hL k4 u1 u2=>yCJ hl rfl hl1 hσ [.g,.g,.e undef y0,.l (.slice (some qV_a) lZ cCB),.g,.i,.l (iV nO),.g,.g,.b false,.c (.slice qI lL cK) σYB,.g,.g,.lf 92 (zFU lo BA BC BD BE y y2 nO qI lL cK 0) [zKF lo BA BC BD BE y y2 nO qI lL cK P4]] (kc (by kernel_rfl) (ai ((zC _ _ _).store (vs:=(zF aA aO ax ay aC)) rfl vY rfl (nle rfl) rfl:qn (evL [pt τ.re.y 0,qf (zF aA aO ax ay aC)]) (τ.re.row (zF 0 0 0 0 0) 5) (.store 85 (.tmp 0) (.tmp 1))=some (undef,y0)) (ai (ai (rfl:Exit.normal=Exit.normal) (rfl:y0=y0)) (ai h1 (ai u1 (ai h2 (ai (xG u2) (ai h3 (ai (ai tt (ai (arf (zFU lo BA BC BD BE y y2 nO qI lL cK 0)) hL)) (ai (kz0 k4) trivial))))))))))
theorem yIT (h1:lz σ 107 ⟨BE,0+Int.toNat nO*4,none⟩ (qf (zK nBv nBw nBx nBy))) (h2:lz σ 85 (qe BG 0) (qf (zF nBz nB0 nB1 nB2 nB3))) (h3:lz σ 26 (qe BC 0) (.slice (some qNB_a) lRB cWB)) (h4:lz σ 3 (zL qNB_a (Int.toNat y*1)) (iV nB4)) (h5:qm 77 [qf (zK nBv nBw nBx nBy),qf (zF nBz nB0 nB1 nB2 nB3),iV nB4] σ (qf (zK nB5 nB6 nB7 nB8)) σ) (h6:qn (evL [pt BE (0+Int.toNat nO*4),qf (zK nB5 nB6 nB7 nB8)]) σ (.store 107 (.tmp 0) (.tmp 1))=some (undef,σZB)) (nx:Qn σZB) (u1:Ix nO 6:=by omega) (u2:Ix y lRB:=by omega):zKH lo BA BC BD BE y BG nO qI lL cK σ Qn :=
 sK [.g,.g,.i,.l (qf (zK nBv nBw nBx nBy)),.l (qf (zF nBz nB0 nB1 nB2 nB3)),.l (.slice (some qNB_a) lRB cWB),.g,.i,.l (iV nB4),.c (qf (zK nB5 nB6 nB7 nB8)) σ,.i,.e undef σZB,.fin ⟨Unit,.normal,fun _=>[],fun _=>[],fun _ σ=>Qn σ⟩ ()] (an3 u1 h1 h2 (an6 h3 u2 h4 h5 u1 h6 (xVU (alts:=[⟨Unit,.normal,fun _=>[],fun _=>[],fun _ σ=>Qn σ⟩]) ⟨Unit,.normal,fun _=>[],fun _=>[],fun _ σ=>Qn σ⟩ () nx in0)))
theorem yWK {Nx:Int→(List Nat)→St→Prop} (h1:lz σ 34 (qe BA 0) (qf (wkc nE qD lG cE qF lH cG nB nA nF))) (h2:qm 75 [qf (wkc nE qD lG cE qF lH cG nB nA nF),iV cg] σ (.func (.func fD) ⟨[]⟩ ⟨fk⟩) σE) (hL:yFQ BA BB BC BD BE ak cg fD fk σE Pn) (kn:∀ σ',Pn σ'→zUJ BA BB BC BD BE ak cg fD fk (σE.y::eP) σ' Nx Q0) (u1:cg<ak:=by omega):zSL BA BB BC BD BE ak cg eP σ Nx Q0 :=
 zCT [.b true,.g,.g,.l (qf (wkc nE qD lG cE qF lH cG nB nA nF)),.g,.c (.func (.func fD) ⟨[]⟩ ⟨fk⟩) σE,.rf 92 (zAJ BA BB BC BD BE ak cg fD fk) [(.normal,Pn)]] (fun g=>kd (an3 (zR u1) h1 h2 (ai (ai tt (ai (arf (zAJ BA BB BC BD BE ak cg fD fk)) hL)) (ai (kz kn) trivial))))
theorem yWJ {Nx:Int→(List Nat)→St→Prop} (nx:Q0 eP σ) (u1:¬ cg<ak:=by omega):zSL BA BB BC BD BE ak cg eP σ Nx Q0 :=
 kO 1 eP [.b false] (fun _ f=>ai (zU u1) f) nx
theorem yIU {Nx:Int→(List Nat)→St→Prop} (nx:Nx (cg+1) ms σ) (u1:I6 (cg+1):=by omega):zUJ BA BB BC BD BE ak cg fD fk ms σ Nx Q0 :=
 sF 0 (cg+1,ms) [.n (cg+1),.g] (fun _ f=>ai (w64 u1) f) nx
theorem xFI:let s1:=σ.row (wkc ak af ac ad ae aa ab ao au aj) 6;let s2:=s1.row [.slice roster aG aN] 1;let s3:=s2.row [.slice truth fW fX] 1;let s4:=s3.row [.slice none 0 0] 1;let s5:=σ.y+4;let s6:=σ.y+3;let s7:=σ.y+2;let s8:=σ.y+1;∀ (h1:qm 74 [qf (wkc ak af ac ad ae aa ab ao au aj)] s4 (qf cs1) s4) (h2:qn (evL [pt s5 0,qf cs1]) (s4.row [iV 0,iV 0,iV 0,iV 0,iV 0,iV 0,iV 0,iV 0,iV 0,iV 0,iV 0,iV 0,iV 0,iV 0,iV 0,iV 0,iV 0,iV 0,iV 0,iV 0,iV 0,iV 0,iV 0,iV 0] 4) (.store 109 (.tmp 0) (.tmp 1))=some (undef,σ2)) (h3:lz σ2 3 (qe σ.y 0) (iV ak)) (hL:zSK σ.y s8 s7 s6 s5 ak 0 [] σ2 P0) (k0:∀ ms_1' σ',P0 ms_1' σ'→zUK σ.y s8 s7 s6 s5 ak ms_1' σ' Q),qg 54 [qf (wkc ak af ac ad ae aa ab ao au aj),.slice roster aG aN,.slice truth fW fX] σ Q:=
 let s1:=σ.row (wkc ak af ac ad ae aa ab ao au aj) 6;let s2:=s1.row [.slice roster aG aN] 1;let s3:=s2.row [.slice truth fW fX] 1;let s4:=s3.row [.slice none 0 0] 1;let s5:=σ.y+4;let s6:=σ.y+3;let s7:=σ.y+2;let s8:=σ.y+1;fun h1 h2 h3 hL k0=>zG [.g,.g,.g,.g,.l (qf (wkc ak af ac ad ae aa ab ao au aj)),.c (qf cs1) s4,.g,.e undef σ2,.g,.l (iV ak),.g,.lf 92 (zFV σ.y s8 s7 s6 s5 ak 0 []) [zEL σ.y s8 s7 s6 s5 ak P0]] (kd (an4 ((zC _ _ _).row.row.row.rw.ldN xW xC (k:=0) rfl rfl (nle rfl):lz s4 34 (qe σ.y 0) (qf (wkc ak af ac ad ae aa ab ao au aj))) h1 h2 h3 (ai (ai tt (ai (arf (zFV σ.y s8 s7 s6 s5 ak 0 [])) hL)) (ai (kz1 k0) trivial))))
theorem yIW (hb:∀ k dG σ,Inv k dG σ→zLN BA BD BE lK eW dG σ (NX1 Inv k) Q6):∀ k dG σ,Inv k dG σ→zSI BA BD BE lK eW dG σ Q6 :=
 xE (ai (wA 6) trivial) hb
theorem yWF (h1:lz σ 3 ⟨BE,0+Int.toNat dG*4+2,none⟩ (iV nCB)) (h2:lz σ 3 (qe BA 5) (iV nHB)) (h3:lz σ 36 (qe BD 0) (.slice qOB lSB cOB)) (h4:yG Pg 36 36 (.slice qOB lSB cOB) (.slice (some (qe σ.y 0)) 1 1) (σ.row (rcd 5 dG 0) 3)=some (.slice qPB lTB cPB,σAC)) (h5:qn (evL [pt BD 0,.slice qPB lTB cPB]) σAC (.store 36 (.tmp 0) (.tmp 1))=some (undef,σBC)) (nx:Nx (dG+1) σBC) (u1:dG<(lK:Int):=by omega) (u2:Ix dG 6:=by omega) (u3:nHB<nCB:=by omega) (u4:I6 (dG+1):=by omega):zLN BA BD BE lK eW dG σ Nx Q6 :=
 kO 0 (dG+1) [.b true,.g,.g,.g,.i,.g,.l (iV nCB),.g,.l (iV nHB),.b true,.l (.slice qOB lSB cOB),.g,.g,.g,.e (.slice qPB lTB cPB) σAC,.e undef σBC,.n (dG+1),.g] (fun _ f=>an3 (zR u1) u2 h1 (an6 h2 (zR u3) h3 h4 h5 (w64 u4) f)) nx
theorem yWE (h1:lz σ 3 ⟨BE,0+Int.toNat dG*4+2,none⟩ (iV nCB)) (h2:lz σ 3 (qe BA 5) (iV nHB)) (nx:Nx (dG+1) σ) (u1:dG<(lK:Int):=by omega) (u2:Ix dG 6:=by omega) (u3:¬ nHB<nCB:=by omega) (u4:I6 (dG+1):=by omega):zLN BA BD BE lK eW dG σ Nx Q6 :=
 kO 0 (dG+1) [.b true,.g,.g,.g,.i,.g,.l (iV nCB),.g,.l (iV nHB),.b false,.n (dG+1),.g] (fun _ f=>an6 (zR u1) u2 h1 h2 (zU u3) (w64 u4) f) nx
theorem yWD (nx:Q6 σ) (u1:¬ dG<(lK:Int):=by omega):zLN BA BD BE lK eW dG σ Nx Q6 :=
 kO 1 () [.b false] (fun _ f=>ai (zU u1) f) nx
theorem yIV (h1:lz σ 32 (qe BA 2) (.slice qO lK cP)) (hL:zSI BA BD BE lK eP 0 σ P6) (k6:∀ σ',P6 σ'→zKG BA BD BE lK eP σ' Q):zUK BA BB BC BD BE ak eP σ Q :=
 sK [.g,.l (.slice qO lK cP),.g,.g,.lf 92 (zFT BA BD BE lK eP 0) [zKE BA BD BE lK eP P6]] (ai h1 (ai (ai tt (ai (arf (zFT BA BD BE lK eP 0)) hL)) (ai (kz0 k6) trivial)))
theorem zQE (h1:lz σ 36 (qe BD 0) (.slice qQB lUB cQB)) (h2:qm 78 [.slice qQB lUB cQB,.func (.func 79) ⟨[]⟩ ⟨[]⟩] σ (.tuple ⟨[]⟩) σCB) (h3:lz σCB 36 (qe BD 0) (.slice qRB lVB cRB)) (h4:qn (evL [pt BD 0,.slice qRB lVB cRB]) σCB (.store 36 (.tmp 0) (.tmp 1))=some (undef,σCC)) (h5:xAH eW σCC fy) (h6:lz fy 36 (qe BD 0) (.slice qCB lHB cDB)) (nx:Q (.slice qCB lHB cDB) fy):zKG BA BD BE lK eW σ Q :=
 sK [.l (.slice qQB lUB cQB),.c (.tuple ⟨[]⟩) σCB,.l (.slice qRB lVB cRB),.e undef σCC,.l (.slice qCB lHB cDB)] (an4 h1 h2 h3 h4 (zMR (K:=(fun fy=>lz fy 36 (qe BD 0) (.slice qCB lHB cDB)∧Q (.slice qCB lHB cDB) fy)) h5 (ai h6 nx)))
theorem xDJ {Q0:St→Prop} (hb:∀ k bU σ,Inv k bU σ→yHT l v1 q1 l1 c1 bU σ (NX1 Inv k) Qr Q0):∀ k bU σ,Inv k bU σ→xJO l v1 q1 l1 c1 bU σ Qr Q0 :=
 xE (ai zAN (ai (wA 0) trivial)) hb
theorem xQT {Q0:St→Prop}:let s1:=σ.row (zF 0 0 0 0 0) 5;let s2:=s1.own σ.y (zF nE nG nD nB nA) 5;let y0:=zF nE nG nD nB nA;∀ (h1:lz σ 85 (zL fZ (Int.toNat bU*5)) (qf y0)) (h2:lz s2 3 v1 (iV nF)) (h3:yXM Pg l [iV bU,qf y0] s2 (.bool true) σE) (nx:Nx (bU+1) σE) (u1:bU<(l1:Int):=by omega) (u2:Ix bU l1:=by omega) (u3:nE=nF:=by omega) (u4:I6 (bU+1):=by omega),yHT l v1 (some fZ) l1 c1 bU σ Nx Qr Q0:=
 let s1:=σ.row (zF 0 0 0 0 0) 5;let s2:=s1.own σ.y (zF nE nG nD nB nA) 5;let y0:=zF nE nG nD nB nA;fun h1 h2 h3 nx u1 u2 u3 u4=>kO 0 (bU+1) [.b true,.g,.i,.l (qf y0),.g,.g,.e undef s2,.g,.l (iV nE),.l (iV nF),.b true,.g,.g,.g,.l (qf y0),.c (.bool true) σE,.g,.g,.n (bU+1),.g] (fun _ f=>an4 (zR u1) u2 h1 ((zC _ _ _).store (vs:=y0) rfl vY rfl (nle rfl) rfl:qn (evL [pt σ.y 0,qf y0]) s1 (.store 85 (.tmp 0) (.tmp 1))=some (undef,s2)) (an6 ((zC _ _ _).put.rw.ld zT (k:=0) rfl:lz s2 3 (qe σ.y 0) (iV nE)) h2 (xL u3) ((zC _ _ _).put.rw.ldN zMM vY (k:=0) rfl rfl (nle rfl):lz s2 85 (qe σ.y 0) (qf y0)) h3 (w64 u4) f)) nx
theorem xQS {Q0:St→Prop}:let s1:=σ.row (zF 0 0 0 0 0) 5;let s2:=s1.own σ.y (zF nE nG nD nB nA) 5;let y0:=zF nE nG nD nB nA;∀ (h1:lz σ 85 (zL fZ (Int.toNat bU*5)) (qf y0)) (h2:lz s2 3 v1 (iV nF)) (nx:Nx (bU+1) s2) (u1:bU<(l1:Int):=by omega) (u2:Ix bU l1:=by omega) (u3:¬ nE=nF:=by omega) (u4:I6 (bU+1):=by omega),yHT l v1 (some fZ) l1 c1 bU σ Nx Qr Q0:=
 let s1:=σ.row (zF 0 0 0 0 0) 5;let s2:=s1.own σ.y (zF nE nG nD nB nA) 5;let y0:=zF nE nG nD nB nA;fun h1 h2 nx u1 u2 u3 u4=>kO 0 (bU+1) [.b true,.g,.i,.l (qf y0),.g,.g,.e undef s2,.g,.l (iV nE),.l (iV nF),.b false,.g,.g,.n (bU+1),.g] (fun _ f=>an2 (zR u1) u2 (an6 h1 ((zC _ _ _).store (vs:=y0) rfl vY rfl (nle rfl) rfl:qn (evL [pt σ.y 0,qf y0]) s1 (.store 85 (.tmp 0) (.tmp 1))=some (undef,s2)) ((zC _ _ _).put.rw.ld zT (k:=0) rfl:lz s2 3 (qe σ.y 0) (iV nE)) h2 (xG u3) (w64 u4) f)) nx
theorem xQR {Q0:St→Prop} (nx:Q0 σ) (u1:¬ bU<(l1:Int):=by omega):yHT l v1 q1 l1 c1 bU σ Nx Qr Q0 :=
 kO 2 () [.b false] (fun _ f=>ai (zU u1) f) nx
theorem xVD {P0:St→Prop} (h1:lz σ 31 (zL v0 1) (.slice q1 l1 c1)) (hL:xJO l v1 q1 l1 c1 0 σ Pr P0) (kr:∀ σ',Pr σ'→xJP l v1 q1 l1 c1 σ' Q) (k0:∀ σ',P0 σ'→yMR l v1 q1 l1 c1 σ' Q):qg 91 [.func (.yield l) ⟨[]⟩ ⟨[]⟩,pz v0,pz v1] σ Q :=
 zG [.g,.l (.slice q1 l1 c1),.g,.g,.lf 26 (zYE l v1 q1 l1 c1 0) [zYF l v1 q1 l1 c1 Pr,zYG l v1 q1 l1 c1 P0]] (kd (ai h1 (ai (ai tt (ai (arf (zYE l v1 q1 l1 c1 0)) hL)) (ai (kz0 kr) (ai (kz0 k0) trivial)))))
theorem xDI (nx:Q (.tuple ⟨[]⟩) σ):yMR l v1 q1 l1 c1 σ Q :=
 sK [] nx
end
theorem xNN:AppT Tryz.prog 36 36 45 3:=zQH (by kernel_rfl)
theorem xMQ (b:Bch):zHA Tryz.prog 45 3 (yPM b):=.inr ⟨xNX,yGN,_,rfl,rfl⟩
structure J (σ:St) (wl:List Value) (rv tv:Value) (X:Nat→Prop) (f:Nat→Std) (A:List Bch) (τ:St):Prop where
 new:New σ.re τ
 wk:Row τ ⟨σ.y,0,none⟩ wl
 ro:Row τ ⟨σ.y+1,0,none⟩ [rv]
 tr:Row τ ⟨σ.y+2,0,none⟩ [tv]
 nw:Own τ (σ.y+4) (stL f) 4
 out:∃ po co,Own τ (σ.y+3) [.slice po A.length co] 1∧Gr Tryz.prog τ (σ.y+5) 45 3 po A.length co (A.map yPM)∧∀ b,AtP po b→¬ X b
section
variable {σ τ τ':St} {wl:List Value} {rv tv:Value} {X:Nat→Prop} {f:Nat→Std} {A:List Bch}
theorem J.le (h:J σ wl rv tv X f A τ) (k:Le τ τ') (n:New σ.re τ'):J σ wl rv tv X f A τ':=by
 obtain ⟨po,co,h1,h2,h3⟩:=h.out;exact ⟨n,h.wk.le k,h.ro.le k,h.tr.le k,h.nw.le k,po,co,h1.le k,h2.le k,h3⟩
theorem J.mono {Y:Nat→Prop} (h:J σ wl rv tv X f A τ) (k:∀ b,b<τ.y→σ.y+5≤b→Y b→X b):J σ wl rv tv Y f A τ:=by
 obtain ⟨po,co,h1,h2,h3⟩:=h.out;exact ⟨h.new,h.wk,h.ro,h.tr,h.nw,po,co,h1,h2,fun b hb hy=>h3 b hb (k b (h2.bd hb).2 (h2.bd hb).1 hy)⟩
theorem J.push (h:J σ wl rv tv X f A τ) (k:Le τ τ') (n:New σ.re τ') (b:Bch) (hA:A.length≤1000) (hX3:¬ X (σ.y+3)) (hX:∀ x,X x→x<τ.y) :
    ∃ po co,zB Tryz.prog τ' 36 ⟨σ.y+3,0,none⟩=some (.slice po A.length co)∧∃ p' c' τ2,yG Tryz.prog 36 36 (.slice po A.length co) (.slice (some ⟨τ'.y,0,none⟩) 1 1) (τ'.row (rcd b.kind b.drv b.dut) 3)=some (.slice p' (A++[b]).length c',τ2) ∧
      zQ Tryz.prog (evL [.pointer (some ⟨σ.y+3,0,none⟩),.slice p' (A++[b]).length c']) τ2 (.store 36 (.tmp 0) (.tmp 1))=some (undef,τ2.own (σ.y+3) [.slice p' (A++[b]).length c'] 1) ∧
      J σ wl rv tv X f (A++[b]) (τ2.own (σ.y+3) [.slice p' (A++[b]).length c'] 1)∧Only (fun x=>¬ X x) τ' (τ2.own (σ.y+3) [.slice p' (A++[b]).length c'] 1):=by
  obtain ⟨po,co,o,hg,hf⟩:=h.out;have hnx:σ.y+5≤τ.y:=by have:=h.nw.lt;omega
  obtain ⟨p',c',τ2,g1,g2,g3,g4⟩:=yNT (yPM b) xNN hg k (xMQ b) (by omega) hnx;have el:(A++[b]).length=A.length+1:=by simp
  rw [← el] at g1;have g2':Gr Tryz.prog τ2 (σ.y+5) 45 3 p' (A++[b]).length c' ((A++[b]).map yPM):=by rw [el,List.map_append];exact g2
  have hpo:∀ x,AtP po x→σ.y+5≤x:=fun x hx=>(hg.bd hx).1
  have O1:Only (AtP po) τ' τ2:=(Only.row τ' _ _).trans' g3 (fun b _ hb=>.inl hb);have o':Own τ' (σ.y+3) [.slice po A.length co] 1:=o.le k;have o2:Own τ2 (σ.y+3) [.slice po A.length co] 1:=O1.own' o' (fun hx=>by have:=hpo _ hx;omega);have hp':∀ x,AtP p' x→σ.y+5≤x:=fun x hx=>(g2'.bd hx).1
  have nkeep:∀ {a:Addr} {cs:List Value},Row τ a cs→a.block<σ.y+3→Row (τ2.own (σ.y+3) [.slice p' (A++[b]).length c'] 1) a cs:=fun hr hlt=>(O1.rw' (hr.le k) (fun hx=>by have:=hpo _ hx;omega)).own (by omega)
  have O2:Only (fun x=>¬ X x) τ' (τ2.own (σ.y+3) [.slice p' (A++[b]).length c'] 1):=by
    refine (O1.mono (T:=fun x=>¬ X x) (fun x _ hx=>hf x hx)).trans' (Only.own (S:=(·=σ.y+3)) (.inr rfl)) ?_
    rintro x _ rfl;exact .inl hX3
  refine ⟨po,co,o'.ld (k:=0) rfl yPT rfl,p',c',τ2,g1,o2.store (k:=0) (vs:=[.slice p' (A++[b]).length c']) rfl yQW rfl (by simp) rfl,⟨?_,nkeep h.wk (by show σ.y<_;omega),nkeep h.ro (by show σ.y+1<_;omega),nkeep h.tr (by show σ.y+2<_;omega), ?_,p',c',o2.put, ?_, ?_⟩,O2⟩
  · exact (n.of_only O1 (fun x hx=>by have:=hpo x hx;show σ.y≤x;omega)).own (by show σ.y≤σ.y+3;omega)
  · exact (O1.own' (h.nw.le k) (fun hx=>by have:=hpo _ hx;omega)).own (by omega)
  · exact g2'.only (Only.own (S:=(·=σ.y+3)) (.inr rfl)) (fun x hx e=>by have:=hp' x hx;omega)
  · intro x hx hXx;rcases g4 x hx with h1 | h1
    · exact hf x h1 hXx
    · have:=hX x hXx;have:=k.y;omega
theorem J.take (h:J σ wl rv tv X f A τ) {i:Nat} (hi:i<6) (s:Std) (hX4:¬ X (σ.y+4)) :
    zQ Tryz.prog (evL [.pointer (some ⟨σ.y+4,0+Int.toNat (i:Int)*4,none⟩),zLS s]) τ (.store 107 (.tmp 0) (.tmp 1))=some (undef,τ.own (σ.y+4) (stL (upd f i s)) 4) ∧
      J σ wl rv tv X (upd f i s) A (τ.own (σ.y+4) (stL (upd f i s)) 4)∧Only (fun x=>¬ X x) τ (τ.own (σ.y+4) (stL (upd f i s)) 4):=by
  obtain ⟨po,co,o,hg,hf⟩:=h.out;refine ⟨yQR h.nw hi s,⟨h.new.own (by show σ.y≤σ.y+4;omega),h.wk.own (by show σ.y≠_;omega),h.ro.own (by show σ.y+1≠_;omega),h.tr.own (by show σ.y+2≠_;omega),h.nw.put,po,co,o.own (by omega), ?_,hf⟩, ?_⟩
  · exact hg.only (Only.own (S:=(·=σ.y+4)) (.inr rfl)) (fun x hx e=>by have:=(hg.bd hx).1;omega)
  · exact (Only.own (S:=(·=σ.y+4)) (.inr rfl)).mono (fun x _ e=>by rw [e];exact hX4)
end
def zMK (w:Wk) (k i:Nat) (s:Std) (j:Nat):List Bch:=(List.range j).filterMap fun n=>if holds w n (drv w k) (dty w i) s then none else some ⟨n,k,i⟩
theorem xSK {w:Wk} {k i:Nat} {s:Std} {j:Nat}:zMK w k i s (j+1)=zMK w k i s j++(if holds w j (drv w k) (dty w i) s then [] else [⟨j,k,i⟩]):=by
 unfold zMK;rw [List.range_succ,List.filterMap_append];simp only [List.filterMap_cons,List.filterMap_nil];split <;> simp_all
theorem xFH {w:Wk} {k i:Nat} {s:Std} {j:Nat}:(zMK w k i s j).length≤j:=by
 unfold zMK;have:=List.length_filterMap_le (fun n=>if holds w n (drv w k) (dty w i) s=true then none else some (⟨n,k,i⟩:Bch)) (List.range j);simpa using this
abbrev yCY:List Value:=[.int .u8 0,.func (.func 92) ⟨[]⟩ ⟨[]⟩,.int .u8 1,.func (.func 93) ⟨[]⟩ ⟨[]⟩,.int .u8 2,.func (.func 94) ⟨[]⟩ ⟨[]⟩,.int .u8 3,.func (.func 95) ⟨[]⟩ ⟨[]⟩,.int .u8 4,.func (.func 96) ⟨[]⟩ ⟨[]⟩]
section
variable {σ τ:St} {w:Wk} {p q:Option Addr} {l m c d:Nat} {rv tv:Value} {X:Nat→Prop} {f:Nat→Std} {A:List Bch}
theorem zVG {b j:Nat} (h:Row τ ⟨b,0,none⟩ yCY) (hj:j<5):zB Tryz.prog τ 118 (zL ⟨b,0,none⟩ (Int.toNat (j:Int)*2))=some (.agg ⟨[.int .u8 (j:Int),.func (.func (92+j)) ⟨[]⟩ ⟨[]⟩]⟩):=by
 rw [Int.toNat_natCast];match j,hj with
 | 0,_=>exact h.loadN (k:=0) zOA zCN rfl rfl (by simp)
 | 1,_=>exact h.loadN (k:=2) zOA zCN rfl rfl (by simp)
 | 2,_=>exact h.loadN (k:=4) zOA zCN rfl rfl (by simp)
 | 3,_=>exact h.loadN (k:=6) zOA zCN rfl rfl (by simp)
 | 4,_=>exact h.loadN (k:=8) zOA zCN rfl rfl (by simp)
theorem xNK {lo B3 bq k i:Nat} (h:WkP σ 85 88 w p l q m) (hsh:zCF w) (hm:m≤6) (hk:k<m) (hi:i<l) (hs:StOk (f k)) (hx:DtOk (dty w i)) (hA:A.length≤500)
  (hJ:J σ (wkc w.days p l c q m d w.rest w.run w.hours) rv tv X f A τ) (hB:Row τ ⟨B3,0,none⟩ (zF (dty w i).day (dty w i).on (dty w i).lo (dty w i).hi (dty w i).route)) (hq:Row τ ⟨bq,0,none⟩ yCY)
  (hXB:X B3) (hXq:X bq) (hX3:¬ X (σ.y+3)) (hX:∀ x,X x→x<τ.y) :
  zSJ lo σ.y (σ.y+2) (σ.y+3) (σ.y+4) (i:Int) B3 (k:Int) (some ⟨bq,0,none⟩) 5 5 0 τ (fun z=>J σ (wkc w.days p l c q m d w.rest w.run w.hours) rv tv X f (A++zMK w k i (f k) 5) z∧Only (fun x=>¬ X x) τ z):=by
 refine yIX (Inv:=fun k' i35 z=>∃ j:Nat,i35=j∧j+k'=5∧J σ (wkc w.days p l c q m d w.rest w.run w.hours) rv tv X f (A++zMK w k i (f k) j) z∧Only (fun x=>¬ X x) τ z) ?_ 5 0 τ ⟨0,rfl,rfl,by simpa [zMK] using hJ,Only.refl _ _⟩;rintro k' i35 z ⟨j,rfl,hk',hJz,O⟩;by_cases hj:j<5;rotate_left
 ·have:j=5:=by omega
  subst this;exact yWG ⟨hJz,O⟩ (by omega)
 have hqz:Row z ⟨bq,0,none⟩ yCY:=O.rw' hq (fun hh=>hh hXq);have hBz:=O.rw' hB (fun hh=>hh hXB);obtain ⟨z1,hz1⟩:∃ z1,z1=(z.row [.int .u8 0,.nilFunc] 2).own z.y [.int .u8 (j:Int),.func (.func (92+j)) ⟨[]⟩ ⟨[]⟩] 2:=⟨_,rfl⟩;have L1:Le z z1:=by rw [hz1];exact (Le.row z [.int .u8 0,.nilFunc] 2).own (Nat.le_refl _)
 have N1:New σ.re z1:=by rw [hz1];exact hJz.new.row'.own hJz.new.le.y
 have O1:Only (fun x=>¬ X x) z z1:=by
  have:New z z1:=by rw [hz1];exact (New.row z [.int .u8 0,.nilFunc] 2).own (Nat.le_refl _)
  exact this.only
 have J1:=hJz.le L1 N1;have LS:Le σ z1:=(le0 σ).trans N1.le;have lw:zB Tryz.prog z1 34 ⟨σ.y,0,none⟩=some (.agg ⟨wkc w.days p l c q m d w.rest w.run w.hours⟩):=J1.wk.ldN (k:=0) xW xC (ds:=wkc w.days p l c q m d w.rest w.run w.hours) rfl rfl (by simp);have lb:zB Tryz.prog z1 85 ⟨B3,0,none⟩=some (zBM (dty w i)):=(hBz.le L1).ldN (k:=0) zMM vY (ds:=zF (dty w i).day (dty w i).on (dty w i).lo (dty w i).hi (dty w i).route) rfl rfl (by simp);have ls:=yGJ J1.nw (i:=k) (by omega);have ca:=xTU (c:=c) (d:=d) (h.le LS) hsh hk hs hx hj;have es:=xSK (w:=w) (k:=k) (i:=i) (s:=f k) (j:=j);have hcl:=xFH (w:=w) (k:=k) (i:=i) (s:=f k) (j:=j);cases hb:holds w j (drv w k) (dty w i) (f k) with
 | true =>
  rw [hb] at ca es;rw [if_pos rfl,List.append_nil] at es;rw [hz1] at lw lb ls ca J1 O1;refine yWI (zVG hqz hj) lw lb ls ca ⟨k' - 1,by omega,j+1,by omega,by omega, ?_,O.trans' O1 (fun b _ hb=>.inl hb)⟩ (by omega) (by omega) (by omega) (by omega);rw [es];exact J1
 | false =>
  rw [hb] at ca es;rw [if_neg (by simp)] at es;obtain ⟨po,co,g1,p',c',z2,g2,g3,g4,g5⟩:=hJz.push L1 N1 ⟨j,k,i⟩ (by rw [List.length_append];omega) hX3 (fun x hx=>Nat.lt_of_lt_of_le (hX x hx) O.y);rw [hz1] at lw lb ls ca g1 g2 O1 g5;refine yWH (zVG hqz hj) lw lb ls ca g1 g2 g3 ⟨k' - 1,by omega,j+1,by omega,by omega, ?_,(O.trans' O1 (fun b _ hb=>.inl hb)).trans' g5 (fun b _ hb=>.inl hb)⟩ (by omega) (by omega) (by omega) (by omega);rw [es,← List.append_assoc];exact g4
end
end Go.Proofs.YtgfiniccfpfplaaGreat
