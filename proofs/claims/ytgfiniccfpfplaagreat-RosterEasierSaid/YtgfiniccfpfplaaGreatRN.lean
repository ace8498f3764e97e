import Derived.Test.YtgfiniccfpfplaaGreatXE
import Derived.Test.YtgfiniccfpfplaaGreatTy
import Derived.Test.YtgfiniccfpfplaaGreatLayD
set_option linter.unusedVariables false
set_option linter.unusedSimpArgs false
set_option maxRecDepth 20000
namespace Go.Proofs.YtgfiniccfpfplaaGreat
open Go Go.Lay
open Tryz renaming prog -> Pg
section
open Go.Sort (swp)
def Cmp (g:FuncId) (gc:List Value) (lt:Rec->Rec->Bool) (V:Rec->Prop):Prop:=∀ (τ:St) (x y:Rec),V x->V y->∃ n:Int,zD Pg g (zEL x::zEL y::gc) τ (iV n) τ/\(n<0↔lt x y=true)
def xT (V:Rec->Prop) (d:Array Rec):Prop:=∀ i,i<d.size->V d[i]!
theorem xA (d:Array Rec) (i j:Nat):(swp d i j).size=d.size:=by simp [swp]
theorem xBP (d:Array Rec) (i k:Nat) (x:Rec) (hk:k<d.size):(d.setIfInBounds i x)[k]! = if i=k then x else d[k]! := by
 rw [getElem!_pos _ k (by simpa using hk),getElem!_pos d k hk,Array.getElem_setIfInBounds]
theorem xT.swp {V:Rec->Prop} {d:Array Rec} (h:xT V d) {i j:Nat} (hi:i<d.size) (hj:j<d.size):xT V (swp d i j):=by
 intro k hk;rw [xA] at hk;unfold Go.Sort.swp;rw [xBP _ _ _ _ (by simpa using hk),xBP _ _ _ _ hk];split
 ·exact h i hi
 ·split
  ·exact h j hj
  ·exact h k hk
theorem zEF {Z Z':St} {f:FuncId} {args:List Value} {v:Value} (h:zD Pg f args Z v Z'):Z'.low<=Z.low:=by
 obtain ⟨N0,hN0⟩:=h;have hc:=hN0 N0 (Nat.le_refl _);unfold uG at hc;split at hc
 ·cases hc
 ·rename_i v1 s1 h1;unfold uH at hc;rcases Bool.eq_false_or_eq_true (Nat.ble Z.y s1.low && zW RD v1) with e | e
  ·rw [e,cond_true] at hc;simp at hc;rw [<- hc.2];exact Nat.le_refl _
  ·rw [e,cond_false] at hc;rcases Bool.eq_false_or_eq_true (Nat.ble Z.y s1.y) with e2 | e2
   ·rw [e2,cond_true,wI,zAI] at hc;simp at hc;rw [<- hc.2];show min _ _<=_;omega
   ·rw [e2,cond_false] at hc;cases hc
theorem xVS {Z s:St} {f:FuncId} {args:List Value} {v:Value} (h:∃ N0,∀ N,N0<=N->zX Pg N (.func f) args Z.re=some (v,s)) (h1:Z.y<=s.y) (h2:s.low<Z.y):zD Pg f args Z v ⟨s.heap,s.y,min Z.low s.low⟩:=by
 obtain ⟨N0,hN⟩:=h;refine ⟨N0,fun N hl=>?_⟩
 unfold uG;rw [show (⟨Z.heap,Z.y,Z.y⟩:St)=Z.re from rfl,hN N hl];show uH Z v s=_;unfold uH;have e1:(Nat.ble Z.y s.low && zW RD v)=false:=by
  rw [Bool.and_eq_false_iff];left;rw [Bool.eq_false_iff];intro e;have:=(zV _ _).1 e;omega
 have e2:Nat.ble Z.y s.y=true:=(zV _ _).2 h1;rw [e1,cond_false,e2,cond_true,wI,zAI]
structure W (Z τ:St) (b:Nat) (s:Option Nat) (d dk:Array Rec):Prop where
 only:Only (·=b) Z.re τ
 dt:Dt τ b s dk
 low:τ.low<=b\/dk=d
theorem W.start {Z:St} {b:Nat} {s:Option Nat} {d:Array Rec} (h:Dt Z b s d):W Z Z.re b s d d:=⟨Only.refl _ _,h,.inr rfl⟩
theorem W.swap {Z τ:St} {b:Nat} {s:Option Nat} {d dk:Array Rec} (w:W Z τ b s d dk) {i j:Int} (h0:0<=i) (hi:i<(dk.size:Int)) (k0:0<=j) (hj:j<(dk.size:Int)) :
  ∃ τ1 τ2,zQ Pg (evL [.pointer (some (zJ ⟨b,0,s⟩ (Int.toNat i*3))),zEL dk[j.toNat]!]) τ (.store 45 (.tmp 0) (.tmp 1))=some (undef,τ1) /\
   zQ Pg (evL [.pointer (some (zJ ⟨b,0,s⟩ (Int.toNat j*3))),zEL dk[i.toNat]!]) τ1 (.store 45 (.tmp 0) (.tmp 1))=some (undef,τ2)/\W Z τ2 b s d (swp dk i.toNat j.toNat):=by
 obtain ⟨τ1,e1,d1,o1,l1⟩:=w.dt.st dk[j.toNat]! h0 hi;obtain ⟨τ2,e2,d2,o2,l2⟩:=d1.st (i:=j) dk[i.toNat]! k0 (by simpa using hj);exact ⟨τ1,τ2,e1,e2,⟨(w.only.trans' o1 (fun b _ h=>.inl h)).trans' o2 (fun b _ h=>.inl h),d2,.inl l2⟩⟩
def uW (f:FuncId) (args:List Value) (v:Value) (Z:St) (b:Nat) (s:Option Nat) (d d':Array Rec):Prop:=∃ Z',zD Pg f args Z v Z'/\Only (·=b) Z Z'/\Dt Z' b s d'/\(Z'.low<=b\/d'=d)
theorem uW.of {f:FuncId} {args:List Value} {v:Value} {Z:St} {b:Nat} {s:Option Nat} {d d':Array Rec} (h0:Dt Z b s d) (h:zP Pg f args Z.re fun v' τ=>v'=v/\W Z τ b s d d') (hv:zW RD v=true:=by rfl):uW f args v Z b s d d':=by
  obtain ⟨_,τ,hN,rfl,w⟩:=h;by_cases hlow:τ.low<Z.y
  · have ho:Only (·=b) Z ⟨τ.heap,τ.y,min Z.low τ.low⟩:=by
      have:=w.only.lower (m:=0);exact this
    refine ⟨_,xVS hN w.only.y hlow,ho,w.dt, ?_⟩
    rcases w.low with h | h
    · exact .inl (by show min _ _<=_;omega)
    · exact .inr h
  · have hd:d'=d:=by
      rcases w.low with h | h
      · have:=h0.1;omega
      · exact h
    exact ⟨Z,zP.pure ⟨_,τ,hN,rfl,by omega⟩ hv,Only.refl _ _,by rw [hd];exact h0,.inr hd⟩
theorem W.call {Z τ:St} {b:Nat} {s:Option Nat} {d dk d':Array Rec} {f:FuncId} {args:List Value} {v:Value} (w:W Z τ b s d dk) (h:uW f args v τ b s dk d'):∃ τ',zD Pg f args τ v τ'/\W Z τ' b s d d':=by
 obtain ⟨τ',c,o,dt,hl⟩:=h;refine ⟨τ',c,w.only.trans' o (fun b _ h=>.inl h),dt, ?_⟩
 have:=zEF c;rcases hl with hl | hl
 ·exact .inl hl
 ·rcases w.low with h | h
  ·exact .inl (by omega)
  ·exact .inr (hl.trans h)
section
variable {Z:St} {b c:Nat} {s:Option Nat} {d:Array Rec} {g:FuncId} {gc:List Value} {lt:Rec->Rec->Bool} {V:Rec->Prop}
theorem zMU (lt:Rec->Rec->Bool) (a:Nat):∀ (j:Nat) (d:Array Rec),(Go.Sort.insInner lt a j d).size=d.size
 | 0,d=>rfl
 | j+1,d=>by
  unfold Go.Sort.insInner;split
  ·rw [zMU,xA]
  ·rfl
theorem zQC (lt:Rec->Rec->Bool) (a:Nat) {V:Rec->Prop}:∀ (j:Nat) (d:Array Rec),j<d.size->xT V d->xT V (Go.Sort.insInner lt a j d)
 | 0,d,_,h=>h
 | j+1,d,hj,h=>by
  unfold Go.Sort.insInner;split
  ·exact zQC lt a j _ (by rw [xA];omega) (h.swp hj (by omega))
  ·exact h
theorem xXT {a B:Nat} (h:Dt Z b s d) (hc:Cmp g gc lt V) (hv:xT V d) (hB:B<=d.size) (hn:d.size<=1000000) (ha:a<=1000000) :
  uW 106 [.slice (some ⟨b,0,s⟩) d.size c,iV (a:Int),iV (B:Int),.func (.func g) ⟨[]⟩ ⟨gc⟩] (.tuple ⟨[]⟩) Z b s d (Go.Sort.insertionSort lt d a B):=by
 refine uW.of h (xBB (P0:=fun τ=>W Z τ b s d (Go.Sort.insertionSort lt d a B)) (zZP (Inv:=fun k i τ=>∃ (j:Nat) (dk:Array Rec),i=j/\k=B-j/\W Z τ b s d dk/\dk.size=d.size/\xT V dk/\Go.Sort.insOuter lt a B j dk=Go.Sort.insertionSort lt d a B) ?_ (B-(a+1)) _ Z.re ⟨a+1,d,by omega,rfl,W.start h,rfl,hv,rfl⟩) (fun τ hw=>zZO ⟨rfl,hw⟩) (by omega));rintro k i τ ⟨j,dk,rfl,hk,w,hsz,hall,ht⟩;by_cases hj:j<B;rotate_left
 ·rw [Go.Sort.insOuter,if_neg hj] at ht;exact yOO (by rw [<- ht];exact w) (by omega)
 rw [Go.Sort.insOuter,if_pos hj] at ht;refine xMQ (P2:=fun τ'=>W Z τ' b s d (Go.Sort.insInner lt a j dk)) (yVY (Inv:=fun k' q' τ'=>∃ (q:Nat) (dq:Array Rec),q'=q/\q=k'/\q<=j/\W Z τ' b s d dq/\dq.size=d.size/\xT V dq/\Go.Sort.insInner lt a q dq=Go.Sort.insInner lt a j dk) ?_ j _ τ ⟨j,dk,rfl,rfl,Nat.le_refl _,w,hsz,hall,rfl⟩)
  (fun τ' hw=>yVX ⟨k-1,by omega,j+1,_,by omega,by omega,hw,by rw [zMU,hsz],zQC _ _ _ _ (by omega) hall,ht⟩ (by omega)) (by omega)
 rintro k' q' τ' ⟨q,dq,rfl,rfl,hq,w',hsz',hall',ht'⟩;by_cases haq:a<q;rotate_left
 ·refine xMN ?_ (by omega);have e:Go.Sort.insInner lt a q dq=dq:=by
   cases q with
   | zero=>rfl
   | succ q=>unfold Go.Sort.insInner;rw [if_neg (by simp;omega)]
  rw [<- ht',e];exact w'
 obtain ⟨p,rfl⟩:∃ p,q=p+1:=⟨q-1,by omega⟩;have l1:=w'.dt.ld (i:=((p+1:Nat):Int)) (by omega) (by omega);have l2:=w'.dt.ld (i:=((p+1:Nat):Int)-1) (by omega) (by omega);have e2:(((p+1:Nat):Int)-1).toNat=p:=by omega
 obtain ⟨n,hn1,hn2⟩:=hc τ' dq[(((p+1:Nat):Int)).toNat]! dq[(((p+1:Nat):Int)-1).toNat]! (hall' _ (by omega)) (hall' _ (by omega));by_cases hlt:n<0
 ·have hl:=hn2.1 hlt;rw [e2,Int.toNat_natCast] at hl;obtain ⟨τ1,τ2,s1,s2,w2⟩:=w'.swap (i:=((p+1:Nat):Int)) (j:=((p+1:Nat):Int)-1) (by omega) (by omega) (by omega) (by omega);rw [e2,Int.toNat_natCast] at w2;refine xMP l1 l2 hn1 s1 s2 ⟨p,by omega,p,_,by omega,rfl,by omega,w2,by rw [xA,hsz'],hall'.swp (by omega) (by omega), ?_⟩ (by omega) (by omega) (by omega) (by omega) (by omega);rw [<- ht'];conv=>rhs;unfold Go.Sort.insInner
  rw [if_pos (by simp [hl];omega)]
 ·have hl:lt dq[p+1]! dq[p]! = false:=by
   rw [Bool.eq_false_iff];intro e;have:=hn2.2 (by rw [e2,Int.toNat_natCast];exact e);exact hlt this
  refine xMO l1 l2 hn1 ?_ (by omega) (by omega) (by omega) (by omega) (by omega);have e:Go.Sort.insInner lt a (p+1) dq=dq:=by unfold Go.Sort.insInner;rw [if_neg (by simp [hl])]
  rw [<- ht',e];exact w'
end
end
section
open Go.Sort (swp)
section
variable {Z:St} {b c:Nat} {s:Option Nat} {d:Array Rec} {g:FuncId} {gc:List Value} {lt:Rec->Rec->Bool} {V:Rec->Prop}
theorem Cmp.at_ (hc:Cmp g gc lt V) {τ:St} {dk:Array Rec} (hv:xT V dk) {i j:Nat} (hi:i<dk.size) (hj:j<dk.size):∃ n:Int,zD Tryz.prog g (zEL dk[i]! :: zEL dk[j]! :: gc) τ (iV n) τ/\((n<0/\lt dk[i]! dk[j]! = true)\/(¬ n<0/\lt dk[i]! dk[j]! = false)):=by
 obtain ⟨n,h1,h2⟩:=hc τ dk[i]! dk[j]! (hv i hi) (hv j hj);refine ⟨n,h1, ?_⟩
 by_cases h:n<0
 ·exact .inl ⟨h,h2.1 h⟩
 ·exact .inr ⟨h,by rw [Bool.eq_false_iff];exact fun e=>h (h2.2 e)⟩
theorem Dt.ldN {τ:St} {dk:Array Rec} (h:Dt τ b s dk) {i:Int} {k:Nat} (e:i=(k:Int)) (hk:k<dk.size):zB Tryz.prog τ 45 (zJ ⟨b,0,s⟩ (Int.toNat i*3))=some (zEL dk[k]!):=by
 subst e;exact h.ld (by omega) (by omega)
theorem W.swapN {τ:St} {dk:Array Rec} (w:W Z τ b s d dk) {i j:Int} {p q:Nat} (ei:i=(p:Int)) (ej:j=(q:Int)) (hp:p<dk.size) (hq:q<dk.size) :
  ∃ τ1 τ2,zQ Tryz.prog (evL [.pointer (some (zJ ⟨b,0,s⟩ (Int.toNat i*3))),zEL dk[q]!]) τ (.store 45 (.tmp 0) (.tmp 1))=some (undef,τ1) /\
   zQ Tryz.prog (evL [.pointer (some (zJ ⟨b,0,s⟩ (Int.toNat j*3))),zEL dk[p]!]) τ1 (.store 45 (.tmp 0) (.tmp 1))=some (undef,τ2)/\W Z τ2 b s d (swp dk p q):=by
 subst ei ej;have:=w.swap (i:=(p:Int)) (j:=(q:Int)) (by omega) (by omega) (by omega) (by omega);simpa only [Int.toNat_natCast] using this
theorem yLK (lt:Rec->Rec->Bool) (hi first root:Nat) (d:Array Rec):Go.Sort.siftDown lt hi first root d=(if 2*root+1 ≥ hi then d else
  if 2*root+1+1<hi && lt d[first+(2*root+1)]! d[first+(2*root+1)+1]! then
   if !lt d[first+root]! d[first+(2*root+2)]! then d else
    if 2*root+2<hi then Go.Sort.siftDown lt hi first (2*root+2) (swp d (first+root) (first+(2*root+2))) else d
  else
   if !lt d[first+root]! d[first+(2*root+1)]! then d else Go.Sort.siftDown lt hi first (2*root+1) (swp d (first+root) (first+(2*root+1)))):=by
 conv=>lhs;unfold Go.Sort.siftDown
 simp only [dite_eq_ite]
theorem zCA (lt:Rec->Rec->Bool) (hi first:Nat):∀ (k root:Nat) (d:Array Rec),hi-root<=k->(Go.Sort.siftDown lt hi first root d).size=d.size
 | 0,root,d,hk=>by unfold Go.Sort.siftDown;rw [dif_pos (by omega)]
 | k+1,root,d,hk=>by
  unfold Go.Sort.siftDown;split
  ·rfl
  ·split
   ·split
    ·rfl
    ·split
     ·rw [zCA lt hi first k _ _ (by omega),xA]
     ·rfl
   ·split
    ·rfl
    ·rw [zCA lt hi first k _ _ (by omega),xA]
theorem zCW (lt:Rec->Rec->Bool) (hi first:Nat) {V:Rec->Prop}:∀ (k root:Nat) (d:Array Rec),hi-root<=k->first+hi<=d.size->xT V d->xT V (Go.Sort.siftDown lt hi first root d)
 | 0,root,d,hk,hs,h=>by unfold Go.Sort.siftDown;rw [dif_pos (by omega)];exact h
 | k+1,root,d,hk,hs,h=>by
  unfold Go.Sort.siftDown;split
  ·exact h
  ·rename_i h1;split
   ·split
    ·exact h
    ·split
     ·rename_i h2;exact zCW lt hi first k _ _ (by omega) (by rw [xA];exact hs) (h.swp (by omega) (by omega))
     ·exact h
   ·split
    ·exact h
    ·exact zCW lt hi first k _ _ (by omega) (by rw [xA];exact hs) (h.swp (by omega) (by omega))
theorem yZP {lo hi first:Nat} (h:Dt Z b s d) (hc:Cmp g gc lt V) (hv:xT V d) (hB:first+hi<=d.size) (hn:d.size<=1000000) (hlo:lo<=1000000) :
  uW 121 [.slice (some ⟨b,0,s⟩) d.size c,iV (lo:Int),iV (hi:Int),iV (first:Int),.func (.func g) ⟨[]⟩ ⟨gc⟩] (.tuple ⟨[]⟩) Z b s d (Go.Sort.siftDown lt hi first lo d):=by
 refine uW.of h (xJA (P0:=fun τ=>W Z τ b s d (Go.Sort.siftDown lt hi first lo d)) (Pr:=fun τ=>W Z τ b s d (Go.Sort.siftDown lt hi first lo d)) (yLN (Inv:=fun k i τ=>∃ (r:Nat) (dk:Array Rec),i=r/\k=hi-r/\r<=1000000+2*hi+2/\W Z τ b s d dk/\dk.size=d.size/\xT V dk/\Go.Sort.siftDown lt hi first r dk=Go.Sort.siftDown lt hi first lo d) ?_ (hi-lo) _ Z.re ⟨lo,d,rfl,rfl,by omega,W.start h,rfl,hv,rfl⟩) (fun τ hw=>yLM ⟨rfl,hw⟩) (fun τ hw=>yLL ⟨rfl,hw⟩));rintro k i τ ⟨r,dk,rfl,hk,hr,w,hsz,hall,ht⟩;by_cases h1:2*r+1 ≥ hi
 ·have e:Go.Sort.siftDown lt hi first r dk=dk:=by unfold Go.Sort.siftDown;rw [dif_pos h1]
  exact xCU (by rw [<- ht,e];exact w) (by omega) (by omega) (by omega)
 have e0:=yLK lt hi first r dk
 rw [if_neg h1] at e0;have bR:first+r<dk.size:=by omega
 have bC:first+(2*r+1)<dk.size:=by omega
 have lR:=w.dt.ldN (i:=(first:Int)+(r:Int)) (k:=first+r) (by omega) bR;have lC:=w.dt.ldN (i:=(first:Int)+(2*(r:Int)+1)) (k:=first+(2*r+1)) (by omega) bC;obtain ⟨nC,cC,hC⟩:=hc.at_ (τ:=τ) hall bR bC;by_cases h2:2*r+1+1<hi
 ·have bD:first+(2*r+2)<dk.size:=by omega
  have lD1:=w.dt.ldN (i:=(first:Int)+(2*(r:Int)+1)+1) (k:=first+(2*r+2)) (by omega) bD;have lD2:=w.dt.ldN (i:=(first:Int)+(2*(r:Int)+1+1)) (k:=first+(2*r+2)) (by omega) bD;obtain ⟨n1,c1,hc1⟩:=hc.at_ (τ:=τ) hall bC bD;obtain ⟨n2,c2,hc2⟩:=hc.at_ (τ:=τ) hall bR bD;have eD:first+(2*r+1)+1=first+(2*r+2):=by omega
  rcases hc1 with ⟨m1,l1⟩ | ⟨m1,l1⟩
  ·rw [if_pos (by simp [h2,eD,l1])] at e0;rcases hc2 with ⟨m2,l2⟩ | ⟨m2,l2⟩
   ·rw [if_neg (by simp [l2]),if_pos (by omega)] at e0;obtain ⟨τ1,τ2,s1,s2,w2⟩:=w.swapN (i:=(first:Int)+(r:Int)) (j:=(first:Int)+(2*(r:Int)+1+1)) (p:=first+r) (q:=first+(2*r+2)) (by omega) (by omega) bR bD;exact xCT ⟨lC,lD1,c1,lR,lD2,c2⟩ s1 s2 ⟨hi-(2*r+2),by omega,2*r+2,_,by omega,rfl,by omega,w2,by rw [xA,hsz],hall.swp bR bD,by rw [<- e0,ht]⟩ (by omega) (by omega) (by omega) (by omega) (by omega) (by omega) (by omega) (by omega) (by omega) (by omega) (by omega) (by omega) (by omega) (by omega) (by omega)
   ·rw [if_pos (by simp [l2])] at e0;exact xCS ⟨lC,lD1,c1,lR,lD2,c2⟩ (by rw [<- ht,e0];exact w)
  ·rw [if_neg (by simp [eD,l1])] at e0;rcases hC with ⟨m2,l2⟩ | ⟨m2,l2⟩
   ·rw [if_neg (by simp [l2])] at e0;obtain ⟨τ1,τ2,s1,s2,w2⟩:=w.swapN (i:=(first:Int)+(r:Int)) (j:=(first:Int)+(2*(r:Int)+1)) (p:=first+r) (q:=first+(2*r+1)) (by omega) (by omega) bR bC;exact xCR lC lD1 c1 lR cC s1 s2 ⟨hi-(2*r+1),by omega,2*r+1,_,by omega,rfl,by omega,w2,by rw [xA,hsz],hall.swp bR bC,by rw [<- e0,ht]⟩
   ·rw [if_pos (by simp [l2])] at e0;exact xCQ lC lD1 c1 lR cC (by rw [<- ht,e0];exact w)
 ·rw [if_neg (by simp [show ¬ 2*r+1+1<hi from h2])] at e0;rcases hC with ⟨m2,l2⟩ | ⟨m2,l2⟩
  ·rw [if_neg (by simp [l2])] at e0;obtain ⟨τ1,τ2,s1,s2,w2⟩:=w.swapN (i:=(first:Int)+(r:Int)) (j:=(first:Int)+(2*(r:Int)+1)) (p:=first+r) (q:=first+(2*r+1)) (by omega) (by omega) bR bC;exact xCP lR lC cC s1 s2 ⟨hi-(2*r+1),by omega,2*r+1,_,by omega,rfl,by omega,w2,by rw [xA,hsz],hall.swp bR bC,by rw [<- e0,ht]⟩
  ·rw [if_pos (by simp [l2])] at e0;exact xCO lR lC cC (by rw [<- ht,e0];exact w)
end
end
section
open Go.Sort (swp)
section
variable {Z:St} {b c:Nat} {s:Option Nat} {d:Array Rec} {g:FuncId} {gc:List Value} {lt:Rec->Rec->Bool} {V:Rec->Prop}
theorem xTK {a B:Nat} (h:Dt Z b s d) (hc:Cmp g gc lt V) (hv:xT V d) (ha:a<=B) (hB:B<=d.size) (hn:d.size<=1000000) :
  uW 107 [.slice (some ⟨b,0,s⟩) d.size c,iV (a:Int),iV (B:Int),.func (.func g) ⟨[]⟩ ⟨gc⟩] (.tuple ⟨[]⟩) Z b s d (Go.Sort.heapSort lt d a B):=by
 have e1:Int.tdiv (((B:Int)-(a:Int))-1) 2=(((B-a-1) / 2:Nat):Int):=by
  by_cases h0:B=a
  ·subst h0;have:((B:Int)-(B:Int))-1=-1:=by omega
   rw [this];have:B-B-1=0:=by omega
   rw [this];rfl
  ·rw [Int.tdiv_eq_ediv_of_nonneg (by omega)];omega
 have e2:(B:Int)-(a:Int)=((B-a:Nat):Int):=by omega
 refine uW.of h (xNK (by rw [<- uF,e1,zWV (by omega) (by omega)]) (P0:=fun τ=>∃ dk,W Z τ b s d dk/\dk.size=d.size/\xT V dk/\Go.Sort.heapPop lt a (B-a) dk=Go.Sort.heapSort lt d a B)
  (yOZ (Inv:=fun k i τ=>∃ dk,i=(k:Int)-1/\k<=(B-a-1) / 2+1/\W Z τ b s d dk/\dk.size=d.size/\xT V dk/\Go.Sort.heapPop lt a (B-a) (Go.Sort.heapBuild lt (B-a) a k dk)=Go.Sort.heapSort lt d a B) ?_ ((B-a-1) / 2+1) _ Z.re ⟨d,by rw [e1];omega,by omega,W.start h,rfl,hv,rfl⟩) ?_)
 ·rintro k i τ ⟨dk,rfl,hk,w,hsz,hall,ht⟩;cases k with
  | zero=>exact xFV ⟨dk,w,hsz,hall,ht⟩ (by omega)
  | succ k =>
   have hs:=yZP (c:=c) (lo:=k) (hi:=B-a) (first:=a) w.dt hc hall (by omega) (by omega) (by omega);obtain ⟨τ',k1,w'⟩:=w.call hs;rw [hsz] at k1;rw [<- e2] at k1;rw [show ((k+1:Nat):Int)-1=(k:Int) by omega];exact xFW k1 ⟨k,by omega,_,by omega,by omega,w',by rw [zCA lt _ _ _ _ _ (Nat.le_refl _),hsz],zCW lt _ _ _ _ _ (Nat.le_refl _) (by omega) hall,ht⟩ (by omega)
 ·rintro τ ⟨dk0,w0,hsz0,hall0,ht0⟩;refine yOX (P2:=fun τ=>W Z τ b s d (Go.Sort.heapSort lt d a B)) (yOY (Inv:=fun k i τ=>∃ dk,i=(k:Int)-1/\k<=B-a/\W Z τ b s d dk/\dk.size=d.size/\xT V dk/\Go.Sort.heapPop lt a k dk=Go.Sort.heapSort lt d a B) ?_ (B-a) _ τ ⟨dk0,by omega,Nat.le_refl _,w0,hsz0,hall0,ht0⟩) (fun τ hw=>yOW ⟨rfl,hw⟩) (by omega);rintro k i τ ⟨dk,rfl,hk,w,hsz,hall,ht⟩;cases k with
  | zero=>exact xFT (by rw [<- ht];exact w) (by omega)
  | succ k =>
   have b1:a+k<dk.size:=by omega
   have b2:a<dk.size:=by omega
   rw [show ((k+1:Nat):Int)-1=(k:Int) by omega];have l1:=w.dt.ldN (i:=(a:Int)+(k:Int)) (k:=a+k) (by omega) b1;have l2:=w.dt.ldN (i:=(a:Int)) (k:=a) rfl b2;obtain ⟨τ1,τ2,s1,s2,w2⟩:=w.swapN (i:=(a:Int)) (j:=(a:Int)+(k:Int)) (p:=a) (q:=a+k) rfl (by omega) b2 b1;have hall2:=hall.swp b2 b1;have hs:=yZP (c:=c) (lo:=0) (hi:=k) (first:=a) w2.dt hc hall2 (by rw [xA];omega) (by rw [xA];omega) (by omega);obtain ⟨τ',k1,w'⟩:=w2.call hs;rw [xA,hsz] at k1;exact xFU l1 l2 s1 s2 k1 ⟨k,by omega,_,by omega,by omega,w',by rw [zCA lt _ _ _ _ _ (Nat.le_refl _),xA,hsz],zCW lt _ _ _ _ _ (Nat.le_refl _) (by rw [xA];omega) hall2,ht⟩ (by omega) (by omega) (by omega) (by omega)
theorem xXG {a B dH:Nat} (h:Dt Z b s d) (hc:Cmp g gc lt V) (hv:xT V d) (ha:a<=dH) (hp:dH<B) (hB:B<=d.size) (hn:d.size<=1000000) :
  uW 113 [.slice (some ⟨b,0,s⟩) d.size c,iV (a:Int),iV (B:Int),iV (dH:Int),.func (.func g) ⟨[]⟩ ⟨gc⟩] (.tuple ⟨[iV ((Go.Sort.partition lt d a B dH).1:Int),.bool (Go.Sort.partition lt d a B dH).2.1]⟩) Z b s d (Go.Sort.partition lt d a B dH).2.2:=by
 have w0:=W.start h;obtain ⟨τ1,τ2,s1,s2,w1⟩:=w0.swapN (i:=(a:Int)) (j:=(dH:Int)) (p:=a) (q:=dH) rfl rfl (by omega) (by omega);obtain ⟨d1,hd1⟩:∃ d1,d1=swp d a dH:=⟨_,rfl⟩;have hall1:xT V d1:=by rw [hd1];exact hv.swp (by omega) (by omega)
 have hsz1:d1.size=d.size:=by rw [hd1,xA]
 rw [<- hd1] at w1;have l0:=w0.dt.ldN (i:=(dH:Int)) (k:=dH) rfl (by omega);have l0':=w0.dt.ldN (i:=(a:Int)) (k:=a) rfl (by omega);obtain ⟨i1,hi1⟩:∃ i1,i1=Go.Sort.scanUp (fun x=>lt x d1[a]!) d1 (B-1) (a+1):=⟨_,rfl⟩;obtain ⟨j1,hj1⟩:∃ j1,j1=Go.Sort.scanDown (fun x=>!lt x d1[a]!) d1 i1 (B-1):=⟨_,rfl⟩;have hres:Go.Sort.partition lt d a B dH=if i1 > j1 then (j1,true,swp d1 j1 a) else ((Go.Sort.partLoop lt a (i1+1) (j1-1) (swp d1 i1 j1)).1,false,swp (Go.Sort.partLoop lt a (i1+1) (j1-1) (swp d1 i1 j1)).2 (Go.Sort.partLoop lt a (i1+1) (j1-1) (swp d1 i1 j1)).1 a):=by
  unfold Go.Sort.partition;simp only [<- hd1,<- hi1,<- hj1]
 refine uW.of h (xSP l0 l0' s1 s2 (P0:=fun i τ=>i=(i1:Int)/\a+1<=i1/\i1<=B/\W Z τ b s d d1)
  (yUY (Inv:=fun k i τ=>∃ p:Nat,i=p/\p+k=B/\a+1<=p/\W Z τ b s d d1/\Go.Sort.scanUp (fun x=>lt x d1[a]!) d1 (B-1) p=i1) ?_ (B-(a+1)) _ τ2 ⟨a+1,by omega,by omega,by omega,w1,hi1.symm⟩) ?_)
 ·rintro k i τ ⟨p,rfl,hk,hap,w,ht⟩;by_cases hpj:p<=B-1;rotate_left
  ·rw [Go.Sort.scanUp,if_neg (by simp;omega)] at ht;exact xKW ⟨by rw [ht],by omega,by omega,w⟩ (by omega)
  have lp:=w.dt.ldN (i:=(p:Int)) (k:=p) rfl (by omega);have la:=w.dt.ldN (i:=(a:Int)) (k:=a) rfl (by omega);obtain ⟨n,cn,⟨m1,hl⟩ | ⟨m1,hl⟩⟩:=hc.at_ (τ:=τ) hall1 (i:=p) (j:=a) (by omega) (by omega)
  ·rw [Go.Sort.scanUp,if_pos (by simp [hl];omega)] at ht;exact xKY lp la cn ⟨k-1,by omega,p+1,by omega,by omega,by omega,w,ht⟩
  ·rw [Go.Sort.scanUp,if_neg (by simp [hl])] at ht;exact xKX lp la cn ⟨by rw [ht],by omega,by omega,w⟩
 rintro i τ ⟨rfl,hai,hiB,w⟩;refine yUT (P2:=fun j τ=>j=(j1:Int)/\j1<B/\i1<=j1+1/\W Z τ b s d d1)
  (yUX (Inv:=fun k j τ=>∃ q:Nat,j=q/\q=k/\q<B/\i1<=q+1/\W Z τ b s d d1/\Go.Sort.scanDown (fun x=>!lt x d1[a]!) d1 i1 q=j1) ?_ (B-1) _ τ ⟨B-1,by omega,rfl,by omega,by omega,w,hj1.symm⟩) ?_
 ·rintro k j τ ⟨q,rfl,rfl,hqB,hiq,w,ht⟩;by_cases hij:i1<=q;rotate_left
  ·have e:j1=q:=by
    cases q with
    | zero=>rw [<- ht];rfl
    | succ q=>rw [<- ht,Go.Sort.scanDown,if_neg (by simp;omega)]
   exact xKT ⟨by rw [e],by omega,by omega,w⟩ (by omega)
  obtain ⟨q',rfl⟩:∃ q',q=q'+1:=⟨q-1,by omega⟩;have lp:=w.dt.ldN (i:=((q'+1:Nat):Int)) (k:=q'+1) rfl (by omega);have la:=w.dt.ldN (i:=(a:Int)) (k:=a) rfl (by omega);obtain ⟨n,cn,⟨m1,hl⟩ | ⟨m1,hl⟩⟩:=hc.at_ (τ:=τ) hall1 (i:=q'+1) (j:=a) (by omega) (by omega)
  ·rw [Go.Sort.scanDown,if_neg (by simp [hl])] at ht;exact xKV lp la cn ⟨by rw [ht],by omega,by omega,w⟩
  ·rw [Go.Sort.scanDown,if_pos (by simp [hl];omega)] at ht;exact xKU lp la cn ⟨q',by omega,q',by omega,rfl,by omega,by omega,w,ht⟩
 rintro j τ ⟨rfl,hjB,hij1,w⟩;by_cases hgt:i1 > j1
 ·rw [if_pos hgt] at hres;have lj:=w.dt.ldN (i:=(j1:Int)) (k:=j1) rfl (by omega);have la:=w.dt.ldN (i:=(a:Int)) (k:=a) rfl (by omega);obtain ⟨τ3,τ4,t1,t2,w4⟩:=w.swapN (i:=(j1:Int)) (j:=(a:Int)) (p:=j1) (q:=a) rfl rfl (by omega) (by omega);exact yUS la lj t1 t2 ⟨by rw [hres],by rw [hres];exact w4⟩
 rw [if_neg hgt] at hres;have lj:=w.dt.ldN (i:=(j1:Int)) (k:=j1) rfl (by omega);have li:=w.dt.ldN (i:=(i1:Int)) (k:=i1) rfl (by omega);obtain ⟨τ3,τ4,t1,t2,w4⟩:=w.swapN (i:=(i1:Int)) (j:=(j1:Int)) (p:=i1) (q:=j1) rfl rfl (by omega) (by omega);obtain ⟨R,hR⟩:∃ R,R=Go.Sort.partLoop lt a (i1+1) (j1-1) (swp d1 i1 j1):=⟨_,rfl⟩;rw [<- hR] at hres;have hall4:=hall1.swp (i:=i1) (j:=j1) (by omega) (by omega);refine yUR lj li t1 t2 (P4:=fun j τ=>j=(R.1:Int)/\R.1<B/\a<=R.1/\R.2.size=d.size/\W Z τ b s d R.2)
  (yUW (Inv:=fun k i j τ=>∃ (p q:Nat) (dk:Array Rec),i=p/\j=q/\k=q+1-p/\a+1<=p/\q<B/\a<=q/\p<=q+2/\dk.size=d.size/\xT V dk/\W Z τ b s d dk/\Go.Sort.partLoop lt a p q dk=R) ?_ (j1-1+1-(i1+1)) _ _ τ4 ⟨i1+1,j1-1,_,by omega,by omega,rfl,by omega,by omega,by omega,by omega,by rw [xA,hsz1],hall4,w4,hR.symm⟩) ?_
 rotate_left
 ·rintro j τ ⟨rfl,hRB,hRa,hRs,w⟩;have lj:=w.dt.ldN (i:=(R.1:Int)) (k:=R.1) rfl (by omega);have la:=w.dt.ldN (i:=(a:Int)) (k:=a) rfl (by omega);obtain ⟨τ5,τ6,t1,t2,w6⟩:=w.swapN (i:=(R.1:Int)) (j:=(a:Int)) (p:=R.1) (q:=a) rfl rfl (by omega) (by omega);exact yUQ la lj t1 t2 ⟨by rw [hres],by rw [hres];exact w6⟩
 rintro k i j τ ⟨p,q,dk,rfl,rfl,hk,hap,hqB,haq,hpq,hsz,hall,w,ht⟩;obtain ⟨i2,hi2⟩:∃ i2,i2=Go.Sort.scanUp (fun x=>lt x dk[a]!) dk q p:=⟨_,rfl⟩;obtain ⟨j2,hj2⟩:∃ j2,j2=Go.Sort.scanDown (fun x=>!lt x dk[a]!) dk i2 q:=⟨_,rfl⟩;have hstep:Go.Sort.partLoop lt a p q dk=if i2 > j2 then (j2,dk) else if (j2-1)+1-(i2+1)<q+1-p then Go.Sort.partLoop lt a (i2+1) (j2-1) (swp dk i2 j2) else (j2,dk):=by
  conv=>lhs;unfold Go.Sort.partLoop
  simp only [dite_eq_ite,<- hi2,<- hj2]
 refine xKS (P6:=fun i τ=>i=(i2:Int)/\p<=i2/\i2<=q+2/\(i2<=q+1\/i2=p)/\W Z τ b s d dk)
  (yUV (Inv:=fun k i τ=>∃ u:Nat,i=u/\u+k=q+2/\p<=u/\(u<=q+1\/u=p)/\W Z τ b s d dk/\Go.Sort.scanUp (fun x=>lt x dk[a]!) dk q u=i2) ?_ (q+2-p) _ τ ⟨p,rfl,by omega,Nat.le_refl _,.inr rfl,w,hi2.symm⟩) ?_
 ·rintro k i τ ⟨u,rfl,hk,hpu,huq,w,ht⟩;by_cases hpj:u<=q;rotate_left
  ·rw [Go.Sort.scanUp,if_neg (by simp;omega)] at ht;exact xKP ⟨by rw [ht],by omega,by omega,by omega,w⟩ (by omega)
  have lp:=w.dt.ldN (i:=(u:Int)) (k:=u) rfl (by omega);have la:=w.dt.ldN (i:=(a:Int)) (k:=a) rfl (by omega);obtain ⟨n,cn,⟨m1,hl⟩ | ⟨m1,hl⟩⟩:=hc.at_ (τ:=τ) hall (i:=u) (j:=a) (by omega) (by omega)
  ·rw [Go.Sort.scanUp,if_pos (by simp [hl];omega)] at ht;exact xKR lp la cn ⟨k-1,by omega,u+1,by omega,by omega,by omega,by omega,w,ht⟩
  ·rw [Go.Sort.scanUp,if_neg (by simp [hl])] at ht;exact xKQ lp la cn ⟨by rw [ht],by omega,by omega,by omega,w⟩
 rintro i τ ⟨rfl,hpi,hiq,hiq2,w⟩;refine yUP (P8:=fun j τ=>j=(j2:Int)/\j2<=q/\(i2<=j2+1\/j2=q)/\W Z τ b s d dk)
  (yUU (Inv:=fun k j τ=>∃ v:Nat,j=v/\v=k/\v<=q/\(i2<=v+1\/v=q)/\W Z τ b s d dk/\Go.Sort.scanDown (fun x=>!lt x dk[a]!) dk i2 v=j2) ?_ q _ τ ⟨q,rfl,rfl,Nat.le_refl _,.inr rfl,w,hj2.symm⟩) ?_
 ·rintro k j τ ⟨v,rfl,rfl,hvq,hiv,w,ht⟩;by_cases hij:i2<=v;rotate_left
  ·have e:j2=v:=by
    cases v with
    | zero=>rw [<- ht];rfl
    | succ v=>rw [<- ht,Go.Sort.scanDown,if_neg (by simp;omega)]
   exact xKM ⟨by rw [e],by omega,by omega,w⟩ (by omega)
  obtain ⟨v',rfl⟩:∃ v',v=v'+1:=⟨v-1,by omega⟩;have lp:=w.dt.ldN (i:=((v'+1:Nat):Int)) (k:=v'+1) rfl (by omega);have la:=w.dt.ldN (i:=(a:Int)) (k:=a) rfl (by omega);obtain ⟨n,cn,⟨m1,hl⟩ | ⟨m1,hl⟩⟩:=hc.at_ (τ:=τ) hall (i:=v'+1) (j:=a) (by omega) (by omega)
  ·rw [Go.Sort.scanDown,if_neg (by simp [hl])] at ht;exact xKO lp la cn ⟨by rw [ht],by omega,by omega,w⟩
  ·rw [Go.Sort.scanDown,if_pos (by simp [hl];omega)] at ht;exact xKN lp la cn ⟨v',by omega,v',by omega,rfl,by omega,by omega,w,ht⟩
 rintro j τ ⟨rfl,hjq,hij2,w⟩;by_cases hgt:i2 > j2
 ·rw [if_pos hgt] at hstep;have e:R=(j2,dk):=by rw [<- ht,hstep]
  exact yUO ⟨by rw [e],by rw [e];show j2<B;omega,by rw [e];show a<=j2;omega,by rw [e];exact hsz,by rw [e];exact w⟩ (by omega)
 rw [if_neg hgt,if_pos (by omega)] at hstep;have lj:=w.dt.ldN (i:=(j2:Int)) (k:=j2) rfl (by omega);have li:=w.dt.ldN (i:=(i2:Int)) (k:=i2) rfl (by omega);obtain ⟨τ5,τ6,t1,t2,w6⟩:=w.swapN (i:=(i2:Int)) (j:=(j2:Int)) (p:=i2) (q:=j2) rfl rfl (by omega) (by omega);exact yUN lj li t1 t2 ⟨j2-1+1-(i2+1),by omega,i2+1,j2-1,_,by omega,by omega,rfl,by omega,by omega,by omega,by omega,by rw [xA,hsz],hall.swp (by omega) (by omega),w6,by rw [<- hstep,ht]⟩
end
end
section
open Go.Sort (swp)
section
variable {Z:St} {b c:Nat} {s:Option Nat} {d:Array Rec} {g:FuncId} {gc:List Value} {lt:Rec->Rec->Bool} {V:Rec->Prop}
theorem xLE {a B dH:Nat} (h:Dt Z b s d) (hc:Cmp g gc lt V) (hv:xT V d) (ha:a<=dH) (hp:dH<B) (hB:B<=d.size) (hn:d.size<=1000000) :
  uW 112 [.slice (some ⟨b,0,s⟩) d.size c,iV (a:Int),iV (B:Int),iV (dH:Int),.func (.func g) ⟨[]⟩ ⟨gc⟩] (iV ((Go.Sort.partitionEqual lt d a B dH).1:Int)) Z b s d (Go.Sort.partitionEqual lt d a B dH).2:=by
 have w0:=W.start h;obtain ⟨τ1,τ2,s1,s2,w1⟩:=w0.swapN (i:=(a:Int)) (j:=(dH:Int)) (p:=a) (q:=dH) rfl rfl (by omega) (by omega);have l0:=w0.dt.ldN (i:=(dH:Int)) (k:=dH) rfl (by omega);have l0':=w0.dt.ldN (i:=(a:Int)) (k:=a) rfl (by omega);obtain ⟨R,hR⟩:∃ R,R=Go.Sort.partitionEqual lt d a B dH:=⟨_,rfl⟩;rw [<- hR];refine uW.of h (xFH l0 l0' s1 s2 (P0:=fun i τ=>i=(R.1:Int)/\W Z τ b s d R.2)
  (yIN (Inv:=fun k i j τ=>∃ (p q:Nat) (dk:Array Rec),i=p/\j=q/\k=q+1-p/\a+1<=p/\q<B/\a<=q/\p<=q+2/\dk.size=d.size/\xT V dk/\W Z τ b s d dk/\Go.Sort.partEqLoop lt a p q dk=R) ?_ (B-1+1-(a+1)) _ _ τ2 ⟨a+1,B-1,_,by omega,by omega,rfl,by omega,by omega,by omega,by omega,xA _ _ _,hv.swp (by omega) (by omega),w1,by rw [hR];rfl⟩)
  (fun i τ h=>yIK ⟨by rw [h.1],h.2⟩))
 rintro k i j τ ⟨p,q,dk,rfl,rfl,hk,hap,hqB,haq,hpq,hsz,hall,w,ht⟩;obtain ⟨i2,hi2⟩:∃ i2,i2=Go.Sort.scanUp (fun x=>!lt dk[a]! x) dk q p:=⟨_,rfl⟩;obtain ⟨j2,hj2⟩:∃ j2,j2=Go.Sort.scanDown (fun x=>lt dk[a]! x) dk i2 q:=⟨_,rfl⟩;have hstep:Go.Sort.partEqLoop lt a p q dk=if i2 > j2 then (i2,dk) else if (j2-1)+1-(i2+1)<q+1-p then Go.Sort.partEqLoop lt a (i2+1) (j2-1) (swp dk i2 j2) else (i2,dk):=by
  conv=>lhs;unfold Go.Sort.partEqLoop
  simp only [dite_eq_ite,<- hi2,<- hj2]
 refine yVG (P2:=fun i τ=>i=(i2:Int)/\p<=i2/\i2<=q+2/\(i2<=q+1\/i2=p)/\W Z τ b s d dk)
  (yIM (Inv:=fun k i τ=>∃ u:Nat,i=u/\u+k=q+2/\p<=u/\(u<=q+1\/u=p)/\W Z τ b s d dk/\Go.Sort.scanUp (fun x=>!lt dk[a]! x) dk q u=i2) ?_ (q+2-p) _ τ ⟨p,rfl,by omega,Nat.le_refl _,.inr rfl,w,hi2.symm⟩) ?_
 ·rintro k i τ ⟨u,rfl,hk,hpu,huq,w,ht⟩;by_cases hpj:u<=q;rotate_left
  ·rw [Go.Sort.scanUp,if_neg (by simp;omega)] at ht;exact yVD ⟨by rw [ht],by omega,by omega,by omega,w⟩ (by omega)
  have lp:=w.dt.ldN (i:=(u:Int)) (k:=u) rfl (by omega);have la:=w.dt.ldN (i:=(a:Int)) (k:=a) rfl (by omega);obtain ⟨n,cn,⟨m1,hl⟩ | ⟨m1,hl⟩⟩:=hc.at_ (τ:=τ) hall (i:=a) (j:=u) (by omega) (by omega)
  ·rw [Go.Sort.scanUp,if_neg (by simp [hl])] at ht;exact yVF la lp cn ⟨by rw [ht],by omega,by omega,by omega,w⟩
  ·rw [Go.Sort.scanUp,if_pos (by simp [hl];omega)] at ht;exact yVE la lp cn ⟨k-1,by omega,u+1,by omega,by omega,by omega,by omega,w,ht⟩
 rintro i τ ⟨rfl,hpi,hiq,hiq2,w⟩;refine yIJ (P4:=fun j τ=>j=(j2:Int)/\j2<=q/\(i2<=j2+1\/j2=q)/\W Z τ b s d dk)
  (yIL (Inv:=fun k j τ=>∃ v:Nat,j=v/\v=k/\v<=q/\(i2<=v+1\/v=q)/\W Z τ b s d dk/\Go.Sort.scanDown (fun x=>lt dk[a]! x) dk i2 v=j2) ?_ q _ τ ⟨q,rfl,rfl,Nat.le_refl _,.inr rfl,w,hj2.symm⟩) ?_
 ·rintro k j τ ⟨v,rfl,rfl,hvq,hiv,w,ht⟩;by_cases hij:i2<=v;rotate_left
  ·have e:j2=v:=by
    cases v with
    | zero=>rw [<- ht];rfl
    | succ v=>rw [<- ht,Go.Sort.scanDown,if_neg (by simp;omega)]
   exact yVA ⟨by rw [e],by omega,by omega,w⟩ (by omega)
  obtain ⟨v',rfl⟩:∃ v',v=v'+1:=⟨v-1,by omega⟩;have lp:=w.dt.ldN (i:=((v'+1:Nat):Int)) (k:=v'+1) rfl (by omega);have la:=w.dt.ldN (i:=(a:Int)) (k:=a) rfl (by omega);obtain ⟨n,cn,⟨m1,hl⟩ | ⟨m1,hl⟩⟩:=hc.at_ (τ:=τ) hall (i:=a) (j:=v'+1) (by omega) (by omega)
  ·rw [Go.Sort.scanDown,if_pos (by simp [hl];omega)] at ht;exact yVC la lp cn ⟨v',by omega,v',by omega,rfl,by omega,by omega,w,ht⟩
  ·rw [Go.Sort.scanDown,if_neg (by simp [hl])] at ht;exact yVB la lp cn ⟨by rw [ht],by omega,by omega,w⟩
 rintro j τ ⟨rfl,hjq,hij2,w⟩;by_cases hgt:i2 > j2
 ·rw [if_pos hgt] at hstep;have e:R=(i2,dk):=by rw [<- ht,hstep]
  exact yII ⟨by rw [e],by rw [e];exact w⟩ (by omega)
 rw [if_neg hgt,if_pos (by omega)] at hstep;have lj:=w.dt.ldN (i:=(j2:Int)) (k:=j2) rfl (by omega);have li:=w.dt.ldN (i:=(i2:Int)) (k:=i2) rfl (by omega);obtain ⟨τ5,τ6,t1,t2,w6⟩:=w.swapN (i:=(i2:Int)) (j:=(j2:Int)) (p:=i2) (q:=j2) rfl rfl (by omega) (by omega);exact yIH lj li t1 t2 ⟨j2-1+1-(i2+1),by omega,i2+1,j2-1,_,by omega,by omega,rfl,by omega,by omega,by omega,by omega,by rw [xA,hsz],hall.swp (by omega) (by omega),w6,by rw [<- hstep,ht]⟩
theorem zIW (lt:Rec->Rec->Bool):∀ (j:Nat) (d:Array Rec),(Go.Sort.shiftDown lt j d).size=d.size
 | 0,d=>rfl
 | j+1,d=>by
  unfold Go.Sort.shiftDown;split
  ·rfl
  ·rw [zIW,xA]
theorem zMO (lt:Rec->Rec->Bool) {V:Rec->Prop}:∀ (j:Nat) (d:Array Rec),j<d.size->xT V d->xT V (Go.Sort.shiftDown lt j d)
 | 0,d,_,h=>h
 | j+1,d,hj,h=>by
  unfold Go.Sort.shiftDown;split
  ·exact h
  ·exact zMO lt j _ (by rw [xA];omega) (h.swp hj (by omega))
theorem zCP (lt:Rec->Rec->Bool) {V:Rec->Prop} {B:Nat}:∀ (k j:Nat) (d:Array Rec),B-j<=k->1<=j->B<=d.size->xT V d->(Go.Sort.shiftUp lt B j d).size=d.size/\xT V (Go.Sort.shiftUp lt B j d)
 | 0,j,d,hk,hj,hB,h=>by rw [Go.Sort.shiftUp,if_neg (by omega)];exact ⟨rfl,h⟩
 | k+1,j,d,hk,hj,hB,h=>by
  rw [Go.Sort.shiftUp];split
  ·split
   ·exact ⟨rfl,h⟩
   ·have:=zCP lt (V:=V) (B:=B) k (j+1) (swp d j (j-1)) (by omega) (by omega) (by rw [xA];exact hB) (h.swp (by omega) (by omega));rw [xA] at this;exact this
  ·exact ⟨rfl,h⟩
theorem zMP (lt:Rec->Rec->Bool) (d:Array Rec) (B:Nat):∀ (k i:Nat),B-i<=k->i<=B->i<=Go.Sort.scanSorted lt d B i/\Go.Sort.scanSorted lt d B i<=B
 | 0,i,hk,hi=>by rw [Go.Sort.scanSorted,if_neg (by simp;omega)];omega
 | k+1,i,hk,hi=>by
  rw [Go.Sort.scanSorted];split
  ·rename_i h;have:i<B:=by simp at h;exact h.1
   have:=zMP lt d B k (i+1) (by omega) (by omega);omega
  ·omega
theorem yUZ {a B i10:Int} {x i:Nat} {τ:St} {dk:Array Rec} (hc:Cmp g gc lt V) (w:W Z τ b s d dk) (hsz:dk.size=d.size) (hall:xT V dk) (hx:x<d.size) (hn:d.size<=1000000) :
  zYX ⟨b,0,s⟩ d.size c a B g gc (i:Int) i10 (x:Int) τ (fun τ'=>W Z τ' b s d (Go.Sort.shiftDown lt x dk)):=by
 refine yNG (Inv:=fun k j τ'=>∃ (q:Nat) (dq:Array Rec),j=q/\q=k/\q<=x/\dq.size=d.size/\xT V dq/\W Z τ' b s d dq/\Go.Sort.shiftDown lt q dq=Go.Sort.shiftDown lt x dk) ?_ x _ τ ⟨x,dk,rfl,rfl,Nat.le_refl _,hsz,hall,w,rfl⟩;rintro k j τ' ⟨q,dq,rfl,rfl,hq,hsz',hall',w',ht⟩;cases q with
 | zero=>exact xEW (by rw [<- ht];exact w') (by omega)
 | succ q =>
  have l1:=w'.dt.ldN (i:=((q+1:Nat):Int)) (k:=q+1) rfl (by omega);have l2:=w'.dt.ldN (i:=((q+1:Nat):Int)-1) (k:=q) (by omega) (by omega);obtain ⟨n,cn,⟨m1,hl⟩ | ⟨m1,hl⟩⟩:=hc.at_ (τ:=τ') hall' (i:=q+1) (j:=q) (by omega) (by omega)
  ·obtain ⟨τ5,τ6,t1,t2,w6⟩:=w'.swapN (i:=((q+1:Nat):Int)) (j:=((q+1:Nat):Int)-1) (p:=q+1) (q:=q) rfl (by omega) (by omega) (by omega);rw [Go.Sort.shiftDown,if_neg (by simp [hl])] at ht;exact xEY l1 l2 cn t1 t2 ⟨q,by omega,q,_,by omega,rfl,by omega,by rw [xA,hsz'],hall'.swp (by omega) (by omega),w6,ht⟩
  ·rw [Go.Sort.shiftDown,if_pos (by simp [hl])] at ht;exact xEX l1 l2 cn (by rw [<- ht];exact w')
theorem yNE {a i10:Int} {B x i:Nat} {τ:St} {dk:Array Rec} (hc:Cmp g gc lt V) (w:W Z τ b s d dk) (hsz:dk.size=d.size) (hall:xT V dk) (hx:1<=x) (hxB:x<=B+2) (hB:B<=d.size) (hn:d.size<=1000000) :
  zJO ⟨b,0,s⟩ d.size c a (B:Int) g gc (i:Int) i10 (x:Int) τ (fun τ'=>W Z τ' b s d (Go.Sort.shiftUp lt B x dk)):=by
 refine yNF (Inv:=fun k j τ'=>∃ (q:Nat) (dq:Array Rec),j=q/\q+k=B+2/\1<=q/\dq.size=d.size/\xT V dq/\W Z τ' b s d dq/\Go.Sort.shiftUp lt B q dq=Go.Sort.shiftUp lt B x dk) ?_ (B+2-x) _ τ ⟨x,dk,rfl,by omega,hx,hsz,hall,w,rfl⟩;rintro k j τ' ⟨q,dq,rfl,hk,hq,hsz',hall',w',ht⟩;by_cases hqB:q<B;rotate_left
 ·rw [Go.Sort.shiftUp,if_neg hqB] at ht;exact xET (by rw [<- ht];exact w') (by omega)
 have l1:=w'.dt.ldN (i:=(q:Int)) (k:=q) rfl (by omega);have l2:=w'.dt.ldN (i:=(q:Int)-1) (k:=q-1) (by omega) (by omega);obtain ⟨n,cn,⟨m1,hl⟩ | ⟨m1,hl⟩⟩:=hc.at_ (τ:=τ') hall' (i:=q) (j:=q-1) (by omega) (by omega)
 ·obtain ⟨τ5,τ6,t1,t2,w6⟩:=w'.swapN (i:=(q:Int)) (j:=(q:Int)-1) (p:=q) (q:=q-1) rfl (by omega) (by omega) (by omega);rw [Go.Sort.shiftUp,if_pos hqB,if_neg (by simp [hl])] at ht;exact xEV l1 l2 cn t1 t2 ⟨k-1,by omega,q+1,_,by omega,by omega,by omega,by rw [xA,hsz'],hall'.swp (by omega) (by omega),w6,ht⟩
 ·rw [Go.Sort.shiftUp,if_pos hqB,if_pos (by simp [hl])] at ht;exact xEU l1 l2 cn (by rw [<- ht];exact w')
theorem xAP {a B:Nat} (h:Dt Z b s d) (hc:Cmp g gc lt V) (hv:xT V d) (ha:a<B) (hB:B<=d.size) (hn:d.size<=1000000) :
  uW 111 [.slice (some ⟨b,0,s⟩) d.size c,iV (a:Int),iV (B:Int),.func (.func g) ⟨[]⟩ ⟨gc⟩] (.bool (Go.Sort.partialInsertionSort lt d a B).2) Z b s d (Go.Sort.partialInsertionSort lt d a B).1:=by
 obtain ⟨R,hR⟩:∃ R,R=Go.Sort.partialInsertionSort lt d a B:=⟨_,rfl⟩;rw [<- hR];refine uW.of h (xLD (P0:=fun τ=>R.2=false/\W Z τ b s d R.1) (Pr:=fun t τ=>R.2=t/\W Z τ b s d R.1)
  (yNI (Inv:=fun k i j τ=>∃ (p:Nat) (dk:Array Rec),i=p/\j=5-(k:Int)/\k<=5/\a+1<=p/\p<=B/\dk.size=d.size/\xT V dk/\W Z τ b s d dk/\Go.Sort.partialIns lt a B k p dk=R) ?_ 5 _ _ Z.re ⟨a+1,d,by omega,by omega,Nat.le_refl _,Nat.le_refl _,by omega,rfl,hv,W.start h,hR.symm⟩)
  (fun τ h=>yND ⟨by rw [h.1],h.2⟩) (fun t τ h=>yNC ⟨by rw [h.1],h.2⟩))
 rintro k i j τ ⟨p,dk,rfl,rfl,hk5,hap,hpB,hsz,hall,w,ht⟩;cases k with
 | zero =>
  rw [Go.Sort.partialIns] at ht;exact xFC (by rw [<- ht];exact ⟨rfl,w⟩) (by omega)
 | succ k =>
 obtain ⟨i2,hi2⟩:∃ i2,i2=Go.Sort.scanSorted lt dk B p:=⟨_,rfl⟩;have hrange:=zMP lt dk B _ p (Nat.le_refl _) hpB;rw [<- hi2] at hrange;rw [Go.Sort.partialIns,<- hi2] at ht;refine xFD (P2:=fun i τ=>i=(i2:Int)/\W Z τ b s d dk) (yNH (Inv:=fun k i τ=>∃ u:Nat,i=u/\u+k=B/\p<=u/\W Z τ b s d dk/\Go.Sort.scanSorted lt dk B u=i2) ?_ (B-p) _ τ ⟨p,rfl,by omega,Nat.le_refl _,w,hi2.symm⟩) ?_ (by omega)
 ·rintro k i τ ⟨u,rfl,hk,hpu,w,ht⟩;by_cases huB:u<B;rotate_left
  ·rw [Go.Sort.scanSorted,if_neg (by simp;omega)] at ht;exact xEZ ⟨by rw [ht],w⟩ (by omega)
  have l1:=w.dt.ldN (i:=(u:Int)) (k:=u) rfl (by omega);have l2:=w.dt.ldN (i:=(u:Int)-1) (k:=u-1) (by omega) (by omega);obtain ⟨n,cn,⟨m1,hl⟩ | ⟨m1,hl⟩⟩:=hc.at_ (τ:=τ) hall (i:=u) (j:=u-1) (by omega) (by omega)
  ·rw [Go.Sort.scanSorted,if_neg (by simp [hl])] at ht;exact xFB l1 l2 cn ⟨by rw [ht],w⟩
  ·rw [Go.Sort.scanSorted,if_pos (by simp [hl];omega)] at ht;exact xFA l1 l2 cn ⟨k-1,by omega,u+1,by omega,by omega,by omega,w,ht⟩
 rintro i τ ⟨rfl,w⟩;by_cases hiB:i2=B
 ·simp only [hiB,if_true] at ht;exact yNB (by rw [<- ht];exact ⟨rfl,w⟩) (by omega)
 simp only [hiB,if_false] at ht;by_cases h50:B-a<50
 ·rw [if_pos h50] at ht;exact yNA (by rw [<- ht];exact ⟨rfl,w⟩) (by omega) (by omega) (by omega)
 rw [if_neg h50] at ht;have l1:=w.dt.ldN (i:=(i2:Int)-1) (k:=i2-1) (by omega) (by omega);have l2:=w.dt.ldN (i:=(i2:Int)) (k:=i2) rfl (by omega);obtain ⟨τ5,τ6,t1,t2,w6⟩:=w.swapN (i:=(i2:Int)) (j:=(i2:Int)-1) (p:=i2) (q:=i2-1) rfl (by omega) (by omega) (by omega);have hall6:=hall.swp (i:=i2) (j:=i2-1) (by omega) (by omega);have hsz6:(swp dk i2 (i2-1)).size=d.size:=by rw [xA,hsz]
 have right:∀ (dx:Array Rec) (τx:St),W Z τx b s d dx->dx.size=d.size->xT V dx->2<=B-i2->zJO ⟨b,0,s⟩ d.size c (a:Int) (B:Int) g gc (i2:Int) (5-((k+1:Nat):Int)) ((i2:Int)+1) τx (fun τ'=>W Z τ' b s d (Go.Sort.shiftUp lt B (i2+1) dx)):=fun dx τx wx hx1 hx2 h2=>by
  have:=yNE (c:=c) (a:=(a:Int)) (i10:=5-((k+1:Nat):Int)) (B:=B) (x:=i2+1) (i:=i2) hc wx hx1 hx2 (by omega) (by omega) hB hn;rw [show ((i2+1:Nat):Int)=(i2:Int)+1 by omega] at this;exact this
 by_cases hl2:i2-a ≥ 2
 ·simp only [hl2,if_true] at ht;have left:=yUZ (c:=c) (a:=(a:Int)) (B:=(B:Int)) (i10:=5-((k+1:Nat):Int)) (x:=i2-1) (i:=i2) hc w6 hsz6 hall6 (by omega) hn;rw [show ((i2-1:Nat):Int)=(i2:Int)-1 by omega] at left;have hszL:(Go.Sort.shiftDown lt (i2-1) (swp dk i2 (i2-1))).size=d.size:=by rw [zIW,hsz6]
  have hallL:=zMO lt (V:=V) (i2-1) (swp dk i2 (i2-1)) (by omega) hall6;refine yMZ l1 l2 t1 t2 left (fun τ' w7=>?_) (by omega) (by omega) (by omega) (by omega) (by omega) (by omega) (by omega) (by omega);by_cases hr2:B-i2 ≥ 2
  ·simp only [hr2,if_true] at ht;have hU:=zCP lt (V:=V) (B:=B) _ (i2+1) _ (Nat.le_refl _) (by omega) (by omega) hallL;exact yMW (right _ _ w7 hszL hallL (by omega)) (fun τ'' w8=>zUJ ⟨k,by omega,i2,_,rfl,by omega,by omega,by omega,by omega,by rw [hU.1,hszL],hU.2,w8,ht⟩)
  ·simp only [hr2,if_false] at ht;exact yMV ⟨k,by omega,i2,_,rfl,by omega,by omega,by omega,by omega,hszL,hallL,w7,ht⟩
 ·simp only [hl2,if_false] at ht;by_cases hr2:B-i2 ≥ 2
  ·simp only [hr2,if_true] at ht;have hU:=zCP lt (V:=V) (B:=B) _ (i2+1) _ (Nat.le_refl _) (by omega) (by omega) hall6;exact yMY l1 l2 t1 t2 (right _ _ w6 hsz6 hall6 (by omega)) (fun τ'' w8=>zUJ ⟨k,by omega,i2,_,rfl,by omega,by omega,by omega,by omega,by rw [hU.1,hsz6],hU.2,w8,ht⟩)
  ·simp only [hr2,if_false] at ht;exact yMX l1 l2 t1 t2 ⟨k,by omega,i2,_,rfl,by omega,by omega,by omega,by omega,hsz6,hall6,w6,ht⟩
end
end
section
noncomputable section
variable (data:oAa) (ah aj:Nat) (aI a_1 bX kB:Int) (q0:Int->Int->St->Prop) (BB:Nat) (n2 aJ:Int) (q2:Int->St->Prop) (Q:St->Prop) (Z:St) (q1:vPa) (q3:Int->St->Prop) (Nx:Int->Int->St->Prop) (Q0:St->Prop)
def yZT:Code:=(Code.part [1,1,0,0] (qj 110))
def zVW:lNa:=[(0,.slice data ah aj),(8,iV aI),(9,iV bX)]
def xJL:Alt:=⟨Int × Int,.normal,fun t=>zVW data ah aj t.1 t.2,fun t=>[],fun t Z=>q0 t.1 t.2 Z⟩
def yDH (data:oAa) (ah aj:Nat):lNa:=[]
def zRJ:Alt:=⟨Unit,(.exit 0),fun t=>yDH data ah aj,fun t=>[],fun t Z=>Q Z⟩
def yHP:Prop:=qk ql none yZT 34 (zVW data ah aj aI bX) [] [xJL data ah aj Nx,zRJ data ah aj Q0] Z
def yZU:Prop:=qm ql none yZT 34 (zVW data ah aj aI bX) [] [zRJ data ah aj Q0] Z
def yDI:Prop:=kZ ql (qj 110) [1,1,0] (qn 110 q1) (.exit 0) 34 (yDH data ah aj) Z
def yGM:Code:=(Code.part [1,1,0,1,1,1,0,0] (qj 108))
def zMB:lNa:=[(0,.slice data ah aj),(1,iV a_1),(8,iV kB),(9,pq BB 0),(10,.int .u64 n2),(11,iV aJ)]
def yYG:Alt:=⟨Int,.normal,fun t=>zMB data ah aj a_1 kB BB n2 t,fun t=>[],fun t Z=>q2 t Z⟩
def zVF (data:oAa) (ah aj:Nat) (a_1 kB:Int) (BB:Nat) (n2:Int):lNa:=[]
def zKP:Alt:=⟨Unit,(.exit 0),fun t=>zVF data ah aj a_1 kB BB n2,fun t=>[],fun t Z=>Q Z⟩
def zMC:Prop:=qk ql none yGM 67 (zMB data ah aj a_1 kB BB n2 aJ) [] [yYG data ah aj a_1 kB BB n2 q3,zKP data ah aj a_1 kB BB n2 Q0] Z
def yGN:Prop:=qm ql none yGM 67 (zMB data ah aj a_1 kB BB n2 aJ) [] [zKP data ah aj a_1 kB BB n2 Q0] Z
def zVG:Prop:=kZ ql (qj 108) [1,1,0,1,1,1,0] (qn 108 q1) (.exit 0) 67 (zVF data ah aj a_1 kB BB n2) Z
end
variable {ah aj BB:Nat} {a_1 b n1 n2 n3 n4 n5 n6 n7 n8 c n9 aI bX nA nH nF nG nE nI kB aJ zA nM nR nS nT z1 length n10 n11 n13 x z2:Int} {swaps ax r:Addr} {aB:FuncId} {au:lVa} {Z9 Z Z3 Z6 Z2 Z4 Z8 ZDB ZF ZB ZV ZR Z12:St} {Q:vPa} {data:oAa} {Inv:Nat->Int->Int->St->Prop} {Q0 P0:St->Prop} {Nx:Int->St->Prop}
theorem xSS (h1:lz Z 45 (zJ ax (Int.toNat b*3)) (qh (rcd n1 n2 n3))) (h2:lz Z 45 (zJ ax (Int.toNat a_1*3)) (qh (rcd n4 n5 n6))) (h3:qo aB (qh (rcd n1 n2 n3)::(qh (rcd n4 n5 n6))::au) Z (iV n7) Z) (h4:lz Z 3 swaps (iV n8)) (h5:qq (evL [pz swaps,iV (n8+1)]) Z (.store 3 (.tmp 0) (.tmp 1))=some (undef,Z9)) (nx:Q (.tuple ⟨[iV b,iV a_1]⟩) Z9) (u1:Ix b ah:=by omega) (u2:Ix a_1 ah:=by omega) (u3:n7<0:=by omega) (u4:I6 (n8+1):=by omega):qi 130 [.slice (some ax) ah aj,iV a_1,iV b,pz swaps,.func (.func aB) ⟨[]⟩ ⟨au⟩] Z Q :=
 zG [.g,.g,.g,.g,.g,.i,.l (qh (rcd n1 n2 n3)),.g,.g,.i,.l (qh (rcd n4 n5 n6)),.c (iV n7) Z,.b true,.g,.g,.l (iV n8),.n (n8+1),.g,.e undef Z9,.g,.g,.g,.g] (kd (an3 u1 h1 u2 (an6 h2 h3 (zR u3) h4 (w64 u4) h5 nx)))
theorem xSR (h1:lz Z 45 (zJ ax (Int.toNat b*3)) (qh (rcd n1 n2 n3))) (h2:lz Z 45 (zJ ax (Int.toNat a_1*3)) (qh (rcd n4 n5 n6))) (h3:qo aB (qh (rcd n1 n2 n3)::(qh (rcd n4 n5 n6))::au) Z (iV n7) Z) (nx:Q (.tuple ⟨[iV a_1,iV b]⟩) Z) (u1:Ix b ah:=by omega) (u2:Ix a_1 ah:=by omega) (u3:¬ n7<0:=by omega):qi 130 [.slice (some ax) ah aj,iV a_1,iV b,pz swaps,.func (.func aB) ⟨[]⟩ ⟨au⟩] Z Q :=
 zG [.g,.g,.g,.g,.g,.i,.l (qh (rcd n1 n2 n3)),.g,.g,.i,.l (qh (rcd n4 n5 n6)),.c (iV n7) Z,.b false,.g,.g,.g,.g] (kd (an6 u1 h1 u2 h2 h3 (zS u3) nx))
theorem xLS (h1:qo 130 [.slice data ah aj,iV a_1,iV b,pz swaps,.func (.func aB) ⟨[]⟩ ⟨au⟩] Z (.tuple ⟨[iV n1,iV n2]⟩) Z3) (h2:qo 130 [.slice data ah aj,iV n2,iV c,pz swaps,.func (.func aB) ⟨[]⟩ ⟨au⟩] Z3 (.tuple ⟨[iV n4,iV n5]⟩) Z6) (h3:qo 130 [.slice data ah aj,iV n1,iV n4,pz swaps,.func (.func aB) ⟨[]⟩ ⟨au⟩] Z6 (.tuple ⟨[iV n7,iV n8]⟩) Z9) (nx:Q (iV n8) Z9):qi 125 [.slice data ah aj,iV a_1,iV b,iV c,pz swaps,.func (.func aB) ⟨[]⟩ ⟨au⟩] Z Q :=
 zG [.g,.g,.g,.g,.g,.g,.c (.tuple ⟨[iV n1,iV n2]⟩) Z3,.g,.g,.g,.g,.g,.g,.g,.g,.g,.g,.c (.tuple ⟨[iV n4,iV n5]⟩) Z6,.g,.g,.g,.g,.g,.g,.g,.g,.g,.g,.c (.tuple ⟨[iV n7,iV n8]⟩) Z9,.g,.g,.g,.g,.g,.g,.g] (kd (an3 h1 h2 h3 nx))
theorem xAU (h1:qo 125 [.slice data ah aj,iV (a_1-1),iV a_1,iV (a_1+1),pz swaps,.func (.func aB) ⟨[]⟩ ⟨au⟩] Z (iV n1) Z2) (nx:Q (iV n1) Z2) (u1:I6 (a_1-1):=by omega) (u2:I6 (a_1+1):=by omega):qi 124 [.slice data ah aj,iV a_1,pz swaps,.func (.func aB) ⟨[]⟩ ⟨au⟩] Z Q :=
 zG [.g,.g,.g,.n (a_1-1),.g,.g,.n (a_1+1),.g,.g,.c (iV n1) Z2,.g] (kd (an3 (w64 u1) (w64 u2) h1 nx))
@[reducible] def Ha4 (b a_1 n1 n3 n5 n7 n9:Int) (data:oAa) (ah aj:Nat) (Z Z2 Z4 Z6 Z8:St) (aB:FuncId) (au:lVa):Prop:=IntKind.wrap .i64 (Int.tdiv (b-a_1) 4)=Int.tdiv (b-a_1) 4/\(qo 124 [.slice data ah aj,iV (a_1+((Int.tdiv (b-a_1) 4)*1)),.pointer (some ⟨Z.y,0,none⟩),.func (.func aB) ⟨[]⟩ ⟨au⟩] (Z.row [iV 0] 1) (iV n1) Z2)/\(qo 124 [.slice data ah aj,iV (a_1+((Int.tdiv (b-a_1) 4)*2)),.pointer (some ⟨Z.y,0,none⟩),.func (.func aB) ⟨[]⟩ ⟨au⟩] Z2 (iV n3) Z4)/\(qo 124 [.slice data ah aj,iV (a_1+((Int.tdiv (b-a_1) 4)*3)),.pointer (some ⟨Z.y,0,none⟩),.func (.func aB) ⟨[]⟩ ⟨au⟩] Z4 (iV n5) Z6)/\(qo 125 [.slice data ah aj,iV n1,iV n3,iV n5,.pointer (some ⟨Z.y,0,none⟩),.func (.func aB) ⟨[]⟩ ⟨au⟩] Z6 (iV n7) Z8)/\qp Z8 3 ⟨Z.y,0,none⟩=some (iV n9)
theorem yXL:let y0:=Int.tdiv (b-a_1) 4;∀ (H:Ha4 b a_1 n1 n3 n5 n7 n9 data ah aj Z Z2 Z4 Z6 Z8 aB au) (nx:Q (.tuple ⟨[iV n7,iV 1]⟩) Z8) (u1:I6 (b-a_1):=by omega) (u2:I6 (y0*1):=by omega) (u3:I6 (a_1+(y0*1)):=by omega) (u4:I6 (y0*2):=by omega) (u5:I6 (a_1+(y0*2)):=by omega) (u6:I6 (y0*3):=by omega) (u7:I6 (a_1+(y0*3)):=by omega) (u8:8<=(b-a_1):=by omega) (u9:50<=(b-a_1):=by omega) (u10:n9=0:=by omega),qi 109 [.slice data ah aj,iV a_1,iV b,.func (.func aB) ⟨[]⟩ ⟨au⟩] Z Q :=
 fun H nx u1 u2 u3 u4 u5 u6 u7 u8 u9 u10=>match H with|⟨h1,h2,h3,h4,h5,h6⟩=>let s1:=Int.tdiv (b-a_1) 4;zG [.g,.g,.g,.g,.n (b-a_1),.g,.g,.g,.g,.n s1,.n (s1*1),.n (a_1+(s1*1)),.g,.g,.g,.n s1,.n (s1*2),.n (a_1+(s1*2)),.g,.g,.g,.n s1,.n (s1*3),.n (a_1+(s1*3)),.g,.g,.b true,.g,.b true,.g,.g,.g,.c (iV n1) Z2,.g,.g,.g,.g,.c (iV n3) Z4,.g,.g,.g,.g,.c (iV n5) Z6,.g,.g,.g,.g,.g,.g,.c (iV n7) Z8,.g,.l (iV n9),.b true,.g,.g,.g,.g] (kd (an6 (w64 u1) h1 (w64 u2) (w64 u3) h1 (w64 u4) (an6 (w64 u5) h1 (w64 u6) (w64 u7) (yE u8) (yE u9) (an6 h2 h3 h4 h5 h6 (xH u10) nx))))
theorem yXK:let y0:=Int.tdiv (b-a_1) 4;∀ (H:Ha4 b a_1 n1 n3 n5 n7 n9 data ah aj Z Z2 Z4 Z6 Z8 aB au) (nx:Q (.tuple ⟨[iV n7,iV 2]⟩) Z8) (u1:I6 (b-a_1):=by omega) (u2:I6 (y0*1):=by omega) (u3:I6 (a_1+(y0*1)):=by omega) (u4:I6 (y0*2):=by omega) (u5:I6 (a_1+(y0*2)):=by omega) (u6:I6 (y0*3):=by omega) (u7:I6 (a_1+(y0*3)):=by omega) (u8:8<=(b-a_1):=by omega) (u9:50<=(b-a_1):=by omega) (u10:¬ n9=0:=by omega) (u11:n9=12:=by omega),qi 109 [.slice data ah aj,iV a_1,iV b,.func (.func aB) ⟨[]⟩ ⟨au⟩] Z Q :=
 fun H nx u1 u2 u3 u4 u5 u6 u7 u8 u9 u10 u11=>match H with|⟨h1,h2,h3,h4,h5,h6⟩=>let s1:=Int.tdiv (b-a_1) 4;zG [.g,.g,.g,.g,.n (b-a_1),.g,.g,.g,.g,.n s1,.n (s1*1),.n (a_1+(s1*1)),.g,.g,.g,.n s1,.n (s1*2),.n (a_1+(s1*2)),.g,.g,.g,.n s1,.n (s1*3),.n (a_1+(s1*3)),.g,.g,.b true,.g,.b true,.g,.g,.g,.c (iV n1) Z2,.g,.g,.g,.g,.c (iV n3) Z4,.g,.g,.g,.g,.c (iV n5) Z6,.g,.g,.g,.g,.g,.g,.c (iV n7) Z8,.g,.l (iV n9),.b false,.g,.b true,.g,.g,.g,.g] (kd (ai (w64 u1) (an6 h1 (w64 u2) (w64 u3) h1 (w64 u4) (w64 u5) (an6 h1 (w64 u6) (w64 u7) (yE u8) (yE u9) h2 (an6 h3 h4 h5 h6 (yD u10) (xH u11) nx)))))
theorem yXJ:let y0:=Int.tdiv (b-a_1) 4;∀ (H:Ha4 b a_1 n1 n3 n5 n7 n9 data ah aj Z Z2 Z4 Z6 Z8 aB au) (nx:Q (.tuple ⟨[iV n7,iV 0]⟩) Z8) (u1:I6 (b-a_1):=by omega) (u2:I6 (y0*1):=by omega) (u3:I6 (a_1+(y0*1)):=by omega) (u4:I6 (y0*2):=by omega) (u5:I6 (a_1+(y0*2)):=by omega) (u6:I6 (y0*3):=by omega) (u7:I6 (a_1+(y0*3)):=by omega) (u8:8<=(b-a_1):=by omega) (u9:50<=(b-a_1):=by omega) (u10:¬ n9=0:=by omega) (u11:¬ n9=12:=by omega),qi 109 [.slice data ah aj,iV a_1,iV b,.func (.func aB) ⟨[]⟩ ⟨au⟩] Z Q :=
 fun H nx u1 u2 u3 u4 u5 u6 u7 u8 u9 u10 u11=>match H with|⟨h1,h2,h3,h4,h5,h6⟩=>let s1:=Int.tdiv (b-a_1) 4;zG [.g,.g,.g,.g,.n (b-a_1),.g,.g,.g,.g,.n s1,.n (s1*1),.n (a_1+(s1*1)),.g,.g,.g,.n s1,.n (s1*2),.n (a_1+(s1*2)),.g,.g,.g,.n s1,.n (s1*3),.n (a_1+(s1*3)),.g,.g,.b true,.g,.b true,.g,.g,.g,.c (iV n1) Z2,.g,.g,.g,.g,.c (iV n3) Z4,.g,.g,.g,.g,.c (iV n5) Z6,.g,.g,.g,.g,.g,.g,.c (iV n7) Z8,.g,.l (iV n9),.b false,.g,.b false,.g,.g,.g,.g] (kd (ai (w64 u1) (an6 h1 (w64 u2) (w64 u3) h1 (w64 u4) (w64 u5) (an6 h1 (w64 u6) (w64 u7) (yE u8) (yE u9) h2 (an6 h3 h4 h5 h6 (yD u10) (yD u11) nx)))))
theorem yXI:let s1:=Int.tdiv (b-a_1) 4;∀ (h1:IntKind.wrap .i64 s1=Int.tdiv (b-a_1) 4) (h2:qo 125 [.slice data ah aj,iV (a_1+(s1*1)),iV (a_1+(s1*2)),iV (a_1+(s1*3)),pq Z.y 0,.func (.func aB) ⟨[]⟩ ⟨au⟩] (Z.row [iV 0] 1) (iV n1) Z2) (h3:lz Z2 3 (qg Z.y 0) (iV n3)) (nx:Q (.tuple ⟨[iV n1,iV 1]⟩) Z2) (u1:I6 (b-a_1):=by omega) (u2:I6 (s1*1):=by omega) (u3:I6 (a_1+(s1*1)):=by omega) (u4:I6 (s1*2):=by omega) (u5:I6 (a_1+(s1*2)):=by omega) (u6:I6 (s1*3):=by omega) (u7:I6 (a_1+(s1*3)):=by omega) (u8:8<=(b-a_1):=by omega) (u9:¬ 50<=(b-a_1):=by omega) (u10:n3=0:=by omega),qi 109 [.slice data ah aj,iV a_1,iV b,.func (.func aB) ⟨[]⟩ ⟨au⟩] Z Q:=
 let s1:=Int.tdiv (b-a_1) 4;fun h1 h2 h3 nx u1 u2 u3 u4 u5 u6 u7 u8 u9 u10=>zG [.g,.g,.g,.g,.n (b-a_1),.g,.g,.g,.g,.n s1,.n (s1*1),.n (a_1+(s1*1)),.g,.g,.g,.n s1,.n (s1*2),.n (a_1+(s1*2)),.g,.g,.g,.n s1,.n (s1*3),.n (a_1+(s1*3)),.g,.g,.b true,.g,.b false,.g,.g,.g,.g,.g,.c (iV n1) Z2,.g,.l (iV n3),.b true,.g,.g,.g,.g] (kd (an3 (w64 u1) h1 (w64 u2) (an6 (w64 u3) h1 (w64 u4) (w64 u5) h1 (w64 u6) (an6 (w64 u7) (yE u8) (yH u9) h2 h3 (xH u10) nx))))
theorem yXH:let s1:=Int.tdiv (b-a_1) 4;∀ (h1:IntKind.wrap .i64 s1=Int.tdiv (b-a_1) 4) (h2:qo 125 [.slice data ah aj,iV (a_1+(s1*1)),iV (a_1+(s1*2)),iV (a_1+(s1*3)),pq Z.y 0,.func (.func aB) ⟨[]⟩ ⟨au⟩] (Z.row [iV 0] 1) (iV n1) Z2) (h3:lz Z2 3 (qg Z.y 0) (iV n3)) (nx:Q (.tuple ⟨[iV n1,iV 2]⟩) Z2) (u1:I6 (b-a_1):=by omega) (u2:I6 (s1*1):=by omega) (u3:I6 (a_1+(s1*1)):=by omega) (u4:I6 (s1*2):=by omega) (u5:I6 (a_1+(s1*2)):=by omega) (u6:I6 (s1*3):=by omega) (u7:I6 (a_1+(s1*3)):=by omega) (u8:8<=(b-a_1):=by omega) (u9:¬ 50<=(b-a_1):=by omega) (u10:¬ n3=0:=by omega) (u11:n3=12:=by omega),qi 109 [.slice data ah aj,iV a_1,iV b,.func (.func aB) ⟨[]⟩ ⟨au⟩] Z Q:=
 let s1:=Int.tdiv (b-a_1) 4;fun h1 h2 h3 nx u1 u2 u3 u4 u5 u6 u7 u8 u9 u10 u11=>zG [.g,.g,.g,.g,.n (b-a_1),.g,.g,.g,.g,.n s1,.n (s1*1),.n (a_1+(s1*1)),.g,.g,.g,.n s1,.n (s1*2),.n (a_1+(s1*2)),.g,.g,.g,.n s1,.n (s1*3),.n (a_1+(s1*3)),.g,.g,.b true,.g,.b false,.g,.g,.g,.g,.g,.c (iV n1) Z2,.g,.l (iV n3),.b false,.g,.b true,.g,.g,.g,.g] (kd (an4 (w64 u1) h1 (w64 u2) (w64 u3) (an6 h1 (w64 u4) (w64 u5) h1 (w64 u6) (w64 u7) (an6 (yE u8) (yH u9) h2 h3 (yD u10) (xH u11) nx))))
theorem yXG:let s1:=Int.tdiv (b-a_1) 4;∀ (h1:IntKind.wrap .i64 s1=Int.tdiv (b-a_1) 4) (h2:qo 125 [.slice data ah aj,iV (a_1+(s1*1)),iV (a_1+(s1*2)),iV (a_1+(s1*3)),pq Z.y 0,.func (.func aB) ⟨[]⟩ ⟨au⟩] (Z.row [iV 0] 1) (iV n1) Z2) (h3:lz Z2 3 (qg Z.y 0) (iV n3)) (nx:Q (.tuple ⟨[iV n1,iV 0]⟩) Z2) (u1:I6 (b-a_1):=by omega) (u2:I6 (s1*1):=by omega) (u3:I6 (a_1+(s1*1)):=by omega) (u4:I6 (s1*2):=by omega) (u5:I6 (a_1+(s1*2)):=by omega) (u6:I6 (s1*3):=by omega) (u7:I6 (a_1+(s1*3)):=by omega) (u8:8<=(b-a_1):=by omega) (u9:¬ 50<=(b-a_1):=by omega) (u10:¬ n3=0:=by omega) (u11:¬ n3=12:=by omega),qi 109 [.slice data ah aj,iV a_1,iV b,.func (.func aB) ⟨[]⟩ ⟨au⟩] Z Q:=
 let s1:=Int.tdiv (b-a_1) 4;fun h1 h2 h3 nx u1 u2 u3 u4 u5 u6 u7 u8 u9 u10 u11=>zG [.g,.g,.g,.g,.n (b-a_1),.g,.g,.g,.g,.n s1,.n (s1*1),.n (a_1+(s1*1)),.g,.g,.g,.n s1,.n (s1*2),.n (a_1+(s1*2)),.g,.g,.g,.n s1,.n (s1*3),.n (a_1+(s1*3)),.g,.g,.b true,.g,.b false,.g,.g,.g,.g,.g,.c (iV n1) Z2,.g,.l (iV n3),.b false,.g,.b false,.g,.g,.g,.g] (kd (an4 (w64 u1) h1 (w64 u2) (w64 u3) (an6 h1 (w64 u4) (w64 u5) h1 (w64 u6) (w64 u7) (an6 (yE u8) (yH u9) h2 h3 (yD u10) (yD u11) nx))))
theorem yXF:let s1:=Int.tdiv (b-a_1) 4;∀ (h1:IntKind.wrap .i64 s1=Int.tdiv (b-a_1) 4) (nx:Q (.tuple ⟨[iV (a_1+(s1*2)),iV 1]⟩) (Z.row [iV 0] 1)) (u1:I6 (b-a_1):=by omega) (u2:I6 (s1*1):=by omega) (u3:I6 (a_1+(s1*1)):=by omega) (u4:I6 (s1*2):=by omega) (u5:I6 (a_1+(s1*2)):=by omega) (u6:I6 (s1*3):=by omega) (u7:I6 (a_1+(s1*3)):=by omega) (u8:¬ 8<=(b-a_1):=by omega),qi 109 [.slice data ah aj,iV a_1,iV b,.func (.func aB) ⟨[]⟩ ⟨au⟩] Z Q:=
 let s1:=Int.tdiv (b-a_1) 4;fun h1 nx u1 u2 u3 u4 u5 u6 u7 u8=>zG [.g,.g,.g,.g,.n (b-a_1),.g,.g,.g,.g,.n s1,.n (s1*1),.n (a_1+(s1*1)),.g,.g,.g,.n s1,.n (s1*2),.n (a_1+(s1*2)),.g,.g,.g,.n s1,.n (s1*3),.n (a_1+(s1*3)),.g,.g,.b false,.l (iV 0),.g,.g,.g,.g,.g] (kd (an6 (w64 u1) h1 (w64 u2) (w64 u3) h1 (w64 u4) (an6 (w64 u5) h1 (w64 u6) (w64 u7) (yH u8) ((zC _ _ _).rw.ld zU (k:=0) rfl:lz (Z.row [iV 0] 1) 3 (qg Z.y 0) (iV 0)) nx)))
theorem ySW (hb:∀ k aI bX Z,Inv k aI bX Z->yHP data ah aj aI bX Z (NX2 Inv k) Q0):∀ k aI bX Z,Inv k aI bX Z->yZU data ah aj aI bX Z Q0 :=
 zDU (ai (xZ 0) trivial) hb
theorem xJK {Nx:Int->Int->St->Prop} (h1:lz Z 45 (zJ ax (Int.toNat bX*3)) (qh (rcd nA nH nF))) (h2:lz Z 45 (zJ ax (Int.toNat aI*3)) (qh (rcd nG nE nI))) (h3:qq (evL [pz (zJ ax (Int.toNat aI*3)),qh (rcd nA nH nF)]) Z (.store 45 (.tmp 0) (.tmp 1))=some (undef,ZDB)) (h4:qq (evL [pz (zJ ax (Int.toNat bX*3)),qh (rcd nG nE nI)]) ZDB (.store 45 (.tmp 0) (.tmp 1))=some (undef,ZF)) (nx:Nx (aI+1) (bX-1) ZF) (u1:aI<bX:=by omega) (u2:Ix bX ah:=by omega) (u3:Ix aI ah:=by omega) (u4:I6 (aI+1):=by omega) (u5:I6 (bX-1):=by omega):yHP (some ax) ah aj aI bX Z Nx Q0 :=
 kO 0 (aI+1,bX-1) [.g,.g,.b true,.g,.g,.g,.g,.g,.g,.i,.l (qh (rcd nA nH nF)),.g,.g,.i,.l (qh (rcd nG nE nI)),.i,.e undef ZDB,.i,.e undef ZF,.g,.n (aI+1),.g,.g,.n (bX-1),.g] (fun _ f=>an5 (zR u1) u2 h1 u3 h2 (an6 u3 h3 u2 h4 (w64 u4) (w64 u5) f)) nx
theorem xJJ {Nx:Int->Int->St->Prop} (nx:Q0 Z) (u1:¬ aI<bX:=by omega):yHP data ah aj aI bX Z Nx Q0 :=
 kO 1 () [.g,.g,.b false] (fun _ f=>ai (zS u1) f) nx
theorem xRN (hL:yZU data ah aj a_1 (b-1) Z P0) (k0:∀ Z',P0 Z'->yDI data ah aj Z' Q) (u1:I6 (b-1):=by omega):qi 110 [.slice data ah aj,iV a_1,iV b,.func (.func aB) ⟨[]⟩ ⟨au⟩] Z Q :=
 let s1:=zVW data ah aj a_1 (b-1);zG [.g,.g,.g,.n (b-1),.g,.lf 34 s1 [zRJ data ah aj P0]] (kd (ai (w64 u1) (ai (ai tt (ai (arf s1) hL)) (ai (kz0 k0) trivial))))
theorem ySV (nx:Q (.tuple ⟨[]⟩) Z):yDI data ah aj Z Q :=
 sK [] nx
theorem yJZ {Inv:Nat->Int->St->Prop} (hb:∀ k aJ Z,Inv k aJ Z->zMC data ah aj a_1 kB BB n2 aJ Z (NX1 Inv k) Q0):∀ k aJ Z,Inv k aJ Z->yGN data ah aj a_1 kB BB n2 aJ Z Q0 :=
 xL (ai (xZ 0) trivial) hb
theorem yYF:let y0:=(Int.tdiv kB 4)*2;let y1:=zJ ax (Int.toNat (a_1+(nG-kB))*3);let y2:=zJ ax (Int.toNat aJ*3);∀ (h1:IntKind.wrap .i64 (Int.tdiv kB 4)=Int.tdiv kB 4) (h2:qo 123 [pq BB 0] Z (.int .u64 nA) ZB) (h3:zAE .u64 (Int.sub n2 1)=zA) (h4:vP Pg .and 141 (.tmp 38) (.tmp 40) (.int .u64 nA) (.int .u64 zA)=some (.int .u64 nG)) (h5:lz ZB 45 y1 (qh (rcd nE nI nM))) (h6:lz ZB 45 y2 (qh (rcd nR nS nT))) (h7:qq (evL [pz y2,qh (rcd nE nI nM)]) ZB (.store 45 (.tmp 0) (.tmp 1))=some (undef,ZV)) (h8:qq (evL [pz y1,qh (rcd nR nS nT)]) ZV (.store 45 (.tmp 0) (.tmp 1))=some (undef,ZR)) (nx:Nx (aJ+1) ZR) (u1:I6 y0:=by omega) (u2:I6 (a_1+y0):=by omega) (u3:I6 ((a_1+y0)+1):=by omega) (u4:aJ<=((a_1+y0)+1):=by omega) (u5:I6 nG:=by omega) (u6:kB<=nG:=by omega) (u7:I6 (nG-kB):=by omega) (u8:I6 (a_1+(nG-kB)):=by omega) (u9:Ix (a_1+(nG-kB)) ah:=by omega) (u10:Ix aJ ah:=by omega) (u11:I6 (aJ+1):=by omega),zMC (some ax) ah aj a_1 kB BB n2 aJ Z Nx Q0 :=
 let s1:=(Int.tdiv kB 4)*2;let s2:=nG-kB;fun h1 h2 h3 h4 h5 h6 h7 h8 nx u1 u2 u3 u4 u5 u6 u7 u8 u9 u10 u11=>kO 0 (aJ+1) [.g,.g,.g,.n (Int.tdiv kB 4),.n s1,.n (a_1+s1),.n ((a_1+s1)+1),.b true,.c (.int .u64 nA) ZB,.g,.n zA,.v (.int .u64 nG),.n nG,.g,.g,.g,.b true,.g,.g,.n s2,.g,.g,.g,.g,.g,.g,.n (a_1+s2),.g,.g,.g,.n (a_1+s2),.i,.l (qh (rcd nE nI nM)),.g,.g,.i,.l (qh (rcd nR nS nT)),.i,.e undef ZV,.i,.e undef ZR,.g,.n (aJ+1),.g] (fun _ f=>an4 h1 (w64 u1) (w64 u2) (w64 u3) (an6 (yE u4) h2 h3 h4 (w64 u5) (yE u6) (an6 (w64 u7) (w64 u8) (w64 u8) u9 h5 u10 (an6 h6 u10 h7 u9 h8 (w64 u11) f)))) nx
theorem yYE:let y0:=(Int.tdiv kB 4)*2;let y1:=zJ ax (Int.toNat (a_1+nG)*3);let y2:=zJ ax (Int.toNat aJ*3);∀ (h1:IntKind.wrap .i64 (Int.tdiv kB 4)=Int.tdiv kB 4) (h2:qo 123 [pq BB 0] Z (.int .u64 nA) ZB) (h3:zAE .u64 (Int.sub n2 1)=zA) (h4:vP Pg .and 141 (.tmp 38) (.tmp 40) (.int .u64 nA) (.int .u64 zA)=some (.int .u64 nG)) (h5:lz ZB 45 y1 (qh (rcd nE nI nM))) (h6:lz ZB 45 y2 (qh (rcd nR nS nT))) (h7:qq (evL [pz y2,qh (rcd nE nI nM)]) ZB (.store 45 (.tmp 0) (.tmp 1))=some (undef,ZV)) (h8:qq (evL [pz y1,qh (rcd nR nS nT)]) ZV (.store 45 (.tmp 0) (.tmp 1))=some (undef,ZR)) (nx:Nx (aJ+1) ZR) (u1:I6 y0:=by omega) (u2:I6 (a_1+y0):=by omega) (u3:I6 ((a_1+y0)+1):=by omega) (u4:aJ<=((a_1+y0)+1):=by omega) (u5:I6 nG:=by omega) (u6:¬ kB<=nG:=by omega) (u7:I6 (a_1+nG):=by omega) (u8:Ix (a_1+nG) ah:=by omega) (u9:Ix aJ ah:=by omega) (u10:I6 (aJ+1):=by omega),zMC (some ax) ah aj a_1 kB BB n2 aJ Z Nx Q0 :=
 let s1:=(Int.tdiv kB 4)*2;fun h1 h2 h3 h4 h5 h6 h7 h8 nx u1 u2 u3 u4 u5 u6 u7 u8 u9 u10=>kO 0 (aJ+1) [.g,.g,.g,.n (Int.tdiv kB 4),.n s1,.n (a_1+s1),.n ((a_1+s1)+1),.b true,.c (.int .u64 nA) ZB,.g,.n zA,.v (.int .u64 nG),.n nG,.g,.g,.g,.b false,.g,.g,.g,.g,.g,.n (a_1+nG),.g,.g,.g,.n (a_1+nG),.i,.l (qh (rcd nE nI nM)),.g,.g,.i,.l (qh (rcd nR nS nT)),.i,.e undef ZV,.i,.e undef ZR,.g,.n (aJ+1),.g] (fun _ f=>an3 h1 (w64 u1) (w64 u2) (an6 (w64 u3) (yE u4) h2 h3 h4 (w64 u5) (an6 (yH u6) (w64 u7) (w64 u7) u8 h5 u9 (an6 h6 u9 h7 u8 h8 (w64 u10) f)))) nx
theorem yYD:let s1:=(Int.tdiv kB 4)*2;∀ (h1:IntKind.wrap .i64 (Int.tdiv kB 4)=Int.tdiv kB 4) (nx:Q0 Z) (u1:I6 s1:=by omega) (u2:I6 (a_1+s1):=by omega) (u3:I6 ((a_1+s1)+1):=by omega) (u4:¬ aJ<=((a_1+s1)+1):=by omega),zMC data ah aj a_1 kB BB n2 aJ Z Nx Q0:=
 let s1:=(Int.tdiv kB 4)*2;fun h1 nx u1 u2 u3 u4=>kO 1 () [.g,.g,.g,.n (Int.tdiv kB 4),.n s1,.n (a_1+s1),.n ((a_1+s1)+1),.b false] (fun _ f=>an5 h1 (w64 u1) (w64 u2) (w64 u3) (yH u4) f) nx
theorem xHE:let s1:=Z.row [.int .u64 0] 1;let s2:=s1.own Z.y [.int .u64 z1] 1;let s3:=(Int.tdiv (b-a_1) 4)*2;∀ (h1:zAE .u64 ((b-a_1))=z1) (h2:qo 122 [iV (b-a_1)] s2 (.int .u64 n2) s2) (h3:IntKind.wrap .i64 (Int.tdiv (b-a_1) 4)=Int.tdiv (b-a_1) 4) (hL:yGN data ah aj a_1 (b-a_1) Z.y n2 ((a_1+s3)-1) s2 P0) (k0:∀ Z',P0 Z'->zVG data ah aj a_1 (b-a_1) Z.y n2 Z' Q) (u1:I6 (b-a_1):=by omega) (u2:8<=(b-a_1):=by omega) (u3:I6 s3:=by omega) (u4:I6 (a_1+s3):=by omega) (u5:I6 ((a_1+s3)-1):=by omega),qi 108 [.slice data ah aj,iV a_1,iV b,.func (.func aB) ⟨[]⟩ ⟨au⟩] Z Q:=
 let s1:=Z.row [.int .u64 0] 1;let s2:=s1.own Z.y [.int .u64 z1] 1;let s3:=(Int.tdiv (b-a_1) 4)*2;let s4:=zMB data ah aj a_1 (b-a_1) Z.y n2 ((a_1+s3)-1);fun h1 h2 h3 hL k0 u1 u2 u3 u4 u5=>zG [.g,.g,.n (b-a_1),.g,.g,.b true,.g,.n z1,.g,.e undef s2,.g,.c (.int .u64 n2) s2,.g,.g,.g,.n (Int.tdiv (b-a_1) 4),.n s3,.n (a_1+s3),.n ((a_1+s3)-1),.g,.lf 67 s4 [zKP data ah aj a_1 (b-a_1) Z.y n2 P0]] (kd (an3 (w64 u1) (yE u2) h1 (an6 ((zC _ _ _).store (vs:=[.int .u64 z1]) rfl zVV rfl (nle rfl) rfl:qq (evL [pq Z.y 0,.int .u64 z1]) s1 (.store 166 (.tmp 0) (.tmp 1))=some (undef,s2)) h2 h3 (w64 u3) (w64 u4) (w64 u5) (ai (ai tt (ai (arf s4) hL)) (ai (kz0 k0) trivial)))))
theorem xHD (nx:Q (.tuple ⟨[]⟩) Z) (u1:I6 (b-a_1):=by omega) (u2:¬ 8<=(b-a_1):=by omega):qi 108 [.slice data ah aj,iV a_1,iV b,.func (.func aB) ⟨[]⟩ ⟨au⟩] Z Q :=
 zG [.g,.g,.n (b-a_1),.g,.g,.b false] (kd (an2 (w64 u1) (yH u2) nx))
theorem yJY (nx:Q (.tuple ⟨[]⟩) Z):zVG data ah aj a_1 kB BB n2 Z Q :=
 sK [] nx
theorem xLR (h1:zAE .u64 (length)=z1) (h2:qo 98 [.int .u64 z1] Z (iV n2) Z) (h3:vP Pg .shl 141 (.const (.int .u64 1)) (.tmp 5) (.int .u64 1) (iV n2)=some (.int .u64 n3)) (nx:Q (.int .u64 n3) Z):qi 122 [iV length] Z Q :=
 zG [.g,.g,.n z1,.c (iV n2) Z,.v (.int .u64 n3),.g] (kd (an3 h1 h2 h3 nx))
theorem xQQ (h1:lz Z 166 r (.int .u64 n1)) (h2:vP Pg .shl 166 (.tmp 8) (.const (.int .u64 13)) (.int .u64 n1) (.int .u64 13)=some (.int .u64 n2)) (h3:vP Pg .xor 166 (.tmp 5) (.tmp 9) (.int .u64 n1) (.int .u64 n2)=some (.int .u64 n3)) (h4:qq (evL [pz r,.int .u64 n3]) Z (.store 166 (.tmp 0) (.tmp 1))=some (undef,Z4)) (h5:lz Z4 166 r (.int .u64 n5)) (h6:vP Pg .shr 166 (.tmp 17) (.const (.int .u64 7)) (.int .u64 n5) (.int .u64 7)=some (.int .u64 n6)) (h7:vP Pg .xor 166 (.tmp 14) (.tmp 18) (.int .u64 n5) (.int .u64 n6)=some (.int .u64 n7)) (h8:qq (evL [pz r,.int .u64 n7]) Z4 (.store 166 (.tmp 0) (.tmp 1))=some (undef,Z8)) (h9:lz Z8 166 r (.int .u64 n9)) (h10:vP Pg .shl 166 (.tmp 26) (.const (.int .u64 17)) (.int .u64 n9) (.int .u64 17)=some (.int .u64 n10)) (h11:vP Pg .xor 166 (.tmp 23) (.tmp 27) (.int .u64 n9) (.int .u64 n10)=some (.int .u64 n11)) (h12:qq (evL [pz r,.int .u64 n11]) Z8 (.store 166 (.tmp 0) (.tmp 1))=some (undef,Z12)) (h13:lz Z12 166 r (.int .u64 n13)) (nx:Q (.int .u64 n13) Z12):qi 123 [pz r] Z Q :=
 zG [.g,.g,.g,.l (.int .u64 n1),.g,.g,.l (.int .u64 n1),.v (.int .u64 n2),.v (.int .u64 n3),.g,.e undef Z4,.g,.g,.l (.int .u64 n5),.g,.g,.l (.int .u64 n5),.v (.int .u64 n6),.v (.int .u64 n7),.g,.e undef Z8,.g,.g,.l (.int .u64 n9),.g,.g,.l (.int .u64 n9),.v (.int .u64 n10),.v (.int .u64 n11),.g,.e undef Z12,.g,.g,.l (.int .u64 n13),.g] (kd (an4 h1 h1 h2 h3 (an6 h4 h5 h5 h6 h7 h8 (an6 h9 h9 h10 h11 h12 h13 nx))))
theorem xBX (h1:qo 115 [.int .u64 x] Z (iV n1) Z) (nx:Q (iV n1) Z):qi 98 [.int .u64 x] Z Q :=
 zG [.g,.g,.c (iV n1) Z,.g] (kd (ai h1 nx))
theorem xHP (h1:vP Pg .shr 162 (.tmp 15) (.const (.int .u64 8)) (.int .u64 x) (.int .u64 8)=some (.int .u64 n1)) (h2:zAE .u8 (n1)=z2) (h3:zAM Pg 9 (.string ⟨#[0,1,2,2,3,3,3,3,4,4,4,4,4,4,4,4,5,5,5,5,5,5,5,5,5,5,5,5,5,5,5,5,6,6,6,6,6,6,6,6,6,6,6,6,6,6,6,6,6,6,6,6,6,6,6,6,6,6,6,6,6,6,6,6,7,7,7,7,7,7,7,7,7,7,7,7,7,7,7,7,7,7,7,7,7,7,7,7,7,7,7,7,7,7,7,7,7,7,7,7,7,7,7,7,7,7,7,7,7,7,7,7,7,7,7,7,7,7,7,7,7,7,7,7,7,7,7,7,8,8,8,8,8,8,8,8,8,8,8,8,8,8,8,8,8,8,8,8,8,8,8,8,8,8,8,8,8,8,8,8,8,8,8,8,8,8,8,8,8,8,8,8,8,8,8,8,8,8,8,8,8,8,8,8,8,8,8,8,8,8,8,8,8,8,8,8,8,8,8,8,8,8,8,8,8,8,8,8,8,8,8,8,8,8,8,8,8,8,8,8,8,8,8,8,8,8,8,8,8,8,8,8,8,8,8,8,8,8,8,8,8,8,8,8,8,8,8,8,8,8,8,8,8,8,8,8]⟩) (.int .u8 z2)=some (.int .u8 n3)) (nx:Q (iV (8+n3)) Z) (u1:¬ 4294967296<=x:=by omega) (u2:¬ 65536<=x:=by omega) (u3:256<=x:=by omega) (u4:I6 n3:=by omega) (u5:I6 (8+n3):=by omega):qi 115 [.int .u64 x] Z Q :=
 zG [.g,.g,.b false,.g,.b false,.g,.b true,.g,.v (.int .u64 n1),.g,.g,.g,.g,.g,.g,.n z2,.v (.int .u8 n3),.n n3,.n (8+n3),.g] (kd (an2 (yH u1) (yH u2) (an6 (yE u3) h1 h2 h3 (w64 u4) (w64 u5) nx)))
theorem xHO (h1:zAE .u8 (x)=z1) (h2:zAM Pg 9 (.string ⟨#[0,1,2,2,3,3,3,3,4,4,4,4,4,4,4,4,5,5,5,5,5,5,5,5,5,5,5,5,5,5,5,5,6,6,6,6,6,6,6,6,6,6,6,6,6,6,6,6,6,6,6,6,6,6,6,6,6,6,6,6,6,6,6,6,7,7,7,7,7,7,7,7,7,7,7,7,7,7,7,7,7,7,7,7,7,7,7,7,7,7,7,7,7,7,7,7,7,7,7,7,7,7,7,7,7,7,7,7,7,7,7,7,7,7,7,7,7,7,7,7,7,7,7,7,7,7,7,7,8,8,8,8,8,8,8,8,8,8,8,8,8,8,8,8,8,8,8,8,8,8,8,8,8,8,8,8,8,8,8,8,8,8,8,8,8,8,8,8,8,8,8,8,8,8,8,8,8,8,8,8,8,8,8,8,8,8,8,8,8,8,8,8,8,8,8,8,8,8,8,8,8,8,8,8,8,8,8,8,8,8,8,8,8,8,8,8,8,8,8,8,8,8,8,8,8,8,8,8,8,8,8,8,8,8,8,8,8,8,8,8,8,8,8,8,8,8,8,8,8,8,8,8,8,8,8,8]⟩) (.int .u8 z1)=some (.int .u8 n2)) (nx:Q (iV (0+n2)) Z) (u1:¬ 4294967296<=x:=by omega) (u2:¬ 65536<=x:=by omega) (u3:¬ 256<=x:=by omega) (u4:I6 n2:=by omega) (u5:I6 (0+n2):=by omega):qi 115 [.int .u64 x] Z Q :=
 zG [.g,.g,.b false,.g,.b false,.g,.b false,.g,.g,.n z1,.v (.int .u8 n2),.n n2,.n (0+n2),.g] (kd (ai (yH u1) (an6 (yH u2) (yH u3) h1 h2 (w64 u4) (w64 u5) nx)))
end
section
open Go.Sort (swp PermIn)
section
variable {Z:St} {b c:Nat} {s:Option Nat} {d:Array Rec} {g:FuncId} {gc:List Value} {lt:Rec->Rec->Bool} {V:Rec->Prop}
theorem xWR {a B:Nat} (h:Dt Z b s d) (hv:xT V d) (ha:a<B) (hB:B<=d.size) (hn:d.size<=1000000) :
  uW 110 [.slice (some ⟨b,0,s⟩) d.size c,iV (a:Int),iV (B:Int),.func (.func g) ⟨[]⟩ ⟨gc⟩] (.tuple ⟨[]⟩) Z b s d (Go.Sort.reverseRange d a B):=by
 refine uW.of h (xRN (P0:=fun τ=>W Z τ b s d (Go.Sort.reverseRange d a B)) (ySW (Inv:=fun k i j τ=>∃ (p q:Nat) (dk:Array Rec),i=p/\j=q/\k=q-p/\p<=B/\q<B/\W Z τ b s d dk/\dk.size=d.size/\Go.Sort.reverseLoop p q dk=Go.Sort.reverseRange d a B) ?_ (B-1-a) _ _ Z.re ⟨a,B-1,d,rfl,by omega,rfl,by omega,by omega,W.start h,rfl,rfl⟩) (fun τ hw=>ySV ⟨rfl,hw⟩) (by omega));rintro k i j τ ⟨p,q,dk,rfl,rfl,hk,hp,hq,w,hsz,ht⟩;by_cases hpq:p<q;rotate_left
 ·rw [Go.Sort.reverseLoop,if_neg hpq] at ht;exact xJJ (by rw [<- ht];exact w) (by omega)
 rw [Go.Sort.reverseLoop,if_pos hpq] at ht;have l1:=w.dt.ldN (i:=(q:Int)) (k:=q) rfl (by omega);have l2:=w.dt.ldN (i:=(p:Int)) (k:=p) rfl (by omega);obtain ⟨τ5,τ6,t1,t2,w6⟩:=w.swapN (i:=(p:Int)) (j:=(q:Int)) (p:=p) (q:=q) rfl rfl (by omega) (by omega);exact xJK l1 l2 t1 t2 ⟨q-1-(p+1),by omega,p+1,q-1,_,by omega,by omega,rfl,by omega,by omega,w6,by rw [xA,hsz],ht⟩
def zEX:List UInt8:=[0,1,2,2,3,3,3,3,4,4,4,4,4,4,4,4,5,5,5,5,5,5,5,5,5,5,5,5,5,5,5,5]++List.replicate 32 6++List.replicate 64 7++List.replicate 128 8
theorem xMF:zEX.length=256:=by decide
theorem yNZ:∀ n:Fin 256,(zEX.getD n.val 0).toNat<=8/\(0<n.val->2 ^ (zEX.getD n.val 0).toNat<=2*n.val):=by decide +kernel
theorem xXU {n:Nat} (hn:n<256):zAM Tryz.prog 9 (.string ⟨⟨zEX⟩⟩) (iV (n:Int))=some (.int .u8 ((zEX.getD n 0).toNat:Int)):=by
 have hl:n<zEX.length:=by rw [xMF];exact hn
 have e:zAM Tryz.prog 9 (.string ⟨⟨zEX⟩⟩) (iV (n:Int))=if 0<=(n:Int) then (((⟨⟨zEX⟩⟩:ByteArray)[(n:Int).toNat]?).map fun b=>Value.int .u8 b.toNat) else none:=by
  unfold zAM;have hu:Tryz.prog.underlying 9=some .string:=by kernel_rfl
  simp only [hu]
 rw [e,if_pos (by omega),Int.toNat_natCast];have hb:(⟨⟨zEX⟩⟩:ByteArray)[n]?=some (zEX.getD n 0):=by
  rw [getElem?_pos _ n (by show n<zEX.length;exact hl)];congr 1;rw [List.getD_eq_getElem?_getD,List.getElem?_eq_getElem hl];rfl
 rw [hb];rfl
end
end
section
open Go.Sort (swp PermIn)
theorem xXL {Z:St} {f:FuncId} {args:List Value} {S:Nat->Prop} {Q:Value->St->Prop} (h:zP Pg f args Z.re fun v s=>Only S Z.re s/\(s.low<Z.y\/zW RD v=false\/Q v Z)/\Q v s) (hQ:∀ v s m,Q v s->Q v ⟨s.heap,s.y,m⟩):∃ v Z',zD Pg f args Z v Z'/\Only S Z Z'/\Q v Z':=by
 obtain ⟨v,s,hN,h1,h2,h3⟩:=h;by_cases hlow:s.low<Z.y
 ·exact zP.mut ⟨v,s,hN,h1,.inl hlow,h3⟩ hQ
 ·cases hr:zW RD v with
  | false=>exact zP.mut ⟨v,s,hN,h1,.inr hr,h3⟩ hQ
  | true =>
   refine ⟨v,Z,zP.pure ⟨v,s,hN,rfl,by omega⟩ hr,Only.refl _ _, ?_⟩
   rcases h2 with h2 | h2 | h2
   ·exact absurd h2 hlow
   ·rw [hr] at h2;cases h2
   ·exact h2
theorem xID (n:Int):zAE .u8 n=n % 256:=by
 have e1:(2:Int) ^ 8=256:=by decide
 rw [uF];simp only [IntKind.wrap,IntKind.bits,IntKind.signed,e1,Bool.false_and,Bool.false_eq_true,if_false]
theorem zWU (n:Int):zAE .u64 n=n % 18446744073709551616:=by
 have e1:(2:Int) ^ 64=18446744073709551616:=by decide
 rw [uF];simp only [IntKind.wrap,IntKind.bits,IntKind.signed,e1,Bool.false_and,Bool.false_eq_true,if_false]
theorem xZB {x z:Int} {o1 o2:Operand} (hz:0<=z):∃ y,vP Pg .shl 166 o1 o2 (.int .u64 x) (.int .u64 z)=some (.int .u64 y):=by
 refine ⟨IntKind.u64.wrap (x*2 ^ (min z.toNat IntKind.u64.bits)), ?_⟩
 have e:Op.shift .shl .u64 x .u64 z=pure (.int .u64 (IntKind.u64.wrap (x*2 ^ (min z.toNat IntKind.u64.bits)))):=by unfold Op.shift;rw [if_neg (by omega)]
 show ((yA Pg (do eqGuard .shl 166 o1 o2 (.int .u64 x) (.int .u64 z);Op.shift .shl .u64 x .u64 z)).filter (zW RD))=_;rw [e];rfl
theorem wAK {x z:Int} {o1 o2:Operand} (hz:0<=z):∃ y,vP Pg .shr 166 o1 o2 (.int .u64 x) (.int .u64 z)=some (.int .u64 y):=by
 refine ⟨x.fdiv (2 ^ (min z.toNat IntKind.u64.bits)), ?_⟩
 have e:Op.shift .shr .u64 x .u64 z=pure (.int .u64 (x.fdiv (2 ^ (min z.toNat IntKind.u64.bits)))):=by unfold Op.shift;rw [if_neg (by omega)]
 show ((yA Pg (do eqGuard .shr 166 o1 o2 (.int .u64 x) (.int .u64 z);Op.shift .shr .u64 x .u64 z)).filter (zW RD))=_;rw [e];rfl
theorem xWC {x z:Int} {o1 o2:Operand}:∃ y,vP Pg .xor 166 o1 o2 (.int .u64 x) (.int .u64 z)=some (.int .u64 y):=by
 refine ⟨IntKind.u64.wrap ((BitVec.ofInt IntKind.u64.bits x ^^^ BitVec.ofInt IntKind.u64.bits z).toNat:Int), ?_⟩
 have e:Op.intBits .xor .u64 x z=pure (.int .u64 (IntKind.u64.wrap ((BitVec.ofInt IntKind.u64.bits x ^^^ BitVec.ofInt IntKind.u64.bits z).toNat:Int))):=rfl;show ((yA Pg (do eqGuard .xor 166 o1 o2 (.int .u64 x) (.int .u64 z);Op.intBits .xor .u64 x z)).filter (zW RD))=_;rw [e];rfl
theorem wAT {x:Int} {m:Nat} {o1 o2:Operand} (hm:m<18446744073709551616):∃ y:Nat,vP Pg .and 141 o1 o2 (.int .u64 x) (.int .u64 (m:Int))=some (.int .u64 (y:Int))/\y<=m:=by
 have e64:(2:Nat) ^ IntKind.u64.bits=18446744073709551616:=by decide
 have hb:(BitVec.ofInt IntKind.u64.bits (m:Int)).toNat=m:=by
  rw [BitVec.toNat_ofInt,e64];omega
 have hle:(BitVec.ofInt IntKind.u64.bits x &&& BitVec.ofInt IntKind.u64.bits (m:Int)).toNat<=m:=by
  rw [BitVec.toNat_and,hb];exact Nat.and_le_right
 refine ⟨(BitVec.ofInt IntKind.u64.bits x &&& BitVec.ofInt IntKind.u64.bits (m:Int)).toNat, ?_,hle⟩
 have e:Op.intBits .and .u64 x (m:Int)=pure (.int .u64 (IntKind.u64.wrap ((BitVec.ofInt IntKind.u64.bits x &&& BitVec.ofInt IntKind.u64.bits (m:Int)).toNat:Int))):=rfl;show ((yA Pg (do eqGuard .and 141 o1 o2 (.int .u64 x) (.int .u64 (m:Int));Op.intBits .and .u64 x (m:Int))).filter (zW RD))=_;rw [e,<- uF,zWU,Int.emod_eq_of_lt (by omega) (by omega)];rfl
theorem wAL {n:Nat} {o1 o2:Operand}:vP Pg .shr 162 o1 o2 (.int .u64 (n:Int)) (.int .u64 8)=some (.int .u64 ((n / 256:Nat):Int)):=by
 have e:Op.shift .shr .u64 (n:Int) .u64 8=pure (.int .u64 ((n / 256:Nat):Int)):=by
  unfold Op.shift;rw [if_neg (by omega)];show pure (Value.int .u64 (Int.fdiv (n:Int) (2 ^ (min (8:Int).toNat IntKind.u64.bits))))=_;rw [show (2:Int) ^ (min (8:Int).toNat IntKind.u64.bits)=((256:Nat):Int) by decide,<- Int.ofNat_fdiv]
 show ((yA Pg (do eqGuard .shr 162 o1 o2 (.int .u64 (n:Int)) (.int .u64 8);Op.shift .shr .u64 (n:Int) .u64 8)).filter (zW RD))=_;rw [e];rfl
theorem wAM {n:Nat} {o1 o2:Operand} (h:n<=16):vP Pg .shl 141 o1 o2 (.int .u64 1) (iV (n:Int))=some (.int .u64 ((2 ^ n:Nat):Int)):=by
 have e:Op.shift .shl .u64 1 .i64 (n:Int)=pure (.int .u64 (IntKind.u64.wrap (1*2 ^ (min (n:Int).toNat IntKind.u64.bits)))):=by unfold Op.shift;rw [if_neg (by omega)]
 have e2:IntKind.u64.wrap (1*2 ^ (min (n:Int).toNat IntKind.u64.bits))=((2 ^ n:Nat):Int):=by
  have hp:2 ^ n<=2 ^ 16:=Nat.pow_le_pow_right (by omega) h;have h16:(2:Nat) ^ 16=65536:=by decide
  rw [Int.toNat_natCast,show min n IntKind.u64.bits=n from Nat.min_eq_left (by show n<=64;omega),<- uF,zWU,Int.one_mul];have e3:(2:Int) ^ n=((2 ^ n:Nat):Int):=by simp
  rw [e3];obtain ⟨k,hk⟩:∃ k:Nat,k=2 ^ n:=⟨_,rfl⟩;rw [<- hk] at hp ⊢;omega
 show ((yA Pg (do eqGuard .shl 141 o1 o2 (.int .u64 1) (iV (n:Int));Op.shift .shl .u64 1 .i64 (n:Int))).filter (zW RD))=_;rw [e,e2];rfl
theorem xBF {n:Nat} (hn:n<256):zAM Pg 9 (.string ⟨⟨zEX⟩⟩) (.int .u8 (n:Int))=some (.int .u8 ((zEX.getD n 0).toNat:Int)):=by
 have h:=xXU hn;have e:zAM Pg 9 (.string ⟨⟨zEX⟩⟩) (.int .u8 (n:Int))=zAM Pg 9 (.string ⟨⟨zEX⟩⟩) (iV (n:Int)):=by
  unfold zAM;have hu:Pg.underlying 9=some .string:=by kernel_rfl
  simp only [hu]
 rw [e,h]
section
variable {Z:St} {b c:Nat} {s:Option Nat} {d:Array Rec} {g:FuncId} {gc:List Value} {lt:Rec->Rec->Bool} {V:Rec->Prop}
theorem yYK {x:Nat} (hx:x<65536):∃ n:Nat,n<=16/\(0<x->2 ^ n<=2*x)/\zD Pg 98 [.int .u64 (x:Int)] Z (iV (n:Int)) Z:=by
 by_cases h:x<256
 ·obtain ⟨p1,p2⟩:=yNZ ⟨x,h⟩;refine ⟨(zEX.getD x 0).toNat,by simp only at p1;omega,fun h0=>p2 h0, ?_⟩
  refine (xBX (n1:=((zEX.getD x 0).toNat:Int)) (xHO (z1:=(x:Int)) (n2:=((zEX.getD x 0).toNat:Int)) (by rw [xID];omega) (xBF h) ⟨by rw [Int.zero_add],Nat.le_refl _⟩ (by omega) (by omega) (by omega) (by simp only at p1;omega) (by simp only at p1;omega)).pure ⟨rfl,Nat.le_refl _⟩).pure
 ·have h2:x / 256<256:=by omega
  obtain ⟨p1,p2⟩:=yNZ ⟨x / 256,h2⟩;simp only at p1 p2;refine ⟨8+(zEX.getD (x / 256) 0).toNat,by omega,fun _=>?_, ?_⟩
  ·have:=p2 (by omega);rw [Nat.pow_add,show (2:Nat) ^ 8=256 from rfl];omega
  ·refine (xBX (n1:=((8+(zEX.getD (x / 256) 0).toNat:Nat):Int)) (xHP (n1:=((x / 256:Nat):Int)) (z2:=((x / 256:Nat):Int)) (n3:=((zEX.getD (x / 256) 0).toNat:Int)) wAL (by rw [xID];omega) (xBF h2) ⟨by congr 1,Nat.le_refl _⟩ (by omega) (by omega) (by omega) (by omega) (by omega)).pure ⟨rfl,Nat.le_refl _⟩).pure
theorem xSZ {l:Nat} (h0:0<l) (hl:l<65536):∃ m:Nat,1<=m/\m<=2*l/\zD Pg 122 [iV (l:Int)] Z (.int .u64 (m:Int)) Z:=by
 obtain ⟨n,h1,h2,h3⟩:=yYK (Z:=Z.re) (x:=l) hl;exact ⟨2 ^ n,Nat.pow_pos (by omega),h2 h0,(xLR (z1:=(l:Int)) (by rw [zWU];omega) h3 (wAM h1) ⟨rfl,Nat.le_refl _⟩).pure⟩
theorem xWD {r:Nat} {n:Int} (o:Own Z r [.int .u64 n] 1):∃ n' Z',zD Pg 123 [.pointer (some ⟨r,0,none⟩)] Z (.int .u64 n') Z'/\Only (·=r) Z Z'/\Own Z' r [.int .u64 n'] 1:=by
 obtain ⟨n2,b2⟩:=xZB (x:=n) (z:=13) (o1:=.tmp 8) (o2:=.const (.int .u64 13)) (by omega);obtain ⟨n3,b3⟩:=xWC (x:=n) (z:=n2) (o1:=.tmp 5) (o2:=.tmp 9);obtain ⟨n6,b6⟩:=wAK (x:=n3) (z:=7) (o1:=.tmp 17) (o2:=.const (.int .u64 7)) (by omega);obtain ⟨n7,b7⟩:=xWC (x:=n3) (z:=n6) (o1:=.tmp 14) (o2:=.tmp 18);obtain ⟨n10,b10⟩:=xZB (x:=n7) (z:=17) (o1:=.tmp 26) (o2:=.const (.int .u64 17)) (by omega);obtain ⟨n11,b11⟩:=xWC (x:=n7) (z:=n10) (o1:=.tmp 23) (o2:=.tmp 27);have o0:Own Z.re r [.int .u64 n] 1:=o.re;have s1:=o0.store (P:=Pg) (k:=0) (t:=166) (v:=.int .u64 n3) (vs:=[.int .u64 n3]) (ds:=[.int .u64 n3]) rfl zVV rfl (by simp) rfl;have o1:Own (Z.re.own r [.int .u64 n3] 1) r [.int .u64 n3] 1:=o0.put;have s2:=o1.store (P:=Pg) (k:=0) (t:=166) (v:=.int .u64 n7) (vs:=[.int .u64 n7]) (ds:=[.int .u64 n7]) rfl zVV rfl (by simp) rfl;have o2:Own ((Z.re.own r [.int .u64 n3] 1).own r [.int .u64 n7] 1) r [.int .u64 n7] 1:=o1.put;have s3:=o2.store (P:=Pg) (k:=0) (t:=166) (v:=.int .u64 n11) (vs:=[.int .u64 n11]) (ds:=[.int .u64 n11]) rfl zVV rfl (by simp) rfl;have o3:Own (((Z.re.own r [.int .u64 n3] 1).own r [.int .u64 n7] 1).own r [.int .u64 n11] 1) r [.int .u64 n11] 1:=o2.put;have hr:=o.lt;obtain ⟨v,Z',k1,k2,n',rfl,k3⟩:=zP.mut (P:=Pg) (f:=123) (args:=[.pointer (some ⟨r,0,none⟩)]) (Z:=Z) (S:=(·=r)) (Q:=fun v s=>∃ n',v=.int .u64 n'/\Own s r [.int .u64 n'] 1)
  (xQQ (o0.ld rfl yKE rfl) b2 b3 s1 (o1.ld rfl yKE rfl) b6 b7 s2 (o2.ld rfl yKE rfl) b10 b11 s3 (o3.ld rfl yKE rfl)
   ⟨(((Only.own (S:=(·=r)) (.inr rfl)).trans' (Only.own (S:=(·=r)) (.inr rfl)) (fun b _ h=>.inl h)).trans' (Only.own (S:=(·=r)) (.inr rfl)) (fun b _ h=>.inl h)),.inl (by simp [St.own];omega),n11,rfl,o3⟩)
  (by rintro v s m ⟨n',rfl,h⟩;exact ⟨n',rfl,h.low⟩)
 exact ⟨n',Z',k1,k2,k3⟩
theorem W.other {τ τ':St} {dk:Array Rec} {S:Nat->Prop} (w:W Z τ b s d dk) (hb:b<Z.y) (o:Only S τ τ') (hS:∀ x,S x->Z.y<=x) (hl:τ'.low<=τ.low):W Z τ' b s d dk:=by
 refine ⟨w.only.trans' o (fun x _ h=>.inr (hS x h)),w.dt.only o (fun h=>by have:=hS b h;omega), ?_⟩
 rcases w.low with h | h
 ·exact .inl (by omega)
 ·exact .inr h
theorem xOW {a B:Nat} (h:Dt Z b s d) (ha:a<=B) (hB:B<=d.size) (hn:d.size<=60000) (hv:xT V d) :
  ∃ d',PermIn a B d d'/\xT V d'/\uW 108 [.slice (some ⟨b,0,s⟩) d.size c,iV (a:Int),iV (B:Int),.func (.func g) ⟨[]⟩ ⟨gc⟩] (.tuple ⟨[]⟩) Z b s d d':=by
 suffices hmain:zP Pg 108 [.slice (some ⟨b,0,s⟩) d.size c,iV (a:Int),iV (B:Int),.func (.func g) ⟨[]⟩ ⟨gc⟩] Z.re fun v τ=>v=.tuple ⟨[]⟩/\∃ d',W Z τ b s d d'/\PermIn a B d d'/\xT V d' by
  obtain ⟨v,τ,hN,e,d',w,r1,r2⟩:=hmain
  exact ⟨d',r1,r2,uW.of h ⟨v,τ,hN,e,w⟩⟩
 by_cases h8:B-a<8
 ·exact xHD ⟨rfl,d,W.start h,Go.Sort.permIn_refl _ _ _,hv⟩ (by omega) (by omega)
 obtain ⟨l,hl⟩:∃ l,l=B-a:=⟨_,rfl⟩;have el:(B:Int)-(a:Int)=(l:Int):=by omega
 have e4:Int.tdiv (l:Int) 4=((l / 4:Nat):Int):=by rw [Int.tdiv_eq_ediv_of_nonneg (by omega)];omega
 have w4:IntKind.wrap .i64 (Int.tdiv (l:Int) 4)=Int.tdiv (l:Int) 4:=by rw [<- uF,e4,zWV (by omega) (by omega)]
 have ez:zAE .u64 ((B:Int)-(a:Int))=(l:Int):=by rw [el,zWU];omega
 have hbn:=h.1;obtain ⟨m,hm1,hm2,km⟩:=xSZ (Z:=(Z.re.row [.int .u64 0] 1).own Z.re.y [.int .u64 (l:Int)] 1) (l:=l) (by omega) (by omega);have o1:Own ((Z.re.row [.int .u64 0] 1).own Z.re.y [.int .u64 (l:Int)] 1) Z.y [.int .u64 (l:Int)] 1:=(zC _ _ _).put;have O1:Only (·=Z.y) Z.re ((Z.re.row [.int .u64 0] 1).own Z.re.y [.int .u64 (l:Int)] 1):=(Only.row (S:=(·=Z.y)) _ _ _).trans' (Only.own (S:=(·=Z.y)) (.inr rfl)) (fun b _ h=>.inl h);have w1:W Z ((Z.re.row [.int .u64 0] 1).own Z.re.y [.int .u64 (l:Int)] 1) b s d d:=(W.start h).other hbn O1 (fun x hx=>by omega) (by simp [St.own]);refine xHE ez (by rw [el];exact km) (by rw [el];exact w4) (P0:=fun τ=>∃ d',W Z τ b s d d'/\PermIn a B d d'/\xT V d')
  (by
   rw [el];refine yJZ (Inv:=fun k i τ=>∃ (p:Nat) (dk:Array Rec) (n:Int),i=p/\p+k=a+l / 4*2+2/\a<=p/\W Z τ b s d dk/\PermIn a B d dk/\xT V dk/\Own τ Z.y [.int .u64 n] 1) ?_ 3 _ _ ⟨a+l / 4*2-1,d,_,by rw [e4];omega,by omega,by omega,w1,Go.Sort.permIn_refl _ _ _,hv,o1⟩;rintro k i τ ⟨p,dk,n,rfl,hk,hap,w,hperm,hall,o⟩;have hsz:dk.size=d.size:=hperm.1;by_cases hp:p<=a+l / 4*2+1;rotate_left
   ·exact yYD w4 ⟨dk,w,hperm,hall⟩ (by rw [e4];omega) (by rw [e4];omega) (by rw [e4];omega) (by rw [e4];omega)
   obtain ⟨n',τ',kx,ox,oo⟩:=xWD o;have w2:=w.other hbn ox (fun x hx=>by omega) (zEF kx);obtain ⟨y,by1,by2⟩:=wAT (x:=n') (m:=m-1) (o1:=.tmp 38) (o2:=.tmp 40) (by omega);have em:zAE .u64 (Int.sub (m:Int) 1)=((m-1:Nat):Int):=by
    rw [show Int.sub (m:Int) 1=(m:Int)-1 from rfl,zWU];omega
   have key:∀ (q:Nat) (j:Int),j=(q:Int)->a<=q->q<B->∃ τ1 τ2,zQ Pg (evL [.pointer (some (zJ ⟨b,0,s⟩ (Int.toNat (p:Int)*3))),zEL dk[q]!]) τ' (.store 45 (.tmp 0) (.tmp 1))=some (undef,τ1) /\
     zQ Pg (evL [.pointer (some (zJ ⟨b,0,s⟩ (Int.toNat j*3))),zEL dk[p]!]) τ1 (.store 45 (.tmp 0) (.tmp 1))=some (undef,τ2) /\
     ∃ k',k' < k/\∃ (p':Nat) (dk':Array Rec) (n:Int),(p:Int)+1=p'/\p'+k'=a+l / 4*2+2/\a<=p'/\W Z τ2 b s d dk'/\PermIn a B d dk'/\xT V dk'/\Own τ2 Z.y [.int .u64 n] 1:=by
    intro q j hj h1 h2
    obtain ⟨τ1,e1,d1,q1,l1⟩:=w2.dt.st (i:=(p:Int)) dk[q]! (by omega) (by omega)
    obtain ⟨τ2,e2,d2,q2,l2⟩:=d1.st (i:=j) dk[p]! (by omega) (by rw [Array.size_setIfInBounds];omega)
    have es:(dk.setIfInBounds (p:Int).toNat dk[q]!).setIfInBounds j.toNat dk[p]! = swp dk p q:=by rw [hj,Int.toNat_natCast,Int.toNat_natCast];rfl
    rw [es] at d2
    exact ⟨τ1,τ2,e1,e2,k-1,by omega,p+1,swp dk p q,n',by omega,by omega,by omega,⟨(w2.only.trans' q1 (fun b _ h=>.inl h)).trans' q2 (fun b _ h=>.inl h),d2,.inl l2⟩,
     Go.Sort.permIn_trans _ _ _ a B hperm (Go.Sort.swp_permIn dk a B p q (by omega) (by omega) h1 h2 (by omega)),hall.swp (by omega) (by omega),q2.own' (q1.own' oo (fun e=>by omega)) (fun e=>by omega)⟩
   have lp:=w2.dt.ldN (i:=(p:Int)) (k:=p) rfl (by omega);by_cases hy:l<=y
   ·obtain ⟨τ1,τ2,e1,e2,hk'⟩:=key (a+(y-l)) ((a:Int)+((y:Int)-(l:Int))) (by omega) (by omega) (by omega);have lq:=w2.dt.ldN (i:=(a:Int)+((y:Int)-(l:Int))) (k:=a+(y-l)) (by omega) (by omega);exact yYF w4 kx em by1 lq lp e1 e2 hk' (by rw [e4];omega) (by rw [e4];omega) (by rw [e4];omega) (by rw [e4];omega) (by omega) (by omega) (by omega) (by omega) (by omega) (by omega)
   ·obtain ⟨τ1,τ2,e1,e2,hk'⟩:=key (a+y) ((a:Int)+(y:Int)) (by omega) (by omega) (by omega);have lq:=w2.dt.ldN (i:=(a:Int)+(y:Int)) (k:=a+y) (by omega) (by omega);exact yYE w4 kx em by1 lq lp e1 e2 hk' (by rw [e4];omega) (by rw [e4];omega) (by rw [e4];omega) (by rw [e4];omega) (by omega) (by omega) (by omega) (by omega) (by omega))
  (fun τ hw=>yJY ⟨rfl,hw⟩) (by omega) (by omega) (by rw [el,e4];omega) (by rw [el,e4];omega) (by rw [el,e4];omega)
end
end
section
variable {Z:St} {b c:Nat} {s:Option Nat} {d:Array Rec} {g:FuncId} {gc:List Value} {lt:Rec->Rec->Bool} {V:Rec->Prop}
theorem yVJ {bs i j:Nat} {n:Int} (h:Dt Z b s d) (hc:Cmp g gc lt V) (hv:xT V d) (o:Own Z bs [iV n] 1) (hi:i<d.size) (hj:j<d.size) (hn:0<=n/\n<=1000) :
  ∃ (x y:Nat) (n':Int) (Z':St),zD Tryz.prog 130 [.slice (some ⟨b,0,s⟩) d.size c,iV (i:Int),iV (j:Int),.pointer (some ⟨bs,0,none⟩),.func (.func g) ⟨[]⟩ ⟨gc⟩] Z (.tuple ⟨[iV (x:Int),iV (y:Int)]⟩) Z'/\Only (·=bs) Z Z' /\
   ((x=i/\y=j)\/(x=j/\y=i))/\n<=n'/\n'<=n+1/\Own Z' bs [iV n'] 1:=by
 have h0:Dt Z.re b s d:=h;have l1:=h0.ldN (i:=(j:Int)) (k:=j) rfl hj;have l2:=h0.ldN (i:=(i:Int)) (k:=i) rfl hi;have hbs:=o.lt;obtain ⟨m,cm,hm⟩:=hc.at_ (τ:=Z.re) hv hj hi;suffices hmain:zP Tryz.prog 130 [.slice (some ⟨b,0,s⟩) d.size c,iV (i:Int),iV (j:Int),.pointer (some ⟨bs,0,none⟩),.func (.func g) ⟨[]⟩ ⟨gc⟩] Z.re fun v τ=>Only (·=bs) Z.re τ/\(τ.low<Z.y\/zW RD v=false\/∃ (x y:Nat) (n':Int),v=.tuple ⟨[iV (x:Int),iV (y:Int)]⟩/\((x=i/\y=j)\/(x=j/\y=i))/\n<=n'/\n'<=n+1/\Own Z bs [iV n'] 1) /\
   ∃ (x y:Nat) (n':Int),v=.tuple ⟨[iV (x:Int),iV (y:Int)]⟩/\((x=i/\y=j)\/(x=j/\y=i))/\n<=n'/\n'<=n+1/\Own τ bs [iV n'] 1 by
  obtain ⟨v,Z',k1,k2,x,y,n',rfl,k3,k4,k5,k6⟩:=xXL (Q:=fun v τ=>∃ (x y:Nat) (n':Int),v=.tuple ⟨[iV (x:Int),iV (y:Int)]⟩/\((x=i/\y=j)\/(x=j/\y=i))/\n<=n'/\n'<=n+1/\Own τ bs [iV n'] 1) hmain
   (by rintro v s m ⟨x,y,n',rfl,a1,a2,a3,a4⟩;exact ⟨x,y,n',rfl,a1,a2,a3,a4.low⟩)
  exact ⟨x,y,n',Z',k1,k2,k3,k4,k5,k6⟩
 rcases hm with ⟨m1,_⟩ | ⟨m1,_⟩
 ·have o0:Own Z.re bs [iV n] 1:=o.re;have st:=o0.store (P:=Tryz.prog) (k:=0) (t:=3) (v:=iV (n+1)) (vs:=[iV (n+1)]) (ds:=[iV (n+1)]) rfl wE rfl (by simp) rfl;exact xSS l1 l2 cm (o0.ld rfl zU rfl) st ⟨Only.own (.inr rfl),.inl (by simp [St.own];omega),j,i,n+1,rfl,.inr ⟨rfl,rfl⟩,by omega,by omega,o0.put⟩
 ·exact xSR l1 l2 cm ⟨Only.refl _ _,.inr (.inr ⟨i,j,n,rfl,.inl ⟨rfl,rfl⟩,by omega,by omega,o⟩),i,j,n,rfl,.inl ⟨rfl,rfl⟩,by omega,by omega,o.re⟩
theorem xLT {bs i j k:Nat} {n:Int} (h:Dt Z b s d) (hc:Cmp g gc lt V) (hv:xT V d) (o:Own Z bs [iV n] 1) (hb:b≠bs) (hi:i<d.size) (hj:j<d.size) (hk:k<d.size) (hn:0<=n/\n<=900) :
    ∃ (x:Nat) (n':Int) (Z':St),zD Tryz.prog 125 [.slice (some ⟨b,0,s⟩) d.size c,iV (i:Int),iV (j:Int),iV (k:Int),.pointer (some ⟨bs,0,none⟩),.func (.func g) ⟨[]⟩ ⟨gc⟩] Z (iV (x:Int)) Z'/\Only (·=bs) Z Z' /\
      (x=i\/x=j\/x=k)/\n<=n'/\n'<=n+3/\Own Z' bs [iV n'] 1:=by
  have hbs:=o.lt;obtain ⟨x1,y1,n1,Z1,k1,q1,z1,e1,f1,o1⟩:=yVJ (c:=c) (Z:=Z.re) h hc hv o.re hi hj (by omega);have h1:Dt Z1 b s d:=(show Dt Z.re b s d from h).only q1 (by omega);obtain ⟨x2,y2,n2,Z2,k2,q2,z2,e2,f2,o2⟩:=yVJ (c:=c) h1 hc hv o1 (i:=y1) (j:=k) (by omega) hk (by omega);have h2:=h1.only q2 (by omega);obtain ⟨x3,y3,n3,Z3,k3,q3,z3,e3,f3,o3⟩:=yVJ (c:=c) h2 hc hv o2 (i:=x1) (j:=x2) (by omega) (by omega) (by omega);have Q3:=(q1.trans' q2 (fun b _ h=>.inl h)).trans' q3 (fun b _ h=>.inl h);have hz:y3=i\/y3=j\/y3=k:=by omega
  by_cases hlow:Z3.low<Z.y
  · obtain ⟨v,Z',r1,r2,x,n',rfl,r3,r4,r5,r6⟩:=xXL (Z:=Z) (f:=125) (args:=[.slice (some ⟨b,0,s⟩) d.size c,iV (i:Int),iV (j:Int),iV (k:Int),.pointer (some ⟨bs,0,none⟩),.func (.func g) ⟨[]⟩ ⟨gc⟩]) (S:=(·=bs)) (Q:=fun v τ=>∃ (x:Nat) (n':Int),v=iV (x:Int)/\(x=i\/x=j\/x=k)/\n<=n'/\n'<=n+3/\Own τ bs [iV n'] 1)
      (xLS k1 k2 k3 ⟨Q3,.inl hlow,y3,n3,rfl,hz,by omega,by omega,o3⟩) (by rintro v s m ⟨x,n',rfl,a1,a2,a3,a4⟩;exact ⟨x,n',rfl,a1,a2,a3,a4.low⟩)
    exact ⟨x,n',Z',r1,r2,r3,r4,r5,r6⟩
  · exact ⟨y3,n,Z,zP.pure (xLS k1 k2 k3 ⟨rfl,by omega⟩),Only.refl _ _,hz,by omega,by omega,o⟩
theorem yVN {bs i:Nat} {n:Int} (h:Dt Z b s d) (hc:Cmp g gc lt V) (hv:xT V d) (o:Own Z bs [iV n] 1) (hb:b≠bs) (hi:1<=i) (hj:i+1<d.size) (hsz:d.size<=1000000) (hn:0<=n/\n<=800) :
    ∃ (x:Nat) (n':Int) (Z':St),zD Tryz.prog 124 [.slice (some ⟨b,0,s⟩) d.size c,iV (i:Int),.pointer (some ⟨bs,0,none⟩),.func (.func g) ⟨[]⟩ ⟨gc⟩] Z (iV (x:Int)) Z'/\Only (·=bs) Z Z' /\
      (i<=x+1/\x<=i+1)/\n<=n'/\n'<=n+3/\Own Z' bs [iV n'] 1:=by
  have hbs:=o.lt;obtain ⟨x1,n1,Z1,k1,q1,z1,e1,f1,o1⟩:=xLT (c:=c) (Z:=Z.re) h hc hv o.re hb (i:=i-1) (j:=i) (k:=i+1) (by omega) (by omega) hj (by omega);rw [show ((i-1:Nat):Int)=(i:Int)-1 by omega,show ((i+1:Nat):Int)=(i:Int)+1 by omega] at k1;have hz:i<=x1+1/\x1<=i+1:=by omega
  by_cases hlow:Z1.low<Z.y
  · obtain ⟨v,Z',r1,r2,x,n',rfl,r3,r4,r5,r6⟩:=xXL (Z:=Z) (f:=124) (args:=[.slice (some ⟨b,0,s⟩) d.size c,iV (i:Int),.pointer (some ⟨bs,0,none⟩),.func (.func g) ⟨[]⟩ ⟨gc⟩]) (S:=(·=bs)) (Q:=fun v τ=>∃ (x:Nat) (n':Int),v=iV (x:Int)/\(i<=x+1/\x<=i+1)/\n<=n'/\n'<=n+3/\Own τ bs [iV n'] 1)
      (xAU k1 ⟨q1,.inl hlow,x1,n1,rfl,hz,by omega,by omega,o1⟩) (by rintro v s m ⟨x,n',rfl,a1,a2,a3,a4⟩;exact ⟨x,n',rfl,a1,a2,a3,a4.low⟩)
    exact ⟨x,n',Z',r1,r2,r3,r4,r5,r6⟩
  · exact ⟨x1,n,Z,zP.pure (xAU k1 ⟨rfl,by omega⟩),Only.refl _ _,hz,by omega,by omega,o⟩
theorem xGZ {a B:Nat} (h:Dt Z b s d) (hc:Cmp g gc lt V) (hv:xT V d) (ha:a<B) (hB:B<=d.size) (hsz:d.size<=1000000) :
  ∃ (x:Nat) (k:Int),a<=x/\x<B/\zD Tryz.prog 109 [.slice (some ⟨b,0,s⟩) d.size c,iV (a:Int),iV (B:Int),.func (.func g) ⟨[]⟩ ⟨gc⟩] Z (.tuple ⟨[iV (x:Int),iV k]⟩) Z:=by
 obtain ⟨l,hl⟩:∃ l,l=B-a:=⟨_,rfl⟩;have el:(B:Int)-(a:Int)=(l:Int):=by omega
 have e4:Int.tdiv ((B:Int)-(a:Int)) 4=((l / 4:Nat):Int):=by rw [el,Int.tdiv_eq_ediv_of_nonneg (by omega)];omega
 have w4:IntKind.wrap .i64 (Int.tdiv ((B:Int)-(a:Int)) 4)=Int.tdiv ((B:Int)-(a:Int)) 4:=by rw [<- uF,e4,zWV (by omega) (by omega)]
 have hbn:=h.1;have o1:Own (Z.re.row [iV 0] 1) Z.y [iV 0] 1:=zC _ _ _;have N1:New Z.re (Z.re.row [iV 0] 1):=New.row _ _ _;have h1:Dt (Z.re.row [iV 0] 1) b s d:=(show Dt Z.re b s d from h).le N1.le;have hS:∀ x,x=Z.y->Z.y<=x:=fun x e=>by omega
 by_cases h8:8<=l;rotate_left
 ·exact ⟨a+l / 4*2,1,by omega,by omega,zP.pure (yXF w4 ⟨by rw [e4];congr 3,N1.lw⟩ (by omega) (by rw [e4];omega) (by rw [e4];omega) (by rw [e4];omega) (by rw [e4];omega) (by rw [e4];omega) (by rw [e4];omega) (by omega))⟩
 have i1:(a:Int)+Int.tdiv ((B:Int)-(a:Int)) 4*1=((a+l / 4*1:Nat):Int):=by rw [e4];omega
 have i2:(a:Int)+Int.tdiv ((B:Int)-(a:Int)) 4*2=((a+l / 4*2:Nat):Int):=by rw [e4];omega
 have i3:(a:Int)+Int.tdiv ((B:Int)-(a:Int)) 4*3=((a+l / 4*3:Nat):Int):=by rw [e4];omega
 by_cases h50:50<=l;rotate_left
 ·obtain ⟨x,n',Z2,k2,q2,z2,m1,m2,o2⟩:=xLT (c:=c) h1 hc hv o1 (by omega) (i:=a+l / 4*1) (j:=a+l / 4*2) (k:=a+l / 4*3) (by omega) (by omega) (by omega) (by omega);rw [<- i1,<- i2,<- i3] at k2;have N2:=N1.of_only q2 hS;by_cases g0:n'=0
  ·exact ⟨x,1,by omega,by omega,zP.pure (yXI w4 k2 (o2.ld rfl zU rfl) ⟨rfl,N2.lw⟩ (by omega) (by rw [e4];omega) (by rw [e4];omega) (by rw [e4];omega) (by rw [e4];omega) (by rw [e4];omega) (by rw [e4];omega) (by omega) (by omega) (by omega))⟩
  by_cases g12:n'=12
  ·exact ⟨x,2,by omega,by omega,zP.pure (yXH w4 k2 (o2.ld rfl zU rfl) ⟨rfl,N2.lw⟩ (by omega) (by rw [e4];omega) (by rw [e4];omega) (by rw [e4];omega) (by rw [e4];omega) (by rw [e4];omega) (by rw [e4];omega) (by omega) (by omega) (by omega) (by omega))⟩
  ·exact ⟨x,0,by omega,by omega,zP.pure (yXG w4 k2 (o2.ld rfl zU rfl) ⟨rfl,N2.lw⟩ (by omega) (by rw [e4];omega) (by rw [e4];omega) (by rw [e4];omega) (by rw [e4];omega) (by rw [e4];omega) (by rw [e4];omega) (by omega) (by omega) (by omega) (by omega))⟩
 obtain ⟨x1,n1,Z2,k2,q2,z2,m1,m2,o2⟩:=yVN (c:=c) h1 hc hv o1 (by omega) (i:=a+l / 4*1) (by omega) (by omega) hsz (by omega);have N2:=N1.of_only q2 hS;have h2:=h1.only q2 (by omega);obtain ⟨x2,n2,Z3,k3,q3,z3,m3,m4,o3⟩:=yVN (c:=c) h2 hc hv o2 (by omega) (i:=a+l / 4*2) (by omega) (by omega) hsz (by omega);have N3:=N2.of_only q3 hS;have h3:=h2.only q3 (by omega);obtain ⟨x3,n3,Z4,k4,q4,z4,m5,m6,o4⟩:=yVN (c:=c) h3 hc hv o3 (by omega) (i:=a+l / 4*3) (by omega) (by omega) hsz (by omega);have N4:=N3.of_only q4 hS;have h4:=h3.only q4 (by omega);obtain ⟨x,n',Z5,k5,q5,z5,m7,m8,o5⟩:=xLT (c:=c) h4 hc hv o4 (by omega) (i:=x1) (j:=x2) (k:=x3) (by omega) (by omega) (by omega) (by omega);have N5:=N4.of_only q5 hS;rw [<- i1] at k2;rw [<- i2] at k3;rw [<- i3] at k4;by_cases g0:n'=0
 ·exact ⟨x,1,by omega,by omega,zP.pure (yXL ⟨w4,k2,k3,k4,k5,(o5.ld rfl zU rfl)⟩ ⟨rfl,N5.lw⟩ (by omega) (by rw [e4];omega) (by rw [e4];omega) (by rw [e4];omega) (by rw [e4];omega) (by rw [e4];omega) (by rw [e4];omega) (by omega) (by omega) (by omega))⟩
 by_cases g12:n'=12
 ·exact ⟨x,2,by omega,by omega,zP.pure (yXK ⟨w4,k2,k3,k4,k5,(o5.ld rfl zU rfl)⟩ ⟨rfl,N5.lw⟩ (by omega) (by rw [e4];omega) (by rw [e4];omega) (by rw [e4];omega) (by rw [e4];omega) (by rw [e4];omega) (by rw [e4];omega) (by omega) (by omega) (by omega) (by omega))⟩
 ·exact ⟨x,0,by omega,by omega,zP.pure (yXJ ⟨w4,k2,k3,k4,k5,(o5.ld rfl zU rfl)⟩ ⟨rfl,N5.lw⟩ (by omega) (by rw [e4];omega) (by rw [e4];omega) (by rw [e4];omega) (by rw [e4];omega) (by rw [e4];omega) (by rw [e4];omega) (by omega) (by omega) (by omega) (by omega))⟩
end
section
noncomputable section
variable (data:oAa) (ah aj:Nat) (aV:Int) (aB:FuncId) (au:lVa) (aY aK aX:Int) (bA fT bx:Bool) (q1:St->Prop) (q0:Int->Int->Int->Bool->Bool->St->Prop) (nN kF kG kE:Int) (fM:Bool) (q4:Int->Int->Bool->St->Prop) (fW fU:Int) (t10_5:Bool) (Z:St) (q6:vPa) (q5:Int->Int->Bool->St->Prop) (Nx:Int->Int->Int->Bool->Bool->St->Prop) (Qr:St->Prop)
def zNO:Code:=(Code.part [1,1,0,0] (qj 97))
def zYM:lNa:=[(0,.slice data ah aj),(1,iV aY),(2,iV aK),(3,iV aX),(4,.func (.func aB) ⟨[]⟩ ⟨au⟩),(10,.bool fT),(11,.bool bx)]
def zLG:Alt:=⟨Int × Int × Int × Bool × Bool,.normal,fun t=>zYM data ah aj aB au t.1 t.2.1 t.2.2.1 t.2.2.2.1 t.2.2.2.2,fun t=>[],fun t Z=>q0 t.1 t.2.1 t.2.2.1 t.2.2.2.1 t.2.2.2.2 Z⟩
def yMR (data:oAa) (ah aj:Nat) (aB:FuncId) (au:lVa):lNa:=[]
def zCF:Alt:=⟨Unit,.ret,fun t=>yMR data ah aj aB au,fun t=>[],fun t Z=>q1 Z⟩
def zRU:Prop:=qk ql none zNO 148 (zYM data ah aj aB au aY aK aX fT bx) [] [zLG data ah aj aB au Nx,zCF data ah aj aB au Qr] Z
def xKG:Prop:=qm ql none zNO 148 (zYM data ah aj aB au aY aK aX fT bx) [] [zCF data ah aj aB au Qr] Z
def xXE:Code:=(Code.part [1,1,0,0,0,1,1,1,0,1] (qj 97))
def yUK (data:oAa) (ah aj:Nat) (aY aK:Int) (aB:FuncId) (au:lVa) (dw bx:Bool) (kA:Int) (fZ:Bool) (aV:Int):lNa:=[(0,.slice data ah aj),(1,iV aY),(2,iV aK),(3,iV aV),(4,.func (.func aB) ⟨[]⟩ ⟨au⟩),(10,.bool dw),(11,.bool bx),(12,iV kA),(39,.bool fZ)]
def yMQ (data:oAa) (ah aj:Nat) (aY aK:Int) (aB:FuncId) (au:lVa) (dw bx:Bool) (kA:Int) (fZ:Bool) (aV:Int):lNa:=[(0,.slice data ah aj),(1,iV aY),(2,iV aK),(3,iV aV),(4,.func (.func aB) ⟨[]⟩ ⟨au⟩),(10,.bool dw),(11,.bool bx),(12,iV kA)]
def zYP (data:oAa) (ah aj:Nat) (aY aK:Int) (aB:FuncId) (au:lVa) (dw bx:Bool) (kA:Int) (fZ:Bool) (Q:Int->St->Prop):Alt:=⟨Int,.normal,fun t=>yMQ data ah aj aY aK aB au dw bx kA fZ t,fun t=>[],fun t Z=>Q t Z⟩
def yIG (data:oAa) (ah aj:Nat) (aY aK:Int) (aB:FuncId) (au:lVa) (dw bx:Bool) (kA:Int) (fZ:Bool) (aV:Int) (Z:St) (Qn:Int->St->Prop):Prop:=qk ql none xXE 148 (yUK data ah aj aY aK aB au dw bx kA fZ aV) [] [zYP data ah aj aY aK aB au dw bx kA fZ Qn] Z
def zJK (data:oAa) (ah aj:Nat) (aY aK:Int) (aB:FuncId) (au:lVa) (dw bx:Bool) (kA:Int) (fZ:Bool) (aV:Int) (Z:St) (Nx:Int->Int->Int->Bool->Bool->St->Prop) (Qr:St->Prop):Prop:=kZ ql zNO [0,1,1,1,0,1] (zGF 148 [zLG data ah aj aB au Nx,zCF data ah aj aB au Qr]) .normal 148 (yMQ data ah aj aY aK aB au dw bx kA fZ aV) Z
def xXD:Code:=(Code.part [1,1,0,0,0,1,1,1,1,1,0,1] (qj 97))
def zYL (data:oAa) (ah aj:Nat) (aY aK aV:Int) (aB:FuncId) (au:lVa) (dw bx:Bool) (kA:Int) (eP:Bool) (aH dI:Int):lNa:=[(0,.slice data ah aj),(1,iV aY),(2,iV aK),(3,iV aV),(4,.func (.func aB) ⟨[]⟩ ⟨au⟩),(10,.bool dw),(11,.bool bx),(12,iV kA),(13,iV aH),(14,iV dI),(56,.bool eP)]
def yMP (data:oAa) (ah aj:Nat) (aY aK aV:Int) (aB:FuncId) (au:lVa) (dw bx:Bool) (kA:Int) (eP:Bool) (aH dI:Int):lNa:=[(0,.slice data ah aj),(1,iV aY),(2,iV aK),(3,iV aV),(4,.func (.func aB) ⟨[]⟩ ⟨au⟩),(10,.bool dw),(11,.bool bx),(12,iV kA),(13,iV aH),(14,iV dI)]
def zYO (data:oAa) (ah aj:Nat) (aY aK aV:Int) (aB:FuncId) (au:lVa) (dw bx:Bool) (kA:Int) (eP:Bool) (Q:Int->Int->St->Prop):Alt:=⟨Int × Int,.normal,fun t=>yMP data ah aj aY aK aV aB au dw bx kA eP t.1 t.2,fun t=>[],fun t Z=>Q t.1 t.2 Z⟩
def yIF (data:oAa) (ah aj:Nat) (aY aK aV:Int) (aB:FuncId) (au:lVa) (dw bx:Bool) (kA:Int) (eP:Bool) (aH dI:Int) (Z:St) (Qn:Int->Int->St->Prop):Prop:=qk ql none xXD 148 (zYL data ah aj aY aK aV aB au dw bx kA eP aH dI) [] [zYO data ah aj aY aK aV aB au dw bx kA eP Qn] Z
def wB (data:oAa) (ah aj:Nat) (aY aK aV:Int) (aB:FuncId) (au:lVa) (dw bx:Bool) (kA:Int) (eP:Bool) (aH dI:Int) (Z:St) (Nx:Int->Int->Int->Bool->Bool->St->Prop) (Qr:St->Prop):Prop:=kZ ql zNO [0,1,1,1,1,1,0,1] (zGF 148 [zLG data ah aj aB au Nx,zCF data ah aj aB au Qr]) .normal 148 (yMP data ah aj aY aK aV aB au dw bx kA eP aH dI) Z
def xXC:Code:=(Code.part [1,1,0,0,0,1,1,1,1,1,1,1,0,1] (qj 97))
def wK (data:oAa) (ah aj:Nat) (aK aV:Int) (aB:FuncId) (au:lVa) (eO eN:Bool) (kA aH:Int) (ff:Bool) (d9:Int):lNa:=[(0,.slice data ah aj),(1,iV d9),(2,iV aK),(3,iV aV),(4,.func (.func aB) ⟨[]⟩ ⟨au⟩),(10,.bool eO),(11,.bool eN),(12,iV kA),(13,iV aH),(97,.bool ff)]
def yMO (data:oAa) (ah aj:Nat) (aK aV:Int) (aB:FuncId) (au:lVa) (eO eN:Bool) (kA aH:Int) (ff:Bool) (d9:Int):lNa:=[(0,.slice data ah aj),(1,iV d9),(2,iV aK),(3,iV aV),(4,.func (.func aB) ⟨[]⟩ ⟨au⟩),(10,.bool eO),(11,.bool eN)]
def vS (data:oAa) (ah aj:Nat) (aK aV:Int) (aB:FuncId) (au:lVa) (eO eN:Bool) (kA aH:Int) (ff:Bool) (Q:Int->St->Prop):Alt:=⟨Int,(.exit 1),fun t=>yMO data ah aj aK aV aB au eO eN kA aH ff t,fun t=>[],fun t Z=>Q t Z⟩
def yMN (data:oAa) (ah aj:Nat) (aK aV:Int) (aB:FuncId) (au:lVa) (eO eN:Bool) (kA aH:Int) (ff:Bool) (d9:Int):lNa:=[(0,.slice data ah aj),(1,iV d9),(2,iV aK),(3,iV aV),(4,.func (.func aB) ⟨[]⟩ ⟨au⟩),(12,iV kA),(13,iV aH)]
def vR (data:oAa) (ah aj:Nat) (aK aV:Int) (aB:FuncId) (au:lVa) (eO eN:Bool) (kA aH:Int) (ff:Bool) (Q:Int->St->Prop):Alt:=⟨Int,.normal,fun t=>yMN data ah aj aK aV aB au eO eN kA aH ff t,fun t=>[],fun t Z=>Q t Z⟩
def zAC (data:oAa) (ah aj:Nat) (aK aV:Int) (aB:FuncId) (au:lVa) (eO eN:Bool) (kA aH:Int) (ff:Bool) (d9:Int) (Z:St) (Q1:Int->St->Prop) (Qn:Int->St->Prop):Prop:=qk ql none xXC 148 (wK data ah aj aK aV aB au eO eN kA aH ff d9) [] [vS data ah aj aK aV aB au eO eN kA aH ff Q1,vR data ah aj aK aV aB au eO eN kA aH ff Qn] Z
def vF (data:oAa) (ah aj:Nat) (aK aV:Int) (aB:FuncId) (au:lVa) (eO eN:Bool) (kA aH:Int) (ff:Bool) (d9:Int) (Z:St) (Nx:Int->Int->Int->Bool->Bool->St->Prop) (Qr:St->Prop):Prop:=kZ ql zNO [0,1,1,1,1,1,1,1,0,1] (zGF 148 [zLG data ah aj aB au Nx,zCF data ah aj aB au Qr]) (.exit 1) 148 (yMO data ah aj aK aV aB au eO eN kA aH ff d9) Z
def wN (data:oAa) (ah aj:Nat) (aK aV:Int) (aB:FuncId) (au:lVa) (eO eN:Bool) (kA aH:Int) (ff:Bool) (d9:Int) (Z:St) (Nx:Int->Int->Int->Bool->Bool->St->Prop) (Qr:St->Prop):Prop:=kZ ql zNO [0,1,1,1,1,1,1,1,0,1] (zGF 148 [zLG data ah aj aB au Nx,zCF data ah aj aB au Qr]) .normal 148 (yMN data ah aj aK aV aB au eO eN kA aH ff d9) Z
def xXB:Code:=(Code.part [1,1,0,0,0,1,1,1,1,1,1,1,1,1,1,1,1,1] (qj 97))
def yUJ:lNa:=[(0,.slice data ah aj),(1,iV fW),(2,iV fU),(3,iV aV),(4,.func (.func aB) ⟨[]⟩ ⟨au⟩),(11,.bool bA),(16,iV nN),(18,iV kF),(19,iV kG),(20,iV kE),(125,.bool fM)]
def yMM (data:oAa) (ah aj:Nat) (aV:Int) (aB:FuncId) (au:lVa) (bA:Bool) (nN kF kG kE:Int) (fM:Bool) (fW fU:Int) (t10_5:Bool):lNa:=[(0,.slice data ah aj),(1,iV fW),(2,iV fU),(3,iV aV),(4,.func (.func aB) ⟨[]⟩ ⟨au⟩),(10,.bool t10_5),(11,.bool bA)]
def zYN:Alt:=⟨Int × Int × Bool,.normal,fun t=>yMM data ah aj aV aB au bA nN kF kG kE fM t.1 t.2.1 t.2.2,fun t=>[],fun t Z=>q4 t.1 t.2.1 t.2.2 Z⟩
def zRT:Prop:=qk ql none xXB 148 (yUJ data ah aj aV aB au bA nN kF kG kE fM fW fU) [] [zYN data ah aj aV aB au bA nN kF kG kE fM q5] Z
def zYQ:Prop:=kZ ql zNO [0,1,1,1,1,1,1,1,1,1,1,1,1,1] (zGF 148 [zLG data ah aj aB au Nx,zCF data ah aj aB au Qr]) .normal 148 (yMM data ah aj aV aB au bA nN kF kG kE fM fW fU t10_5) Z
def yMS:Prop:=kZ ql (qj 97) [1,1,0] (qn 97 q6) .ret 148 (yMR data ah aj aB au) Z
end
variable {data x:oAa} {ah aj x_l x_c:Nat} {aB:FuncId} {au:lVa} {Inv:Nat->Int->Int->Int->Bool->Bool->St->Prop} {Qr Pr:St->Prop} {aY aK aX kA aV aH dI nMB nKB d9 nEB nZ nAB nBB nCB nDB nBO nBP nFB nGB kF kG kE nN fW fU a_1 b limit z1 n2:Int} {fT bx dw fZ eP eO eN ff bA fM t10_5:Bool} {ZS Z ZEC ZFC ZE ZGC ZM ZHB Z3:St} {Nx:Int->Int->Int->Bool->Bool->St->Prop} {Qn Pn Q1 P1:Int->St->Prop} {ax:Addr} {Q:vPa}
theorem yEB (hb:∀ k aY aK aX fT bx Z,Inv k aY aK aX fT bx Z->zRU data ah aj aB au aY aK aX fT bx Z (NX5 Inv k) Qr):∀ k aY aK aX fT bx Z,Inv k aY aK aX fT bx Z->xKG data ah aj aB au aY aK aX fT bx Z Qr :=
 xLY (ai zBE trivial) hb
theorem xAB (h1:qo 106 [.slice data ah aj,iV aY,iV aK,.func (.func aB) ⟨[]⟩ ⟨au⟩] Z (.tuple ⟨[]⟩) ZS) (nx:Qr ZS) (u1:I6 (aK-aY):=by omega) (u2:(aK-aY)<=12:=by omega):zRU data ah aj aB au aY aK aX fT bx Z Nx Qr :=
 kO 1 () [.g,.g,.n (aK-aY),.g,.g,.b true,.g,.g,.g,.g,.c (.tuple ⟨[]⟩) ZS] (fun _ f=>an3 (w64 u1) (yE u2) h1 f) nx
theorem xSM (h1:qo 107 [.slice data ah aj,iV aY,iV aK,.func (.func aB) ⟨[]⟩ ⟨au⟩] Z (.tuple ⟨[]⟩) ZS) (nx:Qr ZS) (u1:I6 (aK-aY):=by omega) (u2:¬ (aK-aY)<=12:=by omega) (u3:aX=0:=by omega):zRU data ah aj aB au aY aK aX fT bx Z Nx Qr :=
 kO 1 () [.g,.g,.n (aK-aY),.g,.g,.b false,.g,.b true,.g,.g,.g,.g,.c (.tuple ⟨[]⟩) ZS] (fun _ f=>an4 (w64 u1) (yH u2) (xH u3) h1 f) nx
theorem xSJ (h1:qo 108 [.slice data ah aj,iV aY,iV aK,.func (.func aB) ⟨[]⟩ ⟨au⟩] Z (.tuple ⟨[]⟩) ZEC) (nx:Qn (aV-1) ZEC) (u1:I6 (aV-1):=by omega):yIG data ah aj aY aK aB au dw bx kA true aV Z Qn :=
 kO 0 (aV-1) [.g,.g,.g,.g,.c (.tuple ⟨[]⟩) ZEC,.g,.n (aV-1),.g] (fun _ f=>an2 h1 (w64 u1) f) nx
theorem xSI (nx:Qn aV Z):yIG data ah aj aY aK aB au dw bx kA false aV Z Qn :=
 kO 0 aV [] (fun _ f=>f) nx
theorem xSL (hL:yIG data ah aj aY aK aB au true bx (aK-aY) false aX Z Pn) (kn:∀ i3_2' Z',Pn i3_2' Z'->zJK data ah aj aY aK aB au true bx (aK-aY) false i3_2' Z' Nx Qr) (u1:I6 (aK-aY):=by omega) (u2:¬ (aK-aY)<=12:=by omega) (u3:¬ aX=0:=by omega):zRU data ah aj aB au aY aK aX true bx Z Nx Qr :=
 let s1:=yUK data ah aj aY aK aB au true bx (aK-aY) false aX;zDC [.g,.g,.n (aK-aY),.g,.g,.b false,.g,.b false,.g,.g,.cut 148 s1 [zYP data ah aj aY aK aB au true bx (aK-aY) false Pn]] (fun g=>kd (an3 (w64 u1) (yH u2) (yD u3) (ai (ai tt (ai (arf s1) hL)) (ai (kz1 kn) trivial))))
theorem xSK (hL:yIG data ah aj aY aK aB au false bx (aK-aY) true aX Z Pn) (kn:∀ i3_2' Z',Pn i3_2' Z'->zJK data ah aj aY aK aB au false bx (aK-aY) true i3_2' Z' Nx Qr) (u1:I6 (aK-aY):=by omega) (u2:¬ (aK-aY)<=12:=by omega) (u3:¬ aX=0:=by omega):zRU data ah aj aB au aY aK aX false bx Z Nx Qr :=
 let s1:=yUK data ah aj aY aK aB au false bx (aK-aY) true aX;zDC [.g,.g,.n (aK-aY),.g,.g,.b false,.g,.b false,.g,.g,.cut 148 s1 [zYP data ah aj aY aK aB au false bx (aK-aY) true Pn]] (fun g=>kd (an3 (w64 u1) (yH u2) (yD u3) (ai (ai tt (ai (arf s1) hL)) (ai (kz1 kn) trivial))))
theorem xSH {Qn:Int->Int->St->Prop} (h1:qo 110 [.slice data ah aj,iV aY,iV aK,.func (.func aB) ⟨[]⟩ ⟨au⟩] Z (.tuple ⟨[]⟩) ZFC) (nx:Qn ((aK-1)-(aH-aY)) (1:Int) ZFC) (u1:I6 (aK-1):=by omega) (u2:I6 (aH-aY):=by omega) (u3:I6 ((aK-1)-(aH-aY)):=by omega):yIF data ah aj aY aK aV aB au dw bx kA true aH dI Z Qn :=
 let s1:=aH-aY;kO 0 ((aK-1)-s1,(1:Int)) [.g,.g,.g,.g,.c (.tuple ⟨[]⟩) ZFC,.g,.n (aK-1),.g,.g,.n s1,.n ((aK-1)-s1),.g,.g] (fun _ f=>an4 h1 (w64 u1) (w64 u2) (w64 u3) f) nx
theorem xSG {Qn:Int->Int->St->Prop} (nx:Qn aH dI Z):yIF data ah aj aY aK aV aB au dw bx kA false aH dI Z Qn :=
 kO 0 (aH,dI) [] (fun _ f=>f) nx
theorem xER {Pn:Int->Int->St->Prop} (h1:qo 109 [.slice data ah aj,iV aY,iV aK,.func (.func aB) ⟨[]⟩ ⟨au⟩] Z (.tuple ⟨[iV nMB,iV nKB]⟩) Z) (hL:yIF data ah aj aY aK aV aB au dw bx kA true nMB nKB Z Pn) (kn:∀ i13_3' i14_3' Z',Pn i13_3' i14_3' Z'->wB data ah aj aY aK aV aB au dw bx kA true i13_3' i14_3' Z' Nx Qr) (u1:nKB=2:=by omega):zJK data ah aj aY aK aB au dw bx kA fZ aV Z Nx Qr :=
 sK [.g,.g,.g,.g,.c (.tuple ⟨[iV nMB,iV nKB]⟩) Z,.g,.g,.g,.g,.g,.g,.b true,.cut 148 (zYL data ah aj aY aK aV aB au dw bx kA true nMB nKB) [zYO data ah aj aY aK aV aB au dw bx kA true Pn]] (an2 h1 (xH u1) (ai (ai tt (ai (arf (zYL data ah aj aY aK aV aB au dw bx kA true nMB nKB)) hL)) (ai (kz2 kn) trivial)))
theorem xEQ {Pn:Int->Int->St->Prop} (h1:qo 109 [.slice data ah aj,iV aY,iV aK,.func (.func aB) ⟨[]⟩ ⟨au⟩] Z (.tuple ⟨[iV nMB,iV nKB]⟩) Z) (hL:yIF data ah aj aY aK aV aB au dw bx kA false nMB nKB Z Pn) (kn:∀ i13_3' i14_3' Z',Pn i13_3' i14_3' Z'->wB data ah aj aY aK aV aB au dw bx kA false i13_3' i14_3' Z' Nx Qr) (u1:¬ nKB=2:=by omega):zJK data ah aj aY aK aB au dw bx kA fZ aV Z Nx Qr :=
 sK [.g,.g,.g,.g,.c (.tuple ⟨[iV nMB,iV nKB]⟩) Z,.g,.g,.g,.g,.g,.g,.b false,.cut 148 (zYL data ah aj aY aK aV aB au dw bx kA false nMB nKB) [zYO data ah aj aY aK aV aB au dw bx kA false Pn]] (an2 h1 (yD u1) (ai (ai tt (ai (arf (zYL data ah aj aY aK aV aB au dw bx kA false nMB nKB)) hL)) (ai (kz2 kn) trivial)))
theorem yDZ (h1:qo 111 [.slice data ah aj,iV aY,iV aK,.func (.func aB) ⟨[]⟩ ⟨au⟩] Z (.bool true) ZE) (nx:Qr ZE) (u1:dI=1:=by omega):wB data ah aj aY aK aV aB au true true kA eP aH dI Z Nx Qr :=
 sF 1 () [.g,.g,.g,.g,.g,.g,.b true,.g,.g,.g,.g,.g,.c (.bool true) ZE] (fun _ f=>an2 (xH u1) h1 f) nx
theorem xSF (h1:qo 112 [.slice data ah aj,iV d9,iV aK,iV aH,.func (.func aB) ⟨[]⟩ ⟨au⟩] Z (iV nEB) ZGC) (nx:Q1 nEB ZGC):zAC data ah aj aK aV aB au eO eN kA aH true d9 Z Q1 Qn :=
 kO 0 nEB [.g,.g,.g,.g,.g,.c (iV nEB) ZGC,.g,.g,.g] (fun _ f=>ai h1 f) nx
theorem xSE (nx:Qn d9 Z):zAC data ah aj aK aV aB au eO eN kA aH false d9 Z Q1 Qn :=
 kO 1 d9 [] (fun _ f=>f) nx
theorem xEP (h1:qo 111 [.slice (some ax) ah aj,iV aY,iV aK,.func (.func aB) ⟨[]⟩ ⟨au⟩] Z (.bool false) ZE) (h2:lz ZE 45 (zJ ax (Int.toNat (aY-1)*3)) (qh (rcd nZ nAB nBB))) (h3:lz ZE 45 (zJ ax (Int.toNat aH*3)) (qh (rcd nCB nDB nBO))) (h4:qo aB (qh (rcd nZ nAB nBB)::(qh (rcd nCB nDB nBO))::au) ZE (iV nBP) ZE) (hL:zAC (some ax) ah aj aK aV aB au true true kA aH false aY ZE P1 Pn) (k1:∀ i1_4' Z',P1 i1_4' Z'->vF (some ax) ah aj aK aV aB au true true kA aH false i1_4' Z' Nx Qr) (kn:∀ i1_4' Z',Pn i1_4' Z'->wN (some ax) ah aj aK aV aB au true true kA aH false i1_4' Z' Nx Qr) (u1:dI=1:=by omega) (u2:0<aY:=by omega) (u3:I6 (aY-1):=by omega) (u4:Ix (aY-1) ah:=by omega) (u5:Ix aH ah:=by omega) (u6:nBP<0:=by omega):wB (some ax) ah aj aY aK aV aB au true true kA eP aH dI Z Nx Qr :=
 sK [.g,.g,.g,.g,.g,.g,.b true,.g,.g,.g,.g,.g,.c (.bool false) ZE,.g,.b true,.g,.g,.g,.g,.n (aY-1),.i,.l (qh (rcd nZ nAB nBB)),.g,.g,.i,.l (qh (rcd nCB nDB nBO)),.c (iV nBP) ZE,.b true,.g,.g,.cut 148 (wK (some ax) ah aj aK aV aB au true true kA aH false aY) [vS (some ax) ah aj aK aV aB au true true kA aH false P1,vR (some ax) ah aj aK aV aB au true true kA aH false Pn]] (an4 (xH u1) h1 (zR u2) (w64 u3) (an6 u4 h2 u5 h3 h4 (zR u6) (ai (ai tt (ai (arf (wK (some ax) ah aj aK aV aB au true true kA aH false aY)) hL)) (ai (kz1 k1) (ai (kz1 kn) trivial)))))
theorem xEO (h1:qo 111 [.slice (some ax) ah aj,iV aY,iV aK,.func (.func aB) ⟨[]⟩ ⟨au⟩] Z (.bool false) ZE) (h2:lz ZE 45 (zJ ax (Int.toNat (aY-1)*3)) (qh (rcd nZ nAB nBB))) (h3:lz ZE 45 (zJ ax (Int.toNat aH*3)) (qh (rcd nCB nDB nBO))) (h4:qo aB (qh (rcd nZ nAB nBB)::(qh (rcd nCB nDB nBO))::au) ZE (iV nBP) ZE) (hL:zAC (some ax) ah aj aK aV aB au true true kA aH true aY ZE P1 Pn) (k1:∀ i1_4' Z',P1 i1_4' Z'->vF (some ax) ah aj aK aV aB au true true kA aH true i1_4' Z' Nx Qr) (kn:∀ i1_4' Z',Pn i1_4' Z'->wN (some ax) ah aj aK aV aB au true true kA aH true i1_4' Z' Nx Qr) (u1:dI=1:=by omega) (u2:0<aY:=by omega) (u3:I6 (aY-1):=by omega) (u4:Ix (aY-1) ah:=by omega) (u5:Ix aH ah:=by omega) (u6:¬ nBP<0:=by omega):wB (some ax) ah aj aY aK aV aB au true true kA eP aH dI Z Nx Qr :=
 sK [.g,.g,.g,.g,.g,.g,.b true,.g,.g,.g,.g,.g,.c (.bool false) ZE,.g,.b true,.g,.g,.g,.g,.n (aY-1),.i,.l (qh (rcd nZ nAB nBB)),.g,.g,.i,.l (qh (rcd nCB nDB nBO)),.c (iV nBP) ZE,.b false,.g,.g,.cut 148 (wK (some ax) ah aj aK aV aB au true true kA aH true aY) [vS (some ax) ah aj aK aV aB au true true kA aH true P1,vR (some ax) ah aj aK aV aB au true true kA aH true Pn]] (an4 (xH u1) h1 (zR u2) (w64 u3) (an6 u4 h2 u5 h3 h4 (zS u6) (ai (ai tt (ai (arf (wK (some ax) ah aj aK aV aB au true true kA aH true aY)) hL)) (ai (kz1 k1) (ai (kz1 kn) trivial)))))
theorem xEN (h1:qo 111 [.slice data ah aj,iV aY,iV aK,.func (.func aB) ⟨[]⟩ ⟨au⟩] Z (.bool false) ZE) (hL:zAC data ah aj aK aV aB au true true kA aH false aY ZE P1 Pn) (k1:∀ i1_4' Z',P1 i1_4' Z'->vF data ah aj aK aV aB au true true kA aH false i1_4' Z' Nx Qr) (kn:∀ i1_4' Z',Pn i1_4' Z'->wN data ah aj aK aV aB au true true kA aH false i1_4' Z' Nx Qr) (u1:dI=1:=by omega) (u2:¬ 0<aY:=by omega):wB data ah aj aY aK aV aB au true true kA eP aH dI Z Nx Qr :=
 sK [.g,.g,.g,.g,.g,.g,.b true,.g,.g,.g,.g,.g,.c (.bool false) ZE,.g,.b false,.g,.g,.cut 148 (wK data ah aj aK aV aB au true true kA aH false aY) [vS data ah aj aK aV aB au true true kA aH false P1,vR data ah aj aK aV aB au true true kA aH false Pn]] (an3 (xH u1) h1 (zS u2) (ai (ai tt (ai (arf (wK data ah aj aK aV aB au true true kA aH false aY)) hL)) (ai (kz1 k1) (ai (kz1 kn) trivial))))
theorem xEM (h1:lz Z 45 (zJ ax (Int.toNat (aY-1)*3)) (qh (rcd nFB nGB nZ))) (h2:lz Z 45 (zJ ax (Int.toNat aH*3)) (qh (rcd nAB nBB nCB))) (h3:qo aB (qh (rcd nFB nGB nZ)::(qh (rcd nAB nBB nCB))::au) Z (iV nDB) Z) (hL:zAC (some ax) ah aj aK aV aB au true true kA aH false aY Z P1 Pn) (k1:∀ i1_4' Z',P1 i1_4' Z'->vF (some ax) ah aj aK aV aB au true true kA aH false i1_4' Z' Nx Qr) (kn:∀ i1_4' Z',Pn i1_4' Z'->wN (some ax) ah aj aK aV aB au true true kA aH false i1_4' Z' Nx Qr) (u1:¬ dI=1:=by omega) (u2:0<aY:=by omega) (u3:I6 (aY-1):=by omega) (u4:Ix (aY-1) ah:=by omega) (u5:Ix aH ah:=by omega) (u6:nDB<0:=by omega):wB (some ax) ah aj aY aK aV aB au true true kA eP aH dI Z Nx Qr :=
 sK [.g,.g,.g,.g,.g,.g,.b false,.g,.g,.b true,.g,.g,.g,.g,.n (aY-1),.i,.l (qh (rcd nFB nGB nZ)),.g,.g,.i,.l (qh (rcd nAB nBB nCB)),.c (iV nDB) Z,.b true,.g,.g,.cut 148 (wK (some ax) ah aj aK aV aB au true true kA aH false aY) [vS (some ax) ah aj aK aV aB au true true kA aH false P1,vR (some ax) ah aj aK aV aB au true true kA aH false Pn]] (an3 (yD u1) (zR u2) (w64 u3) (an6 u4 h1 u5 h2 h3 (zR u6) (ai (ai tt (ai (arf (wK (some ax) ah aj aK aV aB au true true kA aH false aY)) hL)) (ai (kz1 k1) (ai (kz1 kn) trivial)))))
theorem xEL (h1:lz Z 45 (zJ ax (Int.toNat (aY-1)*3)) (qh (rcd nFB nGB nZ))) (h2:lz Z 45 (zJ ax (Int.toNat aH*3)) (qh (rcd nAB nBB nCB))) (h3:qo aB (qh (rcd nFB nGB nZ)::(qh (rcd nAB nBB nCB))::au) Z (iV nDB) Z) (hL:zAC (some ax) ah aj aK aV aB au true true kA aH true aY Z P1 Pn) (k1:∀ i1_4' Z',P1 i1_4' Z'->vF (some ax) ah aj aK aV aB au true true kA aH true i1_4' Z' Nx Qr) (kn:∀ i1_4' Z',Pn i1_4' Z'->wN (some ax) ah aj aK aV aB au true true kA aH true i1_4' Z' Nx Qr) (u1:¬ dI=1:=by omega) (u2:0<aY:=by omega) (u3:I6 (aY-1):=by omega) (u4:Ix (aY-1) ah:=by omega) (u5:Ix aH ah:=by omega) (u6:¬ nDB<0:=by omega):wB (some ax) ah aj aY aK aV aB au true true kA eP aH dI Z Nx Qr :=
 sK [.g,.g,.g,.g,.g,.g,.b false,.g,.g,.b true,.g,.g,.g,.g,.n (aY-1),.i,.l (qh (rcd nFB nGB nZ)),.g,.g,.i,.l (qh (rcd nAB nBB nCB)),.c (iV nDB) Z,.b false,.g,.g,.cut 148 (wK (some ax) ah aj aK aV aB au true true kA aH true aY) [vS (some ax) ah aj aK aV aB au true true kA aH true P1,vR (some ax) ah aj aK aV aB au true true kA aH true Pn]] (an3 (yD u1) (zR u2) (w64 u3) (an6 u4 h1 u5 h2 h3 (zS u6) (ai (ai tt (ai (arf (wK (some ax) ah aj aK aV aB au true true kA aH true aY)) hL)) (ai (kz1 k1) (ai (kz1 kn) trivial)))))
theorem xEK (hL:zAC data ah aj aK aV aB au true true kA aH false aY Z P1 Pn) (k1:∀ i1_4' Z',P1 i1_4' Z'->vF data ah aj aK aV aB au true true kA aH false i1_4' Z' Nx Qr) (kn:∀ i1_4' Z',Pn i1_4' Z'->wN data ah aj aK aV aB au true true kA aH false i1_4' Z' Nx Qr) (u1:¬ dI=1:=by omega) (u2:¬ 0<aY:=by omega):wB data ah aj aY aK aV aB au true true kA eP aH dI Z Nx Qr :=
 sK [.g,.g,.g,.g,.g,.g,.b false,.g,.g,.b false,.g,.g,.cut 148 (wK data ah aj aK aV aB au true true kA aH false aY) [vS data ah aj aK aV aB au true true kA aH false P1,vR data ah aj aK aV aB au true true kA aH false Pn]] (an2 (yD u1) (zS u2) (ai (ai tt (ai (arf (wK data ah aj aK aV aB au true true kA aH false aY)) hL)) (ai (kz1 k1) (ai (kz1 kn) trivial))))
theorem xEJ (h1:lz Z 45 (zJ ax (Int.toNat (aY-1)*3)) (qh (rcd nFB nGB nZ))) (h2:lz Z 45 (zJ ax (Int.toNat aH*3)) (qh (rcd nAB nBB nCB))) (h3:qo aB (qh (rcd nFB nGB nZ)::(qh (rcd nAB nBB nCB))::au) Z (iV nDB) Z) (hL:zAC (some ax) ah aj aK aV aB au true false kA aH false aY Z P1 Pn) (k1:∀ i1_4' Z',P1 i1_4' Z'->vF (some ax) ah aj aK aV aB au true false kA aH false i1_4' Z' Nx Qr) (kn:∀ i1_4' Z',Pn i1_4' Z'->wN (some ax) ah aj aK aV aB au true false kA aH false i1_4' Z' Nx Qr) (u1:0<aY:=by omega) (u2:I6 (aY-1):=by omega) (u3:Ix (aY-1) ah:=by omega) (u4:Ix aH ah:=by omega) (u5:nDB<0:=by omega):wB (some ax) ah aj aY aK aV aB au true false kA eP aH dI Z Nx Qr :=
 sK [.g,.g,.g,.g,.g,.g,.g,.b true,.g,.g,.g,.g,.n (aY-1),.i,.l (qh (rcd nFB nGB nZ)),.g,.g,.i,.l (qh (rcd nAB nBB nCB)),.c (iV nDB) Z,.b true,.g,.g,.cut 148 (wK (some ax) ah aj aK aV aB au true false kA aH false aY) [vS (some ax) ah aj aK aV aB au true false kA aH false P1,vR (some ax) ah aj aK aV aB au true false kA aH false Pn]] (an2 (zR u1) (w64 u2) (an6 u3 h1 u4 h2 h3 (zR u5) (ai (ai tt (ai (arf (wK (some ax) ah aj aK aV aB au true false kA aH false aY)) hL)) (ai (kz1 k1) (ai (kz1 kn) trivial)))))
theorem xEI (h1:lz Z 45 (zJ ax (Int.toNat (aY-1)*3)) (qh (rcd nFB nGB nZ))) (h2:lz Z 45 (zJ ax (Int.toNat aH*3)) (qh (rcd nAB nBB nCB))) (h3:qo aB (qh (rcd nFB nGB nZ)::(qh (rcd nAB nBB nCB))::au) Z (iV nDB) Z) (hL:zAC (some ax) ah aj aK aV aB au true false kA aH true aY Z P1 Pn) (k1:∀ i1_4' Z',P1 i1_4' Z'->vF (some ax) ah aj aK aV aB au true false kA aH true i1_4' Z' Nx Qr) (kn:∀ i1_4' Z',Pn i1_4' Z'->wN (some ax) ah aj aK aV aB au true false kA aH true i1_4' Z' Nx Qr) (u1:0<aY:=by omega) (u2:I6 (aY-1):=by omega) (u3:Ix (aY-1) ah:=by omega) (u4:Ix aH ah:=by omega) (u5:¬ nDB<0:=by omega):wB (some ax) ah aj aY aK aV aB au true false kA eP aH dI Z Nx Qr :=
 sK [.g,.g,.g,.g,.g,.g,.g,.b true,.g,.g,.g,.g,.n (aY-1),.i,.l (qh (rcd nFB nGB nZ)),.g,.g,.i,.l (qh (rcd nAB nBB nCB)),.c (iV nDB) Z,.b false,.g,.g,.cut 148 (wK (some ax) ah aj aK aV aB au true false kA aH true aY) [vS (some ax) ah aj aK aV aB au true false kA aH true P1,vR (some ax) ah aj aK aV aB au true false kA aH true Pn]] (an2 (zR u1) (w64 u2) (an6 u3 h1 u4 h2 h3 (zS u5) (ai (ai tt (ai (arf (wK (some ax) ah aj aK aV aB au true false kA aH true aY)) hL)) (ai (kz1 k1) (ai (kz1 kn) trivial)))))
theorem xEH (hL:zAC data ah aj aK aV aB au true false kA aH false aY Z P1 Pn) (k1:∀ i1_4' Z',P1 i1_4' Z'->vF data ah aj aK aV aB au true false kA aH false i1_4' Z' Nx Qr) (kn:∀ i1_4' Z',Pn i1_4' Z'->wN data ah aj aK aV aB au true false kA aH false i1_4' Z' Nx Qr) (u1:¬ 0<aY:=by omega):wB data ah aj aY aK aV aB au true false kA eP aH dI Z Nx Qr :=
 sK [.g,.g,.g,.g,.g,.g,.g,.b false,.g,.g,.cut 148 (wK data ah aj aK aV aB au true false kA aH false aY) [vS data ah aj aK aV aB au true false kA aH false P1,vR data ah aj aK aV aB au true false kA aH false Pn]] (ai (zS u1) (ai (ai tt (ai (arf (wK data ah aj aK aV aB au true false kA aH false aY)) hL)) (ai (kz1 k1) (ai (kz1 kn) trivial))))
theorem xEG (h1:lz Z 45 (zJ ax (Int.toNat (aY-1)*3)) (qh (rcd nFB nGB nZ))) (h2:lz Z 45 (zJ ax (Int.toNat aH*3)) (qh (rcd nAB nBB nCB))) (h3:qo aB (qh (rcd nFB nGB nZ)::(qh (rcd nAB nBB nCB))::au) Z (iV nDB) Z) (hL:zAC (some ax) ah aj aK aV aB au false bx kA aH false aY Z P1 Pn) (k1:∀ i1_4' Z',P1 i1_4' Z'->vF (some ax) ah aj aK aV aB au false bx kA aH false i1_4' Z' Nx Qr) (kn:∀ i1_4' Z',Pn i1_4' Z'->wN (some ax) ah aj aK aV aB au false bx kA aH false i1_4' Z' Nx Qr) (u1:0<aY:=by omega) (u2:I6 (aY-1):=by omega) (u3:Ix (aY-1) ah:=by omega) (u4:Ix aH ah:=by omega) (u5:nDB<0:=by omega):wB (some ax) ah aj aY aK aV aB au false bx kA eP aH dI Z Nx Qr :=
 sK [.g,.g,.g,.g,.g,.g,.b true,.g,.g,.g,.g,.n (aY-1),.i,.l (qh (rcd nFB nGB nZ)),.g,.g,.i,.l (qh (rcd nAB nBB nCB)),.c (iV nDB) Z,.b true,.g,.g,.cut 148 (wK (some ax) ah aj aK aV aB au false bx kA aH false aY) [vS (some ax) ah aj aK aV aB au false bx kA aH false P1,vR (some ax) ah aj aK aV aB au false bx kA aH false Pn]] (an2 (zR u1) (w64 u2) (an6 u3 h1 u4 h2 h3 (zR u5) (ai (ai tt (ai (arf (wK (some ax) ah aj aK aV aB au false bx kA aH false aY)) hL)) (ai (kz1 k1) (ai (kz1 kn) trivial)))))
theorem xEF (h1:lz Z 45 (zJ ax (Int.toNat (aY-1)*3)) (qh (rcd nFB nGB nZ))) (h2:lz Z 45 (zJ ax (Int.toNat aH*3)) (qh (rcd nAB nBB nCB))) (h3:qo aB (qh (rcd nFB nGB nZ)::(qh (rcd nAB nBB nCB))::au) Z (iV nDB) Z) (hL:zAC (some ax) ah aj aK aV aB au false bx kA aH true aY Z P1 Pn) (k1:∀ i1_4' Z',P1 i1_4' Z'->vF (some ax) ah aj aK aV aB au false bx kA aH true i1_4' Z' Nx Qr) (kn:∀ i1_4' Z',Pn i1_4' Z'->wN (some ax) ah aj aK aV aB au false bx kA aH true i1_4' Z' Nx Qr) (u1:0<aY:=by omega) (u2:I6 (aY-1):=by omega) (u3:Ix (aY-1) ah:=by omega) (u4:Ix aH ah:=by omega) (u5:¬ nDB<0:=by omega):wB (some ax) ah aj aY aK aV aB au false bx kA eP aH dI Z Nx Qr :=
 sK [.g,.g,.g,.g,.g,.g,.b true,.g,.g,.g,.g,.n (aY-1),.i,.l (qh (rcd nFB nGB nZ)),.g,.g,.i,.l (qh (rcd nAB nBB nCB)),.c (iV nDB) Z,.b false,.g,.g,.cut 148 (wK (some ax) ah aj aK aV aB au false bx kA aH true aY) [vS (some ax) ah aj aK aV aB au false bx kA aH true P1,vR (some ax) ah aj aK aV aB au false bx kA aH true Pn]] (an2 (zR u1) (w64 u2) (an6 u3 h1 u4 h2 h3 (zS u5) (ai (ai tt (ai (arf (wK (some ax) ah aj aK aV aB au false bx kA aH true aY)) hL)) (ai (kz1 k1) (ai (kz1 kn) trivial)))))
theorem xEE (hL:zAC data ah aj aK aV aB au false bx kA aH false aY Z P1 Pn) (k1:∀ i1_4' Z',P1 i1_4' Z'->vF data ah aj aK aV aB au false bx kA aH false i1_4' Z' Nx Qr) (kn:∀ i1_4' Z',Pn i1_4' Z'->wN data ah aj aK aV aB au false bx kA aH false i1_4' Z' Nx Qr) (u1:¬ 0<aY:=by omega):wB data ah aj aY aK aV aB au false bx kA eP aH dI Z Nx Qr :=
 sK [.g,.g,.g,.g,.g,.g,.b false,.g,.g,.cut 148 (wK data ah aj aK aV aB au false bx kA aH false aY) [vS data ah aj aK aV aB au false bx kA aH false P1,vR data ah aj aK aV aB au false bx kA aH false Pn]] (ai (zS u1) (ai (ai tt (ai (arf (wK data ah aj aK aV aB au false bx kA aH false aY)) hL)) (ai (kz1 k1) (ai (kz1 kn) trivial))))
theorem xED (nx:Nx d9 aK aV eO eN Z):vF data ah aj aK aV aB au eO eN kA aH ff d9 Z Nx Qr :=
 sF 0 (d9,aK,aV,eO,eN) [] (fun _ f=>f) nx
theorem xSD {Qn:Int->Int->Bool->St->Prop} (h1:qo 97 [.slice data ah aj,iV fW,iV nN,iV aV,.func (.func aB) ⟨[]⟩ ⟨au⟩] Z (.tuple ⟨[]⟩) ZM) (nx:Qn (nN+1) fU true ZM) (u1:kE<=kF:=by omega) (u2:I6 (nN+1):=by omega):zRT data ah aj aV aB au bA nN kF kG kE true fW fU Z Qn :=
 kO 0 (nN+1,fU,true) [.g,.g,.b true,.g,.g,.g,.g,.g,.g,.c (.tuple ⟨[]⟩) ZM,.g,.n (nN+1),.g] (fun _ f=>an3 (yE u1) h1 (w64 u2) f) nx
theorem xSC {Qn:Int->Int->Bool->St->Prop} (h1:qo 97 [.slice data ah aj,iV fW,iV nN,iV aV,.func (.func aB) ⟨[]⟩ ⟨au⟩] Z (.tuple ⟨[]⟩) ZM) (nx:Qn (nN+1) fU false ZM) (u1:¬ kE<=kF:=by omega) (u2:I6 (nN+1):=by omega):zRT data ah aj aV aB au bA nN kF kG kE true fW fU Z Qn :=
 kO 0 (nN+1,fU,false) [.g,.g,.b false,.g,.g,.g,.g,.g,.g,.c (.tuple ⟨[]⟩) ZM,.g,.n (nN+1),.g] (fun _ f=>an3 (yH u1) h1 (w64 u2) f) nx
theorem xSB {Qn:Int->Int->Bool->St->Prop} (h1:qo 97 [.slice data ah aj,iV (nN+1),iV fU,iV aV,.func (.func aB) ⟨[]⟩ ⟨au⟩] Z (.tuple ⟨[]⟩) ZM) (nx:Qn fW nN true ZM) (u1:kE<=kG:=by omega) (u2:I6 (nN+1):=by omega):zRT data ah aj aV aB au bA nN kF kG kE false fW fU Z Qn :=
 kO 0 (fW,nN,true) [.g,.g,.b true,.g,.g,.g,.n (nN+1),.g,.g,.g,.c (.tuple ⟨[]⟩) ZM,.g,.g] (fun _ f=>an3 (yE u1) (w64 u2) h1 f) nx
theorem xSA {Qn:Int->Int->Bool->St->Prop} (h1:qo 97 [.slice data ah aj,iV (nN+1),iV fU,iV aV,.func (.func aB) ⟨[]⟩ ⟨au⟩] Z (.tuple ⟨[]⟩) ZM) (nx:Qn fW nN false ZM) (u1:¬ kE<=kG:=by omega) (u2:I6 (nN+1):=by omega):zRT data ah aj aV aB au bA nN kF kG kE false fW fU Z Qn :=
 kO 0 (fW,nN,false) [.g,.g,.b false,.g,.g,.g,.n (nN+1),.g,.g,.g,.c (.tuple ⟨[]⟩) ZM,.g,.g] (fun _ f=>an3 (yH u1) (w64 u2) h1 f) nx
theorem xEC {Pn:Int->Int->Bool->St->Prop} (h1:qo 113 [.slice data ah aj,iV d9,iV aK,iV aH,.func (.func aB) ⟨[]⟩ ⟨au⟩] Z (.tuple ⟨[iV nN,.bool bA]⟩) ZHB) (h2:IntKind.wrap .i64 (Int.tdiv kA 8)=Int.tdiv kA 8) (hL:zRT data ah aj aV aB au bA nN (nN-d9) (aK-nN) (Int.tdiv kA 8) true d9 aK ZHB Pn) (kn:∀ i1_5' i2_5' t10_5' Z',Pn i1_5' i2_5' t10_5' Z'->zYQ data ah aj aV aB au bA nN (nN-d9) (aK-nN) (Int.tdiv kA 8) true i1_5' i2_5' t10_5' Z' Nx Qr) (u1:I6 (nN-d9):=by omega) (u2:I6 (aK-nN):=by omega) (u3:(nN-d9)<(aK-nN):=by omega):wN data ah aj aK aV aB au eO eN kA aH ff d9 Z Nx Qr :=
 let s1:=yUJ data ah aj aV aB au bA nN (nN-d9) (aK-nN) (Int.tdiv kA 8) true d9 aK;sK [.g,.g,.g,.g,.g,.c (.tuple ⟨[iV nN,.bool bA]⟩) ZHB,.g,.g,.g,.g,.g,.g,.g,.g,.g,.n (nN-d9),.g,.g,.n (aK-nN),.g,.g,.g,.n (Int.tdiv kA 8),.g,.g,.g,.b true,.cut 148 s1 [zYN data ah aj aV aB au bA nN (nN-d9) (aK-nN) (Int.tdiv kA 8) true Pn]] (an5 h1 (w64 u1) (w64 u2) h2 (zR u3) (ai (ai tt (ai (arf s1) hL)) (ai (kz3 kn) trivial)))
theorem xEB {Pn:Int->Int->Bool->St->Prop} (h1:qo 113 [.slice data ah aj,iV d9,iV aK,iV aH,.func (.func aB) ⟨[]⟩ ⟨au⟩] Z (.tuple ⟨[iV nN,.bool bA]⟩) ZHB) (h2:IntKind.wrap .i64 (Int.tdiv kA 8)=Int.tdiv kA 8) (hL:zRT data ah aj aV aB au bA nN (nN-d9) (aK-nN) (Int.tdiv kA 8) false d9 aK ZHB Pn) (kn:∀ i1_5' i2_5' t10_5' Z',Pn i1_5' i2_5' t10_5' Z'->zYQ data ah aj aV aB au bA nN (nN-d9) (aK-nN) (Int.tdiv kA 8) false i1_5' i2_5' t10_5' Z' Nx Qr) (u1:I6 (nN-d9):=by omega) (u2:I6 (aK-nN):=by omega) (u3:¬ (nN-d9)<(aK-nN):=by omega):wN data ah aj aK aV aB au eO eN kA aH ff d9 Z Nx Qr :=
 let s1:=yUJ data ah aj aV aB au bA nN (nN-d9) (aK-nN) (Int.tdiv kA 8) false d9 aK;sK [.g,.g,.g,.g,.g,.c (.tuple ⟨[iV nN,.bool bA]⟩) ZHB,.g,.g,.g,.g,.g,.g,.g,.g,.g,.n (nN-d9),.g,.g,.n (aK-nN),.g,.g,.g,.n (Int.tdiv kA 8),.g,.g,.g,.b false,.cut 148 s1 [zYN data ah aj aV aB au bA nN (nN-d9) (aK-nN) (Int.tdiv kA 8) false Pn]] (an5 h1 (w64 u1) (w64 u2) h2 (zS u3) (ai (ai tt (ai (arf s1) hL)) (ai (kz3 kn) trivial)))
theorem yDY (nx:Nx fW fU aV t10_5 bA Z):zYQ data ah aj aV aB au bA nN kF kG kE fM fW fU t10_5 Z Nx Qr :=
 sF 0 (fW,fU,aV,t10_5,bA) [] (fun _ f=>f) nx
theorem xKF (hL:xKG data ah aj aB au a_1 b limit true true Z Pr) (kr:∀ Z',Pr Z'->yMS data ah aj aB au Z' Q):qi 97 [.slice data ah aj,iV a_1,iV b,iV limit,.func (.func aB) ⟨[]⟩ ⟨au⟩] Z Q :=
 zG [.g,.g,.lf 148 (zYM data ah aj aB au a_1 b limit true true) [zCF data ah aj aB au Pr]] (kd (ai (ai tt (ai (arf (zYM data ah aj aB au a_1 b limit true true)) hL)) (ai (kz0 kr) trivial)))
theorem yEA (nx:Q (.tuple ⟨[]⟩) Z):yMS data ah aj aB au Z Q :=
 sK [] nx
theorem yLI (h1:zAE .u64 ((x_l:Int))=z1) (h2:qo 98 [.int .u64 z1] Z (iV n2) Z) (h3:qo 97 [.slice x x_l x_c,iV 0,iV (x_l:Int),iV n2,.func (.func aB) ⟨[]⟩ ⟨au⟩] Z (.tuple ⟨[]⟩) Z3) (nx:Q (.tuple ⟨[]⟩) Z3):qi 78 [.slice x x_l x_c,.func (.func aB) ⟨[]⟩ ⟨au⟩] Z Q :=
 zG [.g,.g,.g,.g,.g,.g,.n z1,.c (iV n2) Z,.g,.c (.tuple ⟨[]⟩) Z3] (kd (an3 h1 h2 h3 nx))
end
section
open Go.Sort (swp PermIn SortedIn Below SWO)
theorem xT.perm {V:Rec->Prop} {d d':Array Rec} {a B:Nat} (h:xT V d) (hB:B<=d.size) (hp:PermIn a B d d'):xT V d':=by
 intro i hi;rw [hp.1] at hi;by_cases hr:a<=i/\i<B
 ·exact Go.Sort.permIn_all d d' a B V hB hp (fun j h1 h2=>h j (by omega)) i hr.1 hr.2
 ·rw [hp.2.1 i (by omega)];exact h i hi
section
variable {b c:Nat} {s:Option Nat} {g:FuncId} {gc:List Value} {lt:Rec->Rec->Bool} {V:Rec->Prop}
theorem xZE (hS:SWO lt) (hc:Cmp g gc lt V):∀ (n:Nat) (Z:St) (d:Array Rec) (a B:Nat) (limit:Int),B-a<=n->Dt Z b s d->xT V d->a<=B->B<=d.size->d.size<=60000->Below lt a B d->0<=limit/\limit<=100 ->
  ∃ d',PermIn a B d d'/\SortedIn lt a B d'/\uW 97 [.slice (some ⟨b,0,s⟩) d.size c,iV (a:Int),iV (B:Int),iV limit,.func (.func g) ⟨[]⟩ ⟨gc⟩] (.tuple ⟨[]⟩) Z b s d d':=by
 intro n;induction n using Nat.strongRecOn with
 | _ n ih =>
 intro Z d a B limit hn hd hv ha hB hsz hbel hlim;suffices hmain:zP Tryz.prog 97 [.slice (some ⟨b,0,s⟩) d.size c,iV (a:Int),iV (B:Int),iV limit,.func (.func g) ⟨[]⟩ ⟨gc⟩] Z.re fun v τ=>v=.tuple ⟨[]⟩/\∃ d',W Z τ b s d d'/\PermIn a B d d'/\SortedIn lt a B d' by
  obtain ⟨v,τ,hN,e,d',w,r1,r2⟩:=hmain
  exact ⟨d',r1,r2,uW.of hd ⟨v,τ,hN,e,w⟩⟩
 refine xKF (Pr:=fun τ=>∃ d',W Z τ b s d d'/\PermIn a B d d'/\SortedIn lt a B d') (yEB (Inv:=fun k i1 i2 i3 t10 t11 τ=>∃ (p q:Nat) (dk:Array Rec),i1=p/\i2=q/\k=q-p/\a<=p/\p<=q/\q<=B/\(0<=i3/\i3<=100)/\W Z τ b s d dk/\dk.size=d.size/\xT V dk/\Below lt p q dk/\(∀ R,PermIn p q dk R->SortedIn lt p q R->PermIn a B d R/\SortedIn lt a B R)) ?_ (B-a) _ _ _ _ _ Z.re ⟨a,B,d,rfl,rfl,rfl,Nat.le_refl _,ha,Nat.le_refl _,hlim,W.start hd,rfl,hv,hbel,fun R h1 h2=>⟨h1,h2⟩⟩) (fun τ h=>yEA ⟨rfl,h⟩);rintro k i1 i2 i3 t10 t11 τ ⟨p,q,dk,rfl,rfl,hk,hap,hpq,hqB,hi3,w,hdk,hall,hbk,hJ⟩;suffices hgo:∀ (NX:Int->Int->Int->Bool->Bool->St->Prop) (QR:St->Prop),(∀ (p' q':Nat) (dk':Array Rec) (i3':Int) (t10' t11':Bool) (τ':St),q' - p' < k->a<=p'->p'<=q'->q'<=B->(0<=i3'/\i3'<=100)->W Z τ' b s d dk'->dk'.size=d.size->xT V dk'->Below lt p' q' dk'->(∀ R,PermIn p' q' dk' R->SortedIn lt p' q' R->PermIn a B d R/\SortedIn lt a B R)->NX (p':Int) (q':Int) i3' t10' t11' τ') ->
   (∀ (τ':St) (d':Array Rec),W Z τ' b s d d'->PermIn a B d d'/\SortedIn lt a B d'->QR τ')->zRU (some ⟨b,0,s⟩) d.size c g gc (p:Int) (q:Int) i3 t10 t11 τ NX QR from
  hgo _ _ (fun p' q' dk' i3' t10' t11' τ' h1 h2 h3 h4 h5 h6 h7 h8 h9 h10=>⟨q' - p',h1,p',q',dk',rfl,rfl,rfl,h2,h3,h4,h5,h6,h7,h8,h9,h10⟩) (fun τ' d' h1 h2=>⟨d',h1,h2.1,h2.2⟩)
 intro NX QR hNX hQR;have hqs:q<=dk.size:=by omega
 by_cases h12:q-p<=12
 ·have hins:=Go.Sort.insertionSort_holds (lt:=lt) hS dk p q hpq hqs;obtain ⟨τ',k1,w1⟩:=w.call (xXT (c:=c) (a:=p) (B:=q) w.dt hc hall hqs (by omega) (by omega));rw [hdk] at k1;exact xAB k1 (hQR _ _ w1 (hJ _ hins.1 hins.2)) (by omega) (by omega)
 by_cases h0:i3=0
 ·have hheap:=Go.Sort.heapSort_holds (lt:=lt) hS dk p q hpq hqs;obtain ⟨τ',k1,w1⟩:=w.call (xTK (c:=c) (a:=p) (B:=q) w.dt hc hall hpq hqs (by omega));rw [hdk] at k1;exact xSM k1 (hQR _ _ w1 (hJ _ hheap.1 hheap.2)) (by omega) (by omega) h0
 have k8:IntKind.wrap .i64 (Int.tdiv ((q:Int)-(p:Int)) 8)=Int.tdiv ((q:Int)-(p:Int)) 8:=by
  have e8:Int.tdiv ((q:Int)-(p:Int)) 8=(((q-p) / 8:Nat):Int):=by rw [Int.tdiv_eq_ediv_of_nonneg (by omega)];omega
  rw [<- uF,e8,zWV (by omega) (by omega)]
 have stepN:∀ (i3':Int) (t10 t11:Bool) (x:Nat) (h97:Bool) (d3:Array Rec) (τ3:St),(0<=i3'/\i3'<=100)->p<=x->x<q->W Z τ3 b s d d3->PermIn p q dk d3->xT V d3 ->
   wN (some ⟨b,0,s⟩) d.size c (q:Int) i3' g gc t10 t11 ((q:Int)-(p:Int)) (x:Int) h97 (p:Int) τ3 NX QR:=by
  intro i3' t10 t11 x h97 d3 τ3 hi3' hx1 hx2 w3 hp3 hall3
  have hd3:d3.size=d.size:=by rw [hp3.1,hdk]
  have hq3:q<=d3.size:=by omega
  have hb3:Below lt p q d3:=Go.Sort.Below.permA Go.Sort.permIn_all hqs hbk hp3
  have hJ3:∀ R,PermIn p q d3 R->SortedIn lt p q R->PermIn a B d R/\SortedIn lt a B R:=fun R h1 h2=>hJ R (Go.Sort.permIn_trans _ _ _ p q hp3 h1) h2
  obtain ⟨mid,hmid⟩:∃ mid,mid=(Go.Sort.partition lt d3 p q x).1:=⟨_,rfl⟩
  obtain ⟨ap,hap'⟩:∃ ap,ap=(Go.Sort.partition lt d3 p q x).2.1:=⟨_,rfl⟩
  obtain ⟨d4,hd4⟩:∃ d4,d4=(Go.Sort.partition lt d3 p q x).2.2:=⟨_,rfl⟩
  have hpt:Go.Sort.partition lt d3 p q x=(mid,ap,d4):=by rw [hmid,hap',hd4]
  obtain ⟨m1,m2,m3,m4,m5,m6,m7⟩:=Go.Sort.round_part hS (Go.Sort.partition_holds lt) hx1 hx2 hq3 hb3 hpt
  have hpc:=xXG (c:=c) w3.dt hc hall3 hx1 hx2 hq3 (by omega)
  rw [<- hmid,<- hap',<- hd4] at hpc
  obtain ⟨τ4,kp,w4⟩:=w3.call hpc
  rw [hd3] at kp
  have hd4s:d4.size=d.size:=by omega
  have hall4:xT V d4:=by
   have:=(Go.Sort.partition_holds lt hS d3 p q x hx1 hx2 hq3).2.2.1;rw [hpt] at this;exact hall3.perm hq3 this
  by_cases hlr:mid-p<q-mid
  ·obtain ⟨L,hL1,hL2,hL3⟩:=ih (mid-p) (by omega) τ4 d4 p mid i3' (Nat.le_refl _) w4.dt hall4 m1 (by omega) (by omega) m4 hi3';obtain ⟨τ5,k5,w5⟩:=w4.call hL3;rw [hd4s] at k5;obtain ⟨n1,n2⟩:=m6 L hL1 hL2;have go:∀ t,NX ((mid:Int)+1) (q:Int) i3' t ap τ5:=fun t=>by
    rw [show (mid:Int)+1=((mid+1:Nat):Int) by omega];exact hNX _ _ L _ _ _ _ (by omega) (by omega) (by omega) hqB hi3' w5 (by rw [hL1.1,hd4s]) (hall4.perm (by omega) hL1) n1 (fun R h1 h2=>hJ3 R (n2 R h1 h2).1 (n2 R h1 h2).2)
   refine xEC kp k8 (Pn:=fun i1 i2 t τ'=>i1=(mid:Int)+1/\i2=(q:Int)/\τ'=τ5) ?_ (fun i1 i2 t τ' ⟨e1,e2,e3⟩=>by subst e1 e2 e3;exact yDY (go t)) (by omega);by_cases hT:Int.tdiv ((q:Int)-(p:Int)) 8<=(mid:Int)-(p:Int)
   ·exact xSD k5 ⟨rfl,rfl,rfl⟩ hT
   ·exact xSC k5 ⟨rfl,rfl,rfl⟩ hT
  ·obtain ⟨L,hL1,hL2,hL3⟩:=ih (q-(mid+1)) (by omega) τ4 d4 (mid+1) q i3' (Nat.le_refl _) w4.dt hall4 (by omega) (by omega) (by omega) m5 hi3';obtain ⟨τ5,k5,w5⟩:=w4.call hL3;rw [hd4s,show ((mid+1:Nat):Int)=(mid:Int)+1 by omega] at k5;obtain ⟨n1,n2⟩:=m7 L hL1 hL2;have go:∀ t,NX (p:Int) (mid:Int) i3' t ap τ5:=fun t=>hNX _ _ L _ _ _ _ (by omega) (by omega) (by omega) (by omega) hi3' w5 (by rw [hL1.1,hd4s]) (hall4.perm (by omega) hL1) n1 (fun R h1 h2=>hJ3 R (n2 R h1 h2).1 (n2 R h1 h2).2)
   refine xEB kp k8 (Pn:=fun i1 i2 t τ'=>i1=(p:Int)/\i2=(mid:Int)/\τ'=τ5) ?_ (fun i1 i2 t τ' ⟨e1,e2,e3⟩=>by subst e1 e2 e3;exact yDY (go t)) (by omega);by_cases hT:Int.tdiv ((q:Int)-(p:Int)) 8<=(q:Int)-(mid:Int)
   ·exact xSB k5 ⟨rfl,rfl,rfl⟩ hT
   ·exact xSA k5 ⟨rfl,rfl,rfl⟩ hT
 have stepE:∀ (i3':Int) (t10 t11:Bool) (x:Nat) (d3:Array Rec) (τ3:St),(0<=i3'/\i3'<=100)->p<=x->x<q->W Z τ3 b s d d3->PermIn p q dk d3->xT V d3->0<p->lt d3[p-1]! d3[x]! = false ->
   ∃ (me:Nat) (τ5:St),zD Tryz.prog 112 [.slice (some ⟨b,0,s⟩) d.size c,iV (p:Int),iV (q:Int),iV (x:Int),.func (.func g) ⟨[]⟩ ⟨gc⟩] τ3 (iV (me:Int)) τ5/\NX (me:Int) (q:Int) i3' t10 t11 τ5:=by
  intro i3' t10 t11 x d3 τ3 hi3' hx1 hx2 w3 hp3 hall3 hp0 hl
  have hd3:d3.size=d.size:=by rw [hp3.1,hdk]
  have hq3:q<=d3.size:=by omega
  have hb3:Below lt p q d3:=Go.Sort.Below.permA Go.Sort.permIn_all hqs hbk hp3
  have hJ3:∀ R,PermIn p q d3 R->SortedIn lt p q R->PermIn a B d R/\SortedIn lt a B R:=fun R h1 h2=>hJ R (Go.Sort.permIn_trans _ _ _ p q hp3 h1) h2
  obtain ⟨me,hme⟩:∃ me,me=(Go.Sort.partitionEqual lt d3 p q x).1:=⟨_,rfl⟩
  obtain ⟨de,hde⟩:∃ de,de=(Go.Sort.partitionEqual lt d3 p q x).2:=⟨_,rfl⟩
  have hpe:Go.Sort.partitionEqual lt d3 p q x=(me,de):=by rw [hme,hde]
  obtain ⟨e1,e2,e3,e4,e5⟩:=Go.Sort.round_eq hS (Go.Sort.partitionEqual_holds lt) hp0 hx1 hx2 hq3 hb3 hl hpe
  have hpc:=xLE (c:=c) w3.dt hc hall3 hx1 hx2 hq3 (by omega)
  rw [<- hme,<- hde] at hpc
  obtain ⟨τ5,k5,w5⟩:=w3.call hpc
  rw [hd3] at k5
  have hge:∀ i,p<=i->i<q->lt d3[i]! d3[x]! = false:=fun i hi hi'=>by
   rcases hb3 with h0 | hB'
   ·omega
   ·exact hS.ntrans _ _ _ (hB' i hi hi') hl
  have hperm:=(Go.Sort.partitionEqual_holds lt hS d3 p q x hx1 hx2 hq3 hge).2.2.1
  rw [hpe] at hperm
  exact ⟨me,τ5,k5,hNX _ _ de _ _ _ _ (by omega) (by omega) e2 hqB hi3' w5 (by omega) (hall3.perm hq3 hperm) e4 (fun R h1 h2=>hJ3 R (e5 R h1 h2).1 (e5 R h1 h2).2)⟩
 have stepK:∀ (i3':Int) (t10 t11 h56:Bool) (x:Nat) (i14:Int) (d2:Array Rec) (τ2:St),(0<=i3'/\i3'<=100)->p<=x->x<q->W Z τ2 b s d d2->PermIn p q dk d2->xT V d2 ->
   wB (some ⟨b,0,s⟩) d.size c (p:Int) (q:Int) i3' g gc t10 t11 ((q:Int)-(p:Int)) h56 (x:Int) i14 τ2 NX QR:=by
  intro i3' t10 t11 h56 x i14 d2 τ2 hi3' hx1 hx2 w2 hp2 hall2
  have hd2:d2.size=d.size:=by rw [hp2.1,hdk]
  have hq2:q<=d2.size:=by omega
  have hb2:Below lt p q d2:=Go.Sort.Below.permA Go.Sort.permIn_all hqs hbk hp2
  have out1:∀ (t10 t11 h97:Bool) (i1:Int) (τ':St),NX i1 (q:Int) i3' t10 t11 τ'->vF (some ⟨b,0,s⟩) d.size c (q:Int) i3' g gc t10 t11 ((q:Int)-(p:Int)) (x:Int) h97 i1 τ' NX QR:=fun t10 t11 h97 i1 τ' h=>xED h
  have eq:∀ (t10 t11:Bool) (d3:Array Rec) (τ3:St),W Z τ3 b s d d3->PermIn p q dk d3->xT V d3->0<p->lt d3[p-1]! d3[x]! = false->zAC (some ⟨b,0,s⟩) d.size c (q:Int) i3' g gc t10 t11 ((q:Int)-(p:Int)) (x:Int) true (p:Int) τ3 (fun i1 τ'=>NX i1 (q:Int) i3' t10 t11 τ') (fun i1 τ'=>i1=(p:Int)/\τ'=τ3):=by
   intro t10 t11 d3 τ3 w3 hp3 hall3 hp0 hl;obtain ⟨me,τ5,k5,h5⟩:=stepE i3' t10 t11 x d3 τ3 hi3' hx1 hx2 w3 hp3 hall3 hp0 hl;exact xSF k5 h5
  have nq:∀ (t10 t11:Bool) (τ3:St),zAC (some ⟨b,0,s⟩) d.size c (q:Int) i3' g gc t10 t11 ((q:Int)-(p:Int)) (x:Int) false (p:Int) τ3 (fun i1 τ'=>NX i1 (q:Int) i3' t10 t11 τ') (fun i1 τ'=>i1=(p:Int)/\τ'=τ3):=fun t10 t11 τ3=>xSE ⟨rfl,rfl⟩
  have outN:∀ (t10 t11 h97:Bool) (d3:Array Rec) (τ3:St),W Z τ3 b s d d3->PermIn p q dk d3->xT V d3->∀ (i1:Int) (τ':St),(i1=(p:Int)/\τ'=τ3)->wN (some ⟨b,0,s⟩) d.size c (q:Int) i3' g gc t10 t11 ((q:Int)-(p:Int)) (x:Int) h97 i1 τ' NX QR:=by
   rintro t10 t11 h97 d3 τ3 w3 hp3 hall3 i1 τ' ⟨rfl,rfl⟩;exact stepN i3' t10 t11 x h97 d3 _ hi3' hx1 hx2 w3 hp3 hall3
  have ldp:∀ (d3:Array Rec) (τ3:St),W Z τ3 b s d d3->d3.size=d.size->0<p->zB Tryz.prog τ3 45 (zJ ⟨b,0,s⟩ (Int.toNat ((p:Int)-1)*3))=some (zEL d3[p-1]!):=fun d3 τ3 w3 hd3 hp0=>w3.dt.ldN (by omega) (by omega)
  have ldx:∀ (d3:Array Rec) (τ3:St),W Z τ3 b s d d3->d3.size=d.size->zB Tryz.prog τ3 45 (zJ ⟨b,0,s⟩ (Int.toNat (x:Int)*3))=some (zEL d3[x]!):=fun d3 τ3 w3 hd3=>w3.dt.ldN rfl (by omega)
  by_cases hp0:0<p
  ·cases t10 with
   | false =>
    obtain ⟨m,cm,⟨g1,hl⟩ | ⟨g1,hl⟩⟩:=hc.at_ (τ:=τ2) hall2 (i:=p-1) (j:=x) (by omega) (by omega)
    ·exact xEG (ldp _ _ w2 hd2 hp0) (ldx _ _ w2 hd2) cm (nq _ _ _) (fun i1 τ' h=>out1 _ _ _ _ _ h) (outN _ _ _ _ _ w2 hp2 hall2)
    ·exact xEF (ldp _ _ w2 hd2 hp0) (ldx _ _ w2 hd2) cm (eq _ _ _ _ w2 hp2 hall2 hp0 hl) (fun i1 τ' h=>out1 _ _ _ _ _ h) (outN _ _ _ _ _ w2 hp2 hall2)
   | true =>
   cases t11 with
   | false =>
    obtain ⟨m,cm,⟨g1,hl⟩ | ⟨g1,hl⟩⟩:=hc.at_ (τ:=τ2) hall2 (i:=p-1) (j:=x) (by omega) (by omega)
    ·exact xEJ (ldp _ _ w2 hd2 hp0) (ldx _ _ w2 hd2) cm (nq _ _ _) (fun i1 τ' h=>out1 _ _ _ _ _ h) (outN _ _ _ _ _ w2 hp2 hall2)
    ·exact xEI (ldp _ _ w2 hd2 hp0) (ldx _ _ w2 hd2) cm (eq _ _ _ _ w2 hp2 hall2 hp0 hl) (fun i1 τ' h=>out1 _ _ _ _ _ h) (outN _ _ _ _ _ w2 hp2 hall2)
   | true =>
   by_cases h14:i14=1;rotate_left
   ·obtain ⟨m,cm,⟨g1,hl⟩ | ⟨g1,hl⟩⟩:=hc.at_ (τ:=τ2) hall2 (i:=p-1) (j:=x) (by omega) (by omega)
    ·exact xEM (ldp _ _ w2 hd2 hp0) (ldx _ _ w2 hd2) cm (nq _ _ _) (fun i1 τ' h=>out1 _ _ _ _ _ h) (outN _ _ _ _ _ w2 hp2 hall2)
    ·exact xEL (ldp _ _ w2 hd2 hp0) (ldx _ _ w2 hd2) cm (eq _ _ _ _ w2 hp2 hall2 hp0 hl) (fun i1 τ' h=>out1 _ _ _ _ _ h) (outN _ _ _ _ _ w2 hp2 hall2)
   have hpi:=Go.Sort.partialInsertionSort_holds (lt:=lt) hS d2 p q (by omega) hq2 hb2;have hpc:=xAP (c:=c) (a:=p) (B:=q) w2.dt hc hall2 (by omega) hq2 (by omega);obtain ⟨R,hR⟩:∃ R,R=Go.Sort.partialInsertionSort lt d2 p q:=⟨_,rfl⟩;rw [<- hR] at hpi hpc;obtain ⟨τ3,k3,w3⟩:=w2.call hpc;rw [hd2] at k3;have hp3:=Go.Sort.permIn_trans _ _ _ p q hp2 hpi.1;have hall3:=hall2.perm hq2 hpi.1;have hd3:R.1.size=d.size:=by rw [hp3.1,hdk]
   cases hR2:R.2 with
   | true=>rw [hR2] at k3 hpi;exact yDZ k3 (hQR _ _ w3 (hJ _ hp3 (hpi.2 rfl))) h14
   | false =>
    rw [hR2] at k3;obtain ⟨m,cm,⟨g1,hl⟩ | ⟨g1,hl⟩⟩:=hc.at_ (τ:=τ3) hall3 (i:=p-1) (j:=x) (by omega) (by omega)
    ·exact xEP k3 (ldp _ _ w3 hd3 hp0) (ldx _ _ w3 hd3) cm (nq _ _ _) (fun i1 τ' h=>out1 _ _ _ _ _ h) (outN _ _ _ _ _ w3 hp3 hall3)
    ·exact xEO k3 (ldp _ _ w3 hd3 hp0) (ldx _ _ w3 hd3) cm (eq _ _ _ _ w3 hp3 hall3 hp0 hl) (fun i1 τ' h=>out1 _ _ _ _ _ h) (outN _ _ _ _ _ w3 hp3 hall3)
  ·cases t10 with
   | false=>exact xEE (nq _ _ _) (fun i1 τ' h=>out1 _ _ _ _ _ h) (outN _ _ _ _ _ w2 hp2 hall2)
   | true =>
   cases t11 with
   | false=>exact xEH (nq _ _ _) (fun i1 τ' h=>out1 _ _ _ _ _ h) (outN _ _ _ _ _ w2 hp2 hall2)
   | true =>
   by_cases h14:i14=1;rotate_left
   ·exact xEK (nq _ _ _) (fun i1 τ' h=>out1 _ _ _ _ _ h) (outN _ _ _ _ _ w2 hp2 hall2) h14
   have hpi:=Go.Sort.partialInsertionSort_holds (lt:=lt) hS d2 p q (by omega) hq2 hb2;have hpc:=xAP (c:=c) (a:=p) (B:=q) w2.dt hc hall2 (by omega) hq2 (by omega);obtain ⟨R,hR⟩:∃ R,R=Go.Sort.partialInsertionSort lt d2 p q:=⟨_,rfl⟩;rw [<- hR] at hpi hpc;obtain ⟨τ3,k3,w3⟩:=w2.call hpc;rw [hd2] at k3;have hp3:=Go.Sort.permIn_trans _ _ _ p q hp2 hpi.1;have hall3:=hall2.perm hq2 hpi.1;cases hR2:R.2 with
   | true=>rw [hR2] at k3 hpi;exact yDZ k3 (hQR _ _ w3 (hJ _ hp3 (hpi.2 rfl))) h14
   | false =>
    rw [hR2] at k3;exact xEN k3 (nq _ _ _) (fun i1 τ' h=>out1 _ _ _ _ _ h) (outN _ _ _ _ _ w3 hp3 hall3) h14
 have stepP:∀ (i3':Int) (t10 t11 h39:Bool) (d1:Array Rec) (τ1:St),(0<=i3'/\i3'<=100)->W Z τ1 b s d d1->PermIn p q dk d1->xT V d1 ->
   zJK (some ⟨b,0,s⟩) d.size c (p:Int) (q:Int) g gc t10 t11 ((q:Int)-(p:Int)) h39 i3' τ1 NX QR:=by
  intro i3' t10 t11 h39 d1 τ1 hi3' w1 hp1 hall1
  have hd1:d1.size=d.size:=by rw [hp1.1,hdk]
  have hq1:q<=d1.size:=by omega
  obtain ⟨x,kk,hx1,hx2,kc⟩:=xGZ (c:=c) (a:=p) (B:=q) w1.dt hc hall1 (by omega) hq1 (by omega)
  rw [hd1] at kc
  have go:∀ (i13 i14:Int) (h56:Bool) (τ2:St),(∃ (x:Nat) (d2:Array Rec),i13=x/\p<=x/\x<q/\W Z τ2 b s d d2/\PermIn p q dk d2/\xT V d2)->wB (some ⟨b,0,s⟩) d.size c (p:Int) (q:Int) i3' g gc t10 t11 ((q:Int)-(p:Int)) h56 i13 i14 τ2 NX QR:=by
   rintro i13 i14 h56 τ2 ⟨x,d2,rfl,hx1,hx2,w2,hp2,hall2⟩;exact stepK _ _ _ _ _ _ _ _ hi3' hx1 hx2 w2 hp2 hall2
  by_cases hk2:kk=2
  ·have hrev:=Go.Sort.reverseRange_holds (α:=Rec) d1 p q hpq hq1;obtain ⟨τ2,k2,w2⟩:=w1.call (xWR (c:=c) (g:=g) (gc:=gc) (a:=p) (B:=q) w1.dt hall1 (by omega) hq1 (by omega));rw [hd1] at k2;exact xER kc (Pn:=fun i13 i14 τ2=>∃ (x:Nat) (d2:Array Rec),i13=x/\p<=x/\x<q/\W Z τ2 b s d d2/\PermIn p q dk d2/\xT V d2) (xSH k2 ⟨(q-1)-(x-p),_,by omega,by omega,by omega,w2,Go.Sort.permIn_trans _ _ _ p q hp1 hrev,hall1.perm hq1 hrev⟩ (by omega) (by omega) (by omega)) (fun i13 i14 τ2 h=>go _ _ _ _ h) hk2
  ·exact xEQ kc (Pn:=fun i13 i14 τ2=>∃ (x:Nat) (d2:Array Rec),i13=x/\p<=x/\x<q/\W Z τ2 b s d d2/\PermIn p q dk d2/\xT V d2) (xSG ⟨x,d1,rfl,hx1,hx2,w1,hp1,hall1⟩) (fun i13 i14 τ2 h=>go _ _ _ _ h) hk2
 cases t10 with
 | true=>exact xSL (Pn:=fun i3' τ'=>(0<=i3'/\i3'<=100)/\∃ d1,W Z τ' b s d d1/\PermIn p q dk d1/\xT V d1) (xSI ⟨hi3,dk,w,Go.Sort.permIn_refl _ _ _,hall⟩) (fun i3' τ' ⟨h1,d1,h2,h3,h4⟩=>stepP _ _ _ _ _ _ h1 h2 h3 h4) (by omega) (by omega) h0
 | false =>
  obtain ⟨d1,hp1,hall1,hs1⟩:=xOW (c:=c) (g:=g) (gc:=gc) (a:=p) (B:=q) w.dt hpq hqs (by omega) hall;obtain ⟨τ1,k1,w1⟩:=w.call hs1;rw [hdk] at k1;exact xSK (Pn:=fun i3' τ'=>(0<=i3'/\i3'<=100)/\∃ d1,W Z τ' b s d d1/\PermIn p q dk d1/\xT V d1) (xSJ k1 ⟨by omega,d1,w1,hp1,hall1⟩ (by omega)) (fun i3' τ' ⟨h1,d1,h2,h3,h4⟩=>stepP _ _ _ _ _ _ h1 h2 h3 h4) (by omega) (by omega) h0
end
end
section
open Go.Sort (swp PermIn SortedIn Below SWO)
section
variable {Z:St} {b c:Nat} {s:Option Nat} {d:Array Rec} {g:FuncId} {gc:List Value} {lt:Rec->Rec->Bool} {V:Rec->Prop}
theorem xRB (hS:SWO lt) (hc:Cmp g gc lt V) (hd:Dt Z b s d) (hv:xT V d) (hsz:d.size<=60000) :
  ∃ d',PermIn 0 d.size d d'/\SortedIn lt 0 d.size d'/\uW 78 [.slice (some ⟨b,0,s⟩) d.size c,.func (.func g) ⟨[]⟩ ⟨gc⟩] (.tuple ⟨[]⟩) Z b s d d':=by
 obtain ⟨n,n1,n2,n3⟩:=yYK (Z:=Z.re) (x:=d.size) (by omega);obtain ⟨d',p1,p2,p3⟩:=xZE (c:=c) (s:=s) hS hc d.size Z.re d 0 d.size (n:Int) (by omega) hd hv (Nat.zero_le _) (Nat.le_refl _) hsz (.inl rfl) (by omega);have w0:W Z Z.re b s d d:=W.start hd;obtain ⟨τ',k1,w1⟩:=w0.call p3;exact ⟨d',p1,p2,uW.of hd (yLI (z1:=(d.size:Int)) (by rw [zWU];omega) n3 k1 ⟨rfl,w1⟩)⟩
theorem xMR:zD Tryz.prog 106 [.slice none 0 c,iV 0,iV 0,.func (.func g) ⟨[]⟩ ⟨gc⟩] Z (.tuple ⟨[]⟩) Z :=
 zP.pure (xBB (P0:=fun τ=>τ=Z.re) (zZP (Inv:=fun k i τ=>i=1/\τ=Z.re) (fun k i τ h=>by obtain ⟨rfl,rfl⟩:=h;exact yOO rfl (by omega)) 0 _ Z.re ⟨rfl,rfl⟩) (fun τ h=>zZO ⟨rfl,by rw [h];exact Nat.le_refl _⟩) (by omega))
theorem xSN {n:Int}:zD Tryz.prog 97 [.slice none 0 c,iV 0,iV 0,iV n,.func (.func g) ⟨[]⟩ ⟨gc⟩] Z (.tuple ⟨[]⟩) Z :=
 zP.pure (xKF (Pr:=fun τ=>τ=Z.re) (yEB (Inv:=fun k i1 i2 i3 t10 t11 τ=>i1=0/\i2=0/\τ=Z.re) (fun k i1 i2 i3 t10 t11 τ h=>by obtain ⟨rfl,rfl,rfl⟩:=h;exact xAB xMR rfl (by omega) (by omega)) 0 _ _ _ _ _ Z.re ⟨rfl,rfl,rfl⟩) (fun τ h=>yEA ⟨rfl,by rw [h];exact Nat.le_refl _⟩))
theorem xCN:zD Tryz.prog 78 [.slice none 0 c,.func (.func g) ⟨[]⟩ ⟨gc⟩] Z (.tuple ⟨[]⟩) Z:=by
 obtain ⟨n,n1,n2,n3⟩:=yYK (Z:=Z.re) (x:=0) (by omega);exact zP.pure (yLI (x_l:=0) (z1:=((0:Nat):Int)) (by rw [zWU];rfl) n3 xSN ⟨rfl,Nat.le_refl _⟩)
end
end
abbrev zMH (s:Std):Value:=.agg ⟨zL s.free s.row s.used s.day⟩
structure StOk (s:Std):Prop where
 free:-1000000<=s.free/\s.free<=1000000
 row:0<=s.row/\s.row<=1000000
 used:-1000000<=s.used/\s.used<=1000000
 day:-1<=s.day/\s.day<=6
structure DtOk (d:Dty):Prop where
 day:0<=d.day/\d.day<=6
 on:0<=d.on/\d.on<=1439
section
variable {Z:St} {w:Wk} {p q:Option Addr} {l m c d:Nat} {k:Nat}
theorem xOR {p:Option Addr} {l c:Nat} {xs:List Int} {n:Int} (h:yG Z p l xs) (hl:l<=1073741824):zD Pg 58 [.slice p l c,iV n] Z (.bool (xs.contains n)) Z:=by
 have h1:=(SlV.re h).re;have e1:=h.len;have ci:∃ r:Int,zD Pg 83 [.slice p l c,iV n] Z.re (iV r) Z.re/\(0<=r↔n∈xs):=by
  have key:zP Pg 83 [.slice p l c,iV n] Z.re.re fun v s=>(∃ r:Int,v=iV r/\(0<=r↔n∈xs))/\s=Z.re.re:=by
   refine xMT (yOS (Inv:=fun k i τ=>τ=Z.re.re/\∃ j:Nat,i=j/\j+k=l/\n ∉ xs.take j) (Qr:=fun i τ=>τ=Z.re.re/\0<=i/\n∈xs) (Q0:=fun τ=>τ=Z.re.re/\n ∉ xs) ?_ l 0 _ ⟨rfl,0,rfl,by omega,by simp⟩) ?_ ?_
   ·rintro k i τ ⟨rfl,j,rfl,hk,he⟩;by_cases hj:j<l
    ·obtain ⟨a,rfl,x,hx,l1⟩:=wZ h1 hj;by_cases hxy:n=x
     ·exact xFR l1 ⟨rfl,by omega,hxy ▸ List.mem_of_getElem? hx⟩ (by omega) (by omega) hxy
     ·exact xFQ l1 ⟨k-1,by omega,rfl,j+1,by omega,by omega,by rw [wD hx,List.mem_append];simp;exact ⟨he,hxy⟩⟩ (by omega) (by omega) hxy (by omega)
    ·rw [List.take_of_length_le (by omega)] at he;exact xFP ⟨rfl,he⟩ (by omega)
   ·rintro i τ ⟨rfl,h2,hn⟩;exact yOQ ⟨⟨i,rfl,by simp [h2,hn]⟩,rfl⟩
   ·rintro τ ⟨rfl,hn⟩;exact yOR ⟨⟨-1,rfl,by simp [hn]⟩,rfl⟩
  obtain ⟨v,s,h3,⟨r,rfl,h2⟩,rfl⟩:=key;exact ⟨r,zRS h3 (Nat.le_refl _) rfl,h2⟩
 obtain ⟨r,c1,c2⟩:=ci;by_cases hn:n∈xs
 ·rw [show xs.contains n=true by simp [hn]];exact (xUC c1 ⟨rfl,Nat.le_refl _⟩ (c2.2 hn)).pure
 ·rw [show xs.contains n=false by simp [hn]];exact (xUB c1 ⟨rfl,Nat.le_refl _⟩ (fun h=>hn (c2.1 h))).pure
theorem yHE {s:Std} {x:Dty} {e:Int} (hs:StOk s) (hx:DtOk x) (he:-1000000<=e/\e<=1000000):zD Pg 77 [zMH s,zBT x,iV e] Z (zMH (take s x e)) Z:=by
 have h1:=hs.used;have h2:=hs.row;have h3:=hs.day;have h4:=hx.day;have h5:=hx.on;unfold take;by_cases e1:s.day=x.day
 ·rw [if_pos e1];exact (xIQ ⟨rfl,by simp⟩ (by omega) (by omega) e1).pure
 ·rw [if_neg e1];by_cases e2:s.day=x.day-1
  ·rw [if_pos e2];exact (xIO ⟨rfl,by simp⟩ (by omega) (by omega) e1 (by omega) e2 (by omega) (by omega) (by omega)).pure
  ·rw [if_neg e2];exact (xIP ⟨rfl,by simp⟩ (by omega) (by omega) e1 (by omega) e2 (by omega) (by omega)).pure
theorem xVW (h:WkP Z 85 88 w p l q m) (hsh:zBC w) (hk:k<m) {s:Std} {x:Dty} (hs:StOk s) (hx:DtOk x) {n:Nat} (hn:n<5):zD Pg (92+n) [.agg ⟨wkc w.days p l c q m d w.rest w.run w.hours⟩,iV (k:Int),zBT x,zMH s] Z (.bool (holds w n (drQ w k) x s)) Z:=by
 have h1:=hs.free;have h4:=hx.day;have h5:=hx.on;have L:Le Z (((Z.re.row (wkc w.days p l c q m d w.rest w.run w.hours) 6).row (zF x.day x.on x.lo x.hi x.route) 5).row (zL s.free s.row s.used s.day) 4):=(((le0 Z).trans (Le.row _ _ _)).trans (Le.row _ _ _)).trans (Le.row _ _ _);obtain ⟨a,rfl,p',l',c',r',n',d',s',j',e',_,hkn,hlv,_,hf⟩:=(h.le L).vld yRH zRI hk;have hm:=h.len.2;have hmem:drQ w k∈w.drivers:=by
  unfold drQ;rw [List.getD_eq_getElem?_getD,List.getElem?_eq_getElem (by omega)];exact List.getElem_mem _
 have hsx:=hsh _ hmem;match n,hn with
 | 0,_=>exact (xDQ (hf 0 _ rfl 26 yV) (xOR hkn (by have:=hkn.len;omega)) ⟨rfl,Nat.le_refl _⟩ (by omega)).pure
 | 1,_ =>
  have cc:=xOR (c:=d') (n:=x.day) hlv (by have:=hlv.len;omega);show zD Pg 93 _ Z (.bool (!(drQ w k).leave.contains x.day)) Z;cases hc:(drQ w k).leave.contains x.day with
  | true=>rw [hc] at cc;exact (xJW (hf 1 _ rfl 26 yV) cc ⟨rfl,Nat.le_refl _⟩ (by omega)).pure
  | false=>rw [hc] at cc;exact (xJV (hf 1 _ rfl 26 yV) cc ⟨rfl,Nat.le_refl _⟩ (by omega)).pure
 | 2,_ =>
  show zD Pg 94 _ Z (.bool (decide (s.day≠x.day))) Z;by_cases e:s.day=x.day
  ·rw [decide_eq_false (by simp [e])];exact (yUC ⟨rfl,Nat.le_refl _⟩ e).pure
  ·rw [decide_eq_true e];exact (yUD ⟨rfl,Nat.le_refl _⟩ e).pure
 | 3,_ =>
  show zD Pg 95 _ Z (.bool (decide (s.day=x.day) || decide (w.rest<=x.day*1440+x.on-s.free))) Z;by_cases e:s.day=x.day
  ·rw [decide_eq_true e];exact (yUG ⟨rfl,Nat.le_refl _⟩ e).pure
  ·rw [decide_eq_false e,Bool.false_or];by_cases e2:w.rest<=x.day*1440+x.on-s.free
   ·rw [decide_eq_true e2];exact (yUF ⟨rfl,Nat.le_refl _⟩ e (by omega) (by omega) (by omega) e2).pure
   ·rw [decide_eq_false e2];exact (yUE ⟨rfl,Nat.le_refl _⟩ e (by omega) (by omega) (by omega) e2).pure
 | 4,_ =>
  show zD Pg 96 _ Z (.bool (decide (s.day=x.day) || decide ((take s x x.on).row<=w.run))) Z;by_cases e:s.day=x.day
  ·rw [decide_eq_true e];exact (xDT ⟨rfl,Nat.le_refl _⟩ e).pure
  ·rw [decide_eq_false e,Bool.false_or];have ct:=yHE (Z:=((Z.re.row (wkc w.days p l c (some a) m d w.rest w.run w.hours) 6).row (zF x.day x.on x.lo x.hi x.route) 5).row (zL s.free s.row s.used s.day) 4) (e:=x.on) hs hx (by omega);by_cases e2:(take s x x.on).row<=w.run
   ·rw [decide_eq_true e2];exact (xDS ct ⟨rfl,Nat.le_refl _⟩ e e2).pure
   ·rw [decide_eq_false e2];exact (xDR ct ⟨rfl,Nat.le_refl _⟩ e e2).pure
end
section
open Go.Sort (swp PermIn SortedIn Below SWO)
def bLt (x y:Rec):Prop:=x.a<y.a\/x.a=y.a/\(x.k<y.k\/x.k=y.k/\x.b<y.b)
instance (x y:Rec):Decidable (bLt x y):=by unfold bLt;infer_instance
def yRC (x y:Rec):Bool:=decide (bLt x y)
theorem xYZ:SWO yRC:=by
 refine ⟨fun x=>?_,fun x y z h1 h2=>?_,fun x y z h1 h2=>?_⟩
 ·simp only [yRC,decide_eq_false_iff_not];unfold bLt;omega
 ·simp only [yRC,decide_eq_true_eq] at *;unfold bLt at *;omega
 ·simp only [yRC,decide_eq_false_iff_not] at *;unfold bLt at *;omega
def BOk (x:Rec):Prop:=0<=x.k/\x.k<=5/\0<=x.a/\x.a<=100/\0<=x.b/\x.b<=100
section
variable {Z:St}
theorem xUF {x y z:Int} {b c:Nat} (o:Own Z b [iV x,iV y,iV z] 1):zD Tryz.prog 80 [.slice (some ⟨b,0,none⟩) 3 c] Z (iV (if x=0 then (if y=0 then z else y) else x)) Z:=by
 have h0:=o.re;have l0:=h0.ldI (P:=Tryz.prog) (t:=3) (i:=0) (v:=iV x) zU rfl;have l1:=h0.ldI (P:=Tryz.prog) (t:=3) (i:=1) (v:=iV y) zU rfl;have l2:=h0.ldI (P:=Tryz.prog) (t:=3) (i:=2) (v:=iV z) zU rfl;refine zP.pure (xOS (Pr:=fun n τ=>τ=Z.re/\n=if x=0 then (if y=0 then z else y) else x) (P0:=fun τ=>τ=Z.re/\x=0/\y=0/\z=0)
  (yQN (Inv:=fun k i τ=>τ=Z.re/\((i=0/\k=3)\/(i=1/\k=2/\x=0)\/(i=2/\k=1/\x=0/\y=0)\/(i=3/\x=0/\y=0/\z=0))) ?_ 3 0 Z.re ⟨rfl,.inl ⟨rfl,rfl⟩⟩)
  (fun n τ h=>yQL ⟨by rw [h.2],by rw [h.1];exact Nat.le_refl _⟩) (fun τ h=>yQM ⟨by simp [h.2.1,h.2.2.1,h.2.2.2],by rw [h.1];exact Nat.le_refl _⟩))
 rintro k i τ ⟨rfl,⟨rfl,rfl⟩ | ⟨rfl,rfl,hx⟩ | ⟨rfl,rfl,hx,hy⟩ | ⟨rfl,hx,hy,hz⟩⟩
 ·by_cases hx:x=0
  ·exact zSW l0 ⟨2,by omega,rfl,.inr (.inl ⟨rfl,rfl,hx⟩)⟩
  ·exact zSX l0 ⟨rfl,by rw [if_neg hx]⟩
 ·by_cases hy:y=0
  ·exact zSW l1 ⟨1,by omega,rfl,.inr (.inr (.inl ⟨rfl,rfl,hx,hy⟩))⟩
  ·exact zSX l1 ⟨rfl,by rw [if_pos hx,if_neg hy]⟩
 ·by_cases hz:z=0
  ·exact zSW l2 ⟨0,by omega,rfl,.inr (.inr (.inr ⟨rfl,hx,hy,hz⟩))⟩
  ·exact zSX l2 ⟨rfl,by rw [if_pos hx,if_pos hy]⟩
 ·exact xGV ⟨rfl,hx,hy,hz⟩
theorem wAD:Cmp 79 [] yRC BOk:=by
 intro τ x y hx hy;unfold BOk at hx hy;refine ⟨if x.a-y.a=0 then (if x.k-y.k=0 then x.b-y.b else x.k-y.k) else x.a-y.a, ?_, ?_⟩
 ·have N:New τ.re (((τ.re.row (zBD x) 3).row (zBD y) 3).row [iV (x.a-y.a),iV (x.k-y.k),iV (x.b-y.b)] 1):=((New.row _ _ _).row').row';exact zP.pure (xUJ (xUF (zC _ _ _)) ⟨rfl,N.lw⟩ (by omega) (by omega) (by omega) (by omega) (by omega))
 ·simp only [yRC,decide_eq_true_eq];unfold bLt;by_cases h:x.a-y.a=0
  ·rw [if_pos h];by_cases h2:x.k-y.k=0
   ·rw [if_pos h2];omega
   ·rw [if_neg h2];omega
  ·rw [if_neg h];omega
end
end
abbrev zET (s:Std):List Value:=zL s.free s.row s.used s.day
def stL (f:Nat->Std):List Value:=zET (f 0)++(zET (f 1)++(zET (f 2)++(zET (f 3)++(zET (f 4)++zET (f 5)))))
def zER:List Value:=[zY 0,zY 0,zY 0,zY 0,zY 0,zY 0,zY 0,zY 0,zY 0,zY 0,zY 0,zY 0,zY 0,zY 0,zY 0,zY 0,zY 0,zY 0,zY 0,zY 0,zY 0,zY 0,zY 0,zY 0]
def zVQ:Std:=⟨0,0,0,0⟩
theorem yCW:zER=stL fun _=>zVQ:=rfl
section
variable {Z:St} {b n:Nat} {f:Nat->Std}
theorem yHF (o:Own Z b (stL f) n) {i:Nat} (hi:i<6):zB Tryz.prog Z 107 ⟨b,0+Int.toNat (i:Int)*4,none⟩=some (zMH (f i)):=by
 rw [Int.toNat_natCast];match i,hi with
 | 0,_=>exact o.ldN (k:=0) vX xG (ds:=zET (f 0)) rfl rfl (by simp [stL])
 | 1,_=>exact o.ldN (k:=4) vX xG (ds:=zET (f 1)) rfl rfl (by simp [stL])
 | 2,_=>exact o.ldN (k:=8) vX xG (ds:=zET (f 2)) rfl rfl (by simp [stL])
 | 3,_=>exact o.ldN (k:=12) vX xG (ds:=zET (f 3)) rfl rfl (by simp [stL])
 | 4,_=>exact o.ldN (k:=16) vX xG (ds:=zET (f 4)) rfl rfl (by simp [stL])
 | 5,_=>exact o.ldN (k:=20) vX xG (ds:=zET (f 5)) rfl rfl (by simp [stL])
theorem xIR (o:Own Z b (stL f) n) {i:Nat} (hi:i<6):zB Tryz.prog Z 3 ⟨b,0+Int.toNat (i:Int)*4+2,none⟩=some (zY (f i).used):=by
 rw [Int.toNat_natCast];match i,hi with
 | 0,_=>exact o.ld (k:=2) rfl zU rfl
 | 1,_=>exact o.ld (k:=6) rfl zU rfl
 | 2,_=>exact o.ld (k:=10) rfl zU rfl
 | 3,_=>exact o.ld (k:=14) rfl zU rfl
 | 4,_=>exact o.ld (k:=18) rfl zU rfl
 | 5,_=>exact o.ld (k:=22) rfl zU rfl
theorem uL (o:Own Z b (stL f) n):zB Tryz.prog Z 109 ⟨b,0,none⟩=some (.agg ⟨stL f⟩):=o.ldN (k:=0) xPV yHK (ds:=stL f) rfl rfl (by simp [stL])
theorem ySH (o:Own Z b (stL f) n) {i:Nat} (hi:i<6) (s:Std):zQ Tryz.prog (evL [.pointer (some ⟨b,0+Int.toNat (i:Int)*4,none⟩),zMH s]) Z (.store 107 (.tmp 0) (.tmp 1))=some (undef,Z.own b (stL (upd f i s)) n):=by
 rw [Int.toNat_natCast];match i,hi with
 | 0,_=>exact o.store (k:=0) (vs:=zET s) rfl xG rfl (by simp [stL]) rfl
 | 1,_=>exact o.store (k:=4) (vs:=zET s) rfl xG rfl (by simp [stL]) rfl
 | 2,_=>exact o.store (k:=8) (vs:=zET s) rfl xG rfl (by simp [stL]) rfl
 | 3,_=>exact o.store (k:=12) (vs:=zET s) rfl xG rfl (by simp [stL]) rfl
 | 4,_=>exact o.store (k:=16) (vs:=zET s) rfl xG rfl (by simp [stL]) rfl
 | 5,_=>exact o.store (k:=20) (vs:=zET s) rfl xG rfl (by simp [stL]) rfl
theorem zVU (o:Own Z b (stL f) n) (g:Nat->Std):zQ Tryz.prog (evL [.pointer (some ⟨b,0,none⟩),.agg ⟨stL g⟩]) Z (.store 109 (.tmp 0) (.tmp 1))=some (undef,Z.own b (stL g) n) :=
 o.store (k:=0) (vs:=stL g) rfl yHK rfl (by simp [stL]) rfl
def st0 (w:Wk) (j:Nat):Nat->Std:=fun k=>if k<j then before (drQ w k) else zVQ
theorem xZA {w:Wk} {j:Nat}:upd (st0 w j) j (before (drQ w j))=st0 w (j+1):=by
 funext k;unfold upd st0;by_cases e:k=j
 ·subst e;rw [if_pos rfl,if_pos (by omega)]
 ·rw [if_neg e];by_cases h:k<j
  ·rw [if_pos h,if_pos (by omega)]
  ·rw [if_neg h,if_neg (by omega)]
variable {w:Wk} {p q:Option Addr} {l m c d:Nat}
theorem yDA (h:WkP Z 85 88 w p l q m) (hm:m<=6):zD Tryz.prog 74 [.agg ⟨wkc w.days p l c q m d w.rest w.run w.hours⟩] Z (.agg ⟨stL (st0 w m)⟩) Z:=by
 have hmm:=h.len.2;obtain ⟨Z1,hZ1⟩:∃ Z1,Z1=(Z.re.row (wkc w.days p l c q m d w.rest w.run w.hours) 6).row zER 4:=⟨_,rfl⟩;have N1:New Z.re Z1:=by rw [hZ1];exact (New.row _ _ _).row'
 have L1:Le Z Z1:=(le0 Z).trans N1.le;have o1:Own Z1 (Z.y+1) (stL (st0 w 0)) 4:=by
  rw [hZ1];exact zC (Z.re.row (wkc w.days p l c q m d w.rest w.run w.hours) 6) zER 4
 have hr:zW RD (.agg ⟨stL (st0 w m)⟩)=true:=rfl;refine zP.pure (hv:=hr) (ySE (yCB (Inv:=fun k i τ=>New Z.re τ/\∃ j:Nat,i=j/\j+k=m/\Own τ (Z.y+1) (stL (st0 w j)) 4) (Q0:=fun τ=>New Z.re τ/\Own τ (Z.y+1) (stL (st0 w m)) 4) ?_ m 0 Z1 ⟨N1,0,rfl,by omega,o1⟩ |> fun h=>by rw [hZ1] at h;exact h) ?_)
 ·rintro k i τ ⟨hN,j,rfl,hk,o⟩;by_cases hj:j<m;rotate_left
  ·have:j=m:=by omega
   subst this;exact yKZ ⟨hN,o⟩ (by omega)
  have LL:=(le0 Z).trans hN.le;obtain ⟨a,rfl,p',l',c',r',n',d',s',j',e',lx,_,_,_,_⟩:=(h.le LL).vld yRH zRI hj;have hN2:New Z.re ((τ.row (zN none 0 0 none 0 0 none 0 0 0 0 0) 6).own τ.y (zN p' l' c' r' n' d' s' j' e' (drQ w j).off (drQ w j).row (drQ w j).used) 6):=hN.row'.own hN.le.y;have o2:Own ((τ.row (zN none 0 0 none 0 0 none 0 0 0 0 0) 6).own τ.y (zN p' l' c' r' n' d' s' j' e' (drQ w j).off (drQ w j).row (drQ w j).used) 6) (Z.y+1) (stL (st0 w j)) 4:=o.row.own (by have:=o.lt;omega);refine yLA lx (ySH o2 (i:=j) (by omega) (before (drQ w j))) ⟨k-1,by omega,hN2.own (by show Z.y<=Z.y+1;omega),j+1,by omega,by omega, ?_⟩ (by omega) (by omega) (by omega) (by omega);rw [<- xZA];exact o2.put
 ·rintro τ ⟨hN,o⟩;exact yCA (uL o) (zVU o _) (uL o.put) ⟨rfl,(hN.own (by show Z.y<=Z.y+1;omega)).lw⟩
theorem zUG:∃ b Z',zD Tryz.prog 76 [] Z (.slice (some ⟨b,0,none⟩) 5 5) Z'/\New Z Z'/\Z.y<=b/\Row Z' ⟨b,0,none⟩ [.int .u8 0,.func (.func 92) ⟨[]⟩ ⟨[]⟩,.int .u8 1,.func (.func 93) ⟨[]⟩ ⟨[]⟩,.int .u8 2,.func (.func 94) ⟨[]⟩ ⟨[]⟩,.int .u8 3,.func (.func 95) ⟨[]⟩ ⟨[]⟩,.int .u8 4,.func (.func 96) ⟨[]⟩ ⟨[]⟩]:=by
 obtain ⟨v,Z',h1,h2,b,rfl,h3,h4⟩:=zP.new (Z:=Z) (P:=Tryz.prog) (f:=76) (args:=[]) (Q:=fun v s=>∃ b,v=.slice (some ⟨b,0,none⟩) 5 5/\Z.y<=b/\Row s ⟨b,0,none⟩ [.int .u8 0,.func (.func 92) ⟨[]⟩ ⟨[]⟩,.int .u8 1,.func (.func 93) ⟨[]⟩ ⟨[]⟩,.int .u8 2,.func (.func 94) ⟨[]⟩ ⟨[]⟩,.int .u8 3,.func (.func 95) ⟨[]⟩ ⟨[]⟩,.int .u8 4,.func (.func 96) ⟨[]⟩ ⟨[]⟩])
  (yIB ⟨New.row _ _ _,Z.re.y,rfl,Nat.le_refl _,xP _ _ _⟩) (by rintro v s s' ⟨b,rfl,g1,g2⟩ hle;exact ⟨b,rfl,g1,g2.le hle⟩) (by rintro v s hr ⟨b,rfl,_⟩;cases hr)
 exact ⟨b,Z',h1,h2,h3,h4⟩
end
section
noncomputable section
variable (BA BB:Nat) (s1 slices:oAa) (o:lVa) (dM aW eh bh:Nat) (aI aX:Int) (s2 fu:oAa) (q7:Int->Int->St->Prop) (qC:(Option Addr)->Nat->Nat->St->Prop) (qB:(Option Addr)->Nat->Nat->Int->St->Prop) (dX fz eF fQ:Nat) (bI aJ eU:Int) (q0:Int->St->Prop) (q4:St->Prop) (Z:St) (q8:Int->Int->St->Prop) (qE:(Option Addr)->Nat->Nat->Int->St->Prop) (Q:vPa) (Nx q9 Qr:Int->St->Prop) (Q2:(Option Addr)->Nat->Nat->St->Prop) (Q0:St->Prop)
def yPH:Code:=(Code.part [1,0,1,0,0] (qj 102))
def zQK:lNa:=[(2,pq BA 0),(4,pq BB 0),(7,qh o),(8,iV aI)]
def xGB:Alt:=⟨Int,.normal,fun t=>zQK BA BB o t,fun t=>[],fun t Z=>q0 t Z⟩
def yAD (BA BB:Nat) (o:lVa):lNa:=[(2,pq BA 0),(4,pq BB 0)]
def zOE:Alt:=⟨Unit,(.exit 0),fun t=>yAD BA BB o,fun t=>[],fun t Z=>q4 Z⟩
def yAF:Prop:=qk ql none yPH 20 (zQK BA BB o aI) [] [xGB BA BB o Nx,zOE BA BB o Q0] Z
def yPI:Prop:=qm ql none yPH 20 (zQK BA BB o aI) [] [zOE BA BB o Q0] Z
def yAE:Prop:=kZ ql (qj 102) [1,0,1,0] (qn 102 Q) (.exit 0) 20 (yAD BA BB o) Z
def yAW:Code:=(Code.part [1,0,1,0,0] (qj 119))
def zEE:lNa:=[(0,.slice s1 dM eh),(1,.slice s2 dX eF),(9,.slice s1 dM eh),(10,iV (dM:Int)),(11,iV aJ)]
def yQK:Alt:=⟨Int,.normal,fun t=>zEE s1 dM eh s2 dX eF t,fun t=>[],fun t Z=>q0 t Z⟩
def zQP (s1:oAa) (dM eh:Nat) (s2:oAa) (dX eF:Nat) (bI:Int):lNa:=[(4,iV bI)]
def zHO:Alt:=⟨Int,.ret,fun t=>zQP s1 dM eh s2 dX eF t,fun t=>[],fun t Z=>q0 t Z⟩
def zQQ:lNa:=[(0,.slice s1 dM eh),(1,.slice s2 dX eF)]
def zHP:Alt:=⟨Unit,(.exit 0),fun t=>zQQ s1 dM eh s2 dX eF,fun t=>[],fun t Z=>q4 Z⟩
def zHQ:Prop:=qk ql none yAW 36 (zEE s1 dM eh s2 dX eF aJ) [] [yQK s1 dM eh s2 dX eF Nx,zHO s1 dM eh s2 dX eF Qr,zHP s1 dM eh s2 dX eF Q0] Z
def yAX:Prop:=qm ql none yAW 36 (zEE s1 dM eh s2 dX eF aJ) [] [zHO s1 dM eh s2 dX eF Qr,zHP s1 dM eh s2 dX eF Q0] Z
def zQR:Prop:=kZ ql (qj 119) [1,0,1,0] (qn 119 Q) .ret 36 (zQP s1 dM eh s2 dX eF bI) Z
def zQS:Prop:=kZ ql (qj 119) [1,0,1,0] (qn 119 Q) (.exit 0) 36 (zQQ s1 dM eh s2 dX eF) Z
def yQF:Code:=(Code.part [1,1,0,1,0,0] (qj 104))
def zKI:lNa:=[(0,.slice slices aW bh),(3,iV aX),(9,.slice slices aW bh),(10,iV (aW:Int)),(11,iV aJ)]
def xGT:Alt:=⟨Int × Int,.normal,fun t=>zKI slices aW bh t.1 t.2,fun t=>[],fun t Z=>q7 t.1 t.2 Z⟩
def yAR:lNa:=[(0,.slice slices aW bh),(3,iV aX)]
def zOI:Alt:=⟨Int,(.exit 0),fun t=>yAR slices aW bh t,fun t=>[],fun t Z=>q0 t Z⟩
def yAV:Prop:=qk ql none yQF 36 (zKI slices aW bh aX aJ) [] [xGT slices aW bh q8,zOI slices aW bh q9] Z
def yQH:Prop:=qm ql none yQF 36 (zKI slices aW bh aX aJ) [] [zOI slices aW bh q9] Z
def yAT:Prop:=kZ ql (qj 104) [1,1,0,1,0] (qn 104 Q) (.exit 0) 36 (yAR slices aW bh aX) Z
def yQE:Code:=(Code.part [1,1,1,1,0,1,0,0] (qj 104))
def zKH:lNa:=[(6,.slice fu fz fQ),(25,.slice slices aW bh),(26,iV (aW:Int)),(27,iV eU)]
def xGS:Alt:=⟨(Option Addr) × Nat × Nat × Int,.normal,fun t=>zKH slices aW bh t.1 t.2.1 t.2.2.1 t.2.2.2,fun t=>[],fun t Z=>qB t.1 t.2.1 t.2.2.1 t.2.2.2 Z⟩
def yAQ (slices:oAa) (aW bh:Nat) (fu:oAa) (fz fQ:Nat):lNa:=[(6,.slice fu fz fQ)]
def zOH:Alt:=⟨(Option Addr) × Nat × Nat,(.exit 2),fun t=>yAQ slices aW bh t.1 t.2.1 t.2.2,fun t=>[],fun t Z=>qC t.1 t.2.1 t.2.2 Z⟩
def yAU:Prop:=qk ql none yQE 36 (zKH slices aW bh fu fz fQ eU) [] [xGS slices aW bh qE,zOH slices aW bh Q2] Z
def yQG:Prop:=qm ql none yQE 36 (zKH slices aW bh fu fz fQ eU) [] [zOH slices aW bh Q2] Z
def yAS:Prop:=kZ ql (qj 104) [1,1,1,1,0,1,0] (qn 104 Q) (.exit 2) 36 (yAQ slices aW bh fu fz fQ) Z
end
variable {BA BB l1 c1 l2 c2 dM eh dX eF aW bh lE cE fz fQ lI cK lA cA lM cS s_l s_c l3 c3 l5 c5 l6 c6:Nat} {o g_0 cs1838 cs1840:lVa} {Inv:Nat->Int->St->Prop} {Q0 P0:St->Prop} {aI nA nH n3 aJ nF bI x y aX eU n n1 n2:Int} {ZC Z ZH ZHC Z4:St} {Nx Qr Pr:Int->St->Prop} {Q:vPa} {q1 q2 s1 s2 slices qD fu qJ qA qR s q3 q5 q6:oAa} {s1_a s2_a gz:Addr} {Q2 P2:(Option Addr)->Nat->Nat->St->Prop}
theorem yPG (hb:∀ k aI Z,Inv k aI Z->yAF BA BB o aI Z (NX1 Inv k) Q0):∀ k aI Z,Inv k aI Z->yPI BA BB o aI Z Q0 :=
 xL (ai (xZ 0) trivial) hb
theorem xGA (h1:zAM Pg 98 (qh o) (iV aI)=some (iV nA)) (h2:lz Z 3 ⟨BA,0+Int.toNat aI*1,none⟩ (iV nH)) (h3:qq (evL [pq BA (0+Int.toNat aI*1),iV (nH+nA)]) Z (.store 3 (.tmp 0) (.tmp 1))=some (undef,ZC)) (nx:Nx (aI+1) ZC) (u1:aI<6:=by omega) (u2:Ix aI 6:=by omega) (u3:I6 (nH+nA):=by omega) (u4:I6 (aI+1):=by omega):yAF BA BB o aI Z Nx Q0 :=
 kO 0 (aI+1) [.b true,.g,.v (iV nA),.g,.g,.g,.i,.l (iV nH),.g,.n (nH+nA),.i,.e undef ZC,.n (aI+1),.g] (fun _ f=>an2 (zR u1) h1 (an6 u2 h2 (w64 u3) u2 h3 (w64 u4) f)) nx
theorem xFZ (nx:Q0 Z) (u1:¬ aI<6:=by omega):yAF BA BB o aI Z Nx Q0 :=
 kO 1 () [.b false] (fun _ f=>ai (zS u1) f) nx
theorem xNP:let y0:=((Z.row g_0 1).row o 1).row (zK 0 0 0 0 0 0) 1;∀ (h1:lz y0 98 ⟨(Z.y+1),0,none⟩ (qh o)) (hL:yPI Z.y (Z.y+2) o 0 y0 P0) (k0:∀ Z',P0 Z'->yAE Z.y (Z.y+2) o Z' Q),qi 102 [qh g_0,qh o] Z Q :=
 let s1:=zQK Z.y (Z.y+2) o 0;fun h1 hL k0=>zG [.g,.g,.g,.l (qh o),.g,.lf 20 s1 [zOE Z.y (Z.y+2) o P0]] (kd (ai h1 (ai (ai tt (ai (arf s1) hL)) (ai (kz0 k0) trivial))))
theorem yPF (h1:lz Z 98 (qg BA 0) (qh cs1838)) (h2:qq (evL [pq BB 0,qh cs1838]) Z (.store 98 (.tmp 0) (.tmp 1))=some (undef,ZH)) (h3:lz ZH 98 (qg BB 0) (qh cs1840)) (nx:Q (qh cs1840) ZH):yAE BA BB o Z Q :=
 sK [.l (qh cs1838),.e undef ZH,.l (qh cs1840)] (an3 h1 h2 h3 nx)
@[reducible] def Ha8 (Z:St) (g_0 o:lVa) (q1 q2:oAa) (l1 c1 l2 c2:Nat) (n3:Int):Prop:=qp ((Z.row g_0 1).row o 1) 98 ⟨Z.y,0,none⟩=some (.agg ⟨g_0⟩)/\(qp ((Z.row g_0 1).row o 1) 98 ⟨(Z.y+1),0,none⟩=some (.agg ⟨o⟩))/\vP Pg .neq 98 (.tmp 5) (.tmp 6) (.agg ⟨g_0⟩) (.agg ⟨o⟩)=some (.bool true)/\vA Pg ((Z.row g_0 1).row o 1) 98 (.pointer (some ⟨Z.y,0,none⟩)) none none none=some (.slice q1 l1 c1)/\(vA Pg ((Z.row g_0 1).row o 1) 98 (.pointer (some ⟨(Z.y+1),0,none⟩)) none none none=some (.slice q2 l2 c2))/\qo 119 [.slice q1 l1 c1,.slice q2 l2 c2] ((Z.row g_0 1).row o 1) (iV n3) ((Z.row g_0 1).row o 1)
theorem xNS (H:Ha8 Z g_0 o q1 q2 l1 c1 l2 c2 n3) (nx:Q (.bool true) ((Z.row g_0 1).row o 1)) (u1:0<n3:=by omega):qi 103 [qh g_0,qh o] Z Q :=
 match H with|⟨h1,h2,h3,h4,h5,h6⟩=>zG [.g,.g,.g,.l (qh g_0),.l (qh o),.v (.bool true),.g,.v (.slice q1 l1 c1),.v (.slice q2 l2 c2),.c (iV n3) ((Z.row g_0 1).row o 1),.b true,.g,.g] (kd (ai h1 (an6 h2 h3 h4 h5 h6 (zR u1) nx)))
theorem xNR (H:Ha8 Z g_0 o q1 q2 l1 c1 l2 c2 n3) (nx:Q (.bool false) ((Z.row g_0 1).row o 1)) (u1:¬ 0<n3:=by omega):qi 103 [qh g_0,qh o] Z Q :=
 match H with|⟨h1,h2,h3,h4,h5,h6⟩=>zG [.g,.g,.g,.l (qh g_0),.l (qh o),.v (.bool true),.g,.v (.slice q1 l1 c1),.v (.slice q2 l2 c2),.c (iV n3) ((Z.row g_0 1).row o 1),.b false,.g,.g] (kd (ai h1 (an6 h2 h3 h4 h5 h6 (zS u1) nx)))
theorem xNQ:let y0:=(Z.row g_0 1).row o 1;∀ (h1:lz y0 98 (qg Z.y 0) (qh g_0)) (h2:lz y0 98 ⟨(Z.y+1),0,none⟩ (qh o)) (h3:vP Pg .neq 98 (.tmp 5) (.tmp 6) (qh g_0) (qh o)=some (.bool false)) (nx:Q (.bool false) y0),qi 103 [qh g_0,qh o] Z Q :=
 fun h1 h2 h3 nx=>zG [.g,.g,.g,.l (qh g_0),.l (qh o),.v (.bool false),.g,.g,.g] (kd (an3 h1 h2 h3 nx))
theorem yCR (hb:∀ k aJ Z,Inv k aJ Z->zHQ s1 dM eh s2 dX eF aJ Z (NX1 Inv k) Qr Q0):∀ k aJ Z,Inv k aJ Z->yAX s1 dM eh s2 dX eF aJ Z Qr Q0 :=
 xL (ai zBE (ai (xZ 0) trivial)) hb
theorem zUZ (h1:lz Z 3 (zJ s1_a (Int.toNat aJ*1)) (iV nA)) (h2:lz Z 3 (zJ s2_a (Int.toNat aJ*1)) (iV nH)) (h3:qo 129 [iV nA,iV nH] Z (iV nF) Z) (nx:Qr nF Z) (u1:aJ<(dM:Int):=by omega) (u2:Ix aJ dM:=by omega) (u3:¬ (dX:Int)<=aJ:=by omega) (u4:Ix aJ dX:=by omega) (u5:¬ nF=0:=by omega):zHQ (some s1_a) dM eh (some s2_a) dX eF aJ Z Nx Qr Q0 :=
 kO 1 nF [.b true,.g,.i,.l (iV nA),.g,.g,.g,.g,.g,.b false,.g,.g,.i,.l (iV nH),.g,.g,.g,.c (iV nF) Z,.g,.g,.b true,.g,.g] (fun _ f=>an2 (zR u1) u2 (an6 h1 (yH u3) u4 h2 h3 (zGX u5) f)) nx
theorem yQJ (h1:lz Z 3 (zJ s1_a (Int.toNat aJ*1)) (iV nA)) (h2:lz Z 3 (zJ s2_a (Int.toNat aJ*1)) (iV nH)) (h3:qo 129 [iV nA,iV nH] Z (iV nF) Z) (nx:Nx (aJ+1) Z) (u1:aJ<(dM:Int):=by omega) (u2:Ix aJ dM:=by omega) (u3:¬ (dX:Int)<=aJ:=by omega) (u4:Ix aJ dX:=by omega) (u5:nF=0:=by omega) (u6:I6 (aJ+1):=by omega):zHQ (some s1_a) dM eh (some s2_a) dX eF aJ Z Nx Qr Q0 :=
 kO 0 (aJ+1) [.b true,.g,.i,.l (iV nA),.g,.g,.g,.g,.g,.b false,.g,.g,.i,.l (iV nH),.g,.g,.g,.c (iV nF) Z,.g,.g,.b false,.n (aJ+1),.g] (fun _ f=>an3 (zR u1) u2 h1 (an6 (yH u3) u4 h2 h3 (vG u5) (w64 u6) f)) nx
theorem yQI (nx:Q0 Z) (u1:¬ aJ<(dM:Int):=by omega):zHQ s1 dM eh s2 dX eF aJ Z Nx Qr Q0 :=
 kO 2 () [.b false] (fun _ f=>ai (zS u1) f) nx
theorem yXE (hL:yAX s1 dM eh s2 dX eF 0 Z Pr P0) (kr:∀ i4_1' Z',Pr i4_1' Z'->zQR s1 dM eh s2 dX eF i4_1' Z' Q) (k0:∀ Z',P0 Z'->zQS s1 dM eh s2 dX eF Z' Q):qi 119 [.slice s1 dM eh,.slice s2 dX eF] Z Q :=
 zG [.g,.g,.g,.g,.lf 36 (zEE s1 dM eh s2 dX eF 0) [zHO s1 dM eh s2 dX eF Pr,zHP s1 dM eh s2 dX eF P0]] (kd (ai (ai tt (ai (arf (zEE s1 dM eh s2 dX eF 0)) hL)) (ai (kz1 kr) (ai (kz0 k0) trivial))))
theorem yCP (nx:Q (iV bI) Z):zQR s1 dM eh s2 dX eF bI Z Q :=
 sK [] nx
theorem yCQ (nx:Q (iV 0) Z) (u1:¬ (dM:Int)<(dX:Int):=by omega):zQS s1 dM eh s2 dX eF Z Q :=
 sK [.g,.g,.g,.g,.b false,.g] (ai (zS u1) nx)
theorem xUI (h1:qo 132 [iV x] Z (.bool false) Z) (h2:qo 132 [iV y] Z (.bool false) Z) (nx:Q (iV (-1)) Z) (u1:x<y:=by omega):qi 129 [iV x,iV y] Z Q :=
 zG [.g,.g,.c (.bool false) Z,.g,.g,.c (.bool false) Z,.g,.g,.g,.g,.g,.b true,.g] (kd (an3 h1 h2 (zR u1) nx))
theorem xUH (h1:qo 132 [iV x] Z (.bool false) Z) (h2:qo 132 [iV y] Z (.bool false) Z) (nx:Q (iV 1) Z) (u1:¬ x<y:=by omega) (u2:y<x:=by omega):qi 129 [iV x,iV y] Z Q :=
 zG [.g,.g,.c (.bool false) Z,.g,.g,.c (.bool false) Z,.g,.g,.g,.g,.g,.b false,.g,.g,.b true,.g] (kd (an4 h1 h2 (zS u1) (zR u2) nx))
theorem xUG (h1:qo 132 [iV x] Z (.bool false) Z) (h2:qo 132 [iV y] Z (.bool false) Z) (nx:Q (iV 0) Z) (u1:¬ x<y:=by omega) (u2:¬ y<x:=by omega):qi 129 [iV x,iV y] Z Q :=
 zG [.g,.g,.c (.bool false) Z,.g,.g,.c (.bool false) Z,.g,.g,.g,.g,.g,.b false,.g,.g,.b false,.g] (kd (an4 h1 h2 (zS u1) (zS u2) nx))
theorem xML (nx:Q (.bool false) Z) (u1:x=x:=by omega):qi 132 [iV x] Z Q :=
 zG [.g,.g,.g,.b false,.g] (kd (ai (vG u1) nx))
theorem yQD {Inv:Nat->Int->Int->St->Prop} {Q0:Int->St->Prop} (hb:∀ k aX aJ Z,Inv k aX aJ Z->yAV slices aW bh aX aJ Z (NX2 Inv k) Q0):∀ k aX aJ Z,Inv k aX aJ Z->yQH slices aW bh aX aJ Z Q0 :=
 zDU (ai (xZ 0) trivial) hb
theorem xGR {Nx:Int->Int->St->Prop} {Q0:Int->St->Prop} (h1:lz Z 26 (zJ gz (Int.toNat aJ*1)) (.slice qD lE cE)) (nx:Nx (aX+(lE:Int)) (aJ+1) Z) (u1:aJ<(aW:Int):=by omega) (u2:Ix aJ aW:=by omega) (u3:I6 (aX+(lE:Int)):=by omega) (u4:¬ (aX+(lE:Int))<0:=by omega) (u5:I6 (aJ+1):=by omega):yAV (some gz) aW bh aX aJ Z Nx Q0 :=
 kO 0 ((aX+(lE:Int)),aJ+1) [.b true,.i,.l (.slice qD lE cE),.g,.g,.g,.g,.n (aX+(lE:Int)),.g,.g,.b false,.n (aJ+1),.g] (fun _ f=>an6 (zR u1) u2 h1 (w64 u3) (zS u4) (w64 u5) f) nx
theorem xGQ {Nx:Int->Int->St->Prop} {Q0:Int->St->Prop} (nx:Q0 aX Z) (u1:¬ aJ<(aW:Int):=by omega):yAV slices aW bh aX aJ Z Nx Q0 :=
 kO 1 aX [.b false] (fun _ f=>ai (zS u1) f) nx
theorem xOQ {P0:Int->St->Prop} (hL:yQH slices aW bh 0 0 Z P0) (k0:∀ i3_1' Z',P0 i3_1' Z'->yAT slices aW bh i3_1' Z' Q):qi 104 [.slice slices aW bh] Z Q :=
 zG [.g,.g,.g,.g,.g,.lf 36 (zKI slices aW bh 0 0) [zOI slices aW bh P0]] (kd (ai (ai tt (ai (arf (zKI slices aW bh 0 0)) hL)) (ai (kz1 k0) trivial)))
theorem yQC {Inv:Nat->(Option Addr)->Nat->Nat->Int->St->Prop} (hb:∀ k fu fz fQ eU Z,Inv k fu fz fQ eU Z->yAU slices aW bh fu fz fQ eU Z (NX4 Inv k) Q2):∀ k fu fz fQ eU Z,Inv k fu fz fQ eU Z->yQG slices aW bh fu fz fQ eU Z Q2 :=
 yIT (ai (xZ 2) trivial) hb
theorem xGP {Nx:(Option Addr)->Nat->Nat->Int->St->Prop} (h1:lz Z 26 (zJ gz (Int.toNat eU*1)) (.slice qJ lI cK)) (h2:yC Pg 26 26 (.slice fu fz fQ) (.slice qJ lI cK) Z=some (.slice qA lA cA,ZHC)) (nx:Nx qA lA cA (eU+1) ZHC) (u1:eU<(aW:Int):=by omega) (u2:Ix eU aW:=by omega) (u3:I6 (eU+1):=by omega):yAU (some gz) aW bh fu fz fQ eU Z Nx Q2 :=
 kO 0 (qA,lA,cA,eU+1) [.b true,.i,.l (.slice qJ lI cK),.g,.g,.g,.e (.slice qA lA cA) ZHC,.g,.n (eU+1),.g] (fun _ f=>an5 (zR u1) u2 h1 h2 (w64 u3) f) nx
theorem xGO {Nx:(Option Addr)->Nat->Nat->Int->St->Prop} (nx:Q2 fu fz fQ Z) (u1:¬ eU<(aW:Int):=by omega):yAU slices aW bh fu fz fQ eU Z Nx Q2 :=
 kO 1 (fu,fz,fQ) [.b false] (fun _ f=>ai (zS u1) f) nx
theorem yQB (h1:qo 120 [.slice none 0 0,iV aX] Z (.slice qR lM cS) ZH) (hL:yQG slices aW bh qR lM cS 0 ZH P2) (k2:∀ p6_2' l6_2' c6_2' Z',P2 p6_2' l6_2' c6_2' Z'->yAS slices aW bh p6_2' l6_2' c6_2' Z' Q):yAT slices aW bh aX Z Q :=
 sK [.g,.c (.slice qR lM cS) ZH,.g,.g,.g,.g,.lf 36 (zKH slices aW bh qR lM cS 0) [zOH slices aW bh P2]] (ai h1 (ai (ai tt (ai (arf (zKH slices aW bh qR lM cS 0)) hL)) (ai (kz3 k2) trivial)))
theorem yQA (nx:Q (.slice fu fz fQ) Z):yAS slices aW bh fu fz fQ Z Q :=
 sK [.g,.g] nx
theorem xNO (h1:yR Pg (evL [.slice s s_l s_c]) Z (.call { callee:=.builtin .cap,args:=⟨xJ 1⟩,argTypes:=⟨[26]⟩ })=some (iV n1)) (h2:yR Pg (evL [.slice s s_l s_c]) Z (.call { callee:=.builtin .cap,args:=⟨xJ 1⟩,argTypes:=⟨[26]⟩ })=some (iV n2)) (h3:vA Pg Z 26 (.slice s s_l s_c) none (some (iV n2)) none=some (.slice q3 l3 c3)) (h4:yC Pg 26 3 (.slice q3 l3 c3) (iV (n-(n1-(s_l:Int)))) Z=some (.slice q5 l5 c5,Z4)) (h5:vA Pg Z4 26 (.slice q5 l5 c5) none (some (iV (s_l:Int))) none=some (.slice q6 l6 c6)) (nx:Q (.slice q6 l6 c6) Z4) (u1:¬ n<0:=by omega) (u2:I6 (n1-(s_l:Int)):=by omega) (u3:I6 (n-(n1-(s_l:Int))):=by omega) (u4:0<(n-(n1-(s_l:Int))):=by omega):qi 120 [.slice s s_l s_c,iV n] Z Q :=
 zG [.g,.g,.b false,.g,.g,.v (iV n1),.g,.g,.n (n1-(s_l:Int)),.n (n-(n1-(s_l:Int))),.g,.g,.b true,.g,.g,.v (iV n2),.v (.slice q3 l3 c3),.g,.e (.slice q5 l5 c5) Z4,.g,.g,.v (.slice q6 l6 c6),.g,.g,.g] (kd (an3 (zS u1) h1 (w64 u2) (an6 (w64 u3) (zR u4) h2 h3 h4 h5 nx)))
theorem xNN (h1:yR Pg (evL [.slice s s_l s_c]) Z (.call { callee:=.builtin .cap,args:=⟨xJ 1⟩,argTypes:=⟨[26]⟩ })=some (iV n1)) (nx:Q (.slice s s_l s_c) Z) (u1:¬ n<0:=by omega) (u2:I6 (n1-(s_l:Int)):=by omega) (u3:I6 (n-(n1-(s_l:Int))):=by omega) (u4:¬ 0<(n-(n1-(s_l:Int))):=by omega):qi 120 [.slice s s_l s_c,iV n] Z Q :=
 zG [.g,.g,.b false,.g,.g,.v (iV n1),.g,.g,.n (n1-(s_l:Int)),.n (n-(n1-(s_l:Int))),.g,.g,.b false,.g,.g] (kd (an5 (zS u1) h1 (w64 u2) (w64 u3) (zS u4) nx))
end
section
noncomputable section
variable (s:oAa) (p x_a:Addr) (s_l x_l s_c x_c:Nat) (day aX:Int) (f:FuncId) (q5:Int->Int->St->Prop) (BA BB l1:Nat) (f_c:lVa) (dF aI bI:Int) (q0:St->Prop) (Q:Int->St->Prop) (Z:St) (q2:vPa) (q6:Int->Int->St->Prop) (Nx q8 Qr:Int->St->Prop) (Q0:St->Prop)
def xBJ:Code:=(Code.part [1,0,1,0,0] (qj 131))
def zQF:lNa:=[(0,.slice s s_l s_c),(1,.func (.func f) ⟨[]⟩ ⟨f_c⟩),(7,iV (s_l:Int)),(8,iV aI)]
def xNA:Alt:=⟨Int,.normal,fun t=>zQF s s_l s_c f f_c t,fun t=>[],fun t Z=>Q t Z⟩
def yFI (s:oAa) (s_l s_c:Nat) (f:FuncId) (f_c:lVa) (bI:Int):lNa:=[(4,iV bI)]
def zSI:Alt:=⟨Int,.ret,fun t=>yFI s s_l s_c f f_c t,fun t=>[],fun t Z=>Q t Z⟩
def yFJ (s:oAa) (s_l s_c:Nat) (f:FuncId) (f_c:lVa):lNa:=[]
def zSJ:Alt:=⟨Unit,(.exit 0),fun t=>yFJ s s_l s_c f f_c,fun t=>[],fun t Z=>q0 Z⟩
def zWM:Prop:=qk ql none xBJ 19 (zQF s s_l s_c f f_c aI) [] [xNA s s_l s_c f f_c Nx,zSI s s_l s_c f f_c Qr,zSJ s s_l s_c f f_c Q0] Z
def xBK:Prop:=qm ql none xBJ 19 (zQF s s_l s_c f f_c aI) [] [zSI s s_l s_c f f_c Qr,zSJ s s_l s_c f f_c Q0] Z
def yFK:Prop:=kZ ql (qj 131) [1,0,1,0] (qn 131 q2) .ret 19 (yFI s s_l s_c f f_c bI) Z
def yFL:Prop:=kZ ql (qj 131) [1,0,1,0] (qn 131 q2) (.exit 0) 19 (yFJ s s_l s_c f f_c) Z
def xAC:Code:=(Code.part [1,0,1,0,0] (qj 101))
def zVZ:lNa:=[(0,pz p),(1,iV day),(5,pq BA 0),(6,pq BB 0),(13,iV (l1:Int)),(14,iV dF)]
def xKL:Alt:=⟨Int,.normal,fun t=>zVZ p day BA BB l1 t,fun t=>[],fun t Z=>Q t Z⟩
def yEC (p:Addr) (day:Int) (BA BB l1:Nat):lNa:=[(5,pq BA 0),(6,pq BB 0)]
def zRV:Alt:=⟨Unit,(.exit 0),fun t=>yEC p day BA BB l1,fun t=>[],fun t Z=>q0 Z⟩
def zWA:Prop:=qk ql none xAC 46 (zVZ p day BA BB l1 dF) [] [xKL p day BA BB l1 Nx,zRV p day BA BB l1 Q0] Z
def xAD:Prop:=qm ql none xAC 46 (zVZ p day BA BB l1 dF) [] [zRV p day BA BB l1 Q0] Z
def yED:Prop:=kZ ql (qj 101) [1,0,1,0] (qn 101 q2) (.exit 0) 46 (yEC p day BA BB l1) Z
def yZN:Code:=(Code.part [1,1,1,0,1,0,0] (qj 128))
def zPA:lNa:=[(0,.slice (some x_a) x_l x_c),(3,iV aX),(4,iV bI)]
def xIY:Alt:=⟨Int × Int,.normal,fun t=>zPA x_a x_l x_c t.1 t.2,fun t=>[],fun t Z=>q5 t.1 t.2 Z⟩
def yDD (x_a:Addr) (x_l x_c:Nat) (aX:Int):lNa:=[(3,iV aX)]
def zRH:Alt:=⟨Int,(.exit 0),fun t=>yDD x_a x_l x_c t,fun t=>[],fun t Z=>Q t Z⟩
def yHG:Prop:=qk ql none yZN 25 (zPA x_a x_l x_c aX bI) [] [xIY x_a x_l x_c q6,zRH x_a x_l x_c q8] Z
def yZO:Prop:=qm ql none yZN 25 (zPA x_a x_l x_c aX bI) [] [zRH x_a x_l x_c q8] Z
def yDE:Prop:=kZ ql (qj 128) [1,1,1,0,1,0] (qn 128 q2) (.exit 0) 25 (yDD x_a x_l x_c aX) Z
end
variable {p gA a30 v0 v1 v2 v3 a1 s_a x_a:Addr} {bZ duty aU bF ba a9 n2 n3 n4 n5 n6 n10 n11 n12 n13 n14 n15 n16 n17 n18 n19 n20 n21 n22 n23 n25 n26 n27 n28 n29 n31 n33 n34 n35 n36 eY n7 n8 n9 eI aI nA bI n1 day dF nF nG nE aX nH:Int} {l1 c1 l7 c7 l3 c3 l4 c4 s_l s_c l_l l_c BA BB x_l x_c:Nat} {q7 q3 q4 l q1:oAa} {Z8 Z24 Z32 Z Z14 ZB ZQ ZH:St} {Q:vPa} {dL dO f1 f fG right:FuncId} {di dj cg d8 f_c fG_c bK cs1838 cs1840:lVa} {b18:Bool} {Inv:Nat->Int->St->Prop} {Qr Nx Pr:Int->St->Prop} {Q0 P0:St->Prop}
@[reducible] def Ha7 (Z Z8 Z24 Z32:St) (p gA a30:Addr) (bZ aU bF ba a9 duty n2 n3 n4 n5 n6 n10 n11 n12 n13 n14 n15 n16 n17 n18 n19 n20 n21 n22 n23 n25 n26 n27 n28 n29 n31 n33 n34 n35 n36:Int) (l1 c1 l7 c7:Nat) (q7:oAa):Prop:=qp ((((Z.row [.pointer (some p)] 1).row [iV bZ] 1).row (zL aU bF ba a9) 4).row (zL 0 0 0 0) 4) 31 (zJ p 1)=some (.slice (some gA) l1 c1)/\qp ((((Z.row [.pointer (some p)] 1).row [iV bZ] 1).row (zL aU bF ba a9) 4).row (zL 0 0 0 0) 4) 85 (zJ gA (Int.toNat duty*5))=some (.agg ⟨zF n2 n3 n4 n5 n6⟩)/\qo 76 [] ((((((Z.row [.pointer (some p)] 1).row [iV bZ] 1).row (zL aU bF ba a9) 4).row (zL 0 0 0 0) 4).row (zF 0 0 0 0 0) 5).own (Z.y+4) (zF n2 n3 n4 n5 n6) 5) (.slice q7 l7 c7) Z8/\(qo 116 [.slice q7 l7 c7,.func (.func 117) ⟨[]⟩ ⟨[.pointer (some ⟨Z.y,0,none⟩),.pointer (some ⟨(Z.y+1),0,none⟩),.pointer (some ⟨(Z.y+4),0,none⟩),.pointer (some ⟨(Z.y+2),0,none⟩)]⟩] Z8 (.bool true) Z8)/\(qp Z8 107 ⟨(Z.y+2),0,none⟩=some (.agg ⟨zL n10 n11 n12 n13⟩))/\(qp Z8 85 ⟨(Z.y+4),0,none⟩=some (.agg ⟨zF n14 n15 n16 n17 n18⟩))/\(qp Z8 3 ⟨(Z.y+4),3,none⟩=some (iV n19))/\(qo 77 [.agg ⟨zL n10 n11 n12 n13⟩,.agg ⟨zF n14 n15 n16 n17 n18⟩,iV n19] Z8 (.agg ⟨zL n20 n21 n22 n23⟩) Z8)/\(qq (evL [.pointer (some ⟨(Z.y+2),0,none⟩),.agg ⟨zL n20 n21 n22 n23⟩]) Z8 (.store 107 (.tmp 0) (.tmp 1))=some (undef,Z24))/\(qp Z24 107 ⟨(Z.y+2),0,none⟩=some (.agg ⟨zL n25 n26 n27 n28⟩))/\(qp Z24 3 ⟨(Z.y+2),2,none⟩=some (iV n29))/\qp Z24 125 ⟨Z.y,0,none⟩=some (.pointer (some a30))/\qp Z24 3 (zJ a30 5)=some (iV n31)/\(qq (evL [.pointer (some ⟨(Z.y+3),0,none⟩),.agg ⟨zL n25 n26 n27 n28⟩]) Z24 (.store 107 (.tmp 0) (.tmp 1))=some (undef,Z32))/\(zH Z24.y [.pointer (some ⟨(Z.y+2),0,none⟩)])/\(zH Z24.y [.pointer (some ⟨(Z.y+2),2,none⟩)])/\zH Z24.y [.pointer (some ⟨Z.y,0,none⟩)]/\zH Z24.y [.pointer (some (zJ a30 5))]/\(zH Z24.y [.pointer (some ⟨(Z.y+3),0,none⟩),.agg ⟨zL n25 n26 n27 n28⟩])/\((zLq Z24 3 ⟨(Z.y+2),2,none⟩ (iV n29)))/\((zLq Z32 3 ⟨(Z.y+2),2,none⟩ (iV n29)))/\((zLq Z24 125 ⟨Z.y,0,none⟩ (.pointer (some a30))))/\((zLq Z32 125 ⟨Z.y,0,none⟩ (.pointer (some a30))))/\((zLq Z24 3 (zJ a30 5) (iV n31)))/\((zLq Z32 3 (zJ a30 5) (iV n31)))/\(qp Z32 107 ⟨(Z.y+3),0,none⟩=some (.agg ⟨zL n33 n34 n35 n36⟩))
theorem xXQ (H:Ha7 Z Z8 Z24 Z32 p gA a30 bZ aU bF ba a9 duty n2 n3 n4 n5 n6 n10 n11 n12 n13 n14 n15 n16 n17 n18 n19 n20 n21 n22 n23 n25 n26 n27 n28 n29 n31 n33 n34 n35 n36 l1 c1 l7 c7 q7) (nx:Q (.tuple ⟨[qh (zL n33 n34 n35 n36),.bool true]⟩) Z32) (u1:Ix duty l1:=by omega) (u2:n29<=n31:=by omega):qi 99 [pz p,iV bZ,iV duty,qh (zL aU bF ba a9)] Z Q :=
 match H with|⟨h1,h2,h3,h4,h5,h6,h7,h8,h9,h10,h11,h12,h13,h14,h15,h16,h17,h18,h19,h20,h21,h22,h23,h24,h25,h26⟩=>let s1:=Z.row [pz p] 1;let s2:=s1.row [iV bZ] 1;let s3:=s2.row (zL aU bF ba a9) 4;let s4:=s3.row (zL 0 0 0 0) 4;let s5:=s4.row (zF 0 0 0 0 0) 5;let s6:=s5.own (Z.y+4) (zF n2 n3 n4 n5 n6) 5;zG [.g,.g,.g,.g,.g,.l (pz p),.g,.g,.g,.l (.slice (some gA) l1 c1),.g,.i,.l (qh (zF n2 n3 n4 n5 n6)),.g,.e undef s6,.c (.slice q7 l7 c7) Z8,.g,.c (.bool true) Z8,.g,.l (qh (zL n10 n11 n12 n13)),.l (qh (zF n14 n15 n16 n17 n18)),.g,.g,.l (iV n19),.c (qh (zL n20 n21 n22 n23)) Z8,.e undef Z24,.l (qh (zL n25 n26 n27 n28)),.g,.l (iV n29),.l (pz a30),.g,.g,.g,.l (iV n31),.b true,.e undef Z32,.g,.l (qh (zL n33 n34 n35 n36))] (kd (an6 ((zC _ _ _).row.row.row.rw.ld uV (k:=0) rfl:lz s4 125 (qg Z.y 0) (pz p)) h1 u1 h2 ((zC _ _ _).store (vs:=(zF n2 n3 n4 n5 n6)) rfl uK rfl (nle rfl) rfl:qq (evL [pq ((Z.y+4)) 0,qh (zF n2 n3 n4 n5 n6)]) s5 (.store 85 (.tmp 0) (.tmp 1))=some (undef,s6)) h3 (an6 h4 h5 h6 h7 h8 h9 (an6 h10 h11 h12 h13 (yE u2) h14 (an6 h15 h16 h17 h18 h19 h20 (an6 h21 h22 h23 h24 h25 h26 nx))))))
theorem xXP (H:Ha7 Z Z8 Z24 Z32 p gA a30 bZ aU bF ba a9 duty n2 n3 n4 n5 n6 n10 n11 n12 n13 n14 n15 n16 n17 n18 n19 n20 n21 n22 n23 n25 n26 n27 n28 n29 n31 n33 n34 n35 n36 l1 c1 l7 c7 q7) (nx:Q (.tuple ⟨[qh (zL n33 n34 n35 n36),.bool false]⟩) Z32) (u1:Ix duty l1:=by omega) (u2:¬ n29<=n31:=by omega):qi 99 [pz p,iV bZ,iV duty,qh (zL aU bF ba a9)] Z Q :=
 match H with|⟨h1,h2,h3,h4,h5,h6,h7,h8,h9,h10,h11,h12,h13,h14,h15,h16,h17,h18,h19,h20,h21,h22,h23,h24,h25,h26⟩=>let s1:=Z.row [pz p] 1;let s2:=s1.row [iV bZ] 1;let s3:=s2.row (zL aU bF ba a9) 4;let s4:=s3.row (zL 0 0 0 0) 4;let s5:=s4.row (zF 0 0 0 0 0) 5;let s6:=s5.own (Z.y+4) (zF n2 n3 n4 n5 n6) 5;zG [.g,.g,.g,.g,.g,.l (pz p),.g,.g,.g,.l (.slice (some gA) l1 c1),.g,.i,.l (qh (zF n2 n3 n4 n5 n6)),.g,.e undef s6,.c (.slice q7 l7 c7) Z8,.g,.c (.bool true) Z8,.g,.l (qh (zL n10 n11 n12 n13)),.l (qh (zF n14 n15 n16 n17 n18)),.g,.g,.l (iV n19),.c (qh (zL n20 n21 n22 n23)) Z8,.e undef Z24,.l (qh (zL n25 n26 n27 n28)),.g,.l (iV n29),.l (pz a30),.g,.g,.g,.l (iV n31),.b false,.e undef Z32,.g,.l (qh (zL n33 n34 n35 n36))] (kd (an6 ((zC _ _ _).row.row.row.rw.ld uV (k:=0) rfl:lz s4 125 (qg Z.y 0) (pz p)) h1 u1 h2 ((zC _ _ _).store (vs:=(zF n2 n3 n4 n5 n6)) rfl uK rfl (nle rfl) rfl:qq (evL [pq ((Z.y+4)) 0,qh (zF n2 n3 n4 n5 n6)]) s5 (.store 85 (.tmp 0) (.tmp 1))=some (undef,s6)) h3 (an6 h4 h5 h6 h7 h8 h9 (an6 h10 h11 h12 h13 (yH u2) h14 (an6 h15 h16 h17 h18 h19 h20 (an6 h21 h22 h23 h24 h25 h26 nx))))))
theorem xXO:let s1:=Z.row [pz p] 1;let s2:=s1.row [iV bZ] 1;let s3:=s2.row (zL aU bF ba a9) 4;let s4:=s3.row (zL 0 0 0 0) 4;let s5:=s4.row (zF 0 0 0 0 0) 5;let s6:=s5.own (Z.y+4) (zF n2 n3 n4 n5 n6) 5;∀ (h1:lz s4 31 (zJ p 1) (.slice (some gA) l1 c1)) (h2:lz s4 85 (zJ gA (Int.toNat duty*5)) (qh (zF n2 n3 n4 n5 n6))) (h3:qo 76 [] s6 (.slice q7 l7 c7) Z8) (h4:qo 116 [.slice q7 l7 c7,.func (.func 117) ⟨[]⟩ ⟨[pq Z.y 0,pq ((Z.y+1)) 0,pq ((Z.y+4)) 0,pq ((Z.y+2)) 0]⟩] Z8 (.bool false) Z8) (h5:lz Z8 107 ⟨(Z.y+2),0,none⟩ (qh (zL n10 n11 n12 n13))) (h6:qq (evL [pq ((Z.y+3)) 0,qh (zL n10 n11 n12 n13)]) Z8 (.store 107 (.tmp 0) (.tmp 1))=some (undef,Z14)) (h7:lz Z14 107 ⟨(Z.y+3),0,none⟩ (qh (zL n15 n16 n17 n18))) (nx:Q (.tuple ⟨[qh (zL n15 n16 n17 n18),.bool false]⟩) Z14) (u1:Ix duty l1:=by omega),qi 99 [pz p,iV bZ,iV duty,qh (zL aU bF ba a9)] Z Q:=
 let s1:=Z.row [pz p] 1;let s2:=s1.row [iV bZ] 1;let s3:=s2.row (zL aU bF ba a9) 4;let s4:=s3.row (zL 0 0 0 0) 4;let s5:=s4.row (zF 0 0 0 0 0) 5;let s6:=s5.own (Z.y+4) (zF n2 n3 n4 n5 n6) 5;fun h1 h2 h3 h4 h5 h6 h7 nx u1=>zG [.g,.g,.g,.g,.g,.l (pz p),.g,.g,.g,.l (.slice (some gA) l1 c1),.g,.i,.l (qh (zF n2 n3 n4 n5 n6)),.g,.e undef s6,.c (.slice q7 l7 c7) Z8,.g,.c (.bool false) Z8,.g,.l (qh (zL n10 n11 n12 n13)),.e undef Z14,.g,.l (qh (zL n15 n16 n17 n18))] (kd (an4 ((zC _ _ _).row.row.row.rw.ld uV (k:=0) rfl:lz s4 125 (qg Z.y 0) (pz p)) h1 u1 h2 (an6 ((zC _ _ _).store (vs:=(zF n2 n3 n4 n5 n6)) rfl uK rfl (nle rfl) rfl:qq (evL [pq ((Z.y+4)) 0,qh (zF n2 n3 n4 n5 n6)]) s5 (.store 85 (.tmp 0) (.tmp 1))=some (undef,s6)) h3 h4 h5 h6 h7 nx)))
theorem xTA:let s1:=Z.row [.int .u8 eY,.func (.func dL) ⟨dj⟩ ⟨di⟩] 2;∀ (h1:lz s1 125 v0 (pz a1)) (h2:lz s1 34 a1 (qh (wkc n2 q3 l3 c3 q4 l4 c4 n5 n6 n7))) (h3:lz s1 3 v1 (iV n8)) (h4:lz s1 85 v2 (qh (zF n9 n10 n11 n12 n13))) (h5:lz s1 107 v3 (qh (zL n14 n15 n16 n17))) (h6:qo dL (dj ++ (qh (wkc n2 q3 l3 c3 q4 l4 c4 n5 n6 n7)::iV n8::(qh (zF n9 n10 n11 n12 n13))::(qh (zL n14 n15 n16 n17))::di)) s1 (.bool b18) s1) (nx:Q (.bool b18) s1),qi 117 [qh [.int .u8 eY,.func (.func dL) ⟨dj⟩ ⟨di⟩],pz v0,pz v1,pz v2,pz v3] Z Q:=
 let s1:=Z.row [.int .u8 eY,.func (.func dL) ⟨dj⟩ ⟨di⟩] 2;fun h1 h2 h3 h4 h5 h6 nx=>zG [.g,.g,.g,.l (.func (.func dL) ⟨dj⟩ ⟨di⟩),.l (pz a1),.g,.g,.l (qh (wkc n2 q3 l3 c3 q4 l4 c4 n5 n6 n7)),.l (iV n8),.l (qh (zF n9 n10 n11 n12 n13)),.l (qh (zL n14 n15 n16 n17)),.c (.bool b18) s1,.g] (kd (ai ((zC _ _ _).rw.ld yYP (k:=1) rfl:lz s1 116 (qg Z.y 1) (.func (.func dL) ⟨dj⟩ ⟨di⟩)) (an6 h1 h2 h3 h4 h5 h6 nx)))
theorem xPO:let s1:=Z.row [.int .u8 eI,.func (.func dO) ⟨[]⟩ ⟨cg⟩] 2;∀ (h1:lz s1 164 v0 (.func (.func f1) ⟨[]⟩ ⟨d8⟩)) (h2:qo f1 (qh [.int .u8 eI,.func (.func dO) ⟨[]⟩ ⟨cg⟩]::d8) s1 (.bool true) s1) (nx:Q (.bool false) s1),qi 127 [qh [.int .u8 eI,.func (.func dO) ⟨[]⟩ ⟨cg⟩],pz v0] Z Q:=
 let s1:=Z.row [.int .u8 eI,.func (.func dO) ⟨[]⟩ ⟨cg⟩] 2;fun h1 h2 nx=>zG [.g,.g,.l (.func (.func f1) ⟨[]⟩ ⟨d8⟩),.l (qh [.int .u8 eI,.func (.func dO) ⟨[]⟩ ⟨cg⟩]),.c (.bool true) s1,.g,.g] (kd (an3 h1 ((zC _ _ _).rw.ldN zOO zCV (k:=0) rfl rfl (nle rfl):lz s1 118 (qg Z.y 0) (qh [.int .u8 eI,.func (.func dO) ⟨[]⟩ ⟨cg⟩])) h2 nx))
theorem xPN:let s1:=Z.row [.int .u8 eI,.func (.func dO) ⟨[]⟩ ⟨cg⟩] 2;∀ (h1:lz s1 164 v0 (.func (.func f1) ⟨[]⟩ ⟨d8⟩)) (h2:qo f1 (qh [.int .u8 eI,.func (.func dO) ⟨[]⟩ ⟨cg⟩]::d8) s1 (.bool false) s1) (nx:Q (.bool true) s1),qi 127 [qh [.int .u8 eI,.func (.func dO) ⟨[]⟩ ⟨cg⟩],pz v0] Z Q:=
 let s1:=Z.row [.int .u8 eI,.func (.func dO) ⟨[]⟩ ⟨cg⟩] 2;fun h1 h2 nx=>zG [.g,.g,.l (.func (.func f1) ⟨[]⟩ ⟨d8⟩),.l (qh [.int .u8 eI,.func (.func dO) ⟨[]⟩ ⟨cg⟩]),.c (.bool false) s1,.g,.g] (kd (an3 h1 ((zC _ _ _).rw.ldN zOO zCV (k:=0) rfl rfl (nle rfl):lz s1 118 (qg Z.y 0) (qh [.int .u8 eI,.func (.func dO) ⟨[]⟩ ⟨cg⟩])) h2 nx))
theorem zZV {s:oAa} (hb:∀ k aI Z,Inv k aI Z->zWM s s_l s_c f f_c aI Z (NX1 Inv k) Qr Q0):∀ k aI Z,Inv k aI Z->xBK s s_l s_c f f_c aI Z Qr Q0 :=
 xL (ai zBE (ai (xZ 0) trivial)) hb
theorem xMZ (h1:lz Z 118 (zJ s_a (Int.toNat aI*2)) (qh [.int .u8 nA,.func (.func fG) ⟨[]⟩ ⟨fG_c⟩])) (h2:qo f (qh [.int .u8 nA,.func (.func fG) ⟨[]⟩ ⟨fG_c⟩]::f_c) Z (.bool true) Z) (nx:Qr aI Z) (u1:aI<(s_l:Int):=by omega) (u2:Ix aI s_l:=by omega):zWM (some s_a) s_l s_c f f_c aI Z Nx Qr Q0 :=
 kO 1 aI [.b true,.g,.g,.g,.g,.g,.i,.l (qh [.int .u8 nA,.func (.func fG) ⟨[]⟩ ⟨fG_c⟩]),.c (.bool true) Z,.g,.g] (fun _ f=>an4 (zR u1) u2 h1 h2 f) nx
theorem yOV (h1:lz Z 118 (zJ s_a (Int.toNat aI*2)) (qh [.int .u8 nA,.func (.func fG) ⟨[]⟩ ⟨fG_c⟩])) (h2:qo f (qh [.int .u8 nA,.func (.func fG) ⟨[]⟩ ⟨fG_c⟩]::f_c) Z (.bool false) Z) (nx:Nx (aI+1) Z) (u1:aI<(s_l:Int):=by omega) (u2:Ix aI s_l:=by omega) (u3:I6 (aI+1):=by omega):zWM (some s_a) s_l s_c f f_c aI Z Nx Qr Q0 :=
 kO 0 (aI+1) [.b true,.g,.g,.g,.g,.g,.i,.l (qh [.int .u8 nA,.func (.func fG) ⟨[]⟩ ⟨fG_c⟩]),.c (.bool false) Z,.n (aI+1),.g] (fun _ f=>an5 (zR u1) u2 h1 h2 (w64 u3) f) nx
theorem xMY {s:oAa} (nx:Q0 Z) (u1:¬ aI<(s_l:Int):=by omega):zWM s s_l s_c f f_c aI Z Nx Qr Q0 :=
 kO 2 () [.b false] (fun _ f=>ai (zS u1) f) nx
theorem xBI {s:oAa} (hL:xBK s s_l s_c f f_c 0 Z Pr P0) (kr:∀ i4_1' Z',Pr i4_1' Z'->yFK s s_l s_c f f_c i4_1' Z' Q) (k0:∀ Z',P0 Z'->yFL s s_l s_c f f_c Z' Q):qi 131 [.slice s s_l s_c,.func (.func f) ⟨[]⟩ ⟨f_c⟩] Z Q :=
 zG [.g,.g,.g,.g,.lf 19 (zQF s s_l s_c f f_c 0) [zSI s s_l s_c f f_c Pr,zSJ s s_l s_c f f_c P0]] (kd (ai (ai tt (ai (arf (zQF s s_l s_c f f_c 0)) hL)) (ai (kz1 kr) (ai (kz0 k0) trivial))))
theorem yWD {s:oAa} (nx:Q (iV bI) Z):yFK s s_l s_c f f_c bI Z Q :=
 sK [] nx
theorem yWE {s:oAa} (nx:Q (iV (-1)) Z):yFL s s_l s_c f f_c Z Q :=
 sK [.g] nx
theorem xTY {s:oAa} (h1:qo 131 [.slice s s_l s_c,.func (.func f) ⟨[]⟩ ⟨f_c⟩] Z (iV n1) Z) (nx:Q (.bool true) Z) (u1:0<=n1:=by omega):qi 126 [.slice s s_l s_c,.func (.func f) ⟨[]⟩ ⟨f_c⟩] Z Q :=
 zG [.g,.g,.g,.c (iV n1) Z,.b true,.g] (kd (an2 h1 (yE u1) nx))
theorem xTX {s:oAa} (h1:qo 131 [.slice s s_l s_c,.func (.func f) ⟨[]⟩ ⟨f_c⟩] Z (iV n1) Z) (nx:Q (.bool false) Z) (u1:¬ 0<=n1:=by omega):qi 126 [.slice s s_l s_c,.func (.func f) ⟨[]⟩ ⟨f_c⟩] Z Q :=
 zG [.g,.g,.g,.c (iV n1) Z,.b false,.g] (kd (an2 h1 (yH u1) nx))
theorem xUW:let Y1:=Z.row [.func (.func right) ⟨[]⟩ ⟨bK⟩] 1;∀ (h1:qo 126 [.slice l l_l l_c,.func (.func 127) ⟨[]⟩ ⟨[pq Z.y 0]⟩] Y1 (.bool true) Y1) (nx:Q (.bool false) Y1),qi 116 [.slice l l_l l_c,.func (.func right) ⟨[]⟩ ⟨bK⟩] Z Q:=
 fun h1 nx=>zG [.g,.g,.g,.g,.c (.bool true) (Z.row [.func (.func right) ⟨[]⟩ ⟨bK⟩] 1),.g,.g] (kd (ai h1 nx))
theorem xUV:let Y1:=Z.row [.func (.func right) ⟨[]⟩ ⟨bK⟩] 1;∀ (h1:qo 126 [.slice l l_l l_c,.func (.func 127) ⟨[]⟩ ⟨[pq Z.y 0]⟩] Y1 (.bool false) Y1) (nx:Q (.bool true) Y1),qi 116 [.slice l l_l l_c,.func (.func right) ⟨[]⟩ ⟨bK⟩] Z Q:=
 fun h1 nx=>zG [.g,.g,.g,.g,.c (.bool false) (Z.row [.func (.func right) ⟨[]⟩ ⟨bK⟩] 1),.g,.g] (kd (ai h1 nx))
theorem yUM (hb:∀ k dF Z,Inv k dF Z->zWA p day BA BB l1 dF Z (NX1 Inv k) Q0):∀ k dF Z,Inv k dF Z->xAD p day BA BB l1 dF Z Q0 :=
 xL (ai (xZ 0) trivial) hb
theorem xKK:let s1:=(day+1)*1440;let Y1:=ZB.row [iV nF,iV (s1-nG)] 1;∀ (h1:lz Z 3 ⟨BA,0+Int.toNat dF*4+3,none⟩ (iV nA)) (h2:qq (evL [pq BA (0+Int.toNat dF*4+1),iV 0]) Z (.store 3 (.tmp 0) (.tmp 1))=some (undef,ZB)) (h3:lz ZB 3 ⟨BA,0+Int.toNat dF*4+0,none⟩ (iV nF)) (h4:lz ZB 3 (zJ p 3) (iV nG)) (h5:qo 118 [.slice (some (qg ZB.y 0)) 2 2] Y1 (iV nE) Y1) (h6:qq (evL [pq BA (0+Int.toNat dF*4+0),iV nE]) Y1 (.store 3 (.tmp 0) (.tmp 1))=some (undef,ZQ)) (nx:Nx (dF+1) ZQ) (u1:dF<(l1:Int):=by omega) (u2:Ix dF 6:=by omega) (u3:¬ nA=day:=by omega) (u4:I6 (day+1):=by omega) (u5:I6 s1:=by omega) (u6:I6 (s1-nG):=by omega) (u7:I6 (dF+1):=by omega),zWA p day BA BB l1 dF Z Nx Q0:=
 let s1:=(day+1)*1440;fun h1 h2 h3 h4 h5 h6 nx u1 u2 u3 u4 u5 u6 u7=>kO 0 (dF+1) [.b true,.g,.g,.g,.i,.g,.l (iV nA),.g,.b true,.g,.i,.g,.e undef ZB,.g,.g,.i,.g,.l (iV nF),.g,.n (day+1),.n s1,.g,.g,.g,.g,.l (iV nG),.n (s1-nG),.g,.c (iV nE) (ZB.row [iV nF,iV (s1-nG)] 1),.i,.g,.e undef ZQ,.n (dF+1),.g] (fun _ f=>an4 (zR u1) u2 h1 (zGX u3) (an6 u2 h2 u2 h3 (w64 u4) (w64 u5) (an6 h4 (w64 u6) h5 u2 h6 (w64 u7) f))) nx
theorem xKJ (h1:lz Z 3 ⟨BA,0+Int.toNat dF*4+3,none⟩ (iV nA)) (nx:Nx (dF+1) Z) (u1:dF<(l1:Int):=by omega) (u2:Ix dF 6:=by omega) (u3:nA=day:=by omega) (u4:I6 (dF+1):=by omega):zWA p day BA BB l1 dF Z Nx Q0 :=
 kO 0 (dF+1) [.b true,.g,.g,.g,.i,.g,.l (iV nA),.g,.b false,.n (dF+1),.g] (fun _ f=>an5 (zR u1) u2 h1 (vG u3) (w64 u4) f) nx
theorem xKI (nx:Q0 Z) (u1:¬ dF<(l1:Int):=by omega):zWA p day BA BB l1 dF Z Nx Q0 :=
 kO 1 () [.b false] (fun _ f=>ai (zS u1) f) nx
theorem xSO {s:lVa}:let y0:=(Z.row s 4).row [iV 0,iV 0,iV 0,iV 0,iV 0,iV 0,iV 0,iV 0,iV 0,iV 0,iV 0,iV 0,iV 0,iV 0,iV 0,iV 0,iV 0,iV 0,iV 0,iV 0,iV 0,iV 0,iV 0,iV 0] 4;∀ (h1:lz y0 32 (zJ p 2) (.slice q1 l1 c1)) (hL:xAD p day Z.y (Z.y+1) l1 0 y0 P0) (k0:∀ Z',P0 Z'->yED p day Z.y (Z.y+1) l1 Z' Q),qi 101 [pz p,iV day,qh s] Z Q :=
 let s1:=zVZ p day Z.y (Z.y+1) l1 0;fun h1 hL k0=>zG [.g,.g,.g,.g,.g,.g,.l (.slice q1 l1 c1),.g,.g,.lf 46 s1 [zRV p day Z.y (Z.y+1) l1 P0]] (kd (ai h1 (ai (ai tt (ai (arf s1) hL)) (ai (kz0 k0) trivial))))
theorem yUL (h1:lz Z 109 (qg BA 0) (qh cs1838)) (h2:qq (evL [pq BB 0,qh cs1838]) Z (.store 109 (.tmp 0) (.tmp 1))=some (undef,ZH)) (h3:lz ZH 109 (qg BB 0) (qh cs1840)) (nx:Q (qh cs1840) ZH):yED p day BA BB l1 Z Q :=
 sK [.l (qh cs1838),.e undef ZH,.l (qh cs1840)] (an3 h1 h2 h3 nx)
theorem xFN (h1:qo 128 [.slice l l_l l_c] Z (iV n1) Z) (nx:Q (iV n1) Z):qi 118 [.slice l l_l l_c] Z Q :=
 zG [.g,.g,.c (iV n1) Z,.g] (kd (ai h1 nx))
theorem ySK {Inv:Nat->Int->Int->St->Prop} {Q0:Int->St->Prop} (hb:∀ k aX bI Z,Inv k aX bI Z->yHG x_a x_l x_c aX bI Z (NX2 Inv k) Q0):∀ k aX bI Z,Inv k aX bI Z->yZO x_a x_l x_c aX bI Z Q0 :=
 zDU (ai (xZ 0) trivial) hb
theorem xIX {Nx:Int->Int->St->Prop} {Q0:Int->St->Prop} (h1:lz Z 3 (zJ x_a (Int.toNat bI*1)) (iV nA)) (h2:yR Pg (evL [iV aX,iV nA]) Z (.call { callee:=.builtin .max,args:=⟨xJ 2⟩,argTypes:=⟨[3,3]⟩ })=some (iV nH)) (nx:Nx nH (bI+1) Z) (u1:bI<(x_l:Int):=by omega) (u2:Ix bI x_l:=by omega) (u3:I6 (bI+1):=by omega):yHG x_a x_l x_c aX bI Z Nx Q0 :=
 kO 0 (nH,bI+1) [.g,.g,.g,.b true,.g,.g,.g,.i,.l (iV nA),.v (iV nH),.g,.g,.n (bI+1),.g] (fun _ f=>an5 (zR u1) u2 h1 h2 (w64 u3) f) nx
theorem xIW {Nx:Int->Int->St->Prop} {Q0:Int->St->Prop} (nx:Q0 aX Z) (u1:¬ bI<(x_l:Int):=by omega):yHG x_a x_l x_c aX bI Z Nx Q0 :=
 kO 1 aX [.g,.g,.g,.b false] (fun _ f=>ai (zS u1) f) nx
theorem xRC {P0:Int->St->Prop} (h1:lz Z 3 x_a (iV n1)) (hL:yZO x_a x_l x_c n1 1 Z P0) (k0:∀ i3_1' Z',P0 i3_1' Z'->yDE x_a x_l x_c i3_1' Z' Q) (u1:¬ (x_l:Int)<1:=by omega) (u2:Ix 0 x_l:=by omega):qi 128 [.slice (some x_a) x_l x_c] Z Q :=
 zG [.g,.g,.g,.b false,.g,.i,.l (iV n1),.g,.g,.lf 25 (zPA x_a x_l x_c n1 1) [zRH x_a x_l x_c P0]] (kd (an3 (zS u1) u2 h1 (ai (ai tt (ai (arf (zPA x_a x_l x_c n1 1)) hL)) (ai (kz1 k0) trivial))))
theorem ySJ (nx:Q (iV aX) Z):yDE x_a x_l x_c aX Z Q :=
 sK [.g,.g] nx
end
section
variable {P:Program}
theorem xJZ {e sz d:Nat} {xs ys:Array Value} {R:Nat->Bool}:∀ (L:List Nat),(∀ i∈L,∃ a b,yA P (part e xs (i*sz))=some a/\yA P (part e ys (i*sz))=some b/\yA P (Op.equalIn d e a b)=some (R i)) ->
  yA P (forIn L ((none,()):Option Bool × Unit) fun i __s=>do
    let a <- part e xs (i*sz)
    let b <- part e ys (i*sz)
    let r <- Op.equalIn d e a b
    if (!r)=true then pure (ForInStep.done (some false,())) else pure (ForInStep.yield (none,())))=some (if ∀ i∈L,R i=true then (none,()) else (some false,()))
 | [],_=>by simp;rfl
 | i::L,h=>by
  obtain ⟨a,b,h1,h2,h3⟩:=h i List.mem_cons_self;rw [List.forIn_cons,xI,xI,h1];simp only [Option.bind_some];rw [xI,h2];simp only [Option.bind_some];rw [xI,h3];simp only [Option.bind_some];cases e1:R i with
  | true =>
   simp only [Bool.not_true,Bool.false_eq_true,if_false,zPJ,Option.bind_some];rw [xJZ L (fun j hj=>h j (List.mem_cons_of_mem _ hj))];by_cases e2:∀ j∈L,R j=true
   ·rw [if_pos e2,if_pos (fun j hj=>by rcases List.mem_cons.1 hj with rfl | hj;exact e1;exact e2 j hj)]
   ·rw [if_neg e2,if_neg (fun h=>e2 fun j hj=>h j (List.mem_cons_of_mem _ hj))]
  | false =>
   simp only [Bool.not_false,if_true,zPJ,Option.bind_some];rw [if_neg (fun h=>by rw [h i List.mem_cons_self] at e1;cases e1)]
theorem xKA {t e n sz d:Nat} (hu:P.underlying t=some (.array n e)) (hs:yA P (sizeOf e)=some sz) {xs ys:Array Value} {R:Nat->Bool} (h:∀ i,i<n->∃ a b,yA P (part e xs (i*sz))=some a/\yA P (part e ys (i*sz))=some b/\yA P (Op.equalIn d e a b)=some (R i)) :
  yA P (Op.equalIn (d+1) t (.agg xs) (.agg ys))=some ((List.range n).all R):=by
 have key:=xJZ (P:=P) (e:=e) (sz:=sz) (d:=d) (xs:=xs) (ys:=ys) (R:=R) (List.range' 0 n) (fun i hi=>h i (by simpa using hi));unfold Op.equalIn;rw [xI,zJJ hu];simp only [Option.bind_some];rw [xI,hs];simp only [Option.bind_some];rw [xI,Std.Legacy.Range.forIn_eq_forIn_range'];simp only [Std.Legacy.Range.size,Nat.sub_zero,Nat.add_sub_cancel,Nat.div_one];rw [key];simp only [Option.bind_some];cases e:(List.range n).all R with
 | true=>rw [if_pos (fun i hi=>List.all_eq_true.1 e i (by simpa using hi))];rfl
 | false=>rw [if_neg (fun h=>by rw [List.all_eq_true.2 fun i hi=>h i (by simpa using hi)] at e;cases e)];rfl
theorem xWW {t d : Nat} {f1 f2 : Field} (hu : P.underlying t = some (.struct #[f1, f2])) (hh : P.stoodInHeld t = false) (n1 : f1.name ≠ "_") (n2 : f2.name ≠ "_") {xs ys : Array Value} {a1 b1 a2 b2 : Value} {r1 r2 : Bool}
  (h1:yA P (part f1.type xs f1.offset)=some a1) (h2:yA P (part f1.type ys f1.offset)=some b1) (e1:yA P (Op.equalIn d f1.type a1 b1)=some r1)
  (h3:yA P (part f2.type xs f2.offset)=some a2) (h4:yA P (part f2.type ys f2.offset)=some b2) (e2:yA P (Op.equalIn d f2.type a2 b2)=some r2) :
  yA P (Op.equalIn (d+1) t (.agg xs) (.agg ys))=some (r1 && r2):=by
 unfold Op.equalIn;rw [xI,zJJ hu];simp only [Option.bind_some];rw [xI,yIC];simp only [Option.bind_some,hh,Bool.false_eq_true,if_false];rw [xI,<- Array.forIn_toList];show (yA P (forIn [f1,f2] _ _)).bind _=_;rw [List.forIn_cons,xI];simp only [if_pos n1];rw [xI,h1];simp only [Option.bind_some];rw [xI,h2];simp only [Option.bind_some];rw [xI,e1];simp only [Option.bind_some];cases r1 with
 | false=>rfl
 | true =>
  simp only [Bool.not_true,Bool.false_eq_true,if_false,zPJ,Option.bind_some];rw [List.forIn_cons,xI];simp only [if_pos n2];rw [xI,h3];simp only [Option.bind_some];rw [xI,h4];simp only [Option.bind_some];rw [xI,e2];simp only [Option.bind_some];cases r2 <;> rfl
end
theorem xWX (d:Nat) (s t:Std):yA Pg (Op.equalIn (d+2) 107 (zMH s) (zMH t))=some (decide (s=t)):=by
 have h:yA Pg (Op.equalIn (d+2) 107 (.agg ⟨[s.free,s.row,s.used,s.day].map fun x=>iV x⟩) (.agg ⟨[t.free,t.row,t.used,t.day].map fun x=>iV x⟩))=some (decide ([s.free,s.row,s.used,s.day]=[t.free,t.row,t.used,t.day])):=xWY (n:=4) (by kernel_rfl) rfl rfl;have e:decide ([s.free,s.row,s.used,s.day]=[t.free,t.row,t.used,t.day])=decide (s=t):=by
  refine decide_eq_decide.2 ?_
  cases s;cases t
  simp
 rw [<- e];exact h
theorem yMU (f:Nat->Std) {i:Nat} (hi:i<6):yA Pg (part 107 ⟨stL f⟩ (i*4))=some (zMH (f i)):=by
 match i,hi with
 | 0,_=>show _=_;kernel_rfl
 | 1,_=>show _=_;kernel_rfl
 | 2,_=>show _=_;kernel_rfl
 | 3,_=>show _=_;kernel_rfl
 | 4,_=>show _=_;kernel_rfl
 | 5,_=>show _=_;kernel_rfl
theorem xDU (d:Nat) (f g:Nat->Std):yA Pg (Op.equalIn (d+3) 109 (.agg ⟨stL f⟩) (.agg ⟨stL g⟩))=some ((List.range 6).all fun i=>decide (f i=g i)) :=
 xKA (P:=Pg) (t:=109) (e:=107) (n:=6) (sz:=4) (d:=d+2) (by kernel_rfl) (by kernel_rfl) (xs:=⟨stL f⟩) (ys:=⟨stL g⟩) (R:=fun i=>decide (f i=g i)) (fun i hi=>⟨_,_,yMU f hi,yMU g hi,xWX d _ _⟩)
structure Key where
 day:Int
 l:List Std
 h:l.length=6
 deriving DecidableEq
def zHF (k:Key) (i:Nat):Std:=k.l.getD i zVQ
def yON (k:Key):Value:=.agg ⟨iV k.day::stL (zHF k)⟩
def zJV (D:Int) (f:Nat->Std):Key:=⟨D,(List.range 6).map f,by simp⟩
theorem zCB {D:Int} {f:Nat->Std} {i:Nat} (hi:i<6):zHF (zJV D f) i=f i:=by
 unfold zHF zJV;simp [hi]
theorem yIW (D:Int) (f:Nat->Std):yON (zJV D f)=.agg ⟨iV D::stL f⟩:=by
 unfold yON stL;rw [zCB (by omega),zCB (by omega),zCB (by omega),zCB (by omega),zCB (by omega),zCB (by omega)];rfl
theorem xMJ {a b:Key}:a=b↔a.day=b.day/\∀ i,i<6->zHF a i=zHF b i:=by
 constructor
 ·rintro rfl;exact ⟨rfl,fun _ _=>rfl⟩
 ·rintro ⟨h1,h2⟩;obtain ⟨d,l,hl⟩:=a;obtain ⟨e,m,hm⟩:=b;have:l=m:=by
   apply List.ext_getElem (by omega);intro i g1 g2;have:=h2 i (by omega);simpa [zHF,g1,g2] using this
  subst this;simp only at h1;subst h1;rfl
theorem xMK {D E:Int} {f g:Nat->Std}:zJV D f=zJV E g↔D=E/\∀ i,i<6->f i=g i:=by
 rw [xMJ];refine and_congr_right fun _=>⟨fun h i hi=>?_,fun h i hi=>?_⟩
 ·have:=h i hi;rwa [zCB hi,zCB hi] at this
 ·rw [zCB hi,zCB hi];exact h i hi
theorem xJX (a b:Key):yA Pg (Op.equal 133 (yON a) (yON b))=some (decide (a=b)):=by
 have e:decide (a=b)=((a.day == b.day) && (List.range 6).all fun i=>decide (zHF a i=zHF b i)):=by
  rw [Bool.eq_iff_iff,decide_eq_true_eq,Bool.and_eq_true,beq_iff_eq,zAP,xMJ];exact and_congr_right fun _=>⟨fun h i hi=>decide_eq_true (h i hi),fun h i hi=>of_decide_eq_true (h i hi)⟩
 rw [e];have hu : ∃ f1 f2 : Field, Pg.underlying 133 = some (.struct #[f1, f2]) ∧ f1.type = 3 ∧ f1.offset = 0 ∧ f1.name ≠ "_" ∧ f2.type = 109 ∧ f2.offset = 1 ∧ f2.name ≠ "_" := ⟨_, _, Tryz.underlying133, rfl, rfl, by decide, rfl, rfl, by decide⟩
 obtain ⟨f1,f2,hu,t1,o1,n1,t2,o2,n2⟩:=hu;refine xWW (P:=Pg) (t:=133) (d:=9999) hu (by kernel_rfl) n1 n2 (xs:=⟨iV a.day::stL (zHF a)⟩) (ys:=⟨iV b.day::stL (zHF b)⟩)
  (a1:=iV a.day) (b1:=iV b.day) (a2:=.agg ⟨stL (zHF a)⟩) (b2:=.agg ⟨stL (zHF b)⟩) (r1:=a.day == b.day) (r2:=(List.range 6).all fun i=>decide (zHF a i=zHF b i)) ?_ ?_ ?_ ?_ ?_ ?_
 ·rw [t1,o1];kernel_rfl
 ·rw [t1,o1];kernel_rfl
 ·rw [t1];exact zGT (d:=9998) (k:=.i64) (by kernel_rfl) _ _ _
 ·rw [t2,o2];kernel_rfl
 ·rw [t2,o2];kernel_rfl
 ·rw [t2];exact xDU 9996 _ _
theorem yCG:∀ (n:Nat) (xs:List Int),Instr.sameBits (n+2) (.agg ⟨xs.map zY⟩) (.agg ⟨xs.map zY⟩)=true:=by
 intro n xs;simp [Instr.sameBits];intro x y hxy;have key:∀ (m:List Int),(x,y)∈(m.map zY).zip (m.map zY)->∃ c,x=zY c/\y=zY c:=by
  intro m;induction m with
  | nil=>intro h;cases h
  | cons c m ih =>
   intro h;simp only [List.map_cons,List.zip_cons_cons,List.mem_cons,Prod.mk.injEq] at h;rcases h with h | h
   ·exact ⟨c,h.1,h.2⟩
   ·exact ih h
 obtain ⟨c,rfl,rfl⟩:=key xs hxy;simp [Instr.sameBits]
def wAP (k:Key):List Int:=k.day::(List.range 6).flatMap fun i=>[(zHF k i).free,(zHF k i).row,(zHF k i).used,(zHF k i).day]
theorem zDY:KeyT Pg 133 yON:=by
 refine ⟨xJX,fun e a=>?_,fun a=>?_⟩
 ·have h:∀ (e:Bool) (D:Int) (f:Nat->Std),zIF Pg e 133 (.agg ⟨iV D::stL f⟩)=true:=fun e D f=>by kernel_rfl
  exact h e a.day (zHF a)
 ·have:yON a=.agg ⟨(wAP a).map zY⟩:=rfl;rw [this];exact yCG 9998 _
theorem xLW:zDT Pg 126=some (133,130):=by kernel_rfl
def six (v:List Int):List Value:=vZ 6 fun i=>v.getD i 0
theorem zGO (v:List Int):six v=zK (v.getD 0 0) (v.getD 1 0) (v.getD 2 0) (v.getD 3 0) (v.getD 4 0) (v.getD 5 0):=rfl
section
variable {Z:St}
theorem xRG {f:Nat->Int} {i:Nat} (hi:i<6):zAM Pg 98 (.agg ⟨vZ 6 f⟩) (iV (i:Int))=some (iV (f i)):=by
 match i,hi with
 | 0,_=>show _=_;kernel_rfl
 | 1,_=>show _=_;kernel_rfl
 | 2,_=>show _=_;kernel_rfl
 | 3,_=>show _=_;kernel_rfl
 | 4,_=>show _=_;kernel_rfl
 | 5,_=>show _=_;kernel_rfl
theorem xWI {b i:Nat} {f:Nat->Int} (o:Own Z b (vZ 6 f) 1) (hi:i<6):zB Pg Z 3 ⟨b,0+Int.toNat (i:Int)*1,none⟩=some (iV (f i)):=by
 have:=o.ldI (P:=Pg) (t:=3) (i:=i) zU (zXA hi);simpa [zJ] using this
theorem xWH {b i:Nat} {f:Nat->Int} {x:Int} (o:Own Z b (vZ 6 f) 1) (hi:i<6):zQ Pg (evL [.pointer (some ⟨b,0+Int.toNat (i:Int)*1,none⟩),iV x]) Z (.store 3 (.tmp 0) (.tmp 1))=some (undef,Z.own b (vZ 6 fun s=>if s=i then x else f s) 1):=by
 have:=o.stI (P:=Pg) (t:=3) (v:=iV x) (i:=i) rfl wE rfl (by rw [zCC];exact hi);rw [xIM hi] at this;simpa [zJ] using this
theorem zOW {b:Nat} {f:Nat->Int} (o:Own Z b (vZ 6 f) 1):zB Pg Z 98 ⟨b,0,none⟩=some (.agg ⟨vZ 6 f⟩):=o.ldN (k:=0) zCT wQ (ds:=vZ 6 f) rfl rfl (by rw [zCC];decide)
theorem xQV {b:Nat} {f g:Nat->Int} (o:Own Z b (vZ 6 f) 1):zQ Pg (evL [.pointer (some ⟨b,0,none⟩),.agg ⟨vZ 6 g⟩]) Z (.store 98 (.tmp 0) (.tmp 1))=some (undef,Z.own b (vZ 6 g) 1) :=
 o.store (k:=0) (vs:=vZ 6 g) rfl wQ (by simp [vZ];intro x _;rfl) (by rw [zCC,zCC];decide) (by simp [zCC,List.drop_eq_nil_of_le])
theorem xDZ {a b:List Int} {i:Nat} (ha:a.length=6) (hb:b.length=6) (hi:i<6):(uB a b).getD i 0=a.getD i 0+b.getD i 0:=by
 unfold uB;rw [List.getD_eq_getElem?_getD,List.getD_eq_getElem?_getD,List.getD_eq_getElem?_getD,List.getElem?_zipWith,List.getElem?_eq_getElem (by omega:i<a.length),List.getElem?_eq_getElem (by omega:i<b.length)];rfl
def Bd (n:Int) (v:List Int):Prop:=∀ x∈v,0<=x/\x<=n
theorem Bd.get {n:Int} {v:List Int} (h:Bd n v) (hn:0<=n) (i:Nat):0<=v.getD i 0/\v.getD i 0<=n:=by
 rw [List.getD_eq_getElem?_getD];cases hx:v[i]? with
 | none=>exact ⟨Int.le_refl _,hn⟩
 | some x=>exact h x (List.mem_of_getElem? hx)
theorem xXA {a b:List Int} (ha:a.length=6) (hb:b.length=6) (h1:Bd 1000000 a) (h2:Bd 1000000 b):zD Pg 102 [.agg ⟨six a⟩,.agg ⟨six b⟩] Z (.agg ⟨six (uB a b)⟩) Z:=by
 obtain ⟨τ0,hτ0⟩:∃ τ0,τ0=((Z.re.row (six a) 1).row (six b) 1).row (zK 0 0 0 0 0 0) 1:=⟨_,rfl⟩;have N0:New Z.re τ0:=by rw [hτ0];exact ((New.row _ _ _).row').row'
 have o1:Own τ0 Z.y (six a) 1:=by rw [hτ0];exact (zC Z.re (six a) 1).row.row
 have o2:Own τ0 (Z.y+1) (six b) 1:=by rw [hτ0];exact (zC (Z.re.row (six a) 1) (six b) 1).row
 have o3:Own τ0 (Z.y+2) (vZ 6 fun _=>0) 1:=by rw [hτ0];exact zC ((Z.re.row (six a) 1).row (six b) 1) (zK 0 0 0 0 0 0) 1
 have l1:=zOW o2;rw [hτ0] at l1;refine (xNP l1 (yPG (Inv:=fun k i τ=>New Z.re τ/\∃ j:Nat,i=j/\j+k=6/\Own τ Z.y (vZ 6 fun s=>if s<j then a.getD s 0+b.getD s 0 else a.getD s 0) 1/\Own τ (Z.y+2) (vZ 6 fun _=>0) 1)
  (Q0:=fun τ=>New Z.re τ/\Own τ Z.y (six (uB a b)) 1/\Own τ (Z.y+2) (vZ 6 fun _=>0) 1) ?_ 6 0 _ ⟨by rw [<- hτ0];exact N0,0,rfl,rfl,by rw [<- hτ0];exact o1,by rw [<- hτ0];exact o3⟩) ?_).pure
 ·rintro k i τ ⟨hN,j,rfl,hk,w1,w2⟩;by_cases hj:j<6
  ·have hid:=xRG (f:=fun i=>b.getD i 0) hj;have hl:=xWI w1 hj;rw [if_neg (by omega)] at hl;have b1:=h1.get (by decide) j;have b2:=h2.get (by decide) j;have st:=xWH (x:=a.getD j 0+b.getD j 0) w1 hj;have hlt:=w2.lt;refine xGA hid hl st ⟨k-1,by omega,hN.own (by show Z.y<=Z.y;omega),j+1,by omega,by omega, ?_,w2.own (by omega)⟩ (by omega) (by omega) (by omega) (by omega);have e:(vZ 6 fun s=>if s=j then a.getD j 0+b.getD j 0 else if s<j then a.getD s 0+b.getD s 0 else a.getD s 0)=vZ 6 fun s=>if s<j+1 then a.getD s 0+b.getD s 0 else a.getD s 0:=by
    refine zXB fun s hs=>?_
    by_cases e1:s=j
    ·subst e1;rw [if_pos rfl,if_pos (by omega)]
    ·rw [if_neg e1];by_cases e2:s<j
     ·rw [if_pos e2,if_pos (by omega)]
     ·rw [if_neg e2,if_neg (by omega)]
   rw [<- e];exact w1.put
  ·have:j=6:=by omega
   subst this;refine xFZ ⟨hN, ?_,w2⟩ (by omega);have e:(vZ 6 fun s=>if s<6 then a.getD s 0+b.getD s 0 else a.getD s 0)=six (uB a b):=by
    refine zXB fun s hs=>?_
    rw [if_pos hs,xDZ ha hb hs]
   rw [<- e];exact w1
 ·rintro τ ⟨hN,w1,w2⟩;exact yPF (zOW w1) (xQV w2) (zOW w2.put) ⟨rfl,(hN.own (b:=Z.y+2) (n:=1) (cs:=six (uB a b)) (by show Z.y<=Z.y+2;omega)).lw⟩
theorem yET {x:Int}:zD Pg 132 [iV x] Z (.bool false) Z:=(xML ⟨rfl,Nat.le_refl _⟩ rfl).pure
theorem xYH {x y:Int}:zD Pg 129 [iV x,iV y] Z (iV (if x<y then -1 else if y<x then 1 else 0)) Z:=by
 by_cases h1:x<y
 ·rw [if_pos h1];exact (xUI yET yET ⟨rfl,Nat.le_refl _⟩ h1).pure
 ·rw [if_neg h1];by_cases h2:y<x
  ·rw [if_pos h2];exact (xUH yET yET ⟨rfl,Nat.le_refl _⟩ h1 h2).pure
  ·rw [if_neg h2];exact (xUG yET yET ⟨rfl,Nat.le_refl _⟩ h1 h2).pure
def zQU:List Int->List Int->Int
 | a::l,b::m=>if a<b then -1 else if b<a then 1 else zQU l m
 | _,_=>0
theorem zSY:∀ {a b:List Int},(0<zQU a b↔vH a b=true)
 | [],b=>by simp [zQU,vH]
 | a::l,[]=>by simp [zQU,vH]
 | a::l,b::m=>by
  unfold zQU vH;by_cases h1:a<b
  ·rw [if_pos h1,if_neg (by omega),decide_eq_false (by omega)];simp
  ·rw [if_neg h1];by_cases h2:b<a
   ·rw [if_pos h2,if_neg (by omega),decide_eq_true h2];simp
   ·rw [if_neg h2,if_pos (by omega)];exact zSY
theorem xGX {a b:List Int} {j:Nat} {x y:Int} (hx:a[j]?=some x) (hy:b[j]?=some y):zQU (a.drop j) (b.drop j)=if x<y then -1 else if y<x then 1 else zQU (a.drop (j+1)) (b.drop (j+1)):=by
 obtain ⟨h1,rfl⟩:=List.getElem?_eq_some_iff.1 hx;obtain ⟨h2,rfl⟩:=List.getElem?_eq_some_iff.1 hy;rw [List.drop_eq_getElem_cons h1,List.drop_eq_getElem_cons h2,zQU]
theorem xGU {p q:Option Addr} {l c d:Nat} {a b:List Int} (h1:yG Z p l a) (h2:yG Z q l b) (hl:l<=1000):zD Pg 119 [.slice p l c,.slice q l d] Z (iV (zQU a b)) Z:=by
 have e1:=h1.len;have e2:=h2.len;have h1:=h1.re;have h2:=h2.re;refine (yXE (yCR (Inv:=fun k i τ=>τ=Z.re/\∃ j:Nat,i=j/\j+k=l/\zQU a b=zQU (a.drop j) (b.drop j)) (Qr:=fun x τ=>τ=Z.re/\x=zQU a b) (Q0:=fun τ=>τ=Z.re/\zQU a b=0) ?_ l 0 Z.re ⟨rfl,0,rfl,by omega,rfl⟩) ?_ ?_).pure
 ·rintro k i τ ⟨rfl,j,rfl,hk,he⟩;by_cases hj:j<l
  ·obtain ⟨a1,rfl,x,hx,l1⟩:=wZ h1 hj;obtain ⟨a2,rfl,y,hy,l2⟩:=wZ h2 hj;have hd:=xGX hx hy;have cc:=xYH (Z:=Z.re) (x:=x) (y:=y);by_cases g1:x<y
   ·rw [if_pos g1] at cc hd;exact zUZ l1 l2 cc ⟨rfl,by rw [he,hd]⟩ (by omega) (by omega) (by omega) (by omega) (by omega)
   ·rw [if_neg g1] at cc hd;by_cases g2:y<x
    ·rw [if_pos g2] at cc hd;exact zUZ l1 l2 cc ⟨rfl,by rw [he,hd]⟩ (by omega) (by omega) (by omega) (by omega) (by omega)
    ·rw [if_neg g2] at cc hd;exact yQJ l1 l2 cc ⟨k-1,by omega,rfl,j+1,by omega,by omega,by rw [he,hd]⟩ (by omega) (by omega) (by omega) (by omega) (by omega) (by omega)
  ·refine yQI ⟨rfl, ?_⟩ (by omega);rw [he,List.drop_eq_nil_of_le (by omega)];rfl
 ·rintro x τ ⟨rfl,rfl⟩;exact yCP ⟨rfl,Nat.le_refl _⟩
 ·rintro τ ⟨rfl,e⟩;exact yCQ ⟨by rw [e],Nat.le_refl _⟩ (by omega)
theorem xZJ {a b:List Int} (ha:a.length=6) (hb:b.length=6) {o1 o2:Operand}:vP Pg .neq 98 o1 o2 (.agg ⟨six a⟩) (.agg ⟨six b⟩)=some (.bool (!decide (a=b))):=by
 have e:∀ (f g:Nat->Int),vP Pg .neq 98 o1 o2 (.agg ⟨vZ 6 f⟩) (.agg ⟨vZ 6 g⟩)=(yA Pg (do eqGuard .neq 98 o1 o2 (.agg ⟨vZ 6 f⟩) (.agg ⟨vZ 6 g⟩);binOp .neq 98 (.agg ⟨vZ 6 f⟩) (.agg ⟨vZ 6 g⟩))).filter (zW RD):=fun _ _=>by kernel_rfl
 have e1:∀ (f g:Nat->Int),yA Pg (eqGuard .neq 98 o1 o2 (.agg ⟨vZ 6 f⟩) (.agg ⟨vZ 6 g⟩))=some ():=fun _ _=>by kernel_rfl
 have e2:∀ x y:List Value,binOp .neq 98 (.agg ⟨x⟩) (.agg ⟨y⟩)=(do let r <- Op.equal 98 (.agg ⟨x⟩) (.agg ⟨y⟩);pure (.bool (!r))):=fun _ _=>rfl
 have hp:∀ (f:Nat->Int) {i:Nat},i<6->yA Pg (part 3 ⟨vZ 6 f⟩ (i*1))=some (iV (f i)):=by
  intro f i hi;match i,hi with
  | 0,_=>show _=_;kernel_rfl
  | 1,_=>show _=_;kernel_rfl
  | 2,_=>show _=_;kernel_rfl
  | 3,_=>show _=_;kernel_rfl
  | 4,_=>show _=_;kernel_rfl
  | 5,_=>show _=_;kernel_rfl
 have h:=xKA (P:=Pg) (t:=98) (e:=3) (n:=6) (sz:=1) (d:=9999) (by kernel_rfl) (by kernel_rfl) (xs:=⟨six a⟩) (ys:=⟨six b⟩) (R:=fun i=>a.getD i 0 == b.getD i 0) (fun i hi=>⟨_,_,hp _ hi,hp _ hi,zGT (d:=9998) (k:=.i64) (by kernel_rfl) _ _ _⟩);have e3:((List.range 6).all fun i=>a.getD i 0 == b.getD i 0)=decide (a=b):=by
  rw [Bool.eq_iff_iff,decide_eq_true_eq,zAP];refine ⟨fun h=>?_,fun h i hi=>by rw [h];simp⟩
  apply List.ext_getElem (by omega);intro i g1 g2;have:=h i (by omega);rw [beq_iff_eq,List.getD_eq_getElem?_getD,List.getD_eq_getElem?_getD,List.getElem?_eq_getElem g1,List.getElem?_eq_getElem g2] at this;exact this
 rw [e3] at h;have h:yA Pg (Op.equal 98 (.agg ⟨six a⟩) (.agg ⟨six b⟩))=some (decide (a=b)):=h;unfold six at h ⊢;rw [e,xI,e1];simp only [Option.bind_some];rw [e2,xI,h];rfl
theorem xIZ {b:Nat} {v:List Int} (o:Own Z b (six v) 1):vA Pg Z 98 (.pointer (some ⟨b,0,none⟩)) none none none=some (.slice (some ⟨b,0,none⟩) 6 6):=by
 have hu:Pg.underlying 98=some (.array 6 3):=by kernel_rfl
 have ha:yGO Z ⟨b,0,none⟩ (6*1) 1=true:=by unfold yGO;simp only [o.get];rfl
 unfold vA;simp only [hu,wE,ha,cond_true];rfl
theorem yLJ {b:Nat} {v:List Int} (hv:v.length=6) (o:Own Z b (six v) 1):yG Z (some ⟨b,0,none⟩) 6 v:=by
 have e:six v=v.map zY:=by
  apply List.ext_getElem (by rw [six,zCC,List.length_map,hv]);intro i g1 g2;have g3:i<v.length:=by simpa using g2
  simp [six,vZ,g3]
 refine ⟨?_,by simpa using hv,fun x hx=>?_⟩
 ·rw [wH v .i64,<- e];exact ⟨rfl,o.rw⟩
 ·obtain ⟨x,_,rfl⟩:=List.mem_map.1 hx;exact vV x
theorem xXN {a b:List Int} (ha:a.length=6) (hb:b.length=6):zD Pg 103 [.agg ⟨six a⟩,.agg ⟨six b⟩] Z (.bool (vH a b)) Z:=by
 obtain ⟨τ0,hτ0⟩:∃ τ0,τ0=(Z.re.row (six a) 1).row (six b) 1:=⟨_,rfl⟩;have o1:Own τ0 Z.y (six a) 1:=by rw [hτ0];exact (zC Z.re (six a) 1).row
 have o2:Own τ0 (Z.y+1) (six b) 1:=by rw [hτ0];exact zC (Z.re.row (six a) 1) (six b) 1
 have hne:=xZJ ha hb (o1:=.tmp 5) (o2:=.tmp 6);have l1:=zOW o1;have l2:=zOW o2;have hlow:Z.y<=τ0.low:=by rw [hτ0];exact Nat.le_refl _
 have s1:=xIZ o1;have s2:=xIZ o2;have cc:=xGU (c:=6) (d:=6) (yLJ ha o1) (yLJ hb o2) (by omega);rw [hτ0] at l1 l2 hlow s1 s2 cc;by_cases e:a=b
 ·rw [decide_eq_true e] at hne;have:vH a b=false:=by rw [e];exact zGY b
  rw [this];exact (xNQ l1 l2 hne ⟨rfl,hlow⟩).pure
 ·rw [decide_eq_false e] at hne;by_cases h:0<zQU a b
  ·rw [zSY.1 h];exact (xNS ⟨l1,l2,hne,s1,s2,cc⟩ ⟨rfl,hlow⟩ h).pure
  ·have:vH a b=false:=by rw [<- Bool.not_eq_true];exact fun k=>h (zSY.2 k)
   rw [this];exact (xNR ⟨l1,l2,hne,s1,s2,cc⟩ ⟨rfl,hlow⟩ h).pure
theorem zPV {a b:Int} {Z:St}:yR Pg (evL [iV a,iV b]) Z (.call { callee:=.builtin .max,args:=⟨xJ 2⟩,argTypes:=⟨[3,3]⟩ })=some (iV (max a b)):=by
 have e:yA Pg (Builtin.max_ ⟨[3,3]⟩ 0 ⟨[iV a,iV b]⟩)=some (iV (max a b)):=by
  rw [show max a b=if a<b then b else a by split <;> omega];simp only [Builtin.max_,List.foldlM,Builtin.max2];rfl
 have e2:yR Pg (evL [iV a,iV b]) Z (.call { callee:=.builtin .max,args:=⟨xJ 2⟩,argTypes:=⟨[3,3]⟩ }) =
   match ((yA Pg (Builtin.max_ ⟨[3,3]⟩ 0 ⟨[iV a,iV b]⟩)).filter (zW RD)) with | some v=>some v | none=>xN Pg (evL [iV a,iV b]) Z (.call { callee:=.builtin .max,args:=⟨xJ 2⟩,argTypes:=⟨[3,3]⟩ }):=rfl
 rw [e2,e];rfl
theorem xMI {b c:Nat} {x y:Int} (h:Row Z ⟨b,0,none⟩ [iV x,iV y]):zD Pg 118 [.slice (some ⟨b,0,none⟩) 2 c] Z (iV (max x y)) Z:=by
 have key:∀ w:St,Row w ⟨b,0,none⟩ [iV x,iV y]->zD Pg 128 [.slice (some ⟨b,0,none⟩) 2 c] w (iV (max x y)) w:=fun w hw=>by
  refine zP.pure ?_
  have h0:=hw.le (le0 w);have l0:zB Pg w.re 3 ⟨b,0,none⟩=some (iV x):=by simpa [zJ] using h0.load1 (t:=3) zU (k:=0) rfl
  have l1:zB Pg w.re 3 (zJ ⟨b,0,none⟩ (Int.toNat ((1:Nat):Int)*1))=some (iV y):=h0.load1 (t:=3) zU (k:=1) rfl;refine xRC (P0:=fun n τ=>τ=w.re/\n=max x y) l0 (ySK (Inv:=fun k n i τ=>∃ s:Nat,i=s/\s+k=2/\τ=w.re/\((s=1/\n=x)\/(s=2/\n=max x y))) ?_ 1 x 1 w.re ⟨1,rfl,rfl,rfl,.inl ⟨rfl,rfl⟩⟩) (fun n τ h=>ySJ ⟨by rw [h.2],by rw [h.1];exact Nat.le_refl _⟩) (by omega) (by omega);rintro k n i τ ⟨s,rfl,hk,rfl,⟨rfl,rfl⟩ | ⟨rfl,rfl⟩⟩
  ·exact xIX l1 zPV ⟨k-1,by omega,2,rfl,by omega,rfl,.inr ⟨rfl,rfl⟩⟩ (by omega) (by omega) (by omega)
  ·exact xIW ⟨rfl,rfl⟩ (by omega)
 refine zP.pure ?_
 exact xFN (key _ (h.le (le0 Z))) ⟨rfl,Nat.le_refl _⟩
end
section
noncomputable section
variable (lo l BA BB BC BD BE lM:Nat) (v1:Addr) (ao y dh:Int) (fo fi:List Nat) (q1:oAa) (q2:(List Nat)->St->Prop) (q0:Int->(List Nat)->St->Prop) (BG l1 c1:Nat) (fD:FuncId) (dN nP bX:Int) (fP:lVa) (qL:oAa) (ms:List Nat) (g:Nat->Value) (lO cM:Nat) (st:LoopState) (q4:Int->St->Prop) (dW:Int) (Q:St->Prop) (pend:Option Code) (Z:St) (db:Nat) (Qn:St->Prop) (q5:vPa) (q3:Int->(List Nat)->St->Prop) (Nx:Int->St->Prop) (Q0:(List Nat)->St->Prop) (Qr Q4 Q6 q6:St->Prop)
def zSZ:Code:=(Code.part [1,1,0,1,0,0] (qj 54))
def zGB (BA BB BC BD BE:Nat) (ao dh:Int) (fi:List Nat):lNa:=[(3,pq BA 0),(4,pq BB 0),(5,pq BC 0),(6,pq BD 0),(7,pq BE 0),(18,iV ao),(19,iV dh)]
def yBG:Alt:=⟨Int × (List Nat),.normal,fun t=>zGB BA BB BC BD BE ao t.1 t.2,fun t=>t.2,fun t Z=>q0 t.1 t.2 Z⟩
def zVC (BA BB BC BD BE:Nat) (ao:Int) (fi:List Nat):lNa:=[(3,pq BA 0),(6,pq BD 0),(7,pq BE 0)]
def zEP:Alt:=⟨(List Nat),(.exit 0),fun t=>zVC BA BB BC BD BE ao t,fun t=>t,fun t Z=>q2 t Z⟩
def zTD:Prop:=qk ql none zSZ 92 (zGB BA BB BC BD BE ao dh fi) fi [yBG BA BB BC BD BE ao q3,zEP BA BB BC BD BE ao Q0] Z
def zTC:Prop:=qm ql none zSZ 92 (zGB BA BB BC BD BE ao dh fi) fi [zEP BA BB BC BD BE ao Q0] Z
def zBA:Code:=(Code.part [1,1,0,1,0,0,1,1,0,0,1,1,0,0] (qj 54))
def zAA:Code:=(Code.part [1,1,0,1,0,0,1,1,0,0,1,1,0,1] (qj 54))
def zAT:lNa:=[(3,pq BA 0),(4,pq BB 0),(5,pq BC 0),(6,pq BD 0),(7,pq BE 0),(18,iV ao),(19,iV dh),(24,.func (.func fD) ⟨[]⟩ ⟨fP⟩)]
def zBV:Blk:=.loop (Fm 92 (ov (zAT BA BB BC BD BE ao dh fD fP) g)) [25,26] zBA zAA st pend db
def yGL:Prop:=zTM Pg ql (.tmp 24) ⟨[25,26]⟩ zBA zAA 92 (zAT BA BB BC BD BE ao dh fD fP) [(.normal,Qn)] Z
def yGK:Code:=(Code.part [1,1,0,1,0,0,1,1,0,0,1,1,0,1,0,1,1,0,1,0,0] (qj 54))
def zGA (lo BA BC BD BE:Nat) (y:Int) (BG:Nat) (nP:Int) (qL:oAa) (lO cM:Nat) (dW:Int):lNa:=[(3,pq BA 0),(5,pq BC 0),(6,pq BD 0),(7,pq BE 0),(9,iV y),(10,pq BG 0),(11,iV nP),(33,.slice qL lO cM),(34,iV (lO:Int)),(35,iV dW)]
def yYC:Alt:=⟨Int,.normal,fun t=>zGA lo BA BC BD BE y BG nP qL lO cM t,fun t=>[],fun t Z=>q4 t Z⟩
def zVB (lo BA BC BD BE:Nat) (y:Int) (BG:Nat) (nP:Int) (qL:oAa) (lO cM:Nat):lNa:=[(5,pq BC 0),(7,pq BE 0),(9,iV y),(10,pq BG 0),(11,iV nP)]
def zKM:Alt:=⟨Unit,(.exit 4),fun t=>zVB lo BA BC BD BE y BG nP qL lO cM,fun t=>[],fun t Z=>Q Z⟩
def zMA:Prop:=qk ql (some lo) yGK 92 (zGA lo BA BC BD BE y BG nP qL lO cM dW) [] [yYC lo BA BC BD BE y BG nP qL lO cM Nx,zKM lo BA BC BD BE y BG nP qL lO cM Q4] Z
def zTB:Prop:=qm ql (some lo) yGK 92 (zGA lo BA BC BD BE y BG nP qL lO cM dW) [] [zKM lo BA BC BD BE y BG nP qL lO cM Q4] Z
def zKO (lo BA BC BD BE:Nat) (y:Int) (BG:Nat) (nP:Int) (qL:oAa) (lO cM:Nat) (Z:St) (Qn:St->Prop):Prop:=∀ g:Nat->Value,∃ an,Hid (kAt Pg ql (some lo) zAA [0,1,1,0,1,0] (yRM [⟨Unit,.normal,fun _=>[],fun _=>[],fun _ Z=>Qn Z⟩]) (.exit 4) ⟨Fm 92 (ov (zVB lo BA BC BD BE y BG nP qL lO cM) g),[]⟩ Z an)
def zVD:Prop:=∀ g:Nat->Value,∃ an,Hid (kAt Pg ql none zSZ [1,1,0,0,1,1,0] (zGF 92 [yBG BA BB BC BD BE ao q3,zEP BA BB BC BD BE ao Q0]) .normal ⟨Fm 92 (ov (zAT BA BB BC BD BE ao dh fD fP) g),ms⟩ Z an)
def zVE:Prop:=∀ g:Nat->Value,∃ an,Hid (kAt Pg ql none (qj 54) [1,1,0,1,0] (qn 54 q5) (.exit 0) ⟨Fm 92 (ov (zVC BA BB BC BD BE ao fi) g),fi⟩ Z an)
def yGJ:Code:=(Code.part [1,1,1,0,1,0,0] (qj 54))
def zFZ (BA BD BE lM:Nat) (fo:List Nat) (dN:Int):lNa:=[(3,pq BA 0),(6,pq BD 0),(7,pq BE 0),(72,iV (lM:Int)),(73,iV dN)]
def yYB:Alt:=⟨Int,.normal,fun t=>zFZ BA BD BE lM fo t,fun t=>fo,fun t Z=>q4 t Z⟩
def zVA (BA BD BE lM:Nat) (fo:List Nat):lNa:=[(6,pq BD 0)]
def zKL:Alt:=⟨Unit,(.exit 6),fun t=>zVA BA BD BE lM fo,fun t=>fo,fun t Z=>Q Z⟩
def zLZ:Prop:=qk ql none yGJ 92 (zFZ BA BD BE lM fo dN) fo [yYB BA BD BE lM fo Nx,zKL BA BD BE lM fo Q6] Z
def zTA:Prop:=qm ql none yGJ 92 (zFZ BA BD BE lM fo dN) fo [zKL BA BD BE lM fo Q6] Z
def zKN:Prop:=∀ g:Nat->Value,∃ an,Hid (kAt Pg ql none (qj 54) [1,1,1,0,1,0] (qn 54 q5) (.exit 6) ⟨Fm 92 (ov (zVA BA BD BE lM fo) g),fo⟩ Z an)
def xLL:Code:=(Code.part [1,0,0] (qj 91))
def zZE:lNa:=[(0,.func (.yield l) ⟨[]⟩ ⟨[]⟩),(2,pz v1),(7,.slice q1 l1 c1),(8,iV (l1:Int)),(9,iV bX)]
def xSY:Alt:=⟨Int,.normal,fun t=>zZE l v1 q1 l1 c1 t,fun t=>[],fun t Z=>q4 t Z⟩
def yNR (l:Nat) (v1:Addr) (q1:oAa) (l1 c1:Nat):lNa:=[]
def zZF:Alt:=⟨Unit,.ret,fun t=>yNR l v1 q1 l1 c1,fun t=>[],fun t Z=>Q Z⟩
def yNS (l:Nat) (v1:Addr) (q1:oAa) (l1 c1:Nat):lNa:=[]
def zZG:Alt:=⟨Unit,(.exit 0),fun t=>yNS l v1 q1 l1 c1,fun t=>[],fun t Z=>Q Z⟩
def yIP:Prop:=qk ql none xLL 26 (zZE l v1 q1 l1 c1 bX) [] [xSY l v1 q1 l1 c1 Nx,zZF l v1 q1 l1 c1 Qr,zZG l v1 q1 l1 c1 q6] Z
def xLM:Prop:=qm ql none xLL 26 (zZE l v1 q1 l1 c1 bX) [] [zZF l v1 q1 l1 c1 Qr,zZG l v1 q1 l1 c1 q6] Z
def xLN:Prop:=kZ ql (qj 91) [1,0] (qn 91 q5) .ret 26 (yNR l v1 q1 l1 c1) Z
def yNT:Prop:=kZ ql (qj 91) [1,0] (qn 91 q5) (.exit 0) 26 (yNS l v1 q1 l1 c1) Z
end
variable {BA BB BC BD BE lo lAB cFB db BG lO cM lBB cX lCB cY lRB cOB lSB cPB lTB cAC lG cG lH cF ac ad aa ab aE aF gt gv lM lUB cQB lVB cRB cS lWB cSB lXB cTB lJB cGB l l1 c1:Nat} {ao dh y aC aP az aA aG nP dW nU nHB nIB nLB nBQ nBR nBS nBT nBU nBV nBW nBX nBY nBZ nBv nBw nBx nBy nBz nB0 nB1 nB2 nB3 nB4 nB5 nB6 nB7 nB8 nA nG nE nI ar ay am dN nEB nJB bX nH nF:Int} {Inv:Nat->Int->St->Prop} {Q0 P0:(List Nat)->St->Prop} {fD fC:FuncId} {fP fg cs1:lVa} {qW_a qL_a qPB_a v1 gA v0:Addr} {g:Nat->Value} {τ Z ZIC ZJC ZBA ZBD ZF Z2 ZBE ZBF ZPB ZBG fX:St} {Qn Q4 P4 Pn Q6 P6 Qr Pr:St->Prop} {qL qX qY qNB qOB qE qF af ae roster truth qQB qRB qR qSB qTB qFB q1:oAa} {Nx:Int->St->Prop} {fi ms fo:List Nat} {Q:vPa}
theorem yJX {Inv:Nat->Int->(List Nat)->St->Prop} (hb:∀ k dh fi Z,Inv k dh fi Z->zTD BA BB BC BD BE ao dh fi Z (NX2 Inv k) Q0):∀ k dh fi Z,Inv k dh fi Z->zTC BA BB BC BD BE ao dh fi Z Q0 :=
 zDU (ai (xZ 0) trivial) hb
theorem yXS:let y0:=(τ.re.row (zF 0 0 0 0 0) 5).own (τ.re.y) (zF aC aP az aA aG) 5;let y1:=zBV BA BB BC BD BE ao dh fD fP g .ready none db;∀ (hl:yJ τ.heap lo=some y1) (hl1:yJ y0.heap lo=some y1) (hZ:Z=y0.put lo (zBV BA BB BC BD BE ao dh fD fP g .busy none db)) (h1:lz Z 26 (qg BB 0) (.slice (some qW_a) lAB cFB)) (h2:lz Z 3 (zJ qW_a (Int.toNat y*1)) (iV nP)) (nx:Qn Z) (u1:Ix y lAB:=by omega) (u2:nP=(-1):=by omega),zFB Pg lo [iV y,qh (zF aC aP az aA aG)] τ (Fm 92 (ov (zAT BA BB BC BD BE ao dh fD fP) g)) [25,26] zBA zAA db [⟨Unit,.normal,fun _=>[],fun _=>[],fun _ Z=>Qn Z⟩] :=
 let y0:=(τ.re.row (zF 0 0 0 0 0) 5).own (τ.re.y) (zF aC aP az aA aG) 5;fun hl hl1 hZ h1 h2 nx u1 u2=>yDF hl rfl hl1 hZ [.g,.g,.e undef y0,.l (.slice (some qW_a) lAB cFB),.g,.i,.l (iV nP),.g,.g,.b true,.fin ⟨Unit,.normal,fun _=>[],fun _=>[],fun _ Z=>Qn Z⟩ ()] (kc (by kernel_rfl) (ai ((zC _ _ _).store (vs:=(zF aC aP az aA aG)) rfl uK rfl (nle rfl) rfl:qq (evL [pq τ.re.y 0,qh (zF aC aP az aA aG)]) (τ.re.row (zF 0 0 0 0 0) 5) (.store 85 (.tmp 0) (.tmp 1))=some (undef,y0)) (ai (ai (rfl:Exit.normal=Exit.normal) (rfl:y0=y0)) (ai h1 (ai u1 (ai h2 (ai (xH u2) (xXZ (alts:=[⟨Unit,.normal,fun _=>[],fun _=>[],fun _ Z=>Qn Z⟩]) ⟨Unit,.normal,fun _=>[],fun _=>[],fun _ Z=>Qn Z⟩ () nx in0))))))))
theorem yJW (hb:∀ k dW Z,Inv k dW Z->zMA lo BA BC BD BE y BG nP qL lO cM dW Z (NX1 Inv k) Q4):∀ k dW Z,Inv k dW Z->zTB lo BA BC BD BE y BG nP qL lO cM dW Z Q4 :=
 xL (ai (xZ 4) trivial) hb
theorem yXY:let s1:=Z.row [.int .u8 0,.nilFunc] 2;let s2:=s1.own Z.y [.int .u8 nU,.func (.func fC) ⟨[]⟩ ⟨fg⟩] 2;∀ (h1:lz Z 118 (zJ qL_a (Int.toNat dW*2)) (qh [.int .u8 nU,.func (.func fC) ⟨[]⟩ ⟨fg⟩])) (h2:lz s2 34 (qg BA 0) (qh (wkc nHB qX lBB cX qY lCB cY nIB nLB nBQ))) (h3:lz s2 85 (qg BG 0) (qh (zF nBR nBS nBT nBU nBV))) (h4:lz s2 107 ⟨BE,0+Int.toNat nP*4,none⟩ (qh (zL nBW nBX nBY nBZ))) (h5:qo fC (qh (wkc nHB qX lBB cX qY lCB cY nIB nLB nBQ)::iV nP::(qh (zF nBR nBS nBT nBU nBV))::(qh (zL nBW nBX nBY nBZ))::fg) s2 (.bool true) s2) (nx:Nx (dW+1) s2) (u1:dW<(lO:Int):=by omega) (u2:Ix dW lO:=by omega) (u3:Ix nP 6:=by omega) (u4:I6 (dW+1):=by omega),zMA lo BA BC BD BE y BG nP (some qL_a) lO cM dW Z Nx Q4:=
 let s1:=Z.row [.int .u8 0,.nilFunc] 2;let s2:=s1.own Z.y [.int .u8 nU,.func (.func fC) ⟨[]⟩ ⟨fg⟩] 2;fun h1 h2 h3 h4 h5 nx u1 u2 u3 u4=>kO 0 (dW+1) [.b true,.i,.l (qh [.int .u8 nU,.func (.func fC) ⟨[]⟩ ⟨fg⟩]),.g,.e undef s2,.g,.l (.func (.func fC) ⟨[]⟩ ⟨fg⟩),.l (qh (wkc nHB qX lBB cX qY lCB cY nIB nLB nBQ)),.g,.l (qh (zF nBR nBS nBT nBU nBV)),.g,.i,.l (qh (zL nBW nBX nBY nBZ)),.c (.bool true) s2,.g,.n (dW+1),.g] (fun _ f=>an5 (zR u1) u2 h1 ((zC _ _ _).store (vs:=[.int .u8 nU,.func (.func fC) ⟨[]⟩ ⟨fg⟩]) rfl zCV rfl (nle rfl) rfl:qq (evL [pq Z.y 0,qh [.int .u8 nU,.func (.func fC) ⟨[]⟩ ⟨fg⟩]]) s1 (.store 118 (.tmp 0) (.tmp 1))=some (undef,s2)) ((zC _ _ _).put.rw.ld yYP (k:=1) rfl:lz s2 116 (qg Z.y 1) (.func (.func fC) ⟨[]⟩ ⟨fg⟩)) (an6 h2 h3 u3 h4 h5 (w64 u4) f)) nx
theorem yXX:let s1:=Z.row [.int .u8 0,.nilFunc] 2;let s2:=s1.own Z.y [.int .u8 nU,.func (.func fC) ⟨[]⟩ ⟨fg⟩] 2;∀ (h1:lz Z 118 (zJ qL_a (Int.toNat dW*2)) (qh [.int .u8 nU,.func (.func fC) ⟨[]⟩ ⟨fg⟩])) (h2:lz s2 34 (qg BA 0) (qh (wkc nHB qX lBB cX qY lCB cY nIB nLB nBQ))) (h3:lz s2 85 (qg BG 0) (qh (zF nBR nBS nBT nBU nBV))) (h4:lz s2 107 ⟨BE,0+Int.toNat nP*4,none⟩ (qh (zL nBW nBX nBY nBZ))) (h5:qo fC (qh (wkc nHB qX lBB cX qY lCB cY nIB nLB nBQ)::iV nP::(qh (zF nBR nBS nBT nBU nBV))::(qh (zL nBW nBX nBY nBZ))::fg) s2 (.bool false) s2) (h6:lz s2 36 (qg BD 0) (.slice qNB lRB cOB)) (h7:yC Pg 36 36 (.slice qNB lRB cOB) (.slice (some ⟨(Z.y+1),0,none⟩) 1 1) (s2.row (rcd nU nP y) 3)=some (.slice qOB lSB cPB,ZIC)) (h8:qq (evL [pq BD 0,.slice qOB lSB cPB]) ZIC (.store 36 (.tmp 0) (.tmp 1))=some (undef,ZJC)) (nx:Nx (dW+1) ZJC) (u1:dW<(lO:Int):=by omega) (u2:Ix dW lO:=by omega) (u3:Ix nP 6:=by omega) (u4:I6 (dW+1):=by omega),zMA lo BA BC BD BE y BG nP (some qL_a) lO cM dW Z Nx Q4:=
 let s1:=Z.row [.int .u8 0,.nilFunc] 2;let s2:=s1.own Z.y [.int .u8 nU,.func (.func fC) ⟨[]⟩ ⟨fg⟩] 2;fun h1 h2 h3 h4 h5 h6 h7 h8 nx u1 u2 u3 u4=>kO 0 (dW+1) [.b true,.i,.l (qh [.int .u8 nU,.func (.func fC) ⟨[]⟩ ⟨fg⟩]),.g,.e undef s2,.g,.l (.func (.func fC) ⟨[]⟩ ⟨fg⟩),.l (qh (wkc nHB qX lBB cX qY lCB cY nIB nLB nBQ)),.g,.l (qh (zF nBR nBS nBT nBU nBV)),.g,.i,.l (qh (zL nBW nBX nBY nBZ)),.c (.bool false) s2,.g,.l (.slice qNB lRB cOB),.g,.l (.int .u8 nU),.g,.g,.g,.g,.e (.slice qOB lSB cPB) ZIC,.e undef ZJC,.n (dW+1),.g] (fun _ f=>an3 (zR u1) u2 h1 (an6 ((zC _ _ _).store (vs:=[.int .u8 nU,.func (.func fC) ⟨[]⟩ ⟨fg⟩]) rfl zCV rfl (nle rfl) rfl:qq (evL [pq Z.y 0,qh [.int .u8 nU,.func (.func fC) ⟨[]⟩ ⟨fg⟩]]) s1 (.store 118 (.tmp 0) (.tmp 1))=some (undef,s2)) ((zC _ _ _).put.rw.ld yYP (k:=1) rfl:lz s2 116 (qg Z.y 1) (.func (.func fC) ⟨[]⟩ ⟨fg⟩)) h2 h3 u3 h4 (an6 h5 h6 ((zC _ _ _).put.rw.ld xVD (k:=0) rfl:lz s2 5 (qg Z.y 0) (.int .u8 nU)) h7 h8 (w64 u4) f))) nx
theorem yXW (nx:Q4 Z) (u1:¬ dW<(lO:Int):=by omega):zMA lo BA BC BD BE y BG nP qL lO cM dW Z Nx Q4 :=
 kO 1 () [.b false] (fun _ f=>ai (zS u1) f) nx
theorem yXR:let y2:=τ.re.y;let y0:=(τ.re.row (zF 0 0 0 0 0) 5).own y2 (zF aC aP az aA aG) 5;let y1:=zBV BA BB BC BD BE ao dh fD fP g .ready none db;∀ (hl:yJ τ.heap lo=some y1) (hl1:yJ y0.heap lo=some y1) (hZ:Z=y0.put lo (zBV BA BB BC BD BE ao dh fD fP g .busy none db)) (h1:lz Z 26 (qg BB 0) (.slice (some qW_a) lAB cFB)) (h2:lz Z 3 (zJ qW_a (Int.toNat y*1)) (iV nP)) (h3:qo 76 [] Z (.slice qL lO cM) ZBA) (hL:zTB lo BA BC BD BE y y2 nP qL lO cM 0 ZBA P4) (k4:∀ Z',P4 Z'->zKO lo BA BC BD BE y y2 nP qL lO cM Z' Qn) (u1:Ix y lAB:=by omega) (u2:¬ nP=(-1):=by omega),zFB Pg lo [iV y,qh (zF aC aP az aA aG)] τ (Fm 92 (ov (zAT BA BB BC BD BE ao dh fD fP) g)) [25,26] zBA zAA db [⟨Unit,.normal,fun _=>[],fun _=>[],fun _ Z=>Qn Z⟩] :=
 let y2:=τ.re.y;let y0:=(τ.re.row (zF 0 0 0 0 0) 5).own y2 (zF aC aP az aA aG) 5;fun hl hl1 hZ h1 h2 h3 hL k4 u1 u2=>yDF hl rfl hl1 hZ [.g,.g,.e undef y0,.l (.slice (some qW_a) lAB cFB),.g,.i,.l (iV nP),.g,.g,.b false,.c (.slice qL lO cM) ZBA,.g,.g,.lf 92 (zGA lo BA BC BD BE y y2 nP qL lO cM 0) [zKM lo BA BC BD BE y y2 nP qL lO cM P4]] (kc (by kernel_rfl) (ai ((zC _ _ _).store (vs:=(zF aC aP az aA aG)) rfl uK rfl (nle rfl) rfl:qq (evL [pq τ.re.y 0,qh (zF aC aP az aA aG)]) (τ.re.row (zF 0 0 0 0 0) 5) (.store 85 (.tmp 0) (.tmp 1))=some (undef,y0)) (ai (ai (rfl:Exit.normal=Exit.normal) (rfl:y0=y0)) (ai h1 (ai u1 (ai h2 (ai (yD u2) (ai h3 (ai (ai tt (ai (arf (zGA lo BA BC BD BE y y2 nP qL lO cM 0)) hL)) (ai (kz0 k4) trivial))))))))))
theorem yJS (h1:lz Z 107 ⟨BE,0+Int.toNat nP*4,none⟩ (qh (zL nBv nBw nBx nBy))) (h2:lz Z 85 (qg BG 0) (qh (zF nBz nB0 nB1 nB2 nB3))) (h3:lz Z 26 (qg BC 0) (.slice (some qPB_a) lTB cAC)) (h4:lz Z 3 (zJ qPB_a (Int.toNat y*1)) (iV nB4)) (h5:qo 77 [qh (zL nBv nBw nBx nBy),qh (zF nBz nB0 nB1 nB2 nB3),iV nB4] Z (qh (zL nB5 nB6 nB7 nB8)) Z) (h6:qq (evL [pq BE (0+Int.toNat nP*4),qh (zL nB5 nB6 nB7 nB8)]) Z (.store 107 (.tmp 0) (.tmp 1))=some (undef,ZBD)) (nx:Qn ZBD) (u1:Ix nP 6:=by omega) (u2:Ix y lTB:=by omega):zKO lo BA BC BD BE y BG nP qL lO cM Z Qn :=
 sK [.g,.g,.i,.l (qh (zL nBv nBw nBx nBy)),.l (qh (zF nBz nB0 nB1 nB2 nB3)),.l (.slice (some qPB_a) lTB cAC),.g,.i,.l (iV nB4),.c (qh (zL nB5 nB6 nB7 nB8)) Z,.i,.e undef ZBD,.fin ⟨Unit,.normal,fun _=>[],fun _=>[],fun _ Z=>Qn Z⟩ ()] (an3 u1 h1 h2 (an6 h3 u2 h4 h5 u1 h6 (xXZ (alts:=[⟨Unit,.normal,fun _=>[],fun _=>[],fun _ Z=>Qn Z⟩]) ⟨Unit,.normal,fun _=>[],fun _=>[],fun _ Z=>Qn Z⟩ () nx in0)))
theorem yYA {Nx:Int->(List Nat)->St->Prop} (h1:lz Z 34 (qg BA 0) (qh (wkc nA qE lG cG qF lH cF nG nE nI))) (h2:qo 75 [qh (wkc nA qE lG cG qF lH cF nG nE nI),iV dh] Z (.func (.func fD) ⟨[]⟩ ⟨fP⟩) ZF) (hL:yGL BA BB BC BD BE ao dh fD fP ZF Pn) (kn:∀ Z',Pn Z'->zVD BA BB BC BD BE ao dh fD fP (ZF.y::fi) Z' Nx Q0) (u1:dh<ao:=by omega):zTD BA BB BC BD BE ao dh fi Z Nx Q0 :=
 zDC [.b true,.g,.g,.l (qh (wkc nA qE lG cG qF lH cF nG nE nI)),.g,.c (.func (.func fD) ⟨[]⟩ ⟨fP⟩) ZF,.rf 92 (zAT BA BB BC BD BE ao dh fD fP) [(.normal,Pn)]] (fun g=>kd (an3 (zR u1) h1 h2 (ai (ai tt (ai (arf (zAT BA BB BC BD BE ao dh fD fP)) hL)) (ai (kz kn) trivial))))
theorem yXZ {Nx:Int->(List Nat)->St->Prop} (nx:Q0 fi Z) (u1:¬ dh<ao:=by omega):zTD BA BB BC BD BE ao dh fi Z Nx Q0 :=
 kO 1 fi [.b false] (fun _ f=>ai (zS u1) f) nx
theorem yJT {Nx:Int->(List Nat)->St->Prop} (nx:Nx (dh+1) ms Z) (u1:I6 (dh+1):=by omega):zVD BA BB BC BD BE ao dh fD fP ms Z Nx Q0 :=
 sF 0 (dh+1,ms) [.n (dh+1),.g] (fun _ f=>ai (w64 u1) f) nx
theorem xHC:let s1:=Z.row (wkc ao af ac ad ae aa ab ar ay am) 6;let s2:=s1.row [.slice roster aE aF] 1;let s3:=s2.row [.slice truth gt gv] 1;let s4:=s3.row [.slice none 0 0] 1;let s5:=Z.y+4;let s6:=Z.y+3;let s7:=Z.y+2;let s8:=Z.y+1;∀ (h1:qo 74 [qh (wkc ao af ac ad ae aa ab ar ay am)] s4 (qh cs1) s4) (h2:qq (evL [pq s5 0,qh cs1]) (s4.row [iV 0,iV 0,iV 0,iV 0,iV 0,iV 0,iV 0,iV 0,iV 0,iV 0,iV 0,iV 0,iV 0,iV 0,iV 0,iV 0,iV 0,iV 0,iV 0,iV 0,iV 0,iV 0,iV 0,iV 0] 4) (.store 109 (.tmp 0) (.tmp 1))=some (undef,Z2)) (h3:lz Z2 3 (qg Z.y 0) (iV ao)) (hL:zTC Z.y s8 s7 s6 s5 ao 0 [] Z2 P0) (k0:∀ ms_1' Z',P0 ms_1' Z'->zVE Z.y s8 s7 s6 s5 ao ms_1' Z' Q),qi 54 [qh (wkc ao af ac ad ae aa ab ar ay am),.slice roster aE aF,.slice truth gt gv] Z Q:=
 let s1:=Z.row (wkc ao af ac ad ae aa ab ar ay am) 6;let s2:=s1.row [.slice roster aE aF] 1;let s3:=s2.row [.slice truth gt gv] 1;let s4:=s3.row [.slice none 0 0] 1;let s5:=Z.y+4;let s6:=Z.y+3;let s7:=Z.y+2;let s8:=Z.y+1;fun h1 h2 h3 hL k0=>zG [.g,.g,.g,.g,.l (qh (wkc ao af ac ad ae aa ab ar ay am)),.c (qh cs1) s4,.g,.e undef Z2,.g,.l (iV ao),.g,.lf 92 (zGB Z.y s8 s7 s6 s5 ao 0 []) [zEP Z.y s8 s7 s6 s5 ao P0]] (kd (an4 ((zC _ _ _).row.row.row.rw.ldN xV xB (k:=0) rfl rfl (nle rfl):lz s4 34 (qg Z.y 0) (qh (wkc ao af ac ad ae aa ab ar ay am))) h1 h2 h3 (ai (ai tt (ai (arf (zGB Z.y s8 s7 s6 s5 ao 0 [])) hL)) (ai (kz1 k0) trivial))))
theorem yJV (hb:∀ k dN Z,Inv k dN Z->zLZ BA BD BE lM fo dN Z (NX1 Inv k) Q6):∀ k dN Z,Inv k dN Z->zTA BA BD BE lM fo dN Z Q6 :=
 xL (ai (xZ 6) trivial) hb
theorem yXV (h1:lz Z 3 ⟨BE,0+Int.toNat dN*4+2,none⟩ (iV nEB)) (h2:lz Z 3 (qg BA 5) (iV nJB)) (h3:lz Z 36 (qg BD 0) (.slice qQB lUB cQB)) (h4:yC Pg 36 36 (.slice qQB lUB cQB) (.slice (some (qg Z.y 0)) 1 1) (Z.row (rcd 5 dN 0) 3)=some (.slice qRB lVB cRB,ZBE)) (h5:qq (evL [pq BD 0,.slice qRB lVB cRB]) ZBE (.store 36 (.tmp 0) (.tmp 1))=some (undef,ZBF)) (nx:Nx (dN+1) ZBF) (u1:dN<(lM:Int):=by omega) (u2:Ix dN 6:=by omega) (u3:nJB<nEB:=by omega) (u4:I6 (dN+1):=by omega):zLZ BA BD BE lM fo dN Z Nx Q6 :=
 kO 0 (dN+1) [.b true,.g,.g,.g,.i,.g,.l (iV nEB),.g,.l (iV nJB),.b true,.l (.slice qQB lUB cQB),.g,.g,.g,.e (.slice qRB lVB cRB) ZBE,.e undef ZBF,.n (dN+1),.g] (fun _ f=>an3 (zR u1) u2 h1 (an6 h2 (zR u3) h3 h4 h5 (w64 u4) f)) nx
theorem yXU (h1:lz Z 3 ⟨BE,0+Int.toNat dN*4+2,none⟩ (iV nEB)) (h2:lz Z 3 (qg BA 5) (iV nJB)) (nx:Nx (dN+1) Z) (u1:dN<(lM:Int):=by omega) (u2:Ix dN 6:=by omega) (u3:¬ nJB<nEB:=by omega) (u4:I6 (dN+1):=by omega):zLZ BA BD BE lM fo dN Z Nx Q6 :=
 kO 0 (dN+1) [.b true,.g,.g,.g,.i,.g,.l (iV nEB),.g,.l (iV nJB),.b false,.n (dN+1),.g] (fun _ f=>an6 (zR u1) u2 h1 h2 (zS u3) (w64 u4) f) nx
theorem yXT (nx:Q6 Z) (u1:¬ dN<(lM:Int):=by omega):zLZ BA BD BE lM fo dN Z Nx Q6 :=
 kO 1 () [.b false] (fun _ f=>ai (zS u1) f) nx
theorem yJU (h1:lz Z 32 (qg BA 2) (.slice qR lM cS)) (hL:zTA BA BD BE lM fi 0 Z P6) (k6:∀ Z',P6 Z'->zKN BA BD BE lM fi Z' Q):zVE BA BB BC BD BE ao fi Z Q :=
 sK [.g,.l (.slice qR lM cS),.g,.g,.lf 92 (zFZ BA BD BE lM fi 0) [zKL BA BD BE lM fi P6]] (ai h1 (ai (ai tt (ai (arf (zFZ BA BD BE lM fi 0)) hL)) (ai (kz0 k6) trivial)))
theorem zQW (h1:lz Z 36 (qg BD 0) (.slice qSB lWB cSB)) (h2:qo 78 [.slice qSB lWB cSB,.func (.func 79) ⟨[]⟩ ⟨[]⟩] Z (.tuple ⟨[]⟩) ZPB) (h3:lz ZPB 36 (qg BD 0) (.slice qTB lXB cTB)) (h4:qq (evL [pq BD 0,.slice qTB lXB cTB]) ZPB (.store 36 (.tmp 0) (.tmp 1))=some (undef,ZBG)) (h5:xCF fo ZBG fX) (h6:lz fX 36 (qg BD 0) (.slice qFB lJB cGB)) (nx:Q (.slice qFB lJB cGB) fX):zKN BA BD BE lM fo Z Q :=
 sK [.l (.slice qSB lWB cSB),.c (.tuple ⟨[]⟩) ZPB,.l (.slice qTB lXB cTB),.e undef ZBG,.l (.slice qFB lJB cGB)] (an4 h1 h2 h3 h4 (zNF (K:=(fun fX=>lz fX 36 (qg BD 0) (.slice qFB lJB cGB)/\Q (.slice qFB lJB cGB) fX)) h5 (ai h6 nx)))
theorem xFJ {Q0:St->Prop} (hb:∀ k bX Z,Inv k bX Z->yIP l v1 q1 l1 c1 bX Z (NX1 Inv k) Qr Q0):∀ k bX Z,Inv k bX Z->xLM l v1 q1 l1 c1 bX Z Qr Q0 :=
 xL (ai zBE (ai (xZ 0) trivial)) hb
theorem xSW {Q0:St->Prop}:let s1:=Z.row (zF 0 0 0 0 0) 5;let s2:=s1.own Z.y (zF nA nH nF nG nE) 5;let y0:=zF nA nH nF nG nE;∀ (h1:lz Z 85 (zJ gA (Int.toNat bX*5)) (qh y0)) (h2:lz s2 3 v1 (iV nI)) (h3:yZE Pg l [iV bX,qh y0] s2 (.bool true) ZF) (nx:Nx (bX+1) ZF) (u1:bX<(l1:Int):=by omega) (u2:Ix bX l1:=by omega) (u3:nA=nI:=by omega) (u4:I6 (bX+1):=by omega),yIP l v1 (some gA) l1 c1 bX Z Nx Qr Q0:=
 let s1:=Z.row (zF 0 0 0 0 0) 5;let s2:=s1.own Z.y (zF nA nH nF nG nE) 5;let y0:=zF nA nH nF nG nE;fun h1 h2 h3 nx u1 u2 u3 u4=>kO 0 (bX+1) [.b true,.g,.i,.l (qh y0),.g,.g,.e undef s2,.g,.l (iV nA),.l (iV nI),.b true,.g,.g,.g,.l (qh y0),.c (.bool true) ZF,.g,.g,.n (bX+1),.g] (fun _ f=>an4 (zR u1) u2 h1 ((zC _ _ _).store (vs:=y0) rfl uK rfl (nle rfl) rfl:qq (evL [pq Z.y 0,qh y0]) s1 (.store 85 (.tmp 0) (.tmp 1))=some (undef,s2)) (an6 ((zC _ _ _).put.rw.ld zU (k:=0) rfl:lz s2 3 (qg Z.y 0) (iV nA)) h2 (xH u3) ((zC _ _ _).put.rw.ldN zNB uK (k:=0) rfl rfl (nle rfl):lz s2 85 (qg Z.y 0) (qh y0)) h3 (w64 u4) f)) nx
theorem xSV {Q0:St->Prop}:let s1:=Z.row (zF 0 0 0 0 0) 5;let s2:=s1.own Z.y (zF nA nH nF nG nE) 5;let y0:=zF nA nH nF nG nE;∀ (h1:lz Z 85 (zJ gA (Int.toNat bX*5)) (qh y0)) (h2:lz s2 3 v1 (iV nI)) (nx:Nx (bX+1) s2) (u1:bX<(l1:Int):=by omega) (u2:Ix bX l1:=by omega) (u3:¬ nA=nI:=by omega) (u4:I6 (bX+1):=by omega),yIP l v1 (some gA) l1 c1 bX Z Nx Qr Q0:=
 let s1:=Z.row (zF 0 0 0 0 0) 5;let s2:=s1.own Z.y (zF nA nH nF nG nE) 5;let y0:=zF nA nH nF nG nE;fun h1 h2 nx u1 u2 u3 u4=>kO 0 (bX+1) [.b true,.g,.i,.l (qh y0),.g,.g,.e undef s2,.g,.l (iV nA),.l (iV nI),.b false,.g,.g,.n (bX+1),.g] (fun _ f=>an2 (zR u1) u2 (an6 h1 ((zC _ _ _).store (vs:=y0) rfl uK rfl (nle rfl) rfl:qq (evL [pq Z.y 0,qh y0]) s1 (.store 85 (.tmp 0) (.tmp 1))=some (undef,s2)) ((zC _ _ _).put.rw.ld zU (k:=0) rfl:lz s2 3 (qg Z.y 0) (iV nA)) h2 (yD u3) (w64 u4) f)) nx
theorem xSU {Q0:St->Prop} (nx:Q0 Z) (u1:¬ bX<(l1:Int):=by omega):yIP l v1 q1 l1 c1 bX Z Nx Qr Q0 :=
 kO 2 () [.b false] (fun _ f=>ai (zS u1) f) nx
theorem xXH {P0:St->Prop} (h1:lz Z 31 (zJ v0 1) (.slice q1 l1 c1)) (hL:xLM l v1 q1 l1 c1 0 Z Pr P0) (kr:∀ Z',Pr Z'->xLN l v1 q1 l1 c1 Z' Q) (k0:∀ Z',P0 Z'->yNT l v1 q1 l1 c1 Z' Q):qi 91 [.func (.yield l) ⟨[]⟩ ⟨[]⟩,pz v0,pz v1] Z Q :=
 zG [.g,.l (.slice q1 l1 c1),.g,.g,.lf 26 (zZE l v1 q1 l1 c1 0) [zZF l v1 q1 l1 c1 Pr,zZG l v1 q1 l1 c1 P0]] (kd (ai h1 (ai (ai tt (ai (arf (zZE l v1 q1 l1 c1 0)) hL)) (ai (kz0 kr) (ai (kz0 k0) trivial)))))
theorem xFI (nx:Q (.tuple ⟨[]⟩) Z):yNT l v1 q1 l1 c1 Z Q :=
 sK [] nx
end
theorem xPK:AppT Tryz.prog 36 36 45 3:=zME (by kernel_rfl)
theorem xOL (b:Bch):zCL Tryz.prog 45 3 (yRB b):=.inr ⟨xPT,yHJ,_,rfl,rfl⟩
structure J (Z:St) (wl:List Value) (rv tv:Value) (X:Nat->Prop) (f:Nat->Std) (A:List Bch) (τ:St):Prop where
 new:New Z.re τ
 wk:Row τ ⟨Z.y,0,none⟩ wl
 ro:Row τ ⟨Z.y+1,0,none⟩ [rv]
 tr:Row τ ⟨Z.y+2,0,none⟩ [tv]
 nw:Own τ (Z.y+4) (stL f) 4
 out:∃ po co,Own τ (Z.y+3) [.slice po A.length co] 1/\Gr Tryz.prog τ (Z.y+5) 45 3 po A.length co (A.map yRB)/\∀ b,AtP po b->¬ X b
section
variable {Z τ τ':St} {wl:List Value} {rv tv:Value} {X:Nat->Prop} {f:Nat->Std} {A:List Bch}
theorem J.le (h:J Z wl rv tv X f A τ) (k:Le τ τ') (n:New Z.re τ'):J Z wl rv tv X f A τ':=by
 obtain ⟨po,co,h1,h2,h3⟩:=h.out;exact ⟨n,h.wk.le k,h.ro.le k,h.tr.le k,h.nw.le k,po,co,h1.le k,h2.le k,h3⟩
theorem J.mono {Y:Nat->Prop} (h:J Z wl rv tv X f A τ) (k:∀ b,b<τ.y->Z.y+5<=b->Y b->X b):J Z wl rv tv Y f A τ:=by
 obtain ⟨po,co,h1,h2,h3⟩:=h.out;exact ⟨h.new,h.wk,h.ro,h.tr,h.nw,po,co,h1,h2,fun b hb hy=>h3 b hb (k b (h2.bd hb).2 (h2.bd hb).1 hy)⟩
theorem J.push (h:J Z wl rv tv X f A τ) (k:Le τ τ') (n:New Z.re τ') (b:Bch) (hA:A.length<=1000) (hX3:¬ X (Z.y+3)) (hX:∀ x,X x->x<τ.y) :
    ∃ po co,zB Tryz.prog τ' 36 ⟨Z.y+3,0,none⟩=some (.slice po A.length co)/\∃ p' c' τ2,yC Tryz.prog 36 36 (.slice po A.length co) (.slice (some ⟨τ'.y,0,none⟩) 1 1) (τ'.row (rcd b.kind b.drv b.dut) 3)=some (.slice p' (A++[b]).length c',τ2) /\
      zQ Tryz.prog (evL [.pointer (some ⟨Z.y+3,0,none⟩),.slice p' (A++[b]).length c']) τ2 (.store 36 (.tmp 0) (.tmp 1))=some (undef,τ2.own (Z.y+3) [.slice p' (A++[b]).length c'] 1) /\
      J Z wl rv tv X f (A++[b]) (τ2.own (Z.y+3) [.slice p' (A++[b]).length c'] 1)/\Only (fun x=>¬ X x) τ' (τ2.own (Z.y+3) [.slice p' (A++[b]).length c'] 1):=by
  obtain ⟨po,co,o,hg,hf⟩:=h.out;have hnx:Z.y+5<=τ.y:=by have:=h.nw.lt;omega
  obtain ⟨p',c',τ2,g1,g2,g3,g4⟩:=yPE (yRB b) xPK hg k (xOL b) (by omega) hnx;have el:(A++[b]).length=A.length+1:=by simp
  rw [<- el] at g1;have g2':Gr Tryz.prog τ2 (Z.y+5) 45 3 p' (A++[b]).length c' ((A++[b]).map yRB):=by rw [el,List.map_append];exact g2
  have hpo:∀ x,AtP po x->Z.y+5<=x:=fun x hx=>(hg.bd hx).1
  have O1:Only (AtP po) τ' τ2:=(Only.row τ' _ _).trans' g3 (fun b _ hb=>.inl hb);have o':Own τ' (Z.y+3) [.slice po A.length co] 1:=o.le k;have o2:Own τ2 (Z.y+3) [.slice po A.length co] 1:=O1.own' o' (fun hx=>by have:=hpo _ hx;omega);have hp':∀ x,AtP p' x->Z.y+5<=x:=fun x hx=>(g2'.bd hx).1
  have nkeep:∀ {a:Addr} {cs:List Value},Row τ a cs->a.block<Z.y+3->Row (τ2.own (Z.y+3) [.slice p' (A++[b]).length c'] 1) a cs:=fun hr hlt=>(O1.rw' (hr.le k) (fun hx=>by have:=hpo _ hx;omega)).own (by omega)
  have O2:Only (fun x=>¬ X x) τ' (τ2.own (Z.y+3) [.slice p' (A++[b]).length c'] 1):=by
    refine (O1.mono (T:=fun x=>¬ X x) (fun x _ hx=>hf x hx)).trans' (Only.own (S:=(·=Z.y+3)) (.inr rfl)) ?_
    rintro x _ rfl;exact .inl hX3
  refine ⟨po,co,o'.ld (k:=0) rfl yRI rfl,p',c',τ2,g1,o2.store (k:=0) (vs:=[.slice p' (A++[b]).length c']) rfl ySM rfl (by simp) rfl,⟨?_,nkeep h.wk (by show Z.y<_;omega),nkeep h.ro (by show Z.y+1<_;omega),nkeep h.tr (by show Z.y+2<_;omega), ?_,p',c',o2.put, ?_, ?_⟩,O2⟩
  · exact (n.of_only O1 (fun x hx=>by have:=hpo x hx;show Z.y<=x;omega)).own (by show Z.y<=Z.y+3;omega)
  · exact (O1.own' (h.nw.le k) (fun hx=>by have:=hpo _ hx;omega)).own (by omega)
  · exact g2'.only (Only.own (S:=(·=Z.y+3)) (.inr rfl)) (fun x hx e=>by have:=hp' x hx;omega)
  · intro x hx hXx;rcases g4 x hx with h1 | h1
    · exact hf x h1 hXx
    · have:=hX x hXx;have:=k.y;omega
theorem J.take (h:J Z wl rv tv X f A τ) {i:Nat} (hi:i<6) (s:Std) (hX4:¬ X (Z.y+4)) :
    zQ Tryz.prog (evL [.pointer (some ⟨Z.y+4,0+Int.toNat (i:Int)*4,none⟩),zMH s]) τ (.store 107 (.tmp 0) (.tmp 1))=some (undef,τ.own (Z.y+4) (stL (upd f i s)) 4) /\
      J Z wl rv tv X (upd f i s) A (τ.own (Z.y+4) (stL (upd f i s)) 4)/\Only (fun x=>¬ X x) τ (τ.own (Z.y+4) (stL (upd f i s)) 4):=by
  obtain ⟨po,co,o,hg,hf⟩:=h.out;refine ⟨ySH h.nw hi s,⟨h.new.own (by show Z.y<=Z.y+4;omega),h.wk.own (by show Z.y≠_;omega),h.ro.own (by show Z.y+1≠_;omega),h.tr.own (by show Z.y+2≠_;omega),h.nw.put,po,co,o.own (by omega), ?_,hf⟩, ?_⟩
  · exact hg.only (Only.own (S:=(·=Z.y+4)) (.inr rfl)) (fun x hx e=>by have:=(hg.bd hx).1;omega)
  · exact (Only.own (S:=(·=Z.y+4)) (.inr rfl)).mono (fun x _ e=>by rw [e];exact hX4)
end
def zMZ (w:Wk) (k i:Nat) (s:Std) (j:Nat):List Bch:=(List.range j).filterMap fun n=>if holds w n (drQ w k) (dtQ w i) s then none else some ⟨n,k,i⟩
theorem xUM {w:Wk} {k i:Nat} {s:Std} {j:Nat}:zMZ w k i s (j+1)=zMZ w k i s j++(if holds w j (drQ w k) (dtQ w i) s then [] else [⟨j,k,i⟩]):=by
 unfold zMZ;rw [List.range_succ,List.filterMap_append];simp only [List.filterMap_cons,List.filterMap_nil];split <;> simp_all
theorem xHB {w:Wk} {k i:Nat} {s:Std} {j:Nat}:(zMZ w k i s j).length<=j:=by
 unfold zMZ;have:=List.length_filterMap_le (fun n=>if holds w n (drQ w k) (dtQ w i) s=true then none else some (⟨n,k,i⟩:Bch)) (List.range j);simpa using this
abbrev yDU:List Value:=[.int .u8 0,.func (.func 92) ⟨[]⟩ ⟨[]⟩,.int .u8 1,.func (.func 93) ⟨[]⟩ ⟨[]⟩,.int .u8 2,.func (.func 94) ⟨[]⟩ ⟨[]⟩,.int .u8 3,.func (.func 95) ⟨[]⟩ ⟨[]⟩,.int .u8 4,.func (.func 96) ⟨[]⟩ ⟨[]⟩]
section
variable {Z τ:St} {w:Wk} {p q:Option Addr} {l m c d:Nat} {rv tv:Value} {X:Nat->Prop} {f:Nat->Std} {A:List Bch}
theorem zVY {b j:Nat} (h:Row τ ⟨b,0,none⟩ yDU) (hj:j<5):zB Tryz.prog τ 118 (zJ ⟨b,0,none⟩ (Int.toNat (j:Int)*2))=some (.agg ⟨[.int .u8 (j:Int),.func (.func (92+j)) ⟨[]⟩ ⟨[]⟩]⟩):=by
 rw [Int.toNat_natCast];match j,hj with
 | 0,_=>exact h.loadN (k:=0) zOO zCV rfl rfl (by simp)
 | 1,_=>exact h.loadN (k:=2) zOO zCV rfl rfl (by simp)
 | 2,_=>exact h.loadN (k:=4) zOO zCV rfl rfl (by simp)
 | 3,_=>exact h.loadN (k:=6) zOO zCV rfl rfl (by simp)
 | 4,_=>exact h.loadN (k:=8) zOO zCV rfl rfl (by simp)
theorem xPG {lo B3 bq k i:Nat} (h:WkP Z 85 88 w p l q m) (hsh:zBC w) (hm:m<=6) (hk:k<m) (hi:i<l) (hs:StOk (f k)) (hx:DtOk (dtQ w i)) (hA:A.length<=500)
  (hJ:J Z (wkc w.days p l c q m d w.rest w.run w.hours) rv tv X f A τ) (hB:Row τ ⟨B3,0,none⟩ (zF (dtQ w i).day (dtQ w i).on (dtQ w i).lo (dtQ w i).hi (dtQ w i).route)) (hq:Row τ ⟨bq,0,none⟩ yDU)
  (hXB:X B3) (hXq:X bq) (hX3:¬ X (Z.y+3)) (hX:∀ x,X x->x<τ.y) :
  zTB lo Z.y (Z.y+2) (Z.y+3) (Z.y+4) (i:Int) B3 (k:Int) (some ⟨bq,0,none⟩) 5 5 0 τ (fun z=>J Z (wkc w.days p l c q m d w.rest w.run w.hours) rv tv X f (A++zMZ w k i (f k) 5) z/\Only (fun x=>¬ X x) τ z):=by
 refine yJW (Inv:=fun k' i35 z=>∃ j:Nat,i35=j/\j+k'=5/\J Z (wkc w.days p l c q m d w.rest w.run w.hours) rv tv X f (A++zMZ w k i (f k) j) z/\Only (fun x=>¬ X x) τ z) ?_ 5 0 τ ⟨0,rfl,rfl,by simpa [zMZ] using hJ,Only.refl _ _⟩;rintro k' i35 z ⟨j,rfl,hk',hJz,O⟩;by_cases hj:j<5;rotate_left
 ·have:j=5:=by omega
  subst this;exact yXW ⟨hJz,O⟩ (by omega)
 have hqz:Row z ⟨bq,0,none⟩ yDU:=O.rw' hq (fun hh=>hh hXq);have hBz:=O.rw' hB (fun hh=>hh hXB);obtain ⟨z1,hz1⟩:∃ z1,z1=(z.row [.int .u8 0,.nilFunc] 2).own z.y [.int .u8 (j:Int),.func (.func (92+j)) ⟨[]⟩ ⟨[]⟩] 2:=⟨_,rfl⟩;have L1:Le z z1:=by rw [hz1];exact (Le.row z [.int .u8 0,.nilFunc] 2).own (Nat.le_refl _)
 have N1:New Z.re z1:=by rw [hz1];exact hJz.new.row'.own hJz.new.le.y
 have O1:Only (fun x=>¬ X x) z z1:=by
  have:New z z1:=by rw [hz1];exact (New.row z [.int .u8 0,.nilFunc] 2).own (Nat.le_refl _)
  exact this.only
 have J1:=hJz.le L1 N1;have LS:Le Z z1:=(le0 Z).trans N1.le;have lw:zB Tryz.prog z1 34 ⟨Z.y,0,none⟩=some (.agg ⟨wkc w.days p l c q m d w.rest w.run w.hours⟩):=J1.wk.ldN (k:=0) xV xB (ds:=wkc w.days p l c q m d w.rest w.run w.hours) rfl rfl (by simp);have lb:zB Tryz.prog z1 85 ⟨B3,0,none⟩=some (zBT (dtQ w i)):=(hBz.le L1).ldN (k:=0) zNB uK (ds:=zF (dtQ w i).day (dtQ w i).on (dtQ w i).lo (dtQ w i).hi (dtQ w i).route) rfl rfl (by simp);have ls:=yHF J1.nw (i:=k) (by omega);have ca:=xVW (c:=c) (d:=d) (h.le LS) hsh hk hs hx hj;have es:=xUM (w:=w) (k:=k) (i:=i) (s:=f k) (j:=j);have hcl:=xHB (w:=w) (k:=k) (i:=i) (s:=f k) (j:=j);cases hb:holds w j (drQ w k) (dtQ w i) (f k) with
 | true =>
  rw [hb] at ca es;rw [if_pos rfl,List.append_nil] at es;rw [hz1] at lw lb ls ca J1 O1;refine yXY (zVY hqz hj) lw lb ls ca ⟨k' - 1,by omega,j+1,by omega,by omega, ?_,O.trans' O1 (fun b _ hb=>.inl hb)⟩ (by omega) (by omega) (by omega) (by omega);rw [es];exact J1
 | false =>
  rw [hb] at ca es;rw [if_neg (by simp)] at es;obtain ⟨po,co,g1,p',c',z2,g2,g3,g4,g5⟩:=hJz.push L1 N1 ⟨j,k,i⟩ (by rw [List.length_append];omega) hX3 (fun x hx=>Nat.lt_of_lt_of_le (hX x hx) O.y);rw [hz1] at lw lb ls ca g1 g2 O1 g5;refine yXX (zVY hqz hj) lw lb ls ca g1 g2 g3 ⟨k' - 1,by omega,j+1,by omega,by omega, ?_,(O.trans' O1 (fun b _ hb=>.inl hb)).trans' g5 (fun b _ hb=>.inl hb)⟩ (by omega) (by omega) (by omega) (by omega);rw [es,<- List.append_assoc];exact g4
end
end Go.Proofs.YtgfiniccfpfplaaGreat
