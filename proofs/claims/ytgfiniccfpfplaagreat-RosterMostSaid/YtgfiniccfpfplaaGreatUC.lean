import Derived.Test.YtgfiniccfpfplaaGreatUA
import Derived.Test.YtgfiniccfpfplaaGreatXE

namespace Go.Proofs.YtgfiniccfpfplaaGreat
open Go Go.Lay
open Tryz renaming prog -> Pg
set_option linter.unusedVariables false
set_option linter.unusedSimpArgs false
set_option maxRecDepth 20000
open Go.Sort (swp)
def Cmp (g:FuncId) (gc:List Value) (lt:Rec->Rec->Bool) (V:Rec->Prop):Prop:=∀ (τ:St) (x y:Rec),V x->V y->∃ n:Int,zD Pg g (zFA x::zFA y::gc) τ (iV n) τ/\(n<0↔lt x y=true)
def xQ (V:Rec->Prop) (d:Array Rec):Prop:=∀ i,i<d.size->V d[i]!
theorem yX (d:Array Rec) (i j:Nat):(swp d i j).size=d.size:=by simp [swp]
theorem yZF (d:Array Rec) (i k:Nat) (x:Rec) (hk:k<d.size):(d.setIfInBounds i x)[k]! = if i=k then x else d[k]! := by
 rw [getElem!_pos _ k (by simpa using hk),getElem!_pos d k hk,Array.getElem_setIfInBounds]
theorem xQ.swp {V:Rec->Prop} {d:Array Rec} (h:xQ V d) {i j:Nat} (hi:i<d.size) (hj:j<d.size):xQ V (swp d i j):=by
 intro k hk;rw [yX] at hk;unfold Go.Sort.swp;rw [yZF _ _ _ _ (by simpa using hk),yZF _ _ _ _ hk];split
 ·exact h i hi
 ·split
  ·exact h j hj
  ·exact h k hk
theorem zET {Z Z':St} {f:FuncId} {args:List Value} {v:Value} (h:zD Pg f args Z v Z'):Z'.low<=Z.low:=by
 obtain ⟨N0,hN0⟩:=h;have hc:=hN0 N0 (Nat.le_refl _);unfold vV at hc;split at hc
 ·cases hc
 ·rename_i v1 s1 h1;unfold vW at hc;rcases Bool.eq_false_or_eq_true (Nat.ble Z.next s1.low && zV RD v1) with e | e
  ·rw [e,cond_true] at hc;simp at hc;rw [<- hc.2];exact Nat.le_refl _
  ·rw [e,cond_false] at hc;rcases Bool.eq_false_or_eq_true (Nat.ble Z.next s1.next) with e2 | e2
   ·rw [e2,cond_true,wC,uU] at hc;simp at hc;rw [<- hc.2];show min _ _<=_;omega
   ·rw [e2,cond_false] at hc;cases hc
theorem mut_c {Z s:St} {f:FuncId} {args:List Value} {v:Value} (h:∃ N0,∀ N,N0<=N->zX Pg N (.func f) args Z.re=some (v,s)) (h1:Z.next<=s.next) (h2:s.low<Z.next):zD Pg f args Z v ⟨s.heap,s.next,min Z.low s.low⟩:=by
 obtain ⟨N0,hN⟩:=h;refine ⟨N0,fun N hl=>?_⟩
 unfold vV;rw [show (⟨Z.heap,Z.next,Z.next⟩:St)=Z.re from rfl,hN N hl];show vW Z v s=_;unfold vW;have e1:(Nat.ble Z.next s.low && zV RD v)=false:=by
  rw [Bool.and_eq_false_iff];left;rw [Bool.eq_false_iff];intro e;have:=(zW _ _).1 e;omega
 have e2:Nat.ble Z.next s.next=true:=(zW _ _).2 h1;rw [e1,cond_false,e2,cond_true,wC,uU]
structure W (Z τ:St) (b:Nat) (s:Option Nat) (d dk:Array Rec):Prop where
 only:Only (·=b) Z.re τ
 dt:Dt τ b s dk
 low:τ.low<=b\/dk=d
theorem W.start {Z:St} {b:Nat} {s:Option Nat} {d:Array Rec} (h:Dt Z b s d):W Z Z.re b s d d:=⟨Only.refl _ _,h,.inr rfl⟩
theorem W.swap {Z τ:St} {b:Nat} {s:Option Nat} {d dk:Array Rec} (w:W Z τ b s d dk) {i j:Int} (h0:0<=i) (hi:i<(dk.size:Int)) (k0:0<=j) (hj:j<(dk.size:Int)) :
  ∃ τ1 τ2,zQ Pg (evL [.pointer (some (zM ⟨b,0,s⟩ (Int.toNat i*3))),zFA dk[j.toNat]!]) τ (.store 45 (.tmp 0) (.tmp 1))=some (undef,τ1) /\
   zQ Pg (evL [.pointer (some (zM ⟨b,0,s⟩ (Int.toNat j*3))),zFA dk[i.toNat]!]) τ1 (.store 45 (.tmp 0) (.tmp 1))=some (undef,τ2)/\W Z τ2 b s d (swp dk i.toNat j.toNat):=by
 obtain ⟨τ1,e1,d1,o1,l1⟩:=w.dt.st dk[j.toNat]! h0 hi;obtain ⟨τ2,e2,d2,o2,l2⟩:=d1.st (i:=j) dk[i.toNat]! k0 (by simpa using hj);exact ⟨τ1,τ2,e1,e2,⟨(w.only.trans' o1 (fun b _ h=>.inl h)).trans' o2 (fun b _ h=>.inl h),d2,.inl l2⟩⟩
def uH (f:FuncId) (args:List Value) (v:Value) (Z:St) (b:Nat) (s:Option Nat) (d d':Array Rec):Prop:=∃ Z',zD Pg f args Z v Z'/\Only (·=b) Z Z'/\Dt Z' b s d'/\(Z'.low<=b\/d'=d)
theorem uH.of {f:FuncId} {args:List Value} {v:Value} {Z:St} {b:Nat} {s:Option Nat} {d d':Array Rec} (h0:Dt Z b s d) (h:zO Pg f args Z.re fun v' τ=>v'=v/\W Z τ b s d d') (hv:zV RD v=true:=by rfl):uH f args v Z b s d d':=by
  obtain ⟨_,τ,hN,rfl,w⟩:=h;by_cases hlow:τ.low<Z.next
  · have ho:Only (·=b) Z ⟨τ.heap,τ.next,min Z.low τ.low⟩:=by
      have:=w.only.lower (m:=0);exact this
    refine ⟨_,mut_c hN w.only.next hlow,ho,w.dt, ?_⟩
    rcases w.low with h | h
    · exact .inl (by show min _ _<=_;omega)
    · exact .inr h
  · have hd:d'=d:=by
      rcases w.low with h | h
      · have:=h0.1;omega
      · exact h
    exact ⟨Z,zO.pure ⟨_,τ,hN,rfl,by omega⟩ hv,Only.refl _ _,by rw [hd];exact h0,.inr hd⟩
theorem W.call {Z τ:St} {b:Nat} {s:Option Nat} {d dk d':Array Rec} {f:FuncId} {args:List Value} {v:Value} (w:W Z τ b s d dk) (h:uH f args v τ b s dk d'):∃ τ',zD Pg f args τ v τ'/\W Z τ' b s d d':=by
 obtain ⟨τ',c,o,dt,hl⟩:=h;refine ⟨τ',c,w.only.trans' o (fun b _ h=>.inl h),dt, ?_⟩
 have:=zET c;rcases hl with hl | hl
 ·exact .inl hl
 ·rcases w.low with h | h
  ·exact .inl (by omega)
  ·exact .inr (hl.trans h)
section
variable {Z:St} {b c:Nat} {s:Option Nat} {d:Array Rec} {g:FuncId} {gc:List Value} {lt:Rec->Rec->Bool} {V:Rec->Prop}
theorem zON (lt:Rec->Rec->Bool) (a:Nat):∀ (j:Nat) (d:Array Rec),(Go.Sort.insInner lt a j d).size=d.size
 | 0,d=>rfl
 | j+1,d=>by
  unfold Go.Sort.insInner;split
  ·rw [zON,yX]
  ·rfl
theorem zQV (lt:Rec->Rec->Bool) (a:Nat) {V:Rec->Prop}:∀ (j:Nat) (d:Array Rec),j<d.size->xQ V d->xQ V (Go.Sort.insInner lt a j d)
 | 0,d,_,h=>h
 | j+1,d,hj,h=>by
  unfold Go.Sort.insInner;split
  ·exact zQV lt a j _ (by rw [yX];omega) (h.swp hj (by omega))
  ·exact h
theorem insS_c {a B:Nat} (h:Dt Z b s d) (hc:Cmp g gc lt V) (hv:xQ V d) (hB:B<=d.size) (hn:d.size<=1000000) (ha:a<=1000000) :
  uH 106 [.slice (some ⟨b,0,s⟩) d.size c,iV (a:Int),iV (B:Int),.func (.func g) ⟨[]⟩ ⟨gc⟩] (.tuple ⟨[]⟩) Z b s d (Go.Sort.insertionSort lt d a B):=by
 refine uH.of h (yYR (P0:=fun τ=>W Z τ b s d (Go.Sort.insertionSort lt d a B)) (zYN (Inv:=fun k i τ=>∃ (j:Nat) (dk:Array Rec),i=j/\k=B-j/\W Z τ b s d dk/\dk.size=d.size/\xQ V dk/\Go.Sort.insOuter lt a B j dk=Go.Sort.insertionSort lt d a B) ?_ (B-(a+1)) _ Z.re ⟨a+1,d,by omega,rfl,W.start h,rfl,hv,rfl⟩) (fun τ hw=>zYM ⟨rfl,hw⟩) (by omega));rintro k i τ ⟨j,dk,rfl,hk,w,hsz,hall,ht⟩;by_cases hj:j<B;rotate_left
 ·rw [Go.Sort.insOuter,if_neg hj] at ht;exact yMY (by rw [<- ht];exact w) (by omega)
 rw [Go.Sort.insOuter,if_pos hj] at ht;refine insS_s1a (P2:=fun τ'=>W Z τ' b s d (Go.Sort.insInner lt a j dk)) (yTZ (Inv:=fun k' q' τ'=>∃ (q:Nat) (dq:Array Rec),q'=q/\q=k'/\q<=j/\W Z τ' b s d dq/\dq.size=d.size/\xQ V dq/\Go.Sort.insInner lt a q dq=Go.Sort.insInner lt a j dk) ?_ j _ τ ⟨j,dk,rfl,rfl,Nat.le_refl _,w,hsz,hall,rfl⟩)
  (fun τ' hw=>yTY ⟨k-1,by omega,j+1,_,by omega,by omega,hw,by rw [zON,hsz],zQV _ _ _ _ (by omega) hall,ht⟩ (by omega)) (by omega)
 rintro k' q' τ' ⟨q,dq,rfl,rfl,hq,w',hsz',hall',ht'⟩;by_cases haq:a<q;rotate_left
 ·refine insS_s2c ?_ (by omega);have e:Go.Sort.insInner lt a q dq=dq:=by
   cases q with
   | zero=>rfl
   | succ q=>unfold Go.Sort.insInner;rw [if_neg (by simp;omega)]
  rw [<- ht',e];exact w'
 obtain ⟨p,rfl⟩:∃ p,q=p+1:=⟨q-1,by omega⟩;have l1:=w'.dt.ld (i:=((p+1:Nat):Int)) (by omega) (by omega);have l2:=w'.dt.ld (i:=((p+1:Nat):Int)-1) (by omega) (by omega);have e2:(((p+1:Nat):Int)-1).toNat=p:=by omega
 obtain ⟨n,hn1,hn2⟩:=hc τ' dq[(((p+1:Nat):Int)).toNat]! dq[(((p+1:Nat):Int)-1).toNat]! (hall' _ (by omega)) (hall' _ (by omega));by_cases hlt:n<0
 ·have hl:=hn2.1 hlt;rw [e2,Int.toNat_natCast] at hl;obtain ⟨τ1,τ2,s1,s2,w2⟩:=w'.swap (i:=((p+1:Nat):Int)) (j:=((p+1:Nat):Int)-1) (by omega) (by omega) (by omega) (by omega);rw [e2,Int.toNat_natCast] at w2;refine insS_s2a l1 l2 hn1 s1 s2 ⟨p,by omega,p,_,by omega,rfl,by omega,w2,by rw [yX,hsz'],hall'.swp (by omega) (by omega), ?_⟩ (by omega) (by omega) (by omega) (by omega) (by omega);rw [<- ht'];conv=>rhs;unfold Go.Sort.insInner
  rw [if_pos (by simp [hl];omega)]
 ·have hl:lt dq[p+1]! dq[p]! = false:=by
   rw [Bool.eq_false_iff];intro e;have:=hn2.2 (by rw [e2,Int.toNat_natCast];exact e);exact hlt this
  refine insS_s2b l1 l2 hn1 ?_ (by omega) (by omega) (by omega) (by omega) (by omega);have e:Go.Sort.insInner lt a (p+1) dq=dq:=by unfold Go.Sort.insInner;rw [if_neg (by simp [hl])]
  rw [<- ht',e];exact w'
end
end Go.Proofs.YtgfiniccfpfplaaGreat

namespace Go.Proofs.YtgfiniccfpfplaaGreat
open Go Go.Lay
set_option linter.unusedVariables false
set_option linter.unusedSimpArgs false
set_option maxRecDepth 20000
open Go.Sort (swp)
section
variable {Z:St} {b c:Nat} {s:Option Nat} {d:Array Rec} {g:FuncId} {gc:List Value} {lt:Rec->Rec->Bool} {V:Rec->Prop}
theorem Cmp.at_ (hc:Cmp g gc lt V) {τ:St} {dk:Array Rec} (hv:xQ V dk) {i j:Nat} (hi:i<dk.size) (hj:j<dk.size):∃ n:Int,zD Tryz.prog g (zFA dk[i]! :: zFA dk[j]! :: gc) τ (iV n) τ/\((n<0/\lt dk[i]! dk[j]! = true)\/(¬ n<0/\lt dk[i]! dk[j]! = false)):=by
 obtain ⟨n,h1,h2⟩:=hc τ dk[i]! dk[j]! (hv i hi) (hv j hj);refine ⟨n,h1, ?_⟩
 by_cases h:n<0
 ·exact .inl ⟨h,h2.1 h⟩
 ·exact .inr ⟨h,by rw [Bool.eq_false_iff];exact fun e=>h (h2.2 e)⟩
theorem Dt.ldN {τ:St} {dk:Array Rec} (h:Dt τ b s dk) {i:Int} {k:Nat} (e:i=(k:Int)) (hk:k<dk.size):zB Tryz.prog τ 45 (zM ⟨b,0,s⟩ (Int.toNat i*3))=some (zFA dk[k]!):=by
 subst e;exact h.ld (by omega) (by omega)
theorem W.swapN {τ:St} {dk:Array Rec} (w:W Z τ b s d dk) {i j:Int} {p q:Nat} (ei:i=(p:Int)) (ej:j=(q:Int)) (hp:p<dk.size) (hq:q<dk.size) :
  ∃ τ1 τ2,zQ Tryz.prog (evL [.pointer (some (zM ⟨b,0,s⟩ (Int.toNat i*3))),zFA dk[q]!]) τ (.store 45 (.tmp 0) (.tmp 1))=some (undef,τ1) /\
   zQ Tryz.prog (evL [.pointer (some (zM ⟨b,0,s⟩ (Int.toNat j*3))),zFA dk[p]!]) τ1 (.store 45 (.tmp 0) (.tmp 1))=some (undef,τ2)/\W Z τ2 b s d (swp dk p q):=by
 subst ei ej;have:=w.swap (i:=(p:Int)) (j:=(q:Int)) (by omega) (by omega) (by omega) (by omega);simpa only [Int.toNat_natCast] using this
theorem yKH (lt:Rec->Rec->Bool) (hi first root:Nat) (d:Array Rec):Go.Sort.siftDown lt hi first root d=(if 2*root+1 ≥ hi then d else
  if 2*root+1+1<hi && lt d[first+(2*root+1)]! d[first+(2*root+1)+1]! then
   if !lt d[first+root]! d[first+(2*root+2)]! then d else
    if 2*root+2<hi then Go.Sort.siftDown lt hi first (2*root+2) (swp d (first+root) (first+(2*root+2))) else d
  else
   if !lt d[first+root]! d[first+(2*root+1)]! then d else Go.Sort.siftDown lt hi first (2*root+1) (swp d (first+root) (first+(2*root+1)))):=by
 conv=>lhs;unfold Go.Sort.siftDown
 simp only [dite_eq_ite]
theorem zCB (lt:Rec->Rec->Bool) (hi first:Nat):∀ (k root:Nat) (d:Array Rec),hi-root<=k->(Go.Sort.siftDown lt hi first root d).size=d.size
 | 0,root,d,hk=>by unfold Go.Sort.siftDown;rw [dif_pos (by omega)]
 | k+1,root,d,hk=>by
  unfold Go.Sort.siftDown;split
  ·rfl
  ·split
   ·split
    ·rfl
    ·split
     ·rw [zCB lt hi first k _ _ (by omega),yX]
     ·rfl
   ·split
    ·rfl
    ·rw [zCB lt hi first k _ _ (by omega),yX]
theorem zCX (lt:Rec->Rec->Bool) (hi first:Nat) {V:Rec->Prop}:∀ (k root:Nat) (d:Array Rec),hi-root<=k->first+hi<=d.size->xQ V d->xQ V (Go.Sort.siftDown lt hi first root d)
 | 0,root,d,hk,hs,h=>by unfold Go.Sort.siftDown;rw [dif_pos (by omega)];exact h
 | k+1,root,d,hk,hs,h=>by
  unfold Go.Sort.siftDown;split
  ·exact h
  ·rename_i h1;split
   ·split
    ·exact h
    ·split
     ·rename_i h2;exact zCX lt hi first k _ _ (by omega) (by rw [yX];exact hs) (h.swp (by omega) (by omega))
     ·exact h
   ·split
    ·exact h
    ·exact zCX lt hi first k _ _ (by omega) (by rw [yX];exact hs) (h.swp (by omega) (by omega))
theorem yXN {lo hi first:Nat} (h:Dt Z b s d) (hc:Cmp g gc lt V) (hv:xQ V d) (hB:first+hi<=d.size) (hn:d.size<=1000000) (hlo:lo<=1000000) :
  uH 121 [.slice (some ⟨b,0,s⟩) d.size c,iV (lo:Int),iV (hi:Int),iV (first:Int),.func (.func g) ⟨[]⟩ ⟨gc⟩] (.tuple ⟨[]⟩) Z b s d (Go.Sort.siftDown lt hi first lo d):=by
 refine uH.of h (siftD_ra (P0:=fun τ=>W Z τ b s d (Go.Sort.siftDown lt hi first lo d)) (Pr:=fun τ=>W Z τ b s d (Go.Sort.siftDown lt hi first lo d)) (yKK (Inv:=fun k i τ=>∃ (r:Nat) (dk:Array Rec),i=r/\k=hi-r/\r<=1000000+2*hi+2/\W Z τ b s d dk/\dk.size=d.size/\xQ V dk/\Go.Sort.siftDown lt hi first r dk=Go.Sort.siftDown lt hi first lo d) ?_ (hi-lo) _ Z.re ⟨lo,d,rfl,rfl,by omega,W.start h,rfl,hv,rfl⟩) (fun τ hw=>yKJ ⟨rfl,hw⟩) (fun τ hw=>yKI ⟨rfl,hw⟩));rintro k i τ ⟨r,dk,rfl,hk,hr,w,hsz,hall,ht⟩;by_cases h1:2*r+1 ≥ hi
 ·have e:Go.Sort.siftDown lt hi first r dk=dk:=by unfold Go.Sort.siftDown;rw [dif_pos h1]
  exact siftD_s1a (by rw [<- ht,e];exact w) (by omega) (by omega) (by omega)
 have e0:=yKH lt hi first r dk
 rw [if_neg h1] at e0;have bR:first+r<dk.size:=by omega
 have bC:first+(2*r+1)<dk.size:=by omega
 have lR:=w.dt.ldN (i:=(first:Int)+(r:Int)) (k:=first+r) (by omega) bR;have lC:=w.dt.ldN (i:=(first:Int)+(2*(r:Int)+1)) (k:=first+(2*r+1)) (by omega) bC;obtain ⟨nC,cC,hC⟩:=hc.at_ (τ:=τ) hall bR bC;by_cases h2:2*r+1+1<hi
 ·have bD:first+(2*r+2)<dk.size:=by omega
  have lD1:=w.dt.ldN (i:=(first:Int)+(2*(r:Int)+1)+1) (k:=first+(2*r+2)) (by omega) bD;have lD2:=w.dt.ldN (i:=(first:Int)+(2*(r:Int)+1+1)) (k:=first+(2*r+2)) (by omega) bD;obtain ⟨n1,c1,hc1⟩:=hc.at_ (τ:=τ) hall bC bD;obtain ⟨n2,c2,hc2⟩:=hc.at_ (τ:=τ) hall bR bD;have eD:first+(2*r+1)+1=first+(2*r+2):=by omega
  rcases hc1 with ⟨m1,l1⟩ | ⟨m1,l1⟩
  ·rw [if_pos (by simp [h2,eD,l1])] at e0;rcases hc2 with ⟨m2,l2⟩ | ⟨m2,l2⟩
   ·rw [if_neg (by simp [l2]),if_pos (by omega)] at e0;obtain ⟨τ1,τ2,s1,s2,w2⟩:=w.swapN (i:=(first:Int)+(r:Int)) (j:=(first:Int)+(2*(r:Int)+1+1)) (p:=first+r) (q:=first+(2*r+2)) (by omega) (by omega) bR bD;exact siftD_s1b lC lD1 c1 lR lD2 c2 s1 s2 ⟨hi-(2*r+2),by omega,2*r+2,_,by omega,rfl,by omega,w2,by rw [yX,hsz],hall.swp bR bD,by rw [<- e0,ht]⟩ (by omega) (by omega) (by omega) (by omega) (by omega) (by omega) (by omega) (by omega) (by omega) (by omega) (by omega) (by omega) (by omega) (by omega) (by omega)
   ·rw [if_pos (by simp [l2])] at e0;exact siftD_s1c lC lD1 c1 lR lD2 c2 (by rw [<- ht,e0];exact w)
  ·rw [if_neg (by simp [eD,l1])] at e0;rcases hC with ⟨m2,l2⟩ | ⟨m2,l2⟩
   ·rw [if_neg (by simp [l2])] at e0;obtain ⟨τ1,τ2,s1,s2,w2⟩:=w.swapN (i:=(first:Int)+(r:Int)) (j:=(first:Int)+(2*(r:Int)+1)) (p:=first+r) (q:=first+(2*r+1)) (by omega) (by omega) bR bC;exact siftD_s1d lC lD1 c1 lR cC s1 s2 ⟨hi-(2*r+1),by omega,2*r+1,_,by omega,rfl,by omega,w2,by rw [yX,hsz],hall.swp bR bC,by rw [<- e0,ht]⟩
   ·rw [if_pos (by simp [l2])] at e0;exact siftD_s1e lC lD1 c1 lR cC (by rw [<- ht,e0];exact w)
 ·rw [if_neg (by simp [show ¬ 2*r+1+1<hi from h2])] at e0;rcases hC with ⟨m2,l2⟩ | ⟨m2,l2⟩
  ·rw [if_neg (by simp [l2])] at e0;obtain ⟨τ1,τ2,s1,s2,w2⟩:=w.swapN (i:=(first:Int)+(r:Int)) (j:=(first:Int)+(2*(r:Int)+1)) (p:=first+r) (q:=first+(2*r+1)) (by omega) (by omega) bR bC;exact siftD_s1f lR lC cC s1 s2 ⟨hi-(2*r+1),by omega,2*r+1,_,by omega,rfl,by omega,w2,by rw [yX,hsz],hall.swp bR bC,by rw [<- e0,ht]⟩
  ·rw [if_pos (by simp [l2])] at e0;exact siftD_s1g lR lC cC (by rw [<- ht,e0];exact w)
end
end Go.Proofs.YtgfiniccfpfplaaGreat
