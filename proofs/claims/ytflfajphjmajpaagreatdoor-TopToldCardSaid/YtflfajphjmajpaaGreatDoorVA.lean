
import Derived.Test.YtflfajphjmajpaaGreatDoorPB
namespace Go.Proofs.YtflfajphjmajpaaGreatDoor
variable {r:Rec} {L:List Rec}
def uS (m:Int):Rec:=⟨m,0,0,0,0,0⟩
def bS (c:Cnt) (r:Rec):Cnt:=if r.k=0 then { c with sales:=c.sales+1,coins:=c.coins+r.b,len:=c.len+1 } else { c with len:=c.len+1 }
def uO (F:Rec) (B:List Rec):Cnt:=B.foldl bS ⟨F.s,F.a,F.b,0,0,0⟩
theorem yGE {F:Rec} {B:List Rec}:uO F (B++[r])=bS (uO F B) r:=by simp [uO]
theorem yGF {L:List Rec} {m:Int}:∀ {i:Nat},(∀ (j:Nat) (x:Rec),j<i->L[j]?=some x->x.m≠m)->wF L m i=c0
 | 0,_=>rfl
 | i+1,h=>by
  have ih:=yGF (L:=L) (m:=m) (i:=i) fun j x hj hx=>h j x (by omega) hx
  cases e:L[i]? with
  | some r=>rw [zNY e,ih];exact if_neg (h i r (by omega) e)
  | none =>
   have:L.length<=i:=List.getElem?_eq_none_iff.1 e;unfold wF at *;rw [List.take_of_length_le (by omega)] at ih ⊢;exact ih
theorem xOV (hs:Srt L) {i:Nat} {x r:Rec} (hx:L[i]?=some x) (hr:L[i+1]?=some r) (hm:x.m≠r.m):∀ (j:Nat) (y:Rec),j<i+1->L[j]?=some y->y.m≠r.m:=fun j y hj hy=>by
 have k1:=yRZ hs hx hr (by omega);by_cases e:j=i
 ·subst e;rw [hx] at hy;cases hy;exact hm
 ·have k2:=yRZ hs hy hx (by omega);unfold wW at *;omega
theorem zEB {i:Nat} {o:List Lk} (h:vH L i=some o) (hr:L[i]?=some r):vH L (i+1)=if r.k=2 then (if zSK (wF L r.m i) r then some (if 0<(zEA (wF L r.m i) r).sales then o++[zEA (wF L r.m i) r] else o) else none) else some o:=by
 show (match vH L i,L[i]? with
  | some o,some r=>if r.k=2 then (if zSK (wF L r.m i) r then some (if 0<(zEA (wF L r.m i) r).sales then o++[zEA (wF L r.m i) r] else o) else none) else some o
  | _,_=>none)=_
 rw [h,hr]
theorem zPQ:∀ {i j:Nat},vH L i=none->i<=j->vH L j=none
 | i,j,h,hij=>by
  obtain ⟨d,rfl⟩:∃ d,j=i+d:=⟨j-i,by omega⟩;induction d with
  | zero=>exact h
  | succ d ih =>
   have:=ih (by omega);show (match vH L (i+d),L[i+d]? with
    | some o,some r=>if r.k=2 then (if zSK (wF L r.m (i+d)) r then some (if 0<(zEA (wF L r.m (i+d)) r).sales then o++[zEA (wF L r.m (i+d)) r] else o) else none) else some o
    | _,_=>none)=none
   rw [this]
end Go.Proofs.YtflfajphjmajpaaGreatDoor
