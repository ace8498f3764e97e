
import Derived.Test.YtflfajphjmajpaaGreatDoorMG
import Derived.Test.YtflfajphjmajpaaGreatDoorVA
namespace Go.Proofs.YtflfajphjmajpaaGreatDoor
variable {A:List Int} {xs:List Tp} {x:Rec} {m:Int} {L:List Rec} {o:List Lk}
def prT (A:List Int) (x:Tp):Int:=A.getD (x.r.b-x.r.a).toNat 0
def uK (A:List Int) (xs:List Tp) (m:Int):Int:=((xs.filter fun x=>decide (x.m=m)).map (prT A)).sum
theorem zCG {x:Tp}:uK A (xs++[x]) m=uK A xs m+if x.m=m then prT A x else 0:=by
 unfold uK;rw [List.filter_append,List.map_append,List.sum_append];by_cases h:x.m=m <;> simp [h]
theorem zHM (xs:List Tp):(∀ x∈xs,0<=prT A x/\prT A x<=10000)->0<=uK A xs m/\uK A xs m<=10000*(xF xs m:Int):=by
 refine zAU (P:=fun xs=>(∀ x∈xs,0<=prT A x/\prT A x<=10000)->0<=uK A xs m/\uK A xs m<=10000*(xF xs m:Int)) (fun _=>by simp [uK,xF]) (fun xs x ih h=>?_) xs;have h1:=ih fun y hy=>h y (List.mem_append_left _ hy)
 have h2:=h x (by simp);rw [zCG,zAN];split <;> omega
def zGB (A:List Int) (x:Tp):Rec:=⟨x.m,x.n+1,10*x.n,0,x.r.a,prT A x⟩
def zBJ (A:List Int) (all:List Tp) (m:Nat):Rec:=⟨m,xF all m+1,10*xF all m,2,xF all m,uK A all m⟩
def zGV (A:List Int) (all ks:List Tp) (j:Nat):List Rec:=ks.map (zGB A)++(List.range j).map (zBJ A all)
structure Split (A:List Int) (all ks ls:List Tp):Prop where
 sub:ks.Sublist all
 cnt:∀ m,xF all m=xF ks m+xF ls m
 sum:∀ m,uK A all m=uK A ks m+uK A ls m
 prl:∀ x∈ls,0<=prT A x/\prT A x<=10000
def zXI (A:List Int) (all ks:List Tp):Nat->List Rec
 | 0=>[]
 | j+1=>zXI A all ks j++(((ks.filter fun x=>decide (x.m=(j:Int))).map (zGB A))++[zBJ A all j])
def lkT (A:List Int) (all ls:List Tp) (m:Nat):Lk:=⟨m,0,xF all m+1,xF ls m,uK A ls m⟩
def zUZ (A:List Int) (all ls:List Tp):Nat->List Lk
 | 0=>[]
 | j+1=>if 0<xF ls j then zUZ A all ls j++[lkT A all ls j] else zUZ A all ls j
def zTF (L:List Rec) (m:Int):Cnt:=L.foldl (yPA m) c0
theorem xDX {M:List Rec}:wF (L++M) m L.length=zTF L m:=by
 unfold wF zTF;rw [List.take_append_of_le_length (Nat.le_refl _),List.take_length]
theorem zUK {L M:List Rec}:∀ {i:Nat},i<=L.length->vH (L++M) i=vH L i
 | 0,_=>rfl
 | i+1,h=>by
  have e:wF (L++M)=fun m j=>((L++M).take j).foldl (yPA m) c0:=rfl
  show (match vH (L++M) i,(L++M)[i]? with
   | some o,some r=>if r.k=2 then (if zSK (wF (L++M) r.m i) r then some (if 0<(zEA (wF (L++M) r.m i) r).sales then o++[zEA (wF (L++M) r.m i) r] else o) else none) else some o
   | _,_=>none)=match vH L i,L[i]? with
   | some o,some r=>if r.k=2 then (if zSK (wF L r.m i) r then some (if 0<(zEA (wF L r.m i) r).sales then o++[zEA (wF L r.m i) r] else o) else none) else some o
   | _,_=>none
  have e2:∀ m,wF (L++M) m i=wF L m i:=fun m=>by
   unfold wF;rw [List.take_append_of_le_length (by omega)]
  rw [zUK (by omega),List.getElem?_append_left (by omega)];simp only [e2]
theorem zXT (h:uR L=some o):uR (L++[x])=if x.k=2 then (if zSK (zTF L x.m) x then some (if 0<(zEA (zTF L x.m) x).sales then o++[zEA (zTF L x.m) x] else o) else none) else some o:=by
 have h1:vH (L++[x]) L.length=some o:=by rw [zUK (Nat.le_refl _)];exact h
 have h2:(L++[x])[L.length]?=some x:=by simp
 have:=zEB h1 h2;rw [xDX] at this;unfold uR;rw [List.length_append];exact this
theorem yGG:zTF (L++[x]) m=yPA m (zTF L m) x:=by simp [zTF]
theorem xDY (L:List Rec):(∀ x∈L,x.m≠m)->zTF L m=c0:=by
 refine zAU (P:=fun L=>(∀ x∈L,x.m≠m)->zTF L m=c0) (fun _=>rfl) (fun L x ih h=>?_) L;rw [yGG,ih fun y hy=>h y (List.mem_append_left _ hy)];exact if_neg (h x (by simp))
theorem xRU {pre:List Rec} (h:uR pre=some o) (hp:∀ x∈pre,x.m≠m) (B:List Tp):uR (pre++(B.filter fun x=>decide (x.m=m)).map (zGB A))=some o/\zTF (pre++(B.filter fun x=>decide (x.m=m)).map (zGB A)) m=⟨0,0,0,xF B m,uK A B m,xF B m⟩:=by
 refine zAU (P:=fun B:List Tp=>uR (pre++(B.filter fun x=>decide (x.m=m)).map (zGB A))=some o/\zTF (pre++(B.filter fun x=>decide (x.m=m)).map (zGB A)) m=⟨0,0,0,xF B m,uK A B m,xF B m⟩) ⟨by simpa using h,by have:=xDY pre hp;unfold c0 at this;simpa [xF,uK] using this⟩ (fun B x ih=>?_) B;rw [List.filter_append,zAN,zCG];by_cases hx:x.m=m
 ·have e:[x].filter (fun x=>decide (x.m=m))=[x]:=by simp [hx]
  rw [e,List.map_append,<- List.append_assoc,if_pos hx,if_pos hx];obtain ⟨i1,i2⟩:=ih;refine ⟨?_, ?_⟩
  ·rw [List.map_singleton,zXT i1,if_neg (show ¬ (zGB A x).k=2 by show ¬ (0:Int)=2;omega)]
  ·rw [List.map_singleton,yGG,i2];unfold yPA;rw [if_pos (show (zGB A x).m=m from hx),if_neg (show ¬ (zGB A x).k=2 by show ¬ (0:Int)=2;omega),if_pos (show (zGB A x).k=0 from rfl)];simp [zGB]
 ·have e:[x].filter (fun x=>decide (x.m=m))=[]:=by simp [hx]
  rw [e,List.append_nil,if_neg hx,if_neg hx];simpa using ih
section
variable {A:List Int} {all ks ls:List Tp}
theorem yTG:∀ {j:Nat} {x:Rec},x∈zXI A all ks j->0<=x.m/\x.m<j
 | 0,x,h=>by cases h
 | j+1,x,h=>by
  unfold zXI at h;simp only [List.mem_append,List.mem_map,List.mem_filter,List.mem_singleton] at h;rcases h with h | ⟨y,⟨_,hy⟩,rfl⟩ | rfl
  ·have:=yTG h;omega
  ·have:y.m=(j:Int):=by simpa using hy
   show 0<=y.m/\y.m<_;omega
  ·show 0<=(j:Int)/\(j:Int)<_;omega
theorem yYL (hS:Split A all ks ls):∀ j:Nat,uR (zXI A all ks j)=some (zUZ A all ls j)
 | 0=>rfl
 | j+1=>by
  obtain ⟨h1,h2⟩:=xRU (A:=A) (yYL hS j) (m:=(j:Int)) (fun x hx=>by have:=yTG hx;omega) ks;unfold zXI zUZ;rw [<- List.append_assoc,zXT h1,if_pos (show (zBJ A all j).k=2 from rfl)];have e:zTF (zXI A all ks j++(ks.filter fun x=>decide (x.m=(j:Int))).map (zGB A)) (zBJ A all j).m=⟨0,0,0,xF ks j,uK A ks j,xF ks j⟩:=h2;have hc:=hS.cnt j;have hs:=hS.sum j;have hb:=zHM (m:=(j:Int)) ls hS.prl;have el:zEA ⟨0,0,0,xF ks j,uK A ks j,xF ks j⟩ (zBJ A all j)=lkT A all ls j:=by
   unfold zEA zBJ lkT;simp only [Lk.mk.injEq,true_and];refine ⟨?_, ?_⟩
   ·omega
   ·omega
  have eo:zSK ⟨0,0,0,xF ks j,uK A ks j,xF ks j⟩ (zBJ A all j)=true:=by
   unfold zSK;rw [el];simp only [Bool.and_eq_true,decide_eq_true_eq];refine ⟨⟨⟨?_, ?_⟩, ?_⟩, ?_⟩
   ·show (0:Int)<=(xF ls j:Int);omega
   ·show (xF ls j:Int)<=(xF all j:Int)+1-0-1-(xF ks j:Int);omega
   ·exact hb.1
   ·exact hb.2
  rw [e,eo,if_pos rfl,el];have:(0<(lkT A all ls j).sales)=(0<xF ls j):=by
   show (0<(xF ls j:Int))=_;simp
  simp only [this]
theorem yLK (hk:∀ x∈ks,0<=x.m/\x.m<=3) {x:Rec}:∀ {j:Nat},x∈zXI A all ks j↔(∃ y∈ks,y.m<j/\x=zGB A y)\/∃ m,m<j/\x=zBJ A all m
 | 0=>by
  constructor
  ·intro h;cases h
  ·rintro (⟨y,hy,h,_⟩ | ⟨m,h,_⟩)
   ·have:=hk y hy;omega
   ·omega
 | j+1=>by
  unfold zXI;simp only [List.mem_append,List.mem_map,List.mem_filter,List.mem_singleton,yLK hk (j:=j),decide_eq_true_eq];constructor
  ·rintro ((⟨y,hy,h,rfl⟩ | ⟨m,h,rfl⟩) | ⟨y,⟨hy,h⟩,rfl⟩ | rfl)
   ·exact .inl ⟨y,hy,by omega,rfl⟩
   ·exact .inr ⟨m,by omega,rfl⟩
   ·exact .inl ⟨y,hy,by omega,rfl⟩
   ·exact .inr ⟨j,by omega,rfl⟩
  ·rintro (⟨y,hy,h,rfl⟩ | ⟨m,h,rfl⟩)
   ·by_cases e:y.m=(j:Int)
    ·exact .inr (.inl ⟨y,⟨hy,e⟩,rfl⟩)
    ·exact .inl (.inl ⟨y,hy,by omega,rfl⟩)
   ·by_cases e:m=j
    ·subst e;exact .inr (.inr rfl)
    ·exact .inl (.inr ⟨m,by omega,rfl⟩)
theorem zSD (hn:Nmd all) {x:Tp} (hx:x∈all):0<=x.n/\x.n<(xF all x.m:Int):=by
 obtain ⟨i,hi,rfl⟩:=List.mem_iff_getElem.1 hx;exact hn.lt (List.getElem?_eq_getElem hi)
theorem xWC (h:xs.Pairwise fun x y=>x.m=y.m->x.n<y.n) {x y:Tp} (hx:x∈xs) (hy:y∈xs) (hm:x.m=y.m) (hn:x.n=y.n):x=y:=by
 obtain ⟨i,hi,rfl⟩:=List.mem_iff_getElem.1 hx;obtain ⟨j,hj,rfl⟩:=List.mem_iff_getElem.1 hy;rcases Nat.lt_trichotomy i j with q | q | q
 ·have:=List.pairwise_iff_getElem.1 h i j hi hj q hm;omega
 ·subst q;rfl
 ·have:=List.pairwise_iff_getElem.1 h j i hj hi q hm.symm;omega
theorem yLJ (hn:Nmd all) (hs:ks.Sublist all):∀ j,Srt (zXI A all ks j)
 | 0=>.nil
 | j+1=>by
  unfold zXI;have hp:ks.Pairwise fun x y=>x.m=y.m->x.n<y.n:=hn.inc.sublist hs
  have hB:(((ks.filter fun x=>decide (x.m=(j:Int))).map (zGB A))++[zBJ A all j]).Pairwise wW:=by
   refine List.pairwise_append.2 ⟨List.pairwise_map.2 ?_,List.pairwise_singleton _ _,fun a ha b hb=>?_⟩
   ·refine (List.Pairwise.and_mem.1 (hp.sublist List.filter_sublist)).imp fun {a b} ⟨ha,hb,h⟩=>?_
    have e1:a.m=(j:Int):=by simpa using (List.mem_filter.1 ha).2
    have e2:b.m=(j:Int):=by simpa using (List.mem_filter.1 hb).2
    have:=h (by omega);exact .inr ⟨by show a.m=b.m;omega,by show a.n+1<b.n+1;omega⟩
   ·obtain ⟨y,hy,rfl⟩:=List.mem_map.1 ha;rw [List.mem_singleton.1 hb];obtain ⟨hy,e⟩:=List.mem_filter.1 hy;have e:y.m=(j:Int):=by simpa using e
    have:=zSD hn (hs.subset hy);rw [e] at this;exact .inr ⟨e,by show y.n+1<(xF all j:Int)+1;omega⟩
  refine List.pairwise_append.2 ⟨yLJ hn hs j,hB,fun a ha b hb=>?_⟩;have h1:=yTG ha;have h2:b.m=(j:Int):=by
   rcases List.mem_append.1 hb with hb | hb
   ·obtain ⟨y,hy,rfl⟩:=List.mem_map.1 hb;show y.m=(j:Int);simpa using (List.mem_filter.1 hy).2
   ·rw [List.mem_singleton.1 hb];rfl
  exact .inl (by omega)
theorem xPZ (hk:∀ x∈ks,0<=x.m/\x.m<=3) {x:Rec}:x∈zXI A all ks 4↔x∈zGV A all ks 4:=by
 rw [yLK hk];unfold zGV;simp only [List.mem_append,List.mem_map,List.mem_range];constructor
 ·rintro (⟨y,hy,_,rfl⟩ | ⟨m,h,rfl⟩)
  ·exact .inl ⟨y,hy,rfl⟩
  ·exact .inr ⟨m,h,rfl⟩
 ·rintro (⟨y,hy,rfl⟩ | ⟨m,h,rfl⟩)
  ·exact .inl ⟨y,hy,by have:=hk y hy;omega,rfl⟩
  ·exact .inr ⟨m,h,rfl⟩
theorem yMD (hn:Nmd all) (hs:ks.Sublist all):zLF (zGV A all ks 4):=by
 have hp:ks.Pairwise fun x y=>x.m=y.m->x.n<y.n:=hn.inc.sublist hs
 have ht:∀ x∈zGV A all ks 4,x.t=10*(x.s-1):=by
  intro x hx;unfold zGV at hx;simp only [List.mem_append,List.mem_map] at hx;rcases hx with ⟨y,_,rfl⟩ | ⟨m,_,rfl⟩
  ·show 10*y.n=10*(y.n+1-1);omega
  ·show 10*(xF all m:Int)=10*((xF all m:Int)+1-1);omega
 have hu:∀ x∈zGV A all ks 4,∀ y∈zGV A all ks 4,x.m=y.m->x.s=y.s->x=y:=by
  intro x hx y hy hm e;unfold zGV at hx hy;simp only [List.mem_append,List.mem_map] at hx hy;have key:∀ (a:Tp) (m:Nat),a∈ks->(zGB A a).m=(zBJ A all m).m->(zGB A a).s=(zBJ A all m).s->False:=by
   intro a m ha h1 h2;have h1:a.m=(m:Int):=h1;have h2:a.n+1=(xF all m:Int)+1:=h2;have:=zSD hn (hs.subset ha);rw [h1] at this;omega
  rcases hx with ⟨a,ha,rfl⟩ | ⟨m,_,rfl⟩ <;> rcases hy with ⟨b,hb,rfl⟩ | ⟨m',_,rfl⟩
  ·have h2:a.n+1=b.n+1:=e;rw [xWC hp ha hb hm (by omega)]
  ·exact (key a m' ha hm e).elim
  ·exact (key b m hb hm.symm e.symm).elim
  ·have:(m:Int)=(m':Int):=hm;rw [show m=m' by omega]
 intro x hx y hy;cases hc:zMA x y with
 | false=>rfl
 | true =>
  obtain ⟨hne,hm,h⟩:=zKJ.1 hc;have h1:=ht x hx;have h2:=ht y hy;rcases h with h | h | h
  ·exact absurd (hu x hx y hy hm h) hne
  ·omega
  ·omega
theorem xQA (hn:Nmd all) (hS:Split A all ks ls) (hk:∀ x∈ks,0<=x.m/\x.m<=3):uR (zJW (zGV A all ks 4))=some (zUZ A all ls 4):=by
 rw [<- yZB (yMD hn hS.sub) (yLJ hn hS.sub 4) fun x=>xPZ hk];exact yYL hS 4
end
end Go.Proofs.YtflfajphjmajpaaGreatDoor
