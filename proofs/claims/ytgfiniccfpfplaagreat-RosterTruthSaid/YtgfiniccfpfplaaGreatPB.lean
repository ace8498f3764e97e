
import Derived.Test.YtgfiniccfpfplaaGreatPA
namespace Go.Proofs.YtgfiniccfpfplaaGreat
variable {D j n k q:Nat}
structure Bch where
 kind:Nat
 drv:Nat
 dut:Nat
 deriving DecidableEq,Inhabited
def Bch.lt (a b:Bch):Prop:=a.drv<b.drv\/a.drv=b.drv/\(a.kind<b.kind\/a.kind=b.kind/\a.dut<b.dut)
structure Days (w:Wk) (n:Nat):Prop where
 M:w.M=(n:Int)
 duty:∀ i,i<w.N.length->0<=(dtQ w i).day/\(dtQ w i).day<(n:Int)
structure Ros (w:Wk) (ros:Nat->Int):Prop where
 ros:∀ i,i<w.N.length->-1<=ros i/\ros i<(w.L.length:Int)
section
variable (w:Wk) (ros tru:Nat->Int)
def zNQ (D i:Nat):List Bch :=
 if ros i=-1 then [] else (List.range 5).filterMap fun q=>if holds w q (drQ w (ros i).toNat) (dtQ w i) (xJ w ros tru (ros i).toNat D i) then none else some ⟨q,(ros i).toNat,i⟩
def zEF (D j:Nat):List Bch:=(List.range j).flatMap fun i=>if (dtQ w i).day=(D:Int) then zNQ w ros tru D i else []
def zCL (D:Nat):List Bch:=(List.range D).flatMap fun d=>zEF w ros tru d w.N.length
def zGG (n k:Nat):List Bch:=(List.range k).filterMap fun k=>if w.j<(xN w ros tru k n).used then some ⟨5,k,0⟩ else none
def yTG (n:Nat):List Bch:=zCL w ros tru n++zGG w ros tru n w.L.length
def yVM (k q j:Nat):List Bch:=(List.range j).filterMap fun i=>if xT w ros tru q k i then some ⟨q,k,i⟩ else none
def yEA (k q:Nat):List Bch:=(List.range q).flatMap fun q=>yVM w ros tru k q w.N.length
def yVL (k:Nat):List Bch:=if xT w ros tru 5 k 0 then [⟨5,k,0⟩] else []
def uQ (k:Nat):List Bch:=(List.range k).flatMap fun k=>yEA w ros tru k 5++yVL w ros tru k
end
section
variable {w:Wk} {ros tru:Nat->Int}
theorem zMQ {i:Nat} {b:Bch}:b∈zNQ w ros tru D i↔ros i≠-1/\b.kind<5/\b.dut=i/\b.drv=(ros i).toNat/\holds w b.kind (drQ w b.drv) (dtQ w i) (xJ w ros tru b.drv D i)=false:=by
 unfold zNQ;split
 ·simp_all
 ·rename_i h;simp only [List.mem_filterMap,List.mem_range];constructor
  ·rintro ⟨q,hq,h2⟩;split at h2
   ·cases h2
   ·rename_i h3;cases h2
    exact ⟨h,hq,rfl,rfl,by simpa using h3⟩
  ·rintro ⟨_,hk,h2,h3,h4⟩;refine ⟨b.kind,hk, ?_⟩
   rw [<- h3,h4];obtain ⟨q,k,j⟩:=b;simp only at h2 h3 h4 ⊢;subst h2;rfl
theorem yZN:zEF w ros tru D (j+1)=zEF w ros tru D j++(if (dtQ w j).day=(D:Int) then zNQ w ros tru D j else []):=by
 unfold zEF;rw [List.range_succ,List.flatMap_append];simp
theorem xOP:zCL w ros tru (D+1)=zCL w ros tru D++zEF w ros tru D w.N.length:=by
 unfold zCL;rw [List.range_succ,List.flatMap_append];simp
theorem xWE:zGG w ros tru n (k+1)=zGG w ros tru n k++(if w.j<(xN w ros tru k n).used then [⟨5,k,0⟩] else []):=by
 unfold zGG;rw [List.range_succ,List.filterMap_append];simp only [List.filterMap_cons,List.filterMap_nil];split <;> simp_all
theorem xOQ (hd:Days w n) (hr:Ros w ros) {b:Bch}:b∈zCL w ros tru n↔b.kind<5/\b.dut<w.N.length/\b.drv<w.L.length/\xT w ros tru b.kind b.drv b.dut=true:=by
 unfold zCL zEF;simp only [List.mem_flatMap,List.mem_range];constructor
 ·rintro ⟨D,hD,i,hi,h⟩;split at h
  ·rename_i hday;obtain ⟨h1,h2,h3,h4,h5⟩:=zMQ.1 h;have hrr:=hr.ros i hi;have hk:ros i=(b.drv:Int):=by omega
   rw [zML hi hk hday h2] at h5;refine ⟨h2,by omega,by omega, ?_⟩
   rw [h3];simpa using h5
  ·cases h
 ·rintro ⟨h1,h2,h3,h4⟩;have hday:=hd.duty b.dut h2;have hk:ros b.dut=(b.drv:Int):=by
   unfold xT at h4;rw [if_neg (by omega)] at h4;simp only [Bool.and_eq_true,decide_eq_true_eq] at h4;exact h4.1
  refine ⟨(dtQ w b.dut).day.toNat,by omega,b.dut,h2, ?_⟩
  have e:(dtQ w b.dut).day=((dtQ w b.dut).day.toNat:Int):=by omega
  rw [if_pos e];refine zMQ.2 ⟨by omega,h1,rfl,by omega, ?_⟩;rw [zML h2 hk e h1,h4];rfl
theorem zYL (hd:Days w n):(xN w ros tru k n).used=(drQ w k).used+(((List.range w.N.length).filter fun i=>decide (ros i=(k:Int))).map fun i=>tru i-(dtQ w i).on).sum:=by
 have key:∀ D:Nat,(xN w ros tru k D).used=(drQ w k).used+(((List.range w.N.length).filter fun i=>decide (ros i=(k:Int)) && decide ((dtQ w i).day<(D:Int))).map fun i=>tru i-(dtQ w i).on).sum:=by
  intro D;induction D with
  | zero =>
   have:(List.range w.N.length).filter (fun i=>decide (ros i=(k:Int)) && decide ((dtQ w i).day<((0:Nat):Int)))=[]:=by
    apply List.filter_eq_nil_iff.2;intro i hi;have:=hd.duty i (List.mem_range.1 hi);simp;omega
   rw [this];simp [xN,before]
  | succ D ih =>
   have e:(xN w ros tru k (D+1)).used=(xN w ros tru k D).used+((onL w ros k D w.N.length).map fun i=>tru i-(dtQ w i).on).sum:=by
    show ((onL w ros k D w.N.length).foldl (zCF w tru) (xN w ros tru k D)).used=_;exact yFA
   rw [e,ih,Int.add_assoc];congr 1;unfold onL;generalize List.range w.N.length=L;induction L with
   | nil=>rfl
   | cons i L ihL =>
    simp only [List.filter_cons,his];by_cases h1:ros i=(k:Int)
    ·by_cases h2:(dtQ w i).day<(D:Int)
     ·have h3:(dtQ w i).day<((D+1:Nat):Int):=by omega
      have h4:¬ (dtQ w i).day=(D:Int):=by omega
      simp only [h1,h2,h3,h4,decide_true,decide_false,Bool.and_true,Bool.true_and,if_true,List.map_cons,List.sum_cons,Bool.false_eq_true,if_false];omega
     ·by_cases h4:(dtQ w i).day=(D:Int)
      ·have h3:(dtQ w i).day<((D+1:Nat):Int):=by omega
       simp only [h1,h2,h3,h4,decide_true,decide_false,Bool.and_true,Bool.true_and,if_true,List.map_cons,List.sum_cons,Bool.false_eq_true,if_false];have h5:(D:Int)<((D+1:Nat):Int):=by omega
       simp only [h5,decide_true,if_true,List.map_cons,List.sum_cons,Int.lt_irrefl,decide_false,Bool.false_eq_true,if_false];omega
      ·have h3:¬ (dtQ w i).day<((D+1:Nat):Int):=by omega
       simp only [h1,h2,h3,h4,decide_true,decide_false,Bool.and_true,Bool.true_and,if_true,List.map_cons,List.sum_cons,Bool.false_eq_true,if_false];simpa only [his] using ihL
    ·simp only [h1,decide_false,Bool.false_and,Bool.false_eq_true,if_false];simpa only [his] using ihL
 rw [key n];congr 3;apply List.filter_congr;intro i hi;have:=hd.duty i (List.mem_range.1 hi);simp [this.2]
theorem xHV (hd:Days w n) {b:Bch}:b∈zGG w ros tru n k↔b.kind=5/\b.dut=0/\b.drv<k/\xT w ros tru 5 b.drv 0=true:=by
 unfold zGG;simp only [List.mem_filterMap,List.mem_range];have hb:∀ k,xT w ros tru 5 k 0=decide (w.j<(xN w ros tru k n).used):=by
  intro k;rw [zYL hd];unfold xT;rw [if_pos rfl]
 constructor
 ·rintro ⟨j,hj,h⟩;split at h
  ·rename_i h2;cases h
   refine ⟨rfl,rfl,hj, ?_⟩
   rw [hb];exact decide_eq_true h2
  ·cases h
 ·rintro ⟨h1,h2,h3,h4⟩;rw [hb] at h4;refine ⟨b.drv,h3, ?_⟩
  rw [if_pos (of_decide_eq_true h4)];obtain ⟨q,k,j⟩:=b;simp only at h1 h2;subst h1 h2;rfl
theorem yTF (hd:Days w n) (hr:Ros w ros) {b:Bch}:b∈yTG w ros tru n↔(b.kind<5/\b.dut<w.N.length\/b.kind=5/\b.dut=0)/\b.drv<w.L.length/\xT w ros tru b.kind b.drv b.dut=true:=by
 unfold yTG;rw [List.mem_append,xOQ hd hr,xHV hd];constructor
 ·rintro (⟨h1,h2,h3,h4⟩ | ⟨h1,h2,h3,h4⟩)
  ·exact ⟨.inl ⟨h1,h2⟩,h3,h4⟩
  ·exact ⟨.inr ⟨h1,h2⟩,h3,by rw [h1,h2];exact h4⟩
 ·rintro ⟨⟨h1,h2⟩ | ⟨h1,h2⟩,h3,h4⟩
  ·exact .inl ⟨h1,h2,h3,h4⟩
  ·exact .inr ⟨h1,h2,h3,by rw [h1,h2] at h4;exact h4⟩
theorem zPY {b:Bch}:b∈yVM w ros tru k q j↔b.kind=q/\b.drv=k/\b.dut<j/\xT w ros tru q k b.dut=true:=by
 unfold yVM;simp only [List.mem_filterMap,List.mem_range];constructor
 ·rintro ⟨i,hi,h⟩;split at h
  ·cases h;exact ⟨rfl,rfl,hi,by assumption⟩
  ·cases h
 ·rintro ⟨h1,h2,h3,h4⟩;refine ⟨b.dut,h3, ?_⟩
  rw [if_pos h4,<- h1,<- h2]
theorem zJI {b:Bch}:b∈yVL w ros tru k↔b.kind=5/\b.drv=k/\b.dut=0/\xT w ros tru 5 k 0=true:=by
 unfold yVL;split
 ·obtain ⟨q,j,i⟩:=b;simp_all
 ·simp_all
theorem zJJ {b:Bch}:b∈yEA w ros tru k q↔b.kind<q/\b.drv=k/\b.dut<w.N.length/\xT w ros tru b.kind k b.dut=true:=by
 unfold yEA;simp only [List.mem_flatMap,List.mem_range];constructor
 ·rintro ⟨p,hp,h⟩;obtain ⟨h1,h2,h3,h4⟩:=zPY.1 h;exact ⟨by omega,h2,h3,by rw [h1];exact h4⟩
 ·rintro ⟨h1,h2,h3,h4⟩;exact ⟨b.kind,h1,zPY.2 ⟨rfl,h2,h3,h4⟩⟩
theorem zJK {b:Bch}:b∈uQ w ros tru k↔(b.kind<5/\b.dut<w.N.length\/b.kind=5/\b.dut=0)/\b.drv<k/\xT w ros tru b.kind b.drv b.dut=true:=by
 unfold uQ;simp only [List.mem_flatMap,List.mem_range,List.mem_append];constructor
 ·rintro ⟨j,hj,h | h⟩
  ·obtain ⟨h1,h2,h3,h4⟩:=zJJ.1 h;exact ⟨.inl ⟨h1,h3⟩,by omega,by rw [h2];exact h4⟩
  ·obtain ⟨h1,h2,h3,h4⟩:=zJI.1 h;exact ⟨.inr ⟨h1,h3⟩,by omega,by rw [h1,h2,h3];exact h4⟩
 ·rintro ⟨⟨h1,h2⟩ | ⟨h1,h2⟩,h3,h4⟩
  ·exact ⟨b.drv,h3,.inl (zJJ.2 ⟨h1,rfl,h2,h4⟩)⟩
  ·exact ⟨b.drv,h3,.inr (zJI.2 ⟨h1,rfl,h2,by rw [h1,h2] at h4;exact h4⟩)⟩
theorem xCH:(uQ w ros tru k).Pairwise Bch.lt:=by
 unfold uQ;rw [List.pairwise_flatMap];constructor
 ·intro j _;rw [List.pairwise_append];refine ⟨?_, ?_, ?_⟩
  ·unfold yEA;rw [List.pairwise_flatMap];constructor
   ·intro q _;unfold yVM;rw [List.pairwise_filterMap];refine List.pairwise_lt_range.imp ?_
    intro a c h x hx y hy;split at hx <;> cases hx;split at hy <;> cases hy;exact .inr ⟨rfl,.inr ⟨rfl,h⟩⟩
   ·refine List.pairwise_lt_range.imp ?_
    intro a c h x hx y hy;obtain ⟨h1,h2,_⟩:=zPY.1 hx;obtain ⟨h3,h4,_⟩:=zPY.1 hy;exact .inr ⟨by omega,.inl (by omega)⟩
  ·unfold yVL;split
   ·exact List.pairwise_singleton _ _
   ·exact List.Pairwise.nil
  ·intro x hx y hy;obtain ⟨h1,h2,_⟩:=zJJ.1 hx;obtain ⟨h3,h4,_⟩:=zJI.1 hy;exact .inr ⟨by omega,.inl (by omega)⟩
 ·refine List.pairwise_lt_range.imp ?_
  intro a c h x hx y hy;have h1:x.drv=a:=by
   rcases List.mem_append.1 hx with h | h
   ·exact (zJJ.1 h).2.1
   ·exact (zJI.1 h).2.1
  have h2:y.drv=c:=by
   rcases List.mem_append.1 hy with h | h
   ·exact (zJJ.1 h).2.1
   ·exact (zJI.1 h).2.1
  exact .inl (by omega)
theorem Bch.lt_irrefl (a:Bch):¬ a.lt a:=by unfold Bch.lt;omega
theorem Bch.eq_of {a b:Bch} (h:¬ a.lt b) (h2:¬ b.lt a):a=b:=by
 unfold Bch.lt at h h2;obtain ⟨q,k,j⟩:=a;obtain ⟨q',k',j'⟩:=b;simp only at h h2;have:k=k':=by omega
 subst this;have:q=q':=by omega
 subst this;have:j=j':=by omega
 subst this;rfl
theorem xBE:(yTG w ros tru n).Nodup:=by
 unfold yTG;show List.Pairwise (·≠·) _;rw [List.pairwise_append];refine ⟨?_, ?_, ?_⟩
 ·unfold zCL zEF;rw [List.pairwise_flatMap];have hm:∀ {D i:Nat} {x:Bch},x∈(if (dtQ w i).day=(D:Int) then zNQ w ros tru D i else [])->(dtQ w i).day=(D:Int)/\x.dut=i:=by
   intro D i x hx;split at hx
   ·exact ⟨by assumption,(zMQ.1 hx).2.2.1⟩
   ·cases hx
  constructor
  ·intro D _;rw [List.pairwise_flatMap];constructor
   ·intro i _;split
    ·unfold zNQ;split
     ·exact List.Pairwise.nil
     ·rw [List.pairwise_filterMap];refine List.pairwise_lt_range.imp ?_
      intro a c h x hx y hy;split at hx <;> cases hx;split at hy <;> cases hy;intro e;injection e with e1 _ _;omega
    ·exact List.Pairwise.nil
   ·refine List.pairwise_lt_range.imp ?_
    intro a c h x hx y hy e;have:=(hm hx).2;have:=(hm hy).2;subst e;omega
  ·refine List.pairwise_lt_range.imp ?_
   intro a c h x hx y hy e;obtain ⟨i,_,hi⟩:=List.mem_flatMap.1 hx;obtain ⟨j,_,hj⟩:=List.mem_flatMap.1 hy;obtain ⟨h1,h2⟩:=hm hi;obtain ⟨h3,h4⟩:=hm hj;subst e;rw [<- h2] at h1;rw [<- h4] at h3;omega
 ·unfold zGG;rw [List.pairwise_filterMap];refine List.pairwise_lt_range.imp ?_
  intro a c h x hx y hy;split at hx <;> cases hx;split at hy <;> cases hy;intro e;injection e with _ e2 _;omega
 ·intro x hx y hy e;subst e;unfold zCL zEF at hx;obtain ⟨D,_,hx⟩:=List.mem_flatMap.1 hx;obtain ⟨i,_,hx⟩:=List.mem_flatMap.1 hx;split at hx
  ·have:=(zMQ.1 hx).2.1;unfold zGG at hy;obtain ⟨k,_,hy⟩:=List.mem_filterMap.1 hy;split at hy <;> cases hy;simp only at this;omega
  ·cases hx
theorem xEX (hd:Days w n) (hr:Ros w ros) {l:List Bch} (hp:l.Perm (yTG w ros tru n)) (hs:l.Pairwise fun a b=>¬ b.lt a):l=uQ w ros tru w.L.length:=by
 have hn:(uQ w ros tru w.L.length).Nodup:=xCH.imp fun h e=>by subst e;exact Bch.lt_irrefl _ h
 have hp2:l.Perm (uQ w ros tru w.L.length):=by
  refine hp.trans ?_
  rw [List.perm_ext_iff_of_nodup xBE hn];intro b;rw [yTF hd hr,zJK]
 refine List.Perm.eq_of_pairwise (le:=fun a b=>¬ b.lt a) ?_ hs (xCH.imp ?_) hp2
 ·intro a b _ _ h1 h2;exact Bch.eq_of h2 h1
 ·intro a b h h2;unfold Bch.lt at h h2;omega
end
end Go.Proofs.YtgfiniccfpfplaaGreat
