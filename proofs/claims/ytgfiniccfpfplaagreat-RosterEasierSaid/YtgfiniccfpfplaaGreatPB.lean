
import Derived.Test.YtgfiniccfpfplaaGreatPA
namespace Go.Proofs.YtgfiniccfpfplaaGreat
structure Bch where
 kind:Nat
 drv:Nat
 dut:Nat
 deriving DecidableEq,Inhabited
def Bch.lt (a b:Bch):Prop:=a.drv<b.drv\/a.drv=b.drv/\(a.kind<b.kind\/a.kind=b.kind/\a.dut<b.dut)
structure Days (w:Wk) (n:Nat):Prop where
 days:w.days=(n:Int)
 duty:∀ i,i<w.duties.length->0<=(dtQ w i).day/\(dtQ w i).day<(n:Int)
structure Ros (w:Wk) (ros:Nat->Int):Prop where
 ros:∀ i,i<w.duties.length->-1<=ros i/\ros i<(w.drivers.length:Int)
section
variable (w:Wk) (ros tru:Nat->Int)
def zMY (D i:Nat):List Bch :=
 if ros i=-1 then [] else (List.range 5).filterMap fun q=>if holds w q (drQ w (ros i).toNat) (dtQ w i) (xK w ros tru (ros i).toNat D i) then none else some ⟨q,(ros i).toNat,i⟩
def zEC (D j:Nat):List Bch:=(List.range j).flatMap fun i=>if (dtQ w i).day=(D:Int) then zMY w ros tru D i else []
def zCI (D:Nat):List Bch:=(List.range D).flatMap fun d=>zEC w ros tru d w.duties.length
def zFS (n k:Nat):List Bch:=(List.range k).filterMap fun k=>if w.hours<(xO w ros tru k n).used then some ⟨5,k,0⟩ else none
def yRG (n:Nat):List Bch:=zCI w ros tru n++zFS w ros tru n w.drivers.length
def xRP (k q j:Nat):List Bch:=(List.range j).filterMap fun i=>if xQ w ros tru q k i then some ⟨q,k,i⟩ else none
def xRQ (k q:Nat):List Bch:=(List.range q).flatMap fun q=>xRP w ros tru k q w.duties.length
def xRO (k:Nat):List Bch:=if xQ w ros tru 5 k 0 then [⟨5,k,0⟩] else []
def zFI (k:Nat):List Bch:=(List.range k).flatMap fun k=>xRQ w ros tru k 5++xRO w ros tru k
end
section
variable {w:Wk} {ros tru:Nat->Int}
theorem zLY {D i:Nat} {b:Bch}:b∈zMY w ros tru D i↔ros i≠-1/\b.kind<5/\b.dut=i/\b.drv=(ros i).toNat/\holds w b.kind (drQ w b.drv) (dtQ w i) (xK w ros tru b.drv D i)=false:=by
 unfold zMY;split
 ·simp_all
 ·rename_i h;simp only [List.mem_filterMap,List.mem_range];constructor
  ·rintro ⟨q,hq,h2⟩;split at h2
   ·cases h2
   ·rename_i h3;cases h2
    exact ⟨h,hq,rfl,rfl,by simpa using h3⟩
  ·rintro ⟨_,hk,h2,h3,h4⟩;refine ⟨b.kind,hk, ?_⟩
   rw [<- h3,h4];obtain ⟨q,k,j⟩:=b;simp only at h2 h3 h4 ⊢;subst h2;rfl
theorem yWY {D j:Nat}:zEC w ros tru D (j+1)=zEC w ros tru D j++(if (dtQ w j).day=(D:Int) then zMY w ros tru D j else []):=by
 unfold zEC;rw [List.range_succ,List.flatMap_append];simp
theorem xLG {D:Nat}:zCI w ros tru (D+1)=zCI w ros tru D++zEC w ros tru D w.duties.length:=by
 unfold zCI;rw [List.range_succ,List.flatMap_append];simp
theorem xTC {n k:Nat}:zFS w ros tru n (k+1)=zFS w ros tru n k++(if w.hours<(xO w ros tru k n).used then [⟨5,k,0⟩] else []):=by
 unfold zFS;rw [List.range_succ,List.filterMap_append];simp only [List.filterMap_cons,List.filterMap_nil];split <;> simp_all
theorem xLH {n:Nat} (hd:Days w n) (hr:Ros w ros) {b:Bch}:b∈zCI w ros tru n↔b.kind<5/\b.dut<w.duties.length/\b.drv<w.drivers.length/\xQ w ros tru b.kind b.drv b.dut=true:=by
 unfold zCI zEC;simp only [List.mem_flatMap,List.mem_range];constructor
 ·rintro ⟨D,hD,i,hi,h⟩;split at h
  ·rename_i hday;obtain ⟨h1,h2,h3,h4,h5⟩:=zLY.1 h;have hrr:=hr.ros i hi;have hk:ros i=(b.drv:Int):=by omega
   rw [zLS hi hk hday h2] at h5;refine ⟨h2,by omega,by omega, ?_⟩
   rw [h3];simpa using h5
  ·cases h
 ·rintro ⟨h1,h2,h3,h4⟩;have hday:=hd.duty b.dut h2;have hk:ros b.dut=(b.drv:Int):=by
   unfold xQ at h4;rw [if_neg (by omega)] at h4;simp only [Bool.and_eq_true,decide_eq_true_eq] at h4;exact h4.1
  refine ⟨(dtQ w b.dut).day.toNat,by omega,b.dut,h2, ?_⟩
  have e:(dtQ w b.dut).day=((dtQ w b.dut).day.toNat:Int):=by omega
  rw [if_pos e];refine zLY.2 ⟨by omega,h1,rfl,by omega, ?_⟩;rw [zLS h2 hk e h1,h4];rfl
theorem zXC {n k:Nat} (hd:Days w n):(xO w ros tru k n).used=(drQ w k).used+(((List.range w.duties.length).filter fun i=>decide (ros i=(k:Int))).map fun i=>tru i-(dtQ w i).on).sum:=by
 have key:∀ D:Nat,(xO w ros tru k D).used=(drQ w k).used+(((List.range w.duties.length).filter fun i=>decide (ros i=(k:Int)) && decide ((dtQ w i).day<(D:Int))).map fun i=>tru i-(dtQ w i).on).sum:=by
  intro D;induction D with
  | zero =>
   have:(List.range w.duties.length).filter (fun i=>decide (ros i=(k:Int)) && decide ((dtQ w i).day<((0:Nat):Int)))=[]:=by
    apply List.filter_eq_nil_iff.2;intro i hi;have:=hd.duty i (List.mem_range.1 hi);simp;omega
   rw [this];simp [xO,before]
  | succ D ih =>
   have e:(xO w ros tru k (D+1)).used=(xO w ros tru k D).used+((onL w ros k D w.duties.length).map fun i=>tru i-(dtQ w i).on).sum:=by
    show ((onL w ros k D w.duties.length).foldl (zCD w tru) (xO w ros tru k D)).used=_;exact yDB
   rw [e,ih,Int.add_assoc];congr 1;unfold onL;generalize List.range w.duties.length=L;induction L with
   | nil=>rfl
   | cons i L ihL =>
    simp only [List.filter_cons,his];by_cases h1:ros i=(k:Int)
    ·by_cases h2:(dtQ w i).day<(D:Int)
     ·have h3:(dtQ w i).day<((D+1:Nat):Int):=by omega
      have h4:¬ (dtQ w i).day=(D:Int):=by omega
      simp only [h1,h2,h3,h4,decide_true,decide_false,Bool.and_true,Bool.true_and,if_true,List.map_cons,List.sum_cons,Bool.false_eq_true,if_false];omega
     ·by_cases h4:(dtQ w i).day=(D:Int)
      ·have h3:(dtQ w i).day<((D+1:Nat):Int):=by omega
       simp only [h1,h2,h3,h4,decide_true,decide_false,Bool.and_true,Bool.true_and,if_true,List.map_cons,List.sum_cons,Bool.false_eq_true,if_false];have h5:(D:Int)<((D+1:Nat):Int):=by omega
       simp only [h5,decide_true,if_true,List.map_cons,List.sum_cons,Int.lt_irrefl,decide_false,Bool.false_eq_true,if_false];omega
      ·have h3:¬ (dtQ w i).day<((D+1:Nat):Int):=by omega
       simp only [h1,h2,h3,h4,decide_true,decide_false,Bool.and_true,Bool.true_and,if_true,List.map_cons,List.sum_cons,Bool.false_eq_true,if_false];simpa only [his] using ihL
    ·simp only [h1,decide_false,Bool.false_and,Bool.false_eq_true,if_false];simpa only [his] using ihL
 rw [key n];congr 3;apply List.filter_congr;intro i hi;have:=hd.duty i (List.mem_range.1 hi);simp [this.2]
theorem xFL {n k:Nat} (hd:Days w n) {b:Bch}:b∈zFS w ros tru n k↔b.kind=5/\b.dut=0/\b.drv<k/\xQ w ros tru 5 b.drv 0=true:=by
 unfold zFS;simp only [List.mem_filterMap,List.mem_range];have hb:∀ k,xQ w ros tru 5 k 0=decide (w.hours<(xO w ros tru k n).used):=by
  intro k;rw [zXC hd];unfold xQ;rw [if_pos rfl]
 constructor
 ·rintro ⟨j,hj,h⟩;split at h
  ·rename_i h2;cases h
   refine ⟨rfl,rfl,hj, ?_⟩
   rw [hb];exact decide_eq_true h2
  ·cases h
 ·rintro ⟨h1,h2,h3,h4⟩;rw [hb] at h4;refine ⟨b.drv,h3, ?_⟩
  rw [if_pos (of_decide_eq_true h4)];obtain ⟨q,k,j⟩:=b;simp only at h1 h2;subst h1 h2;rfl
theorem yRF {n:Nat} (hd:Days w n) (hr:Ros w ros) {b:Bch}:b∈yRG w ros tru n↔(b.kind<5/\b.dut<w.duties.length\/b.kind=5/\b.dut=0)/\b.drv<w.drivers.length/\xQ w ros tru b.kind b.drv b.dut=true:=by
 unfold yRG;rw [List.mem_append,xLH hd hr,xFL hd];constructor
 ·rintro (⟨h1,h2,h3,h4⟩ | ⟨h1,h2,h3,h4⟩)
  ·exact ⟨.inl ⟨h1,h2⟩,h3,h4⟩
  ·exact ⟨.inr ⟨h1,h2⟩,h3,by rw [h1,h2];exact h4⟩
 ·rintro ⟨⟨h1,h2⟩ | ⟨h1,h2⟩,h3,h4⟩
  ·exact .inl ⟨h1,h2,h3,h4⟩
  ·exact .inr ⟨h1,h2,h3,by rw [h1,h2] at h4;exact h4⟩
theorem zPF {k q j:Nat} {b:Bch}:b∈xRP w ros tru k q j↔b.kind=q/\b.drv=k/\b.dut<j/\xQ w ros tru q k b.dut=true:=by
 unfold xRP;simp only [List.mem_filterMap,List.mem_range];constructor
 ·rintro ⟨i,hi,h⟩;split at h
  ·cases h;exact ⟨rfl,rfl,hi,by assumption⟩
  ·cases h
 ·rintro ⟨h1,h2,h3,h4⟩;refine ⟨b.dut,h3, ?_⟩
  rw [if_pos h4,<- h1,<- h2]
theorem zJA {k:Nat} {b:Bch}:b∈xRO w ros tru k↔b.kind=5/\b.drv=k/\b.dut=0/\xQ w ros tru 5 k 0=true:=by
 unfold xRO;split
 ·obtain ⟨q,j,i⟩:=b;simp_all
 ·simp_all
theorem zJB {k q:Nat} {b:Bch}:b∈xRQ w ros tru k q↔b.kind<q/\b.drv=k/\b.dut<w.duties.length/\xQ w ros tru b.kind k b.dut=true:=by
 unfold xRQ;simp only [List.mem_flatMap,List.mem_range];constructor
 ·rintro ⟨p,hp,h⟩;obtain ⟨h1,h2,h3,h4⟩:=zPF.1 h;exact ⟨by omega,h2,h3,by rw [h1];exact h4⟩
 ·rintro ⟨h1,h2,h3,h4⟩;exact ⟨b.kind,h1,zPF.2 ⟨rfl,h2,h3,h4⟩⟩
theorem zXZ {k:Nat} {b:Bch}:b∈zFI w ros tru k↔(b.kind<5/\b.dut<w.duties.length\/b.kind=5/\b.dut=0)/\b.drv<k/\xQ w ros tru b.kind b.drv b.dut=true:=by
 unfold zFI;simp only [List.mem_flatMap,List.mem_range,List.mem_append];constructor
 ·rintro ⟨j,hj,h | h⟩
  ·obtain ⟨h1,h2,h3,h4⟩:=zJB.1 h;exact ⟨.inl ⟨h1,h3⟩,by omega,by rw [h2];exact h4⟩
  ·obtain ⟨h1,h2,h3,h4⟩:=zJA.1 h;exact ⟨.inr ⟨h1,h3⟩,by omega,by rw [h1,h2,h3];exact h4⟩
 ·rintro ⟨⟨h1,h2⟩ | ⟨h1,h2⟩,h3,h4⟩
  ·exact ⟨b.drv,h3,.inl (zJB.2 ⟨h1,rfl,h2,h4⟩)⟩
  ·exact ⟨b.drv,h3,.inr (zJA.2 ⟨h1,rfl,h2,by rw [h1,h2] at h4;exact h4⟩)⟩
theorem yZV {k:Nat}:(zFI w ros tru k).Pairwise Bch.lt:=by
 unfold zFI;rw [List.pairwise_flatMap];constructor
 ·intro j _;rw [List.pairwise_append];refine ⟨?_, ?_, ?_⟩
  ·unfold xRQ;rw [List.pairwise_flatMap];constructor
   ·intro q _;unfold xRP;rw [List.pairwise_filterMap];refine List.pairwise_lt_range.imp ?_
    intro a c h x hx y hy;split at hx <;> cases hx;split at hy <;> cases hy;exact .inr ⟨rfl,.inr ⟨rfl,h⟩⟩
   ·refine List.pairwise_lt_range.imp ?_
    intro a c h x hx y hy;obtain ⟨h1,h2,_⟩:=zPF.1 hx;obtain ⟨h3,h4,_⟩:=zPF.1 hy;exact .inr ⟨by omega,.inl (by omega)⟩
  ·unfold xRO;split
   ·exact List.pairwise_singleton _ _
   ·exact List.Pairwise.nil
  ·intro x hx y hy;obtain ⟨h1,h2,_⟩:=zJB.1 hx;obtain ⟨h3,h4,_⟩:=zJA.1 hy;exact .inr ⟨by omega,.inl (by omega)⟩
 ·refine List.pairwise_lt_range.imp ?_
  intro a c h x hx y hy;have h1:x.drv=a:=by
   rcases List.mem_append.1 hx with h | h
   ·exact (zJB.1 h).2.1
   ·exact (zJA.1 h).2.1
  have h2:y.drv=c:=by
   rcases List.mem_append.1 hy with h | h
   ·exact (zJB.1 h).2.1
   ·exact (zJA.1 h).2.1
  exact .inl (by omega)
theorem Bch.lt_irrefl (a:Bch):¬ a.lt a:=by unfold Bch.lt;omega
theorem Bch.eq_of {a b:Bch} (h:¬ a.lt b) (h2:¬ b.lt a):a=b:=by
 unfold Bch.lt at h h2;obtain ⟨q,k,j⟩:=a;obtain ⟨q',k',j'⟩:=b;simp only at h h2;have:k=k':=by omega
 subst this;have:q=q':=by omega
 subst this;have:j=j':=by omega
 subst this;rfl
theorem yYO {n:Nat}:(yRG w ros tru n).Nodup:=by
 unfold yRG;show List.Pairwise (·≠·) _;rw [List.pairwise_append];refine ⟨?_, ?_, ?_⟩
 ·unfold zCI zEC;rw [List.pairwise_flatMap];have hm:∀ {D i:Nat} {x:Bch},x∈(if (dtQ w i).day=(D:Int) then zMY w ros tru D i else [])->(dtQ w i).day=(D:Int)/\x.dut=i:=by
   intro D i x hx;split at hx
   ·exact ⟨by assumption,(zLY.1 hx).2.2.1⟩
   ·cases hx
  constructor
  ·intro D _;rw [List.pairwise_flatMap];constructor
   ·intro i _;split
    ·unfold zMY;split
     ·exact List.Pairwise.nil
     ·rw [List.pairwise_filterMap];refine List.pairwise_lt_range.imp ?_
      intro a c h x hx y hy;split at hx <;> cases hx;split at hy <;> cases hy;intro e;injection e with e1 _ _;omega
    ·exact List.Pairwise.nil
   ·refine List.pairwise_lt_range.imp ?_
    intro a c h x hx y hy e;have:=(hm hx).2;have:=(hm hy).2;subst e;omega
  ·refine List.pairwise_lt_range.imp ?_
   intro a c h x hx y hy e;obtain ⟨i,_,hi⟩:=List.mem_flatMap.1 hx;obtain ⟨j,_,hj⟩:=List.mem_flatMap.1 hy;obtain ⟨h1,h2⟩:=hm hi;obtain ⟨h3,h4⟩:=hm hj;subst e;rw [<- h2] at h1;rw [<- h4] at h3;omega
 ·unfold zFS;rw [List.pairwise_filterMap];refine List.pairwise_lt_range.imp ?_
  intro a c h x hx y hy;split at hx <;> cases hx;split at hy <;> cases hy;intro e;injection e with _ e2 _;omega
 ·intro x hx y hy e;subst e;unfold zCI zEC at hx;obtain ⟨D,_,hx⟩:=List.mem_flatMap.1 hx;obtain ⟨i,_,hx⟩:=List.mem_flatMap.1 hx;split at hx
  ·have:=(zLY.1 hx).2.1;unfold zFS at hy;obtain ⟨k,_,hy⟩:=List.mem_filterMap.1 hy;split at hy <;> cases hy;simp only at this;omega
  ·cases hx
theorem xCM {n:Nat} (hd:Days w n) (hr:Ros w ros) {l:List Bch} (hp:l.Perm (yRG w ros tru n)) (hs:l.Pairwise fun a b=>¬ b.lt a):l=zFI w ros tru w.drivers.length:=by
 have hn:(zFI w ros tru w.drivers.length).Nodup:=yZV.imp fun h e=>by subst e;exact Bch.lt_irrefl _ h
 have hp2:l.Perm (zFI w ros tru w.drivers.length):=by
  refine hp.trans ?_
  rw [List.perm_ext_iff_of_nodup yYO hn];intro b;rw [yRF hd hr,zXZ]
 refine List.Perm.eq_of_pairwise (le:=fun a b=>¬ b.lt a) ?_ hs (yZV.imp ?_) hp2
 ·intro a b _ _ h1 h2;exact Bch.eq_of h2 h1
 ·intro a b h h2;unfold Bch.lt at h h2;omega
end
end Go.Proofs.YtgfiniccfpfplaaGreat
