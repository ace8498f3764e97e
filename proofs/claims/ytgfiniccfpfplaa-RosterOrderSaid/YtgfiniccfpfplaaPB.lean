
import Derived.Test.YtgfiniccfpfplaaPA
namespace Go.Proofs.Ytgfiniccfpfplaa
structure Bch where
 kind:Nat
 drv:Nat
 dut:Nat
 deriving DecidableEq,Inhabited
def Bch.lt (a b:Bch):Prop:=a.drv<b.drv∨a.drv=b.drv∧(a.kind<b.kind∨a.kind=b.kind∧a.dut<b.dut)
structure Days (w:Wk) (n:Nat):Prop where
 M:w.M=(n:Int)
 duty:∀ i,i<w.N.length→0≤(dty w i).day∧(dty w i).day<(n:Int)
structure Ros (w:Wk) (ros:Nat→Int):Prop where
 ros:∀ i,i<w.N.length→-1≤ros i∧ros i<(w.L.length:Int)
section
variable (w:Wk) (ros tru:Nat→Int)
def zML (D i:Nat):List Bch :=
 if ros i=-1 then [] else (List.range 5).filterMap fun q=>if holds w q (drQ w (ros i).toNat) (dty w i) (xI w ros tru (ros i).toNat D i) then none else some ⟨q,(ros i).toNat,i⟩
def zDY (D j:Nat):List Bch:=(List.range j).flatMap fun i=>if (dty w i).day=(D:Int) then zML w ros tru D i else []
def zCO (D:Nat):List Bch:=(List.range D).flatMap fun d=>zDY w ros tru d w.N.length
def zFQ (n k:Nat):List Bch:=(List.range k).filterMap fun k=>if w.j<(xM w ros tru k n).used then some ⟨5,k,0⟩ else none
def yOV (n:Nat):List Bch:=zCO w ros tru n++zFQ w ros tru n w.L.length
def xPH (k q j:Nat):List Bch:=(List.range j).filterMap fun i=>if xR w ros tru q k i then some ⟨q,k,i⟩ else none
def xPI (k q:Nat):List Bch:=(List.range q).flatMap fun q=>xPH w ros tru k q w.N.length
def xPG (k:Nat):List Bch:=if xR w ros tru 5 k 0 then [⟨5,k,0⟩] else []
def zIA (k:Nat):List Bch:=(List.range k).flatMap fun k=>xPI w ros tru k 5++xPG w ros tru k
end
section
variable {w:Wk} {ros tru:Nat→Int}
theorem zLL {D i:Nat} {b:Bch}:b∈zML w ros tru D i↔ros i≠-1∧b.kind<5∧b.dut=i∧b.drv=(ros i).toNat∧holds w b.kind (drQ w b.drv) (dty w i) (xI w ros tru b.drv D i)=false:=by
 unfold zML;split
 ·simp_all
 ·rename_i h;simp only [List.mem_filterMap,List.mem_range];constructor
  ·rintro ⟨q,hq,h2⟩;split at h2
   ·cases h2
   ·rename_i h3;cases h2
    exact ⟨h,hq,rfl,rfl,by simpa using h3⟩
  ·rintro ⟨_,hk,h2,h3,h4⟩;refine ⟨b.kind,hk, ?_⟩
   rw [← h3,h4];obtain ⟨q,k,j⟩:=b;simp only at h2 h3 h4 ⊢;subst h2;rfl
theorem yUM {D j:Nat}:zDY w ros tru D (j+1)=zDY w ros tru D j++(if (dty w j).day=(D:Int) then zML w ros tru D j else []):=by
 unfold zDY;rw [List.range_succ,List.flatMap_append];simp
theorem xIS {D:Nat}:zCO w ros tru (D+1)=zCO w ros tru D++zDY w ros tru D w.N.length:=by
 unfold zCO;rw [List.range_succ,List.flatMap_append];simp
theorem xQP {n k:Nat}:zFQ w ros tru n (k+1)=zFQ w ros tru n k++(if w.j<(xM w ros tru k n).used then [⟨5,k,0⟩] else []):=by
 unfold zFQ;rw [List.range_succ,List.filterMap_append];simp only [List.filterMap_cons,List.filterMap_nil];split <;> simp_all
theorem xIT {n:Nat} (hd:Days w n) (hr:Ros w ros) {b:Bch}:b∈zCO w ros tru n↔b.kind<5∧b.dut<w.N.length∧b.drv<w.L.length∧xR w ros tru b.kind b.drv b.dut=true:=by
 unfold zCO zDY;simp only [List.mem_flatMap,List.mem_range];constructor
 ·rintro ⟨D,hD,i,hi,h⟩;split at h
  ·rename_i hday;obtain ⟨h1,h2,h3,h4,h5⟩:=zLL.1 h;have hrr:=hr.ros i hi;have hk:ros i=(b.drv:Int):=by omega
   rw [zLH hi hk hday h2] at h5;refine ⟨h2,by omega,by omega, ?_⟩
   rw [h3];simpa using h5
  ·cases h
 ·rintro ⟨h1,h2,h3,h4⟩;have hday:=hd.duty b.dut h2;have hk:ros b.dut=(b.drv:Int):=by
   unfold xR at h4;rw [if_neg (by omega)] at h4;simp only [Bool.and_eq_true,decide_eq_true_eq] at h4;exact h4.1
  refine ⟨(dty w b.dut).day.toNat,by omega,b.dut,h2, ?_⟩
  have e:(dty w b.dut).day=((dty w b.dut).day.toNat:Int):=by omega
  rw [if_pos e];refine zLL.2 ⟨by omega,h1,rfl,by omega, ?_⟩;rw [zLH h2 hk e h1,h4];rfl
theorem zVY {n k:Nat} (hd:Days w n):(xM w ros tru k n).used=(drQ w k).used+(((List.range w.N.length).filter fun i=>decide (ros i=(k:Int))).map fun i=>tru i-(dty w i).on).sum:=by
 have key:∀ D:Nat,(xM w ros tru k D).used=(drQ w k).used+(((List.range w.N.length).filter fun i=>decide (ros i=(k:Int)) && decide ((dty w i).day<(D:Int))).map fun i=>tru i-(dty w i).on).sum:=by
  intro D;induction D with
  | zero =>
   have:(List.range w.N.length).filter (fun i=>decide (ros i=(k:Int)) && decide ((dty w i).day<((0:Nat):Int)))=[]:=by
    apply List.filter_eq_nil_iff.2;intro i hi;have:=hd.duty i (List.mem_range.1 hi);simp;omega
   rw [this];simp [xM,before]
  | succ D ih =>
   have e:(xM w ros tru k (D+1)).used=(xM w ros tru k D).used+((onL w ros k D w.N.length).map fun i=>tru i-(dty w i).on).sum:=by
    show ((onL w ros k D w.N.length).foldl (zCI w tru) (xM w ros tru k D)).used=_;exact yBM
   rw [e,ih,Int.add_assoc];congr 1;unfold onL;generalize List.range w.N.length=L;induction L with
   | nil=>rfl
   | cons i L ihL =>
    simp only [List.filter_cons,his];by_cases h1:ros i=(k:Int)
    ·by_cases h2:(dty w i).day<(D:Int)
     ·have h3:(dty w i).day<((D+1:Nat):Int):=by omega
      have h4:¬ (dty w i).day=(D:Int):=by omega
      simp only [h1,h2,h3,h4,decide_true,decide_false,Bool.and_true,Bool.true_and,if_true,List.map_cons,List.sum_cons,Bool.false_eq_true,if_false];omega
     ·by_cases h4:(dty w i).day=(D:Int)
      ·have h3:(dty w i).day<((D+1:Nat):Int):=by omega
       simp only [h1,h2,h3,h4,decide_true,decide_false,Bool.and_true,Bool.true_and,if_true,List.map_cons,List.sum_cons,Bool.false_eq_true,if_false];have h5:(D:Int)<((D+1:Nat):Int):=by omega
       simp only [h5,decide_true,if_true,List.map_cons,List.sum_cons,Int.lt_irrefl,decide_false,Bool.false_eq_true,if_false];omega
      ·have h3:¬ (dty w i).day<((D+1:Nat):Int):=by omega
       simp only [h1,h2,h3,h4,decide_true,decide_false,Bool.and_true,Bool.true_and,if_true,List.map_cons,List.sum_cons,Bool.false_eq_true,if_false];simpa only [his] using ihL
    ·simp only [h1,decide_false,Bool.false_and,Bool.false_eq_true,if_false];simpa only [his] using ihL
 rw [key n];congr 3;apply List.filter_congr;intro i hi;have:=hd.duty i (List.mem_range.1 hi);simp [this.2]
theorem xCR {n k:Nat} (hd:Days w n) {b:Bch}:b∈zFQ w ros tru n k↔b.kind=5∧b.dut=0∧b.drv<k∧xR w ros tru 5 b.drv 0=true:=by
 unfold zFQ;simp only [List.mem_filterMap,List.mem_range];have hb:∀ k,xR w ros tru 5 k 0=decide (w.j<(xM w ros tru k n).used):=by
  intro k;rw [zVY hd];unfold xR;rw [if_pos rfl]
 constructor
 ·rintro ⟨j,hj,h⟩;split at h
  ·rename_i h2;cases h
   refine ⟨rfl,rfl,hj, ?_⟩
   rw [hb];exact decide_eq_true h2
  ·cases h
 ·rintro ⟨h1,h2,h3,h4⟩;rw [hb] at h4;refine ⟨b.drv,h3, ?_⟩
  rw [if_pos (of_decide_eq_true h4)];obtain ⟨q,k,j⟩:=b;simp only at h1 h2;subst h1 h2;rfl
theorem yOU {n:Nat} (hd:Days w n) (hr:Ros w ros) {b:Bch}:b∈yOV w ros tru n↔(b.kind<5∧b.dut<w.N.length∨b.kind=5∧b.dut=0)∧b.drv<w.L.length∧xR w ros tru b.kind b.drv b.dut=true:=by
 unfold yOV;rw [List.mem_append,xIT hd hr,xCR hd];constructor
 ·rintro (⟨h1,h2,h3,h4⟩ | ⟨h1,h2,h3,h4⟩)
  ·exact ⟨.inl ⟨h1,h2⟩,h3,h4⟩
  ·exact ⟨.inr ⟨h1,h2⟩,h3,by rw [h1,h2];exact h4⟩
 ·rintro ⟨⟨h1,h2⟩ | ⟨h1,h2⟩,h3,h4⟩
  ·exact .inl ⟨h1,h2,h3,h4⟩
  ·exact .inr ⟨h1,h2,h3,by rw [h1,h2] at h4;exact h4⟩
theorem zOO {k q j:Nat} {b:Bch}:b∈xPH w ros tru k q j↔b.kind=q∧b.drv=k∧b.dut<j∧xR w ros tru q k b.dut=true:=by
 unfold xPH;simp only [List.mem_filterMap,List.mem_range];constructor
 ·rintro ⟨i,hi,h⟩;split at h
  ·cases h;exact ⟨rfl,rfl,hi,by assumption⟩
  ·cases h
 ·rintro ⟨h1,h2,h3,h4⟩;refine ⟨b.dut,h3, ?_⟩
  rw [if_pos h4,← h1,← h2]
theorem zIP {k:Nat} {b:Bch}:b∈xPG w ros tru k↔b.kind=5∧b.drv=k∧b.dut=0∧xR w ros tru 5 k 0=true:=by
 unfold xPG;split
 ·obtain ⟨q,j,i⟩:=b;simp_all
 ·simp_all
theorem zIQ {k q:Nat} {b:Bch}:b∈xPI w ros tru k q↔b.kind<q∧b.drv=k∧b.dut<w.N.length∧xR w ros tru b.kind k b.dut=true:=by
 unfold xPI;simp only [List.mem_flatMap,List.mem_range];constructor
 ·rintro ⟨p,hp,h⟩;obtain ⟨h1,h2,h3,h4⟩:=zOO.1 h;exact ⟨by omega,h2,h3,by rw [h1];exact h4⟩
 ·rintro ⟨h1,h2,h3,h4⟩;exact ⟨b.kind,h1,zOO.2 ⟨rfl,h2,h3,h4⟩⟩
theorem zWU {k:Nat} {b:Bch}:b∈zIA w ros tru k↔(b.kind<5∧b.dut<w.N.length∨b.kind=5∧b.dut=0)∧b.drv<k∧xR w ros tru b.kind b.drv b.dut=true:=by
 unfold zIA;simp only [List.mem_flatMap,List.mem_range,List.mem_append];constructor
 ·rintro ⟨j,hj,h | h⟩
  ·obtain ⟨h1,h2,h3,h4⟩:=zIQ.1 h;exact ⟨.inl ⟨h1,h3⟩,by omega,by rw [h2];exact h4⟩
  ·obtain ⟨h1,h2,h3,h4⟩:=zIP.1 h;exact ⟨.inr ⟨h1,h3⟩,by omega,by rw [h1,h2,h3];exact h4⟩
 ·rintro ⟨⟨h1,h2⟩ | ⟨h1,h2⟩,h3,h4⟩
  ·exact ⟨b.drv,h3,.inl (zIQ.2 ⟨h1,rfl,h2,h4⟩)⟩
  ·exact ⟨b.drv,h3,.inr (zIP.2 ⟨h1,rfl,h2,by rw [h1,h2] at h4;exact h4⟩)⟩
theorem yXF {k:Nat}:(zIA w ros tru k).Pairwise Bch.lt:=by
 unfold zIA;rw [List.pairwise_flatMap];constructor
 ·intro j _;rw [List.pairwise_append];refine ⟨?_, ?_, ?_⟩
  ·unfold xPI;rw [List.pairwise_flatMap];constructor
   ·intro q _;unfold xPH;rw [List.pairwise_filterMap];refine List.pairwise_lt_range.imp ?_
    intro a c h x hx y hy;split at hx <;> cases hx;split at hy <;> cases hy;exact .inr ⟨rfl,.inr ⟨rfl,h⟩⟩
   ·refine List.pairwise_lt_range.imp ?_
    intro a c h x hx y hy;obtain ⟨h1,h2,_⟩:=zOO.1 hx;obtain ⟨h3,h4,_⟩:=zOO.1 hy;exact .inr ⟨by omega,.inl (by omega)⟩
  ·unfold xPG;split
   ·exact List.pairwise_singleton _ _
   ·exact List.Pairwise.nil
  ·intro x hx y hy;obtain ⟨h1,h2,_⟩:=zIQ.1 hx;obtain ⟨h3,h4,_⟩:=zIP.1 hy;exact .inr ⟨by omega,.inl (by omega)⟩
 ·refine List.pairwise_lt_range.imp ?_
  intro a c h x hx y hy;have h1:x.drv=a:=by
   rcases List.mem_append.1 hx with h | h
   ·exact (zIQ.1 h).2.1
   ·exact (zIP.1 h).2.1
  have h2:y.drv=c:=by
   rcases List.mem_append.1 hy with h | h
   ·exact (zIQ.1 h).2.1
   ·exact (zIP.1 h).2.1
  exact .inl (by omega)
theorem Bch.lt_irrefl (a:Bch):¬ a.lt a:=by unfold Bch.lt;omega
theorem Bch.eq_of {a b:Bch} (h:¬ a.lt b) (h2:¬ b.lt a):a=b:=by
 unfold Bch.lt at h h2;obtain ⟨q,k,j⟩:=a;obtain ⟨q',k',j'⟩:=b;simp only at h h2;have:k=k':=by omega
 subst this;have:q=q':=by omega
 subst this;have:j=j':=by omega
 subst this;rfl
theorem yWB {n:Nat}:(yOV w ros tru n).Nodup:=by
 unfold yOV;show List.Pairwise (·≠·) _;rw [List.pairwise_append];refine ⟨?_, ?_, ?_⟩
 ·unfold zCO zDY;rw [List.pairwise_flatMap];have hm:∀ {D i:Nat} {x:Bch},x∈(if (dty w i).day=(D:Int) then zML w ros tru D i else [])→(dty w i).day=(D:Int)∧x.dut=i:=by
   intro D i x hx;split at hx
   ·exact ⟨by assumption,(zLL.1 hx).2.2.1⟩
   ·cases hx
  constructor
  ·intro D _;rw [List.pairwise_flatMap];constructor
   ·intro i _;split
    ·unfold zML;split
     ·exact List.Pairwise.nil
     ·rw [List.pairwise_filterMap];refine List.pairwise_lt_range.imp ?_
      intro a c h x hx y hy;split at hx <;> cases hx;split at hy <;> cases hy;intro e;injection e with e1 _ _;omega
    ·exact List.Pairwise.nil
   ·refine List.pairwise_lt_range.imp ?_
    intro a c h x hx y hy e;have:=(hm hx).2;have:=(hm hy).2;subst e;omega
  ·refine List.pairwise_lt_range.imp ?_
   intro a c h x hx y hy e;obtain ⟨i,_,hi⟩:=List.mem_flatMap.1 hx;obtain ⟨j,_,hj⟩:=List.mem_flatMap.1 hy;obtain ⟨h1,h2⟩:=hm hi;obtain ⟨h3,h4⟩:=hm hj;subst e;rw [← h2] at h1;rw [← h4] at h3;omega
 ·unfold zFQ;rw [List.pairwise_filterMap];refine List.pairwise_lt_range.imp ?_
  intro a c h x hx y hy;split at hx <;> cases hx;split at hy <;> cases hy;intro e;injection e with _ e2 _;omega
 ·intro x hx y hy e;subst e;unfold zCO zDY at hx;obtain ⟨D,_,hx⟩:=List.mem_flatMap.1 hx;obtain ⟨i,_,hx⟩:=List.mem_flatMap.1 hx;split at hx
  ·have:=(zLL.1 hx).2.1;unfold zFQ at hy;obtain ⟨k,_,hy⟩:=List.mem_filterMap.1 hy;split at hy <;> cases hy;simp only at this;omega
  ·cases hx
theorem yZU {n:Nat} (hd:Days w n) (hr:Ros w ros) {l:List Bch} (hp:l.Perm (yOV w ros tru n)) (hs:l.Pairwise fun a b=>¬ b.lt a):l=zIA w ros tru w.L.length:=by
 have hn:(zIA w ros tru w.L.length).Nodup:=yXF.imp fun h e=>by subst e;exact Bch.lt_irrefl _ h
 have hp2:l.Perm (zIA w ros tru w.L.length):=by
  refine hp.trans ?_
  rw [List.perm_ext_iff_of_nodup yWB hn];intro b;rw [yOU hd hr,zWU]
 refine List.Perm.eq_of_pairwise (le:=fun a b=>¬ b.lt a) ?_ hs (yXF.imp ?_) hp2
 ·intro a b _ _ h1 h2;exact Bch.eq_of h2 h1
 ·intro a b h h2;unfold Bch.lt at h h2;omega
end
end Go.Proofs.Ytgfiniccfpfplaa
