
import Derived.Test.YtflfajphjmajpaaGreatPA
namespace Go.Proofs.YtflfajphjmajpaaGreat
variable{D j n k q:Nat}
structure Bch where
 kind:Nat
 drv:Nat
 dut:Nat
 deriving DecidableEq,Inhabited
def Bch.lt(a b:Bch):Prop:=a.drv<b.drv\/a.drv=b.drv/\(a.kind<b.kind\/a.kind=b.kind/\a.dut<b.dut)
structure Days(w:Wk)(n:Nat):Prop where
 J:w.J=(n:Int)
 duty:∀i,i<w.L.length->0<=(dty w i).day/\(dty w i).day<(n:Int)
structure Ros(w:Wk)(ros:Nat->Int):Prop where
 ros:∀i,i<w.L.length->-1<=ros i/\ros i<(w.M.length:Int)
section
variable(w:Wk)(ros tru:Nat->Int)
def yCH(D i:Nat):List Bch :=
 if ros i=-1 then[]else(List.range 5).filterMap λq=>if holds w q (drQ w (ros i).toNat) (dty w i) (xZ w ros tru (ros i).toNat D i)then none else some ⟨q,(ros i).toNat,i⟩
def zHD(D j:Nat):List Bch:=(List.range j).flatMap λi=>if(dty w i).day=(D:Int)then yCH w ros tru D i else[]
def zFL(D:Nat):List Bch:=(List.range D).flatMap λd=>zHD w ros tru d w.L.length
def zOD(n k:Nat):List Bch:=(List.range k).filterMap λk=>if w.N<(wH w ros tru k n).used then some ⟨5,k,0⟩else none
def wKA(n:Nat):List Bch:=zFL w ros tru n++zOD w ros tru n w.M.length
def wMJ(k q j:Nat):List Bch:=(List.range j).filterMap λi=>if wQ w ros tru q k i then some ⟨q,k,i⟩else none
def wMK(k q:Nat):List Bch:=(List.range q).flatMap λq=>wMJ w ros tru k q w.L.length
def wMI(k:Nat):List Bch:=if wQ w ros tru 5 k 0 then[⟨5,k,0⟩]else[]
def wHD(k:Nat):List Bch:=(List.range k).flatMap λk=>wMK w ros tru k 5++wMI w ros tru k
end
section
variable{w:Wk}{ros tru:Nat->Int}
theorem yPM{i:Nat}{b:Bch}:b∈yCH w ros tru D i↔ros i≠-1/\b.kind<5/\b.dut=i/\b.drv=(ros i).toNat/\holds w b.kind (drQ w b.drv) (dty w i) (xZ w ros tru b.drv D i)=false:=by
 unfold yCH;split
 .simp_all
 .rename_i h;simp only[List.mem_filterMap,List.mem_range];constructor
  .rintro⟨q,hq,h2⟩;split at h2
   .cases h2
   .rename_i h3;cases h2
    exact⟨h,hq,rfl,rfl,by simpa using h3⟩
  .rintro⟨_,hk,h2,h3,h4⟩;refine⟨b.kind,hk, ?_⟩
   rw[<- h3,h4];obtain⟨q,k,j⟩:=b;simp only at h2 h3 h4 ⊢;subst h2;rfl
theorem xLB:zHD w ros tru D (j+1)=zHD w ros tru D j++(if(dty w j).day=(D:Int)then yCH w ros tru D j else[]):=by
 unfold zHD;rw[List.range_succ,List.flatMap_append];simp
theorem wAF:zFL w ros tru (D+1)=zFL w ros tru D++zHD w ros tru D w.L.length:=by
 unfold zFL;rw[List.range_succ,List.flatMap_append];simp
theorem wHW:zOD w ros tru n (k+1)=zOD w ros tru n k++(if w.N<(wH w ros tru k n).used then[⟨5,k,0⟩]else[]):=by
 unfold zOD;rw[List.range_succ,List.filterMap_append];simp only[List.filterMap_cons,List.filterMap_nil];split <;> simp_all
theorem wAG(hd:Days w n)(hr:Ros w ros){b:Bch}:b∈zFL w ros tru n↔b.kind<5/\b.dut<w.L.length/\b.drv<w.M.length/\wQ w ros tru b.kind b.drv b.dut=true:=by
 unfold zFL zHD;simp only[List.mem_flatMap,List.mem_range];constructor
 .rintro⟨D,hD,i,hi,h⟩;split at h
  .rename_i hday;obtain⟨h1,h2,h3,h4,h5⟩:=yPM.1 h;have hrr:=hr.ros i hi;have hk:ros i=(b.drv:Int):=by omega
   rw[zQE hi hk hday h2]at h5;refine⟨h2,by omega,by omega, ?_⟩
   rw[h3];simpa using h5
  .cases h
 .rintro⟨h1,h2,h3,h4⟩;have hday:=hd.duty b.dut h2;have hk:ros b.dut=(b.drv:Int):=by
   unfold wQ at h4;rw[if_neg (by omega)]at h4;simp only[Bool.and_eq_true,decide_eq_true_eq]at h4;exact h4.1
  refine⟨(dty w b.dut).day.toNat,by omega,b.dut,h2, ?_⟩
  have e:(dty w b.dut).day=((dty w b.dut).day.toNat:Int):=by omega
  rw[if_pos e];refine yPM.2 ⟨by omega,h1,rfl,by omega, ?_⟩;rw[zQE h2 hk e h1,h4];rfl
theorem yGO(hd:Days w n):(wH w ros tru k n).used=(drQ w k).used+(((List.range w.L.length).filter λi=>decide (ros i=(k:Int))).map λi=>tru i-(dty w i).on).sum:=by
 have key:∀D:Nat,(wH w ros tru k D).used=(drQ w k).used+(((List.range w.L.length).filter λi=>decide (ros i=(k:Int))&&decide ((dty w i).day<(D:Int))).map λi=>tru i-(dty w i).on).sum:=by
  intro D;induction D with
  |zero =>
   have:(List.range w.L.length).filter (λi=>decide (ros i=(k:Int))&&decide ((dty w i).day<((0:Nat):Int)))=[]:=by
    apply List.filter_eq_nil_iff.2;intro i hi;have:=hd.duty i (List.mem_range.1 hi);simp;omega
   rw[this];simp[wH,before]
  |succ D ih =>
   have e:(wH w ros tru k (D+1)).used=(wH w ros tru k D).used+((onL w ros k D w.L.length).map λi=>tru i-(dty w i).on).sum:=by
    show((onL w ros k D w.L.length).foldl (zDM w tru) (wH w ros tru k D)).used=_;exact yNI
   rw[e,ih,Int.add_assoc];congr 1;unfold onL;generalize List.range w.L.length=L;induction L with
   |nil=>rfl
   |cons i L ihL =>
    simp only[List.filter_cons,his];by_cases h1:ros i=(k:Int)
    .by_cases h2:(dty w i).day<(D:Int)
     .have h3:(dty w i).day<((D+1:Nat):Int):=by omega
      have h4:¬(dty w i).day=(D:Int):=by omega
      simp only[h1,h2,h3,h4,decide_true,decide_false,Bool.and_true,Bool.true_and,if_true,List.map_cons,List.sum_cons,Bool.false_eq_true,if_false];omega
     .by_cases h4:(dty w i).day=(D:Int)
      .have h3:(dty w i).day<((D+1:Nat):Int):=by omega
       simp only[h1,h2,h3,h4,decide_true,decide_false,Bool.and_true,Bool.true_and,if_true,List.map_cons,List.sum_cons,Bool.false_eq_true,if_false];have h5:(D:Int)<((D+1:Nat):Int):=by omega
       simp only[h5,decide_true,if_true,List.map_cons,List.sum_cons,Int.lt_irrefl,decide_false,Bool.false_eq_true,if_false];omega
      .have h3:¬(dty w i).day<((D+1:Nat):Int):=by omega
       simp only[h1,h2,h3,h4,decide_true,decide_false,Bool.and_true,Bool.true_and,if_true,List.map_cons,List.sum_cons,Bool.false_eq_true,if_false];simpa only[his] using ihL
    .simp only[h1,decide_false,Bool.false_and,Bool.false_eq_true,if_false];simpa only[his] using ihL
 rw[key n];congr 3;apply List.filter_congr;intro i hi;have:=hd.duty i (List.mem_range.1 hi);simp[this.2]
theorem xTW(hd:Days w n){b:Bch}:b∈zOD w ros tru n k↔b.kind=5/\b.dut=0/\b.drv<k/\wQ w ros tru 5 b.drv 0=true:=by
 unfold zOD;simp only[List.mem_filterMap,List.mem_range];have hb:∀k,wQ w ros tru 5 k 0=decide (w.N<(wH w ros tru k n).used):=by
  intro k;rw[yGO hd];unfold wQ;rw[if_pos rfl]
 constructor
 .rintro⟨j,hj,h⟩;split at h
  .rename_i h2;cases h
   refine⟨rfl,rfl,hj, ?_⟩
   rw[hb];exact decide_eq_true h2
  .cases h
 .rintro⟨h1,h2,h3,h4⟩;rw[hb]at h4;refine⟨b.drv,h3, ?_⟩
  rw[if_pos (of_decide_eq_true h4)];obtain⟨q,k,j⟩:=b;simp only at h1 h2;subst h1 h2;rfl
theorem xEK(hd:Days w n)(hr:Ros w ros){b:Bch}:b∈wKA w ros tru n↔(b.kind<5/\b.dut<w.L.length\/b.kind=5/\b.dut=0)/\b.drv<w.M.length/\wQ w ros tru b.kind b.drv b.dut=true:=by
 unfold wKA;rw[List.mem_append,wAG hd hr,xTW hd];constructor
 .rintro(⟨h1,h2,h3,h4⟩|⟨h1,h2,h3,h4⟩)
  .exact⟨.inl ⟨h1,h2⟩,h3,h4⟩
  .exact⟨.inr ⟨h1,h2⟩,h3,by rw[h1,h2];exact h4⟩
 .rintro⟨⟨h1,h2⟩|⟨h1,h2⟩,h3,h4⟩
  .exact .inl ⟨h1,h2,h3,h4⟩
  .exact .inr ⟨h1,h2,h3,by rw[h1,h2]at h4;exact h4⟩
theorem xBN{b:Bch}:b∈wMJ w ros tru k q j↔b.kind=q/\b.drv=k/\b.dut<j/\wQ w ros tru q k b.dut=true:=by
 unfold wMJ;simp only[List.mem_filterMap,List.mem_range];constructor
 .rintro⟨i,hi,h⟩;split at h
  .cases h;exact⟨rfl,rfl,hi,by assumption⟩
  .cases h
 .rintro⟨h1,h2,h3,h4⟩;refine⟨b.dut,h3, ?_⟩
  rw[if_pos h4,<- h1,<- h2]
theorem xBM{b:Bch}:b∈wMI w ros tru k↔b.kind=5/\b.drv=k/\b.dut=0/\wQ w ros tru 5 k 0=true:=by
 unfold wMI;split
 .obtain⟨q,j,i⟩:=b;simp_all
 .simp_all
theorem xBO{b:Bch}:b∈wMK w ros tru k q↔b.kind<q/\b.drv=k/\b.dut<w.L.length/\wQ w ros tru b.kind k b.dut=true:=by
 unfold wMK;simp only[List.mem_flatMap,List.mem_range];constructor
 .rintro⟨p,hp,h⟩;obtain⟨h1,h2,h3,h4⟩:=xBN.1 h;exact⟨by omega,h2,h3,by rw[h1];exact h4⟩
 .rintro⟨h1,h2,h3,h4⟩;exact⟨b.kind,h1,xBN.2 ⟨rfl,h2,h3,h4⟩⟩
theorem zWA{b:Bch}:b∈wHD w ros tru k↔(b.kind<5/\b.dut<w.L.length\/b.kind=5/\b.dut=0)/\b.drv<k/\wQ w ros tru b.kind b.drv b.dut=true:=by
 unfold wHD;simp only[List.mem_flatMap,List.mem_range,List.mem_append];constructor
 .rintro⟨j,hj,h|h⟩
  .obtain⟨h1,h2,h3,h4⟩:=xBO.1 h;exact⟨.inl ⟨h1,h3⟩,by omega,by rw[h2];exact h4⟩
  .obtain⟨h1,h2,h3,h4⟩:=xBM.1 h;exact⟨.inr ⟨h1,h3⟩,by omega,by rw[h1,h2,h3];exact h4⟩
 .rintro⟨⟨h1,h2⟩|⟨h1,h2⟩,h3,h4⟩
  .exact⟨b.drv,h3,.inl (xBO.2 ⟨h1,rfl,h2,h4⟩)⟩
  .exact⟨b.drv,h3,.inr (xBM.2 ⟨h1,rfl,h2,by rw[h1,h2]at h4;exact h4⟩)⟩
end
end Go.Proofs.YtflfajphjmajpaaGreat
