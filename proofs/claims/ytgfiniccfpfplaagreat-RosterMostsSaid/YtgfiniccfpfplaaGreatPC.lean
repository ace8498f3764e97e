import Derived.Test.YtgfiniccfpfplaaGreatPA

namespace Go.Proofs.YtgfiniccfpfplaaGreat
set_option linter.unusedVariables false
set_option linter.unusedSimpArgs false
structure Bch where
 kind:Nat
 drv:Nat
 dut:Nat
 deriving DecidableEq,Inhabited
def Bch.lt (a b:Bch):Prop:=a.drv<b.drv∨a.drv=b.drv∧(a.kind<b.kind∨a.kind=b.kind∧a.dut<b.dut)
structure Days (w:Wk) (n:Nat):Prop where
 days:w.days=(n:Int)
 duty:∀ i,i<w.duties.length→0≤(dty w i).day∧(dty w i).day<(n:Int)
structure Ros (w:Wk) (ros:Nat→Int):Prop where
 ros:∀ i,i<w.duties.length→-1≤ros i∧ros i<(w.drivers.length:Int)
section
variable (w:Wk) (ros tru:Nat→Int)
def yZA (D i:Nat):List Bch :=
 if ros i=-1 then [] else (List.range 5).filterMap fun q=>if holds w q (drv w (ros i).toNat) (dty w i) (vM w ros tru (ros i).toNat D i) then none else some ⟨q,(ros i).toNat,i⟩
def dayB (D j:Nat):List Bch:=(List.range j).flatMap fun i=>if (dty w i).day=(D:Int) then yZA w ros tru D i else []
def outB (D:Nat):List Bch:=(List.range D).flatMap fun d=>dayB w ros tru d w.duties.length
def zMY (k q j:Nat):List Bch:=(List.range j).filterMap fun i=>if xF w ros tru q k i then some ⟨q,k,i⟩ else none
def zMZ (k q:Nat):List Bch:=(List.range q).flatMap fun q=>zMY w ros tru k q w.duties.length
def yFZ (k:Nat):List Bch:=if xF w ros tru 5 k 0 then [⟨5,k,0⟩] else []
def zEC (k:Nat):List Bch:=(List.range k).flatMap fun k=>zMZ w ros tru k 5++yFZ w ros tru k
end
section
variable {w:Wk} {ros tru:Nat→Int}
theorem yBG {D i:Nat} {b:Bch}:b∈yZA w ros tru D i↔ros i≠-1∧b.kind<5∧b.dut=i∧b.drv=(ros i).toNat∧holds w b.kind (drv w b.drv) (dty w i) (vM w ros tru b.drv D i)=false:=by
 unfold yZA
 split
 ·simp_all
 ·rename_i h
  simp only [List.mem_filterMap,List.mem_range]
  constructor
  ·rintro ⟨q,hq,h2⟩
   split at h2
   ·cases h2
   ·rename_i h3
    cases h2
    exact ⟨h,hq,rfl,rfl,by simpa using h3⟩
  ·rintro ⟨_,hk,h2,h3,h4⟩
   refine ⟨b.kind,hk, ?_⟩
   rw [← h3,h4]
   obtain ⟨q,k,j⟩:=b
   simp only at h2 h3 h4 ⊢
   subst h2
   rfl
theorem outB_mem {n:Nat} (hd:Days w n) (hr:Ros w ros) {b:Bch}:b∈outB w ros tru n↔b.kind<5∧b.dut<w.duties.length∧b.drv<w.drivers.length∧xF w ros tru b.kind b.drv b.dut=true:=by
 unfold outB dayB
 simp only [List.mem_flatMap,List.mem_range]
 constructor
 ·rintro ⟨D,hD,i,hi,h⟩
  split at h
  ·rename_i hday
   obtain ⟨h1,h2,h3,h4,h5⟩:=yBG.1 h
   have hrr:=hr.ros i hi
   have hk:ros i=(b.drv:Int):=by omega
   rw [zMO hi hk hday h2] at h5
   refine ⟨h2,by omega,by omega, ?_⟩
   rw [h3];simpa using h5
  ·cases h
 ·rintro ⟨h1,h2,h3,h4⟩
  have hday:=hd.duty b.dut h2
  have hk:ros b.dut=(b.drv:Int):=by
   unfold xF at h4
   rw [if_neg (by omega)] at h4
   simp only [Bool.and_eq_true,decide_eq_true_eq] at h4
   exact h4.1
  refine ⟨(dty w b.dut).day.toNat,by omega,b.dut,h2, ?_⟩
  have e:(dty w b.dut).day=((dty w b.dut).day.toNat:Int):=by omega
  rw [if_pos e]
  refine yBG.2 ⟨by omega,h1,rfl,by omega, ?_⟩
  rw [zMO h2 hk e h1,h4];rfl
theorem yFD {n k:Nat} (hd:Days w n):(wF w ros tru k n).used=(drv w k).used+(((List.range w.duties.length).filter fun i=>decide (ros i=(k:Int))).map fun i=>tru i-(dty w i).on).sum:=by
 have key:∀ D:Nat,(wF w ros tru k D).used=(drv w k).used+(((List.range w.duties.length).filter fun i=>decide (ros i=(k:Int)) && decide ((dty w i).day<(D:Int))).map fun i=>tru i-(dty w i).on).sum:=by
  intro D
  induction D with
  | zero =>
   have:(List.range w.duties.length).filter (fun i=>decide (ros i=(k:Int)) && decide ((dty w i).day<((0:Nat):Int)))=[]:=by
    apply List.filter_eq_nil_iff.2
    intro i hi
    have:=hd.duty i (List.mem_range.1 hi)
    simp;omega
   rw [this];simp [wF,before]
  | succ D ih =>
   have e:(wF w ros tru k (D+1)).used=(wF w ros tru k D).used+((onL w ros k D w.duties.length).map fun i=>tru i-(dty w i).on).sum:=by
    show ((onL w ros k D w.duties.length).foldl (zEB w tru) (wF w ros tru k D)).used=_
    exact zYW
   rw [e,ih,Int.add_assoc]
   congr 1
   unfold onL
   generalize List.range w.duties.length=L
   induction L with
   | nil=>rfl
   | cons i L ihL =>
    simp only [List.filter_cons,his]
    by_cases h1:ros i=(k:Int)
    ·by_cases h2:(dty w i).day<(D:Int)
     ·have h3:(dty w i).day<((D+1:Nat):Int):=by omega
      have h4:¬ (dty w i).day=(D:Int):=by omega
      simp only [h1,h2,h3,h4,decide_true,decide_false,Bool.and_true,Bool.true_and,if_true,List.map_cons,List.sum_cons,Bool.false_eq_true,if_false]
      omega
     ·by_cases h4:(dty w i).day=(D:Int)
      ·have h3:(dty w i).day<((D+1:Nat):Int):=by omega
       simp only [h1,h2,h3,h4,decide_true,decide_false,Bool.and_true,Bool.true_and,if_true,List.map_cons,List.sum_cons,Bool.false_eq_true,if_false]
       have h5:(D:Int)<((D+1:Nat):Int):=by omega
       simp only [h5,decide_true,if_true,List.map_cons,List.sum_cons,Int.lt_irrefl,decide_false,Bool.false_eq_true,if_false]
       omega
      ·have h3:¬ (dty w i).day<((D+1:Nat):Int):=by omega
       simp only [h1,h2,h3,h4,decide_true,decide_false,Bool.and_true,Bool.true_and,if_true,List.map_cons,List.sum_cons,Bool.false_eq_true,if_false]
       simpa only [his] using ihL
    ·simp only [h1,decide_false,Bool.false_and,Bool.false_eq_true,if_false]
     simpa only [his] using ihL
 rw [key n]
 congr 3
 apply List.filter_congr
 intro i hi
 have:=hd.duty i (List.mem_range.1 hi)
 simp [this.2]
theorem zPE {k q j:Nat} {b:Bch}:b∈zMY w ros tru k q j↔b.kind=q∧b.drv=k∧b.dut<j∧xF w ros tru q k b.dut=true:=by
 unfold zMY
 simp only [List.mem_filterMap,List.mem_range]
 constructor
 ·rintro ⟨i,hi,h⟩
  split at h
  ·cases h;exact ⟨rfl,rfl,hi,by assumption⟩
  ·cases h
 ·rintro ⟨h1,h2,h3,h4⟩
  refine ⟨b.dut,h3, ?_⟩
  rw [if_pos h4,← h1,← h2]
theorem zKP {k:Nat} {b:Bch}:b∈yFZ w ros tru k↔b.kind=5∧b.drv=k∧b.dut=0∧xF w ros tru 5 k 0=true:=by
 unfold yFZ
 split
 ·obtain ⟨q,j,i⟩:=b
  simp_all
 ·simp_all
theorem zKQ {k q:Nat} {b:Bch}:b∈zMZ w ros tru k q↔b.kind<q∧b.drv=k∧b.dut<w.duties.length∧xF w ros tru b.kind k b.dut=true:=by
 unfold zMZ
 simp only [List.mem_flatMap,List.mem_range]
 constructor
 ·rintro ⟨p,hp,h⟩
  obtain ⟨h1,h2,h3,h4⟩:=zPE.1 h
  exact ⟨by omega,h2,h3,by rw [h1];exact h4⟩
 ·rintro ⟨h1,h2,h3,h4⟩
  exact ⟨b.kind,h1,zPE.2 ⟨rfl,h2,h3,h4⟩⟩
theorem yGB {k:Nat} {b:Bch}:b∈zEC w ros tru k↔(b.kind<5∧b.dut<w.duties.length∨b.kind=5∧b.dut=0)∧b.drv<k∧xF w ros tru b.kind b.drv b.dut=true:=by
 unfold zEC
 simp only [List.mem_flatMap,List.mem_range,List.mem_append]
 constructor
 ·rintro ⟨j,hj,h | h⟩
  ·obtain ⟨h1,h2,h3,h4⟩:=zKQ.1 h
   exact ⟨.inl ⟨h1,h3⟩,by omega,by rw [h2];exact h4⟩
  ·obtain ⟨h1,h2,h3,h4⟩:=zKP.1 h
   exact ⟨.inr ⟨h1,h3⟩,by omega,by rw [h1,h2,h3];exact h4⟩
 ·rintro ⟨⟨h1,h2⟩ | ⟨h1,h2⟩,h3,h4⟩
  ·exact ⟨b.drv,h3,.inl (zKQ.2 ⟨h1,rfl,h2,h4⟩)⟩
  ·exact ⟨b.drv,h3,.inr (zKP.2 ⟨h1,rfl,h2,by rw [h1,h2] at h4;exact h4⟩)⟩
theorem refB_lt {k:Nat}:(zEC w ros tru k).Pairwise Bch.lt:=by
 unfold zEC
 rw [List.pairwise_flatMap]
 constructor
 ·intro j _
  rw [List.pairwise_append]
  refine ⟨?_, ?_, ?_⟩
  ·unfold zMZ
   rw [List.pairwise_flatMap]
   constructor
   ·intro q _
    unfold zMY
    rw [List.pairwise_filterMap]
    refine List.pairwise_lt_range.imp ?_
    intro a c h x hx y hy
    split at hx <;> cases hx
    split at hy <;> cases hy
    exact .inr ⟨rfl,.inr ⟨rfl,h⟩⟩
   ·refine List.pairwise_lt_range.imp ?_
    intro a c h x hx y hy
    obtain ⟨h1,h2,_⟩:=zPE.1 hx
    obtain ⟨h3,h4,_⟩:=zPE.1 hy
    exact .inr ⟨by omega,.inl (by omega)⟩
  ·unfold yFZ
   split
   ·exact List.pairwise_singleton _ _
   ·exact List.Pairwise.nil
  ·intro x hx y hy
   obtain ⟨h1,h2,_⟩:=zKQ.1 hx
   obtain ⟨h3,h4,_⟩:=zKP.1 hy
   exact .inr ⟨by omega,.inl (by omega)⟩
 ·refine List.pairwise_lt_range.imp ?_
  intro a c h x hx y hy
  have h1:x.drv=a:=by
   rcases List.mem_append.1 hx with h | h
   ·exact (zKQ.1 h).2.1
   ·exact (zKP.1 h).2.1
  have h2:y.drv=c:=by
   rcases List.mem_append.1 hy with h | h
   ·exact (zKQ.1 h).2.1
   ·exact (zKP.1 h).2.1
  exact .inl (by omega)
end
end Go.Proofs.YtgfiniccfpfplaaGreat

namespace Go.Proofs.YtgfiniccfpfplaaGreat
set_option linter.unusedVariables false
set_option linter.unusedSimpArgs false
def zEM (w:Wk) (ros tru:Nat→Int):Prop:=∀ q k i,k<w.drivers.length→(q<5∧i<w.duties.length∨q=5∧i=0)→xF w ros tru q k i=false
section
variable {w x:Wk} {ros ros' tru tru':Nat→Int}
theorem zZZ:zEC w ros tru w.drivers.length=[]↔zEM w ros tru:=by
 constructor
 ·intro h q k i hk hq
  cases hb:xF w ros tru q k i with
  | false=>rfl
  | true =>
   have:(⟨q,k,i⟩:Bch)∈zEC w ros tru w.drivers.length:=yGB.2 ⟨hq,hk,hb⟩
   rw [h] at this;cases this
 ·intro h
  apply List.eq_nil_iff_forall_not_mem.2
  intro b hb
  obtain ⟨h1,h2,h3⟩:=yGB.1 hb
  rw [h _ _ _ h2 h1] at h3
  cases h3
theorem yAT {k D i:Nat} (h:xX w ros k D=some i):i<w.duties.length∧ros i=(k:Int)∧(dty w i).day=(D:Int) :=
 zPX.1 (List.mem_of_mem_head? h)
section
variable {f:Nat→Nat}
end
end
end Go.Proofs.YtgfiniccfpfplaaGreat
