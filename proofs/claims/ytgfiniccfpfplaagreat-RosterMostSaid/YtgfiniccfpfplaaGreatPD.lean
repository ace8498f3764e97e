import Derived.Test.YtgfiniccfpfplaaGreatPA

namespace Go.Proofs.YtgfiniccfpfplaaGreat
set_option linter.unusedVariables false
set_option linter.unusedSimpArgs false
structure Bch where
 kind:Nat
 drv:Nat
 dut:Nat
 deriving DecidableEq,Inhabited
def Bch.lt (a b:Bch):Prop:=a.drv<b.drv\/a.drv=b.drv/\(a.kind<b.kind\/a.kind=b.kind/\a.dut<b.dut)
structure Days (w:Wk) (n:Nat):Prop where
 days:w.days=(n:Int)
 duty:∀ i,i<w.duties.length->0<=(dty w i).day/\(dty w i).day<(n:Int)
structure Ros (w:Wk) (ros:Nat->Int):Prop where
 ros:∀ i,i<w.duties.length->-1<=ros i/\ros i<(w.drivers.length:Int)
section
variable (w:Wk) (ros tru:Nat->Int)
def zOR (D i:Nat):List Bch :=
 if ros i=-1 then [] else (List.range 5).filterMap fun q=>if holds w q (drv w (ros i).toNat) (dty w i) (xF w ros tru (ros i).toNat D i) then none else some ⟨q,(ros i).toNat,i⟩
def zER (D j:Nat):List Bch:=(List.range j).flatMap fun i=>if (dty w i).day=(D:Int) then zOR w ros tru D i else []
def zCI (D:Nat):List Bch:=(List.range D).flatMap fun d=>zER w ros tru d w.duties.length
def zGU (n k:Nat):List Bch:=(List.range k).filterMap fun k=>if w.hours<(xJ w ros tru k n).used then some ⟨5,k,0⟩ else none
def yPO (n:Nat):List Bch:=zCI w ros tru n++zGU w ros tru n w.drivers.length
def refK (k q j:Nat):List Bch:=(List.range j).filterMap fun i=>if wD w ros tru q k i then some ⟨q,k,i⟩ else none
def refD (k q:Nat):List Bch:=(List.range q).flatMap fun q=>refK w ros tru k q w.duties.length
def refL (k:Nat):List Bch:=if wD w ros tru 5 k 0 then [⟨5,k,0⟩] else []
def zJQ (k:Nat):List Bch:=(List.range k).flatMap fun k=>refD w ros tru k 5++refL w ros tru k
end
section
variable {w:Wk} {ros tru:Nat->Int}
theorem zNP {D i:Nat} {b:Bch}:b∈zOR w ros tru D i↔ros i≠-1/\b.kind<5/\b.dut=i/\b.drv=(ros i).toNat/\holds w b.kind (drv w b.drv) (dty w i) (xF w ros tru b.drv D i)=false:=by
 unfold zOR;split
 ·simp_all
 ·rename_i h;simp only [List.mem_filterMap,List.mem_range];constructor
  ·rintro ⟨q,hq,h2⟩;split at h2
   ·cases h2
   ·rename_i h3;cases h2
    exact ⟨h,hq,rfl,rfl,by simpa using h3⟩
  ·rintro ⟨_,hk,h2,h3,h4⟩;refine ⟨b.kind,hk, ?_⟩
   rw [<- h3,h4];obtain ⟨q,k,j⟩:=b;simp only at h2 h3 h4 ⊢;subst h2;rfl
theorem yUX {D j:Nat}:zER w ros tru D (j+1)=zER w ros tru D j++(if (dty w j).day=(D:Int) then zOR w ros tru D j else []):=by
 unfold zER;rw [List.range_succ,List.flatMap_append];simp
theorem outB_s {D:Nat}:zCI w ros tru (D+1)=zCI w ros tru D++zER w ros tru D w.duties.length:=by
 unfold zCI;rw [List.range_succ,List.flatMap_append];simp
theorem longB_s {n k:Nat}:zGU w ros tru n (k+1)=zGU w ros tru n k++(if w.hours<(xJ w ros tru k n).used then [⟨5,k,0⟩] else []):=by
 unfold zGU;rw [List.range_succ,List.filterMap_append];simp only [List.filterMap_cons,List.filterMap_nil];split <;> simp_all
theorem outB_mem {n:Nat} (hd:Days w n) (hr:Ros w ros) {b:Bch}:b∈zCI w ros tru n↔b.kind<5/\b.dut<w.duties.length/\b.drv<w.drivers.length/\wD w ros tru b.kind b.drv b.dut=true:=by
 unfold zCI zER;simp only [List.mem_flatMap,List.mem_range];constructor
 ·rintro ⟨D,hD,i,hi,h⟩;split at h
  ·rename_i hday;obtain ⟨h1,h2,h3,h4,h5⟩:=zNP.1 h;have hrr:=hr.ros i hi;have hk:ros i=(b.drv:Int):=by omega
   rw [zNJ hi hk hday h2] at h5;refine ⟨h2,by omega,by omega, ?_⟩
   rw [h3];simpa using h5
  ·cases h
 ·rintro ⟨h1,h2,h3,h4⟩;have hday:=hd.duty b.dut h2;have hk:ros b.dut=(b.drv:Int):=by
   unfold wD at h4;rw [if_neg (by omega)] at h4;simp only [Bool.and_eq_true,decide_eq_true_eq] at h4;exact h4.1
  refine ⟨(dty w b.dut).day.toNat,by omega,b.dut,h2, ?_⟩
  have e:(dty w b.dut).day=((dty w b.dut).day.toNat:Int):=by omega
  rw [if_pos e];refine zNP.2 ⟨by omega,h1,rfl,by omega, ?_⟩;rw [zNJ h2 hk e h1,h4];rfl
theorem zWM {n k:Nat} (hd:Days w n):(xJ w ros tru k n).used=(drv w k).used+(((List.range w.duties.length).filter fun i=>decide (ros i=(k:Int))).map fun i=>tru i-(dty w i).on).sum:=by
 have key:∀ D:Nat,(xJ w ros tru k D).used=(drv w k).used+(((List.range w.duties.length).filter fun i=>decide (ros i=(k:Int)) && decide ((dty w i).day<(D:Int))).map fun i=>tru i-(dty w i).on).sum:=by
  intro D;induction D with
  | zero =>
   have:(List.range w.duties.length).filter (fun i=>decide (ros i=(k:Int)) && decide ((dty w i).day<((0:Nat):Int)))=[]:=by
    apply List.filter_eq_nil_iff.2;intro i hi;have:=hd.duty i (List.mem_range.1 hi);simp;omega
   rw [this];simp [xJ,before]
  | succ D ih =>
   have e:(xJ w ros tru k (D+1)).used=(xJ w ros tru k D).used+((onL w ros k D w.duties.length).map fun i=>tru i-(dty w i).on).sum:=by
    show ((onL w ros k D w.duties.length).foldl (zCF w tru) (xJ w ros tru k D)).used=_;exact yBZ
   rw [e,ih,Int.add_assoc];congr 1;unfold onL;generalize List.range w.duties.length=L;induction L with
   | nil=>rfl
   | cons i L ihL =>
    simp only [List.filter_cons,his];by_cases h1:ros i=(k:Int)
    ·by_cases h2:(dty w i).day<(D:Int)
     ·have h3:(dty w i).day<((D+1:Nat):Int):=by omega
      have h4:¬ (dty w i).day=(D:Int):=by omega
      simp only [h1,h2,h3,h4,decide_true,decide_false,Bool.and_true,Bool.true_and,if_true,List.map_cons,List.sum_cons,Bool.false_eq_true,if_false];omega
     ·by_cases h4:(dty w i).day=(D:Int)
      ·have h3:(dty w i).day<((D+1:Nat):Int):=by omega
       simp only [h1,h2,h3,h4,decide_true,decide_false,Bool.and_true,Bool.true_and,if_true,List.map_cons,List.sum_cons,Bool.false_eq_true,if_false];have h5:(D:Int)<((D+1:Nat):Int):=by omega
       simp only [h5,decide_true,if_true,List.map_cons,List.sum_cons,Int.lt_irrefl,decide_false,Bool.false_eq_true,if_false];omega
      ·have h3:¬ (dty w i).day<((D+1:Nat):Int):=by omega
       simp only [h1,h2,h3,h4,decide_true,decide_false,Bool.and_true,Bool.true_and,if_true,List.map_cons,List.sum_cons,Bool.false_eq_true,if_false];simpa only [his] using ihL
    ·simp only [h1,decide_false,Bool.false_and,Bool.false_eq_true,if_false];simpa only [his] using ihL
 rw [key n];congr 3;apply List.filter_congr;intro i hi;have:=hd.duty i (List.mem_range.1 hi);simp [this.2]
theorem longB_mem {n k:Nat} (hd:Days w n) {b:Bch}:b∈zGU w ros tru n k↔b.kind=5/\b.dut=0/\b.drv<k/\wD w ros tru 5 b.drv 0=true:=by
 unfold zGU;simp only [List.mem_filterMap,List.mem_range];have hb:∀ k,wD w ros tru 5 k 0=decide (w.hours<(xJ w ros tru k n).used):=by
  intro k;rw [zWM hd];unfold wD;rw [if_pos rfl]
 constructor
 ·rintro ⟨j,hj,h⟩;split at h
  ·rename_i h2;cases h
   refine ⟨rfl,rfl,hj, ?_⟩
   rw [hb];exact decide_eq_true h2
  ·cases h
 ·rintro ⟨h1,h2,h3,h4⟩;rw [hb] at h4;refine ⟨b.drv,h3, ?_⟩
  rw [if_pos (of_decide_eq_true h4)];obtain ⟨q,k,j⟩:=b;simp only at h1 h2;subst h1 h2;rfl
theorem yPN {n:Nat} (hd:Days w n) (hr:Ros w ros) {b:Bch}:b∈yPO w ros tru n↔(b.kind<5/\b.dut<w.duties.length\/b.kind=5/\b.dut=0)/\b.drv<w.drivers.length/\wD w ros tru b.kind b.drv b.dut=true:=by
 unfold yPO;rw [List.mem_append,outB_mem hd hr,longB_mem hd];constructor
 ·rintro (⟨h1,h2,h3,h4⟩ | ⟨h1,h2,h3,h4⟩)
  ·exact ⟨.inl ⟨h1,h2⟩,h3,h4⟩
  ·exact ⟨.inr ⟨h1,h2⟩,h3,by rw [h1,h2];exact h4⟩
 ·rintro ⟨⟨h1,h2⟩ | ⟨h1,h2⟩,h3,h4⟩
  ·exact .inl ⟨h1,h2,h3,h4⟩
  ·exact .inr ⟨h1,h2,h3,by rw [h1,h2] at h4;exact h4⟩
theorem zQD {k q j:Nat} {b:Bch}:b∈refK w ros tru k q j↔b.kind=q/\b.drv=k/\b.dut<j/\wD w ros tru q k b.dut=true:=by
 unfold refK;simp only [List.mem_filterMap,List.mem_range];constructor
 ·rintro ⟨i,hi,h⟩;split at h
  ·cases h;exact ⟨rfl,rfl,hi,by assumption⟩
  ·cases h
 ·rintro ⟨h1,h2,h3,h4⟩;refine ⟨b.dut,h3, ?_⟩
  rw [if_pos h4,<- h1,<- h2]
theorem zKG {k:Nat} {b:Bch}:b∈refL w ros tru k↔b.kind=5/\b.drv=k/\b.dut=0/\wD w ros tru 5 k 0=true:=by
 unfold refL;split
 ·obtain ⟨q,j,i⟩:=b;simp_all
 ·simp_all
theorem zKH {k q:Nat} {b:Bch}:b∈refD w ros tru k q↔b.kind<q/\b.drv=k/\b.dut<w.duties.length/\wD w ros tru b.kind k b.dut=true:=by
 unfold refD;simp only [List.mem_flatMap,List.mem_range];constructor
 ·rintro ⟨p,hp,h⟩;obtain ⟨h1,h2,h3,h4⟩:=zQD.1 h;exact ⟨by omega,h2,h3,by rw [h1];exact h4⟩
 ·rintro ⟨h1,h2,h3,h4⟩;exact ⟨b.kind,h1,zQD.2 ⟨rfl,h2,h3,h4⟩⟩
theorem zXG {k:Nat} {b:Bch}:b∈zJQ w ros tru k↔(b.kind<5/\b.dut<w.duties.length\/b.kind=5/\b.dut=0)/\b.drv<k/\wD w ros tru b.kind b.drv b.dut=true:=by
 unfold zJQ;simp only [List.mem_flatMap,List.mem_range,List.mem_append];constructor
 ·rintro ⟨j,hj,h | h⟩
  ·obtain ⟨h1,h2,h3,h4⟩:=zKH.1 h;exact ⟨.inl ⟨h1,h3⟩,by omega,by rw [h2];exact h4⟩
  ·obtain ⟨h1,h2,h3,h4⟩:=zKG.1 h;exact ⟨.inr ⟨h1,h3⟩,by omega,by rw [h1,h2,h3];exact h4⟩
 ·rintro ⟨⟨h1,h2⟩ | ⟨h1,h2⟩,h3,h4⟩
  ·exact ⟨b.drv,h3,.inl (zKH.2 ⟨h1,rfl,h2,h4⟩)⟩
  ·exact ⟨b.drv,h3,.inr (zKG.2 ⟨h1,rfl,h2,by rw [h1,h2] at h4;exact h4⟩)⟩
theorem yXR {k:Nat}:(zJQ w ros tru k).Pairwise Bch.lt:=by
 unfold zJQ;rw [List.pairwise_flatMap];constructor
 ·intro j _;rw [List.pairwise_append];refine ⟨?_, ?_, ?_⟩
  ·unfold refD;rw [List.pairwise_flatMap];constructor
   ·intro q _;unfold refK;rw [List.pairwise_filterMap];refine List.pairwise_lt_range.imp ?_
    intro a c h x hx y hy;split at hx <;> cases hx;split at hy <;> cases hy;exact .inr ⟨rfl,.inr ⟨rfl,h⟩⟩
   ·refine List.pairwise_lt_range.imp ?_
    intro a c h x hx y hy;obtain ⟨h1,h2,_⟩:=zQD.1 hx;obtain ⟨h3,h4,_⟩:=zQD.1 hy;exact .inr ⟨by omega,.inl (by omega)⟩
  ·unfold refL;split
   ·exact List.pairwise_singleton _ _
   ·exact List.Pairwise.nil
  ·intro x hx y hy;obtain ⟨h1,h2,_⟩:=zKH.1 hx;obtain ⟨h3,h4,_⟩:=zKG.1 hy;exact .inr ⟨by omega,.inl (by omega)⟩
 ·refine List.pairwise_lt_range.imp ?_
  intro a c h x hx y hy;have h1:x.drv=a:=by
   rcases List.mem_append.1 hx with h | h
   ·exact (zKH.1 h).2.1
   ·exact (zKG.1 h).2.1
  have h2:y.drv=c:=by
   rcases List.mem_append.1 hy with h | h
   ·exact (zKH.1 h).2.1
   ·exact (zKG.1 h).2.1
  exact .inl (by omega)
theorem Bch.lt_irrefl (a:Bch):¬ a.lt a:=by unfold Bch.lt;omega
theorem Bch.eq_of {a b:Bch} (h:¬ a.lt b) (h2:¬ b.lt a):a=b:=by
 unfold Bch.lt at h h2;obtain ⟨q,k,j⟩:=a;obtain ⟨q',k',j'⟩:=b;simp only at h h2;have:k=k':=by omega
 subst this;have:q=q':=by omega
 subst this;have:j=j':=by omega
 subst this;rfl
theorem yWQ {n:Nat}:(yPO w ros tru n).Nodup:=by
 unfold yPO;show List.Pairwise (·≠·) _;rw [List.pairwise_append];refine ⟨?_, ?_, ?_⟩
 ·unfold zCI zER;rw [List.pairwise_flatMap];have hm:∀ {D i:Nat} {x:Bch},x∈(if (dty w i).day=(D:Int) then zOR w ros tru D i else [])->(dty w i).day=(D:Int)/\x.dut=i:=by
   intro D i x hx;split at hx
   ·exact ⟨by assumption,(zNP.1 hx).2.2.1⟩
   ·cases hx
  constructor
  ·intro D _;rw [List.pairwise_flatMap];constructor
   ·intro i _;split
    ·unfold zOR;split
     ·exact List.Pairwise.nil
     ·rw [List.pairwise_filterMap];refine List.pairwise_lt_range.imp ?_
      intro a c h x hx y hy;split at hx <;> cases hx;split at hy <;> cases hy;intro e;injection e with e1 _ _;omega
    ·exact List.Pairwise.nil
   ·refine List.pairwise_lt_range.imp ?_
    intro a c h x hx y hy e;have:=(hm hx).2;have:=(hm hy).2;subst e;omega
  ·refine List.pairwise_lt_range.imp ?_
   intro a c h x hx y hy e;obtain ⟨i,_,hi⟩:=List.mem_flatMap.1 hx;obtain ⟨j,_,hj⟩:=List.mem_flatMap.1 hy;obtain ⟨h1,h2⟩:=hm hi;obtain ⟨h3,h4⟩:=hm hj;subst e;rw [<- h2] at h1;rw [<- h4] at h3;omega
 ·unfold zGU;rw [List.pairwise_filterMap];refine List.pairwise_lt_range.imp ?_
  intro a c h x hx y hy;split at hx <;> cases hx;split at hy <;> cases hy;intro e;injection e with _ e2 _;omega
 ·intro x hx y hy e;subst e;unfold zCI zER at hx;obtain ⟨D,_,hx⟩:=List.mem_flatMap.1 hx;obtain ⟨i,_,hx⟩:=List.mem_flatMap.1 hx;split at hx
  ·have:=(zNP.1 hx).2.1;unfold zGU at hy;obtain ⟨k,_,hy⟩:=List.mem_filterMap.1 hy;split at hy <;> cases hy;simp only at this;omega
  ·cases hx
theorem sorted_eq {n:Nat} (hd:Days w n) (hr:Ros w ros) {l:List Bch} (hp:l.Perm (yPO w ros tru n)) (hs:l.Pairwise fun a b=>¬ b.lt a):l=zJQ w ros tru w.drivers.length:=by
 have hn:(zJQ w ros tru w.drivers.length).Nodup:=yXR.imp fun h e=>by subst e;exact Bch.lt_irrefl _ h
 have hp2:l.Perm (zJQ w ros tru w.drivers.length):=by
  refine hp.trans ?_
  rw [List.perm_ext_iff_of_nodup yWQ hn];intro b;rw [yPN hd hr,zXG]
 refine List.Perm.eq_of_pairwise (le:=fun a b=>¬ b.lt a) ?_ hs (yXR.imp ?_) hp2
 ·intro a b _ _ h1 h2;exact Bch.eq_of h2 h1
 ·intro a b h h2;unfold Bch.lt at h h2;omega
end
end Go.Proofs.YtgfiniccfpfplaaGreat

namespace Go.Proofs.YtgfiniccfpfplaaGreat
set_option linter.unusedVariables false
set_option linter.unusedSimpArgs false
def uP (w:Wk) (ros tru:Nat->Int):Prop:=∀ q k i,k<w.drivers.length->(q<5/\i<w.duties.length\/q=5/\i=0)->wD w ros tru q k i=false
section
variable {w x:Wk} {ros ros' tru tru':Nat->Int}
theorem legal_ref:zJQ w ros tru w.drivers.length=[]↔uP w ros tru:=by
 constructor
 ·intro h q k i hk hq;cases hb:wD w ros tru q k i with
  | false=>rfl
  | true =>
   have:(⟨q,k,i⟩:Bch)∈zJQ w ros tru w.drivers.length:=zXG.2 ⟨hq,hk,hb⟩;rw [h] at this;cases this
 ·intro h;apply List.eq_nil_iff_forall_not_mem.2;intro b hb;obtain ⟨h1,h2,h3⟩:=zXG.1 hb;rw [h _ _ _ h2 h1] at h3;cases h3
theorem first_mem {k D i:Nat} (h:xV w ros k D=some i):i<w.duties.length/\ros i=(k:Int)/\(dty w i).day=(D:Int) :=
 zMS.1 (List.mem_of_mem_head? h)
theorem first_ex {k D i:Nat} (hi:i<w.duties.length) (hr:ros i=(k:Int)) (hD:(dty w i).day=(D:Int)):∃ j,xV w ros k D=some j:=by
 have:i∈onL w ros k D w.duties.length:=zMS.2 ⟨hi,hr,hD⟩;unfold xV;cases h:onL w ros k D w.duties.length with
 | nil=>rw [h] at this;cases this
 | cons a l=>exact ⟨a,rfl⟩
section
variable {f:Nat->Nat}
end
end
end Go.Proofs.YtgfiniccfpfplaaGreat

namespace Go.Proofs.YtgfiniccfpfplaaGreat
set_option linter.unusedVariables false
set_option linter.unusedSimpArgs false
def wS:List Int->List Int->Bool
 | a::l,b::m=>if a=b then wS l m else decide (b<a)
 | _,_=>false
def vB (a b:List Int):List Int:=List.zipWith (·+·) a b
theorem zIE:∀ a:List Int,wS a a=false
 | []=>rfl
 | a::l=>by unfold wS;rw [if_pos rfl];exact zIE l
theorem zKV:∀ {a b c:List Int},a.length=b.length->b.length=c.length->wS b a=false->wS c b=false->wS c a=false
 | [],[],[],_,_,_,_=>rfl
 | a::l,b::m,c::o,h1,h2,h3,h4=>by
  unfold wS at h3 h4 ⊢;have ih:=zKV (a:=l) (b:=m) (c:=o) (by simpa using h1) (by simpa using h2);split at h3
  ·rename_i e;subst e;split at h4
   ·rename_i e2;subst e2;rw [if_pos rfl];exact ih h3 h4
   ·rename_i e2;rw [if_neg e2];exact h4
  ·rename_i e;have h3:=of_decide_eq_false h3;split at h4
   ·rename_i e2;subst e2;rw [if_neg e];exact decide_eq_false h3
   ·have h4:=of_decide_eq_false h4;rw [if_neg (by omega)];exact decide_eq_false (by omega)
theorem zYI:∀ {a b:List Int},a.length=b.length->wS a b=true->wS b a=false
 | [],[],_,h=>by cases h
 | a::l,b::m,hl,h=>by
  unfold wS at h ⊢;by_cases e:a=b
  ·subst e;rw [if_pos rfl] at h ⊢;exact zYI (by simpa using hl) h
  ·rw [if_neg e] at h;rw [if_neg (Ne.symm e)];have:=of_decide_eq_true h;exact decide_eq_false (by omega)
theorem zYH:∀ {a b c:List Int},a.length=b.length->b.length=c.length->wS (vB a c) (vB b c)=wS a b
 | [],[],[],_,_=>rfl
 | a::l,b::m,c::o,h1,h2=>by
  show (if a+c=b+c then wS (vB l o) (vB m o) else decide (b+c<a+c))=(if a=b then wS l m else decide (b<a));by_cases e:a=b
  ·subst e;rw [if_pos rfl,if_pos rfl,zYH (by simpa using h1) (by simpa using h2)]
  ·rw [if_neg e,if_neg (by omega)];exact decide_eq_decide.2 (by omega)
theorem zME {a b:List Int} (h:a.length=b.length):(vB a b).length=a.length:=by
 unfold vB;rw [List.length_zipWith];omega
abbrev zJR:=List Int->List Int->Prop
def xO (m:Nat) (C:zJR):Option (List Int × List Int)->Prop
 | none=>∀ a v,¬ C a v
 | some (a,v)=>C a v/\v.length=m/\∀ b u,C b u->wS u v=false
theorem xO.iff {m:Nat} {C C':zJR} {e:Option (List Int × List Int)} (h:xO m C e) (k:∀ a v,C a v↔C' a v):xO m C' e:=by
 cases e with
 | none=>exact fun a v hc=>h a v ((k a v).2 hc)
 | some p=>exact ⟨(k _ _).1 h.1,h.2.1,fun b u hc=>h.2.2 b u ((k b u).2 hc)⟩
def pick (out:Option (List Int × List Int)) (a v:List Int):Option (List Int × List Int) :=
 match out with
 | none=>some (a,v)
 | some (b,u)=>if wS v u then some (a,v) else some (b,u)
theorem xO.pick {m:Nat} {C:zJR} {G:zJR} {out:Option (List Int × List Int)} {a v:List Int} (h:xO m C out) (hv:v.length=m) (hg:G a v) (hb:∀ b u,G b u->wS u v=false) (hm:∀ b u,C b u\/G b u->u.length=m):xO m (fun b u=>C b u\/G b u) (pick out a v):=by
 cases out with
 | none =>
  refine ⟨.inr hg,hv, ?_⟩
  rintro b u (hc | hc)
  ·exact absurd hc (h b u)
  ·exact hb b u hc
 | some p =>
  obtain ⟨b,u⟩:=p;obtain ⟨h1,h2,h3⟩:=h;unfold YtgfiniccfpfplaaGreat.pick;simp only;by_cases hmore:wS v u=true
  ·rw [if_pos hmore];refine ⟨.inr hg,hv, ?_⟩
   rintro c x (hc | hc)
   ·exact zKV (b:=u) (by omega) (by rw [hm c x (.inl hc),h2]) (zYI (by omega) hmore) (h3 c x hc)
   ·exact hb c x hc
  ·rw [if_neg hmore];refine ⟨.inl h1,h2, ?_⟩
   rintro c x (hc | hc)
   ·exact h3 c x hc
   ·exact zKV (b:=v) (by omega) (by rw [hm c x (.inr hc),hv]) (by simpa using hmore) (hb c x hc)
theorem xO.none {m:Nat} {C G:zJR} {out:Option (List Int × List Int)} (h:xO m C out) (hg:∀ a v,¬ G a v):xO m (fun b u=>C b u\/G b u) out :=
 h.iff fun a v=>⟨.inl,fun k=>k.elim id fun k=>absurd k (hg a v)⟩
section
variable (w:Wk) (leaves:Bool) (wf:Nat->List Int->List Int)
def late (i:Nat):Int:=(dty w i).hi
def zGA (k i:Nat) (s:Std):Bool:=(List.range 5).all (fun q=>holds w q (drv w k) (dty w i) s) && decide ((take s (dty w i) (dty w i).hi).used<=w.hours)
def upd (st:Nat->Std) (k:Nat) (s:Std):Nat->Std:=fun j=>if j=k then s else st j
def yC (D j:Nat):List Nat:=(List.range j).filter fun i=>decide ((dty w i).day=(D:Int))
def zWO (st:Nat->Std) (k i:Nat):Nat->Std:=upd st k (take (st k) (dty w i) (dty w i).hi)
def uT:List Nat->List Int->(Nat->Std)->Option (Nat->Std)
 | [],[],st=>some st
 | i::l,r::who,st =>
  if r=-1 then (if leaves then uT l who st else none)
  else if 0<=r/\r<(w.drivers.length:Int)/\zGA w r.toNat i (st r.toNat)=true then uT l who (zWO w st r.toNat i) else none
 | _,_,_=>none
def zQK (D:Nat) (s:Std):Std:=if s.day=(D:Int) then s else ⟨max s.free (((D:Int)+1)*1440-w.rest),0,s.used,s.day⟩
def zCH (D:Nat) (st:Nat->Std):Nat->Std:=fun k=>if k<w.drivers.length then zQK w D (st k) else st k
def zCQ:List Int:=[0,0,0,0,0,0]
def Ch:Nat->Nat->(Nat->Std)->zJR
 | 0,D,st,who,v=>who=[]/\v=zCQ
 | r+1,D,st,who,v=>∃ a b st' u,uT w leaves (yC w D w.duties.length) a st=some st'/\Ch r (D+1) (zCH w D st') b u/\who=a++b/\v=vB u (wf D a)
def zSZ (r D:Nat) (l:List Nat) (who:List Int) (st:Nat->Std):zJR:=fun c v =>
 ∃ a b st' u,uT w leaves l a st=some st'/\Ch w leaves wf r (D+1) (zCH w D st') b u/\c=who++a++b/\v=vB u (wf D (who++a))
end
section
variable {w:Wk} {leaves:Bool} {wf:Nat->List Int->List Int}
theorem Ch.len (hw:∀ D a,(wf D a).length=6):∀ {r D:Nat} {st:Nat->Std} {c v:List Int},Ch w leaves wf r D st c v->v.length=6
 | 0,_,_,_,_,h=>by rw [h.2];rfl
 | r+1,D,st,c,v,h=>by
  obtain ⟨a,b,st',u,_,h2,_,h4⟩:=h;have:=Ch.len hw h2;rw [h4,zME (by rw [this,hw]),this]
theorem zSZ.len (hw:∀ D a,(wf D a).length=6) {r D:Nat} {l:List Nat} {who:List Int} {st:Nat->Std} {c v:List Int} (h:zSZ w leaves wf r D l who st c v):v.length=6:=by
 obtain ⟨a,b,st',u,_,h2,_,h4⟩:=h;have:=h2.len hw;rw [h4,zME (by rw [this,hw]),this]
theorem Ch_give {r D:Nat} {st:Nat->Std} {c v:List Int}:Ch w leaves wf (r+1) D st c v↔zSZ w leaves wf r D (yC w D w.duties.length) [] st c v:=by
 unfold Ch zSZ;simp only [List.nil_append]
theorem yAP {r D:Nat} {who:List Int} {st:Nat->Std} {c v:List Int}:zSZ w leaves wf r D [] who st c v↔∃ b u,Ch w leaves wf r (D+1) (zCH w D st) b u/\c=who++b/\v=vB u (wf D who):=by
 constructor
 ·rintro ⟨a,b,st',u,h1,h2,h3,h4⟩;cases a with
  | nil =>
   have h1:some st=some st':=h1;cases h1
   exact ⟨b,u,h2,by simpa using h3,by simpa using h4⟩
  | cons x a=>cases h1
 ·rintro ⟨b,u,h2,h3,h4⟩;exact ⟨[],b,st,u,rfl,h2,by simpa using h3,by simpa using h4⟩
theorem Give_cons {r D i:Nat} {l:List Nat} {who:List Int} {st:Nat->Std} {c v:List Int}:zSZ w leaves wf r D (i::l) who st c v↔(leaves=true/\zSZ w leaves wf r D l (who++[-1]) st c v)\/∃ k,k<w.drivers.length/\zGA w k i (st k)=true/\zSZ w leaves wf r D l (who++[(k:Int)]) (zWO w st k i) c v:=by
 constructor
 ·rintro ⟨a,b,st',u,h1,h2,h3,h4⟩;cases a with
  | nil=>cases h1
  | cons x a =>
   unfold uT at h1;split at h1
   ·rename_i e;subst e;split at h1
    ·rename_i hl;exact .inl ⟨hl,a,b,st',u,h1,h2,by rw [h3];simp,by rw [h4];simp⟩
    ·cases h1
   ·split at h1
    ·rename_i e h;obtain ⟨g1,g2,g3⟩:=h;refine .inr ⟨x.toNat,by omega,g3,a,b,st',u,h1,h2, ?_, ?_⟩
     ·rw [h3,Int.toNat_of_nonneg g1];simp
     ·rw [h4,Int.toNat_of_nonneg g1];simp
    ·cases h1
 ·rintro (⟨hl,a,b,st',u,h1,h2,h3,h4⟩ | ⟨k,hk,hm,a,b,st',u,h1,h2,h3,h4⟩)
  ·refine ⟨-1::a,b,st',u, ?_,h2,by rw [h3];simp,by rw [h4];simp⟩
   unfold uT;rw [if_pos rfl,if_pos hl];exact h1
  ·refine ⟨(k:Int)::a,b,st',u, ?_,h2,by rw [h3];simp,by rw [h4];simp⟩
   unfold uT;rw [if_neg (by omega),Int.toNat_natCast,if_pos ⟨by omega,by omega,hm⟩];exact h1
theorem give_leaf {r D:Nat} {who:List Int} {st:Nat->Std} {C:zJR} {out rest:Option (List Int × List Int)} (hw:∀ D a,(wf D a).length=6) (hr:xO 6 (Ch w leaves wf r (D+1) (zCH w D st)) rest) (ho:xO 6 C out) (hC:∀ a v,C a v->v.length=6) :
  xO 6 (fun c v=>C c v\/zSZ w leaves wf r D [] who st c v) (match rest with | none=>out | some (b,u)=>pick out (who++b) (vB u (wf D who))):=by
 cases rest with
 | none =>
  refine ho.none ?_
  intro a v h;obtain ⟨b,u,h2,_⟩:=yAP.1 h;exact hr b u h2
 | some p =>
  obtain ⟨b,u⟩:=p;obtain ⟨h1,h2,h3⟩:=hr;refine ho.pick (by rw [zME (by rw [h2,hw]),h2]) (yAP.2 ⟨b,u,h1,rfl,rfl⟩) ?_ ?_
  ·intro c x h;obtain ⟨b',u',h4,_,h6⟩:=yAP.1 h;rw [h6,zYH (by rw [h4.len hw,h2]) (by rw [h2,hw])];exact h3 b' u' h4
  ·rintro c x (h | h)
   ·exact hC c x h
   ·exact h.len hw
end
end Go.Proofs.YtgfiniccfpfplaaGreat
