import Derived.Test.YtgfiniccfpfplaaGreatPA

namespace Go.Proofs.YtgfiniccfpfplaaGreat
set_option linter.unusedVariables false
set_option linter.unusedSimpArgs false
structure Bch where
 kind:Nat
 drv:Nat
 dut:Nat
 deriving DecidableEq,Inhabited
def Bch.lt (a b:Bch):Prop:=a.drv<b.drv∨a.drv=b.drv∧(a.kind<b.kind∨a.kind=b.kind∧a.dut<b.dut)
structure Days (w:Wk) (n:Nat):Prop where
 days:w.days=(n:Int)
 duty:∀ i,i<w.duties.length→0≤(dty w i).day∧(dty w i).day<(n:Int)
structure Ros (w:Wk) (ros:Nat→Int):Prop where
 ros:∀ i,i<w.duties.length→-1≤ros i∧ros i<(w.drivers.length:Int)
section
variable (w:Wk) (ros tru:Nat→Int)
def cellW (D i:Nat):List Bch :=
 if ros i=-1 then [] else (List.range 5).filterMap fun q=>if holds w q (drv w (ros i).toNat) (dty w i) (vV w ros tru (ros i).toNat D i) then none else some ⟨q,(ros i).toNat,i⟩
def dayB (D j:Nat):List Bch:=(List.range j).flatMap fun i=>if (dty w i).day=(D:Int) then cellW w ros tru D i else []
def outB (D:Nat):List Bch:=(List.range D).flatMap fun d=>dayB w ros tru d w.duties.length
def zNR (k q j:Nat):List Bch:=(List.range j).filterMap fun i=>if xM w ros tru q k i then some ⟨q,k,i⟩ else none
def zNS (k q:Nat):List Bch:=(List.range q).flatMap fun q=>zNR w ros tru k q w.duties.length
def yHP (k:Nat):List Bch:=if xM w ros tru 5 k 0 then [⟨5,k,0⟩] else []
def zEX (k:Nat):List Bch:=(List.range k).flatMap fun k=>zNS w ros tru k 5++yHP w ros tru k
end
section
variable {w:Wk} {ros tru:Nat→Int}
theorem yCS {D i:Nat} {b:Bch}:b∈cellW w ros tru D i↔ros i≠-1∧b.kind<5∧b.dut=i∧b.drv=(ros i).toNat∧holds w b.kind (drv w b.drv) (dty w i) (vV w ros tru b.drv D i)=false:=by
 unfold cellW
 split
 ·simp_all
 ·rename_i h
  simp only [List.mem_filterMap,List.mem_range]
  constructor
  ·rintro ⟨q,hq,h2⟩
   split at h2
   ·cases h2
   ·rename_i h3
    cases h2
    exact ⟨h,hq,rfl,rfl,by simpa using h3⟩
  ·rintro ⟨_,hk,h2,h3,h4⟩
   refine ⟨b.kind,hk, ?_⟩
   rw [← h3,h4]
   obtain ⟨q,k,j⟩:=b
   simp only at h2 h3 h4 ⊢
   subst h2
   rfl
theorem outB_mem {n:Nat} (hd:Days w n) (hr:Ros w ros) {b:Bch}:b∈outB w ros tru n↔b.kind<5∧b.dut<w.duties.length∧b.drv<w.drivers.length∧xM w ros tru b.kind b.drv b.dut=true:=by
 unfold outB dayB
 simp only [List.mem_flatMap,List.mem_range]
 constructor
 ·rintro ⟨D,hD,i,hi,h⟩
  split at h
  ·rename_i hday
   obtain ⟨h1,h2,h3,h4,h5⟩:=yCS.1 h
   have hrr:=hr.ros i hi
   have hk:ros i=(b.drv:Int):=by omega
   rw [zNJ hi hk hday h2] at h5
   refine ⟨h2,by omega,by omega, ?_⟩
   rw [h3];simpa using h5
  ·cases h
 ·rintro ⟨h1,h2,h3,h4⟩
  have hday:=hd.duty b.dut h2
  have hk:ros b.dut=(b.drv:Int):=by
   unfold xM at h4
   rw [if_neg (by omega)] at h4
   simp only [Bool.and_eq_true,decide_eq_true_eq] at h4
   exact h4.1
  refine ⟨(dty w b.dut).day.toNat,by omega,b.dut,h2, ?_⟩
  have e:(dty w b.dut).day=((dty w b.dut).day.toNat:Int):=by omega
  rw [if_pos e]
  refine yCS.2 ⟨by omega,h1,rfl,by omega, ?_⟩
  rw [zNJ h2 hk e h1,h4];rfl
theorem yGT {n k:Nat} (hd:Days w n):(wL w ros tru k n).used=(drv w k).used+(((List.range w.duties.length).filter fun i=>decide (ros i=(k:Int))).map fun i=>tru i-(dty w i).on).sum:=by
 have key:∀ D:Nat,(wL w ros tru k D).used=(drv w k).used+(((List.range w.duties.length).filter fun i=>decide (ros i=(k:Int)) && decide ((dty w i).day<(D:Int))).map fun i=>tru i-(dty w i).on).sum:=by
  intro D
  induction D with
  | zero =>
   have:(List.range w.duties.length).filter (fun i=>decide (ros i=(k:Int)) && decide ((dty w i).day<((0:Nat):Int)))=[]:=by
    apply List.filter_eq_nil_iff.2
    intro i hi
    have:=hd.duty i (List.mem_range.1 hi)
    simp;omega
   rw [this];simp [wL,before]
  | succ D ih =>
   have e:(wL w ros tru k (D+1)).used=(wL w ros tru k D).used+((onL w ros k D w.duties.length).map fun i=>tru i-(dty w i).on).sum:=by
    show ((onL w ros k D w.duties.length).foldl (zEV w tru) (wL w ros tru k D)).used=_
    exact yAF
   rw [e,ih,Int.add_assoc]
   congr 1
   unfold onL
   generalize List.range w.duties.length=L
   induction L with
   | nil=>rfl
   | cons i L ihL =>
    simp only [List.filter_cons,his]
    by_cases h1:ros i=(k:Int)
    ·by_cases h2:(dty w i).day<(D:Int)
     ·have h3:(dty w i).day<((D+1:Nat):Int):=by omega
      have h4:¬ (dty w i).day=(D:Int):=by omega
      simp only [h1,h2,h3,h4,decide_true,decide_false,Bool.and_true,Bool.true_and,if_true,List.map_cons,List.sum_cons,Bool.false_eq_true,if_false]
      omega
     ·by_cases h4:(dty w i).day=(D:Int)
      ·have h3:(dty w i).day<((D+1:Nat):Int):=by omega
       simp only [h1,h2,h3,h4,decide_true,decide_false,Bool.and_true,Bool.true_and,if_true,List.map_cons,List.sum_cons,Bool.false_eq_true,if_false]
       have h5:(D:Int)<((D+1:Nat):Int):=by omega
       simp only [h5,decide_true,if_true,List.map_cons,List.sum_cons,Int.lt_irrefl,decide_false,Bool.false_eq_true,if_false]
       omega
      ·have h3:¬ (dty w i).day<((D+1:Nat):Int):=by omega
       simp only [h1,h2,h3,h4,decide_true,decide_false,Bool.and_true,Bool.true_and,if_true,List.map_cons,List.sum_cons,Bool.false_eq_true,if_false]
       simpa only [his] using ihL
    ·simp only [h1,decide_false,Bool.false_and,Bool.false_eq_true,if_false]
     simpa only [his] using ihL
 rw [key n]
 congr 3
 apply List.filter_congr
 intro i hi
 have:=hd.duty i (List.mem_range.1 hi)
 simp [this.2]
theorem zPZ {k q j:Nat} {b:Bch}:b∈zNR w ros tru k q j↔b.kind=q∧b.drv=k∧b.dut<j∧xM w ros tru q k b.dut=true:=by
 unfold zNR
 simp only [List.mem_filterMap,List.mem_range]
 constructor
 ·rintro ⟨i,hi,h⟩
  split at h
  ·cases h;exact ⟨rfl,rfl,hi,by assumption⟩
  ·cases h
 ·rintro ⟨h1,h2,h3,h4⟩
  refine ⟨b.dut,h3, ?_⟩
  rw [if_pos h4,← h1,← h2]
theorem zLI {k:Nat} {b:Bch}:b∈yHP w ros tru k↔b.kind=5∧b.drv=k∧b.dut=0∧xM w ros tru 5 k 0=true:=by
 unfold yHP
 split
 ·obtain ⟨q,j,i⟩:=b
  simp_all
 ·simp_all
theorem zLJ {k q:Nat} {b:Bch}:b∈zNS w ros tru k q↔b.kind<q∧b.drv=k∧b.dut<w.duties.length∧xM w ros tru b.kind k b.dut=true:=by
 unfold zNS
 simp only [List.mem_flatMap,List.mem_range]
 constructor
 ·rintro ⟨p,hp,h⟩
  obtain ⟨h1,h2,h3,h4⟩:=zPZ.1 h
  exact ⟨by omega,h2,h3,by rw [h1];exact h4⟩
 ·rintro ⟨h1,h2,h3,h4⟩
  exact ⟨b.kind,h1,zPZ.2 ⟨rfl,h2,h3,h4⟩⟩
theorem yHR {k:Nat} {b:Bch}:b∈zEX w ros tru k↔(b.kind<5∧b.dut<w.duties.length∨b.kind=5∧b.dut=0)∧b.drv<k∧xM w ros tru b.kind b.drv b.dut=true:=by
 unfold zEX
 simp only [List.mem_flatMap,List.mem_range,List.mem_append]
 constructor
 ·rintro ⟨j,hj,h | h⟩
  ·obtain ⟨h1,h2,h3,h4⟩:=zLJ.1 h
   exact ⟨.inl ⟨h1,h3⟩,by omega,by rw [h2];exact h4⟩
  ·obtain ⟨h1,h2,h3,h4⟩:=zLI.1 h
   exact ⟨.inr ⟨h1,h3⟩,by omega,by rw [h1,h2,h3];exact h4⟩
 ·rintro ⟨⟨h1,h2⟩ | ⟨h1,h2⟩,h3,h4⟩
  ·exact ⟨b.drv,h3,.inl (zLJ.2 ⟨h1,rfl,h2,h4⟩)⟩
  ·exact ⟨b.drv,h3,.inr (zLI.2 ⟨h1,rfl,h2,by rw [h1,h2] at h4;exact h4⟩)⟩
theorem refB_lt {k:Nat}:(zEX w ros tru k).Pairwise Bch.lt:=by
 unfold zEX
 rw [List.pairwise_flatMap]
 constructor
 ·intro j _
  rw [List.pairwise_append]
  refine ⟨?_, ?_, ?_⟩
  ·unfold zNS
   rw [List.pairwise_flatMap]
   constructor
   ·intro q _
    unfold zNR
    rw [List.pairwise_filterMap]
    refine List.pairwise_lt_range.imp ?_
    intro a c h x hx y hy
    split at hx <;> cases hx
    split at hy <;> cases hy
    exact .inr ⟨rfl,.inr ⟨rfl,h⟩⟩
   ·refine List.pairwise_lt_range.imp ?_
    intro a c h x hx y hy
    obtain ⟨h1,h2,_⟩:=zPZ.1 hx
    obtain ⟨h3,h4,_⟩:=zPZ.1 hy
    exact .inr ⟨by omega,.inl (by omega)⟩
  ·unfold yHP
   split
   ·exact List.pairwise_singleton _ _
   ·exact List.Pairwise.nil
  ·intro x hx y hy
   obtain ⟨h1,h2,_⟩:=zLJ.1 hx
   obtain ⟨h3,h4,_⟩:=zLI.1 hy
   exact .inr ⟨by omega,.inl (by omega)⟩
 ·refine List.pairwise_lt_range.imp ?_
  intro a c h x hx y hy
  have h1:x.drv=a:=by
   rcases List.mem_append.1 hx with h | h
   ·exact (zLJ.1 h).2.1
   ·exact (zLI.1 h).2.1
  have h2:y.drv=c:=by
   rcases List.mem_append.1 hy with h | h
   ·exact (zLJ.1 h).2.1
   ·exact (zLI.1 h).2.1
  exact .inl (by omega)
end
end Go.Proofs.YtgfiniccfpfplaaGreat

namespace Go.Proofs.YtgfiniccfpfplaaGreat
set_option linter.unusedVariables false
set_option linter.unusedSimpArgs false
def zHS (w:Wk) (ros tru:Nat→Int):Prop:=∀ q k i,k<w.drivers.length→(q<5∧i<w.duties.length∨q=5∧i=0)→xM w ros tru q k i=false
section
variable {w x:Wk} {ros ros' tru tru':Nat→Int}
theorem yBJ:zEX w ros tru w.drivers.length=[]↔zHS w ros tru:=by
 constructor
 ·intro h q k i hk hq
  cases hb:xM w ros tru q k i with
  | false=>rfl
  | true =>
   have:(⟨q,k,i⟩:Bch)∈zEX w ros tru w.drivers.length:=yHR.2 ⟨hq,hk,hb⟩
   rw [h] at this;cases this
 ·intro h
  apply List.eq_nil_iff_forall_not_mem.2
  intro b hb
  obtain ⟨h1,h2,h3⟩:=yHR.1 hb
  rw [h _ _ _ h2 h1] at h3
  cases h3
theorem zSG {k D i:Nat} (h:yN w ros k D=some i):i<w.duties.length∧ros i=(k:Int)∧(dty w i).day=(D:Int) :=
 zNC.1 (List.mem_of_mem_head? h)
theorem first_ex {k D i:Nat} (hi:i<w.duties.length) (hr:ros i=(k:Int)) (hD:(dty w i).day=(D:Int)):∃ j,yN w ros k D=some j:=by
 have:i∈onL w ros k D w.duties.length:=zNC.2 ⟨hi,hr,hD⟩
 unfold yN
 cases h:onL w ros k D w.duties.length with
 | nil=>rw [h] at this;cases this
 | cons a l=>exact ⟨a,rfl⟩
section
variable {f:Nat→Nat}
end
end
end Go.Proofs.YtgfiniccfpfplaaGreat

namespace Go.Proofs.YtgfiniccfpfplaaGreat
set_option linter.unusedVariables false
set_option linter.unusedSimpArgs false
def xF:List Int→List Int→Bool
 | a::l,b::m=>if a=b then xF l m else decide (b<a)
 | _,_=>false
def zAI (a b:List Int):List Int:=List.zipWith (·+·) a b
theorem zBP:∀ a:List Int,xF a a=false
 | []=>rfl
 | a::l=>by unfold xF;rw [if_pos rfl];exact zBP l
theorem zHE:∀ {a b c:List Int},a.length=b.length→b.length=c.length→xF b a=false→xF c b=false→xF c a=false
 | [],[],[],_,_,_,_=>rfl
 | a::l,b::m,c::o,h1,h2,h3,h4=>by
  unfold xF at h3 h4 ⊢
  have ih:=zHE (a:=l) (b:=m) (c:=o) (by simpa using h1) (by simpa using h2)
  split at h3
  ·rename_i e
   subst e
   split at h4
   ·rename_i e2
    subst e2
    rw [if_pos rfl]
    exact ih h3 h4
   ·rename_i e2
    rw [if_neg e2];exact h4
  ·rename_i e
   have h3:=of_decide_eq_false h3
   split at h4
   ·rename_i e2
    subst e2
    rw [if_neg e];exact decide_eq_false h3
   ·have h4:=of_decide_eq_false h4
    rw [if_neg (by omega)]
    exact decide_eq_false (by omega)
theorem zWX:∀ {a b:List Int},a.length=b.length→xF a b=false→xF b a=false→a=b
 | [],[],_,_,_=>rfl
 | a::l,b::m,h,h1,h2=>by
  unfold xF at h1 h2
  by_cases e:a=b
  ·subst e
   rw [if_pos rfl] at h1 h2
   rw [zWX (by simpa using h) h1 h2]
  ·rw [if_neg e] at h1
   rw [if_neg (Ne.symm e)] at h2
   have:=of_decide_eq_false h1
   have:=of_decide_eq_false h2
   omega
theorem zPE:∀ {a b:List Int},a.length=b.length→xF a b=true→xF b a=false
 | [],[],_,h=>by cases h
 | a::l,b::m,hl,h=>by
  unfold xF at h ⊢
  by_cases e:a=b
  ·subst e
   rw [if_pos rfl] at h ⊢
   exact zPE (by simpa using hl) h
  ·rw [if_neg e] at h
   rw [if_neg (Ne.symm e)]
   have:=of_decide_eq_true h
   exact decide_eq_false (by omega)
theorem zWW:∀ {a b c:List Int},a.length=b.length→b.length=c.length→xF (zAI a c) (zAI b c)=xF a b
 | [],[],[],_,_=>rfl
 | a::l,b::m,c::o,h1,h2=>by
  show (if a+c=b+c then xF (zAI l o) (zAI m o) else decide (b+c<a+c))=(if a=b then xF l m else decide (b<a))
  by_cases e:a=b
  ·subst e
   rw [if_pos rfl,if_pos rfl,zWW (by simpa using h1) (by simpa using h2)]
  ·rw [if_neg e,if_neg (by omega)]
   exact decide_eq_decide.2 (by omega)
theorem zNB {a b:List Int} (h:a.length=b.length):(zAI a b).length=a.length:=by
 unfold zAI;rw [List.length_zipWith];omega
abbrev zKV:=List Int→List Int→Prop
def xY (m:Nat) (C:zKV):Option (List Int × List Int)→Prop
 | none=>∀ a v,¬ C a v
 | some (a,v)=>C a v∧v.length=m∧∀ b u,C b u→xF u v=false
theorem xY.iff {m:Nat} {C C':zKV} {e:Option (List Int × List Int)} (h:xY m C e) (k:∀ a v,C a v↔C' a v):xY m C' e:=by
 cases e with
 | none=>exact fun a v hc=>h a v ((k a v).2 hc)
 | some p=>exact ⟨(k _ _).1 h.1,h.2.1,fun b u hc=>h.2.2 b u ((k b u).2 hc)⟩
def pick (out:Option (List Int × List Int)) (a v:List Int):Option (List Int × List Int) :=
 match out with
 | none=>some (a,v)
 | some (b,u)=>if xF v u then some (a,v) else some (b,u)
theorem xY.pick {m:Nat} {C:zKV} {G:zKV} {out:Option (List Int × List Int)} {a v:List Int} (h:xY m C out) (hv:v.length=m) (hg:G a v) (hb:∀ b u,G b u→xF u v=false) (hm:∀ b u,C b u∨G b u→u.length=m):xY m (fun b u=>C b u∨G b u) (pick out a v):=by
 cases out with
 | none =>
  refine ⟨.inr hg,hv, ?_⟩
  rintro b u (hc | hc)
  ·exact absurd hc (h b u)
  ·exact hb b u hc
 | some p =>
  obtain ⟨b,u⟩:=p
  obtain ⟨h1,h2,h3⟩:=h
  unfold YtgfiniccfpfplaaGreat.pick
  simp only
  by_cases hmore:xF v u=true
  ·rw [if_pos hmore]
   refine ⟨.inr hg,hv, ?_⟩
   rintro c x (hc | hc)
   ·exact zHE (b:=u) (by omega) (by rw [hm c x (.inl hc),h2]) (zPE (by omega) hmore) (h3 c x hc)
   ·exact hb c x hc
  ·rw [if_neg hmore]
   refine ⟨.inl h1,h2, ?_⟩
   rintro c x (hc | hc)
   ·exact h3 c x hc
   ·exact zHE (b:=v) (by omega) (by rw [hm c x (.inr hc),hv]) (by simpa using hmore) (hb c x hc)
theorem xY.none {m:Nat} {C G:zKV} {out:Option (List Int × List Int)} (h:xY m C out) (hg:∀ a v,¬ G a v):xY m (fun b u=>C b u∨G b u) out :=
 h.iff fun a v=>⟨.inl,fun k=>k.elim id fun k=>absurd k (hg a v)⟩
section
variable (w:Wk) (leaves:Bool) (wf:Nat→List Int→List Int)
def late (i:Nat):Int:=(dty w i).hi
def zHN (k i:Nat) (s:Std):Bool:=(List.range 5).all (fun q=>holds w q (drv w k) (dty w i) s) && decide ((take s (dty w i) (dty w i).hi).used≤w.hours)
def upd (st:Nat→Std) (k:Nat) (s:Std):Nat→Std:=fun j=>if j=k then s else st j
def yE (D j:Nat):List Nat:=(List.range j).filter fun i=>decide ((dty w i).day=(D:Int))
def zVE (st:Nat→Std) (k i:Nat):Nat→Std:=upd st k (take (st k) (dty w i) (dty w i).hi)
def zCE:List Nat→List Int→(Nat→Std)→Option (Nat→Std)
 | [],[],st=>some st
 | i::l,r::who,st =>
  if r=-1 then (if leaves then zCE l who st else none)
  else if 0≤r∧r<(w.drivers.length:Int)∧zHN w r.toNat i (st r.toNat)=true then zCE l who (zVE w st r.toNat i) else none
 | _,_,_=>none
def zQW (D:Nat) (s:Std):Std:=if s.day=(D:Int) then s else ⟨max s.free (((D:Int)+1)*1440-w.rest),0,s.used,s.day⟩
def zFA (D:Nat) (st:Nat→Std):Nat→Std:=fun k=>if k<w.drivers.length then zQW w D (st k) else st k
def zFG:List Int:=[0,0,0,0,0,0]
def Ch:Nat→Nat→(Nat→Std)→zKV
 | 0,D,st,who,v=>who=[]∧v=zFG
 | r+1,D,st,who,v=>∃ a b st' u,zCE w leaves (yE w D w.duties.length) a st=some st'∧Ch r (D+1) (zFA w D st') b u∧who=a++b∧v=zAI u (wf D a)
def zSP (r D:Nat) (l:List Nat) (who:List Int) (st:Nat→Std):zKV:=fun c v =>
 ∃ a b st' u,zCE w leaves l a st=some st'∧Ch w leaves wf r (D+1) (zFA w D st') b u∧c=who++a++b∧v=zAI u (wf D (who++a))
end
section
variable {w:Wk} {leaves:Bool} {wf:Nat→List Int→List Int}
theorem Ch.len (hw:∀ D a,(wf D a).length=6):∀ {r D:Nat} {st:Nat→Std} {c v:List Int},Ch w leaves wf r D st c v→v.length=6
 | 0,_,_,_,_,h=>by rw [h.2];rfl
 | r+1,D,st,c,v,h=>by
  obtain ⟨a,b,st',u,_,h2,_,h4⟩:=h
  have:=Ch.len hw h2
  rw [h4,zNB (by rw [this,hw]),this]
theorem zSP.len (hw:∀ D a,(wf D a).length=6) {r D:Nat} {l:List Nat} {who:List Int} {st:Nat→Std} {c v:List Int} (h:zSP w leaves wf r D l who st c v):v.length=6:=by
 obtain ⟨a,b,st',u,_,h2,_,h4⟩:=h
 have:=h2.len hw
 rw [h4,zNB (by rw [this,hw]),this]
theorem Ch_give {r D:Nat} {st:Nat→Std} {c v:List Int}:Ch w leaves wf (r+1) D st c v↔zSP w leaves wf r D (yE w D w.duties.length) [] st c v:=by
 unfold Ch zSP
 simp only [List.nil_append]
theorem zYJ {r D:Nat} {who:List Int} {st:Nat→Std} {c v:List Int}:zSP w leaves wf r D [] who st c v↔∃ b u,Ch w leaves wf r (D+1) (zFA w D st) b u∧c=who++b∧v=zAI u (wf D who):=by
 constructor
 ·rintro ⟨a,b,st',u,h1,h2,h3,h4⟩
  cases a with
  | nil =>
   have h1:some st=some st':=h1
   cases h1
   exact ⟨b,u,h2,by simpa using h3,by simpa using h4⟩
  | cons x a=>cases h1
 ·rintro ⟨b,u,h2,h3,h4⟩
  exact ⟨[],b,st,u,rfl,h2,by simpa using h3,by simpa using h4⟩
theorem yXE {r D i:Nat} {l:List Nat} {who:List Int} {st:Nat→Std} {c v:List Int}:zSP w leaves wf r D (i::l) who st c v↔(leaves=true∧zSP w leaves wf r D l (who++[-1]) st c v)∨∃ k,k<w.drivers.length∧zHN w k i (st k)=true∧zSP w leaves wf r D l (who++[(k:Int)]) (zVE w st k i) c v:=by
 constructor
 ·rintro ⟨a,b,st',u,h1,h2,h3,h4⟩
  cases a with
  | nil=>cases h1
  | cons x a =>
   unfold zCE at h1
   split at h1
   ·rename_i e
    subst e
    split at h1
    ·rename_i hl
     exact .inl ⟨hl,a,b,st',u,h1,h2,by rw [h3];simp,by rw [h4];simp⟩
    ·cases h1
   ·split at h1
    ·rename_i e h
     obtain ⟨g1,g2,g3⟩:=h
     refine .inr ⟨x.toNat,by omega,g3,a,b,st',u,h1,h2, ?_, ?_⟩
     ·rw [h3,Int.toNat_of_nonneg g1];simp
     ·rw [h4,Int.toNat_of_nonneg g1];simp
    ·cases h1
 ·rintro (⟨hl,a,b,st',u,h1,h2,h3,h4⟩ | ⟨k,hk,hm,a,b,st',u,h1,h2,h3,h4⟩)
  ·refine ⟨-1::a,b,st',u, ?_,h2,by rw [h3];simp,by rw [h4];simp⟩
   unfold zCE
   rw [if_pos rfl,if_pos hl];exact h1
  ·refine ⟨(k:Int)::a,b,st',u, ?_,h2,by rw [h3];simp,by rw [h4];simp⟩
   unfold zCE
   rw [if_neg (by omega),Int.toNat_natCast,if_pos ⟨by omega,by omega,hm⟩];exact h1
theorem yVZ {r D:Nat} {who:List Int} {st:Nat→Std} {C:zKV} {out rest:Option (List Int × List Int)} (hw:∀ D a,(wf D a).length=6) (hr:xY 6 (Ch w leaves wf r (D+1) (zFA w D st)) rest) (ho:xY 6 C out) (hC:∀ a v,C a v→v.length=6) :
  xY 6 (fun c v=>C c v∨zSP w leaves wf r D [] who st c v) (match rest with | none=>out | some (b,u)=>pick out (who++b) (zAI u (wf D who))):=by
 cases rest with
 | none =>
  refine ho.none ?_
  intro a v h
  obtain ⟨b,u,h2,_⟩:=zYJ.1 h
  exact hr b u h2
 | some p =>
  obtain ⟨b,u⟩:=p
  obtain ⟨h1,h2,h3⟩:=hr
  refine ho.pick (by rw [zNB (by rw [h2,hw]),h2]) (zYJ.2 ⟨b,u,h1,rfl,rfl⟩) ?_ ?_
  ·intro c x h
   obtain ⟨b',u',h4,_,h6⟩:=zYJ.1 h
   rw [h6,zWW (by rw [h4.len hw,h2]) (by rw [h2,hw])]
   exact h3 b' u' h4
  ·rintro c x (h | h)
   ·exact hC c x h
   ·exact h.len hw
end
end Go.Proofs.YtgfiniccfpfplaaGreat
