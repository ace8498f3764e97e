
import Derived.Test.YtgfiniccfpfplaaGreatPE
namespace Go.Proofs.YtgfiniccfpfplaaGreat
set_option linter.unusedVariables false
set_option linter.unusedSimpArgs false
section
variable {w:Wk} {leaves:Bool} {wf:Nat->List Int->List Int} {ros:Nat->Int}
theorem zMG {D j i:Nat}:i∈yC w D j↔i<j/\(dty w i).day=(D:Int):=by
 unfold yC;rw [List.mem_filter,List.mem_range,decide_eq_true_eq]
theorem zMF:∀ {r D i:Nat},i∈xB w r D↔i<w.duties.length/\∃ d:Nat,D<=d/\d<D+r/\(dty w i).day=(d:Int)
 | 0,D,i=>by
  unfold xB;constructor
  ·intro h;cases h
  ·rintro ⟨_,d,h1,h2,_⟩;omega
 | r+1,D,i=>by
  unfold xB;rw [List.mem_append,zMG,zMF];constructor
  ·rintro (⟨h1,h2⟩ | ⟨h1,d,h2,h3,h4⟩)
   ·exact ⟨h1,D,Nat.le_refl _,by omega,h2⟩
   ·exact ⟨h1,d,by omega,by omega,h4⟩
  ·rintro ⟨h1,d,h2,h3,h4⟩;by_cases e:d=D
   ·subst e;exact .inl ⟨h1,h4⟩
   ·exact .inr ⟨h1,d,by omega,by omega,h4⟩
theorem zKJ:∀ {r D:Nat},(xB w r D).Nodup
 | 0,D=>List.Pairwise.nil
 | r+1,D=>by
  unfold xB;rw [List.nodup_append];refine ⟨?_,zKJ, ?_⟩
  ·unfold yC;exact (List.pairwise_lt_range.imp fun h=>Nat.ne_of_lt h).filter _
  ·intro a ha b hb e;subst e;obtain ⟨_,h1⟩:=zMG.1 ha;obtain ⟨_,d,h2,_,h3⟩:=zMF.1 hb;omega
theorem yXI {n:Nat} (hd:Days w n):(xB w n 0).Perm (List.range w.duties.length):=by
 rw [List.perm_ext_iff_of_nodup zKJ List.nodup_range];intro i;rw [zMF,List.mem_range];constructor
 ·intro h;exact h.1
 ·intro h;have:=hd.duty i h;exact ⟨h,(dty w i).day.toNat,by omega,by omega,by omega⟩
theorem yMZ {n:Nat} (hd:Days w n) (h:∀ x∈(xB w n 0).map ros, -1<=x/\x<(w.drivers.length:Int)):Ros w ros:=by
 refine ⟨fun i hi=>h _ (List.mem_map.2 ⟨i, ?_,rfl⟩)⟩
 have:=hd.duty i hi;exact zMF.2 ⟨hi,(dty w i).day.toNat,by omega,by omega,by omega⟩
def zFN (who:List Int):Int:=(who.filter fun r=>decide (r≠-1)).length
def zEJ (D:Nat) (who:List Int):List Int:=[zFN who,0,0,0,0,0]
def uY (w:Wk) (ros:Nat->Int):Int:=((List.range w.duties.length).filter fun i=>decide (ros i≠-1)).length
def gr (w:Wk) (ros:Nat->Int) (k:Nat):Int:=((drv w k).wish.filter fun d=>(zDD w ros k d.toNat).isNone).length
def grV (w:Wk) (ros:Nat->Int):List Int:=(List.range 6).map fun k=>if k<w.drivers.length then gr w ros k else 0
theorem yDI {a b:List Int}:zFN (a++b)=zFN a+zFN b:=by
 unfold zFN;rw [List.filter_append,List.length_append];omega
theorem yXX {l:List Nat}:zFN (l.map ros)=((l.filter fun i=>decide (ros i≠-1)).length:Nat):=by
 unfold zFN;rw [List.filter_map,List.length_map];rfl
theorem zUB:∀ {r D:Nat},zIW w zEJ ros r D=[zFN ((xB w r D).map ros),0,0,0,0,0]
 | 0,D=>rfl
 | r+1,D=>by
  show vR (zIW w zEJ ros r (D+1)) (zEJ D _)=[zFN ((yC w D w.duties.length++xB w r (D+1)).map ros),0,0,0,0,0];rw [zUB,List.map_append,yDI];unfold zEJ vR;simp [Int.add_comm]
theorem zPC {n:Nat} (hd:Days w n):zIW w zEJ ros n 0=[uY w ros,0,0,0,0,0]:=by
 rw [zUB,yXX];unfold uY;rw [((yXI hd).filter _).length_eq]
def xZR (w:Wk) (ros:Nat->Int):Prop:=∀ i,i<w.duties.length->ros i≠-1
def wCA (w:Wk) (n:Nat):Option (List Int × List Int)->Prop
 | none=>∀ ros,Ros w ros->zCV w ros (late w)->¬ xZR w ros
 | some (who,v)=>who.length=(xB w n 0).length/\∀ ros,(xB w n 0).map ros=who->Ros w ros/\zCV w ros (late w)/\xZR w ros/\v=grV w ros/\∀ ros',Ros w ros'->zCV w ros' (late w)->xZR w ros'->wY (grV w ros') v=false
def MostR (w:Wk) (n:Nat):Option (List Int × List Int)->Prop
 | none=>False
 | some (who,v)=>who.length=(xB w n 0).length/\∀ ros,(xB w n 0).map ros=who->Ros w ros/\zCV w ros (late w)/\v=[uY w ros,0,0,0,0,0]/\∀ ros',Ros w ros'->zCV w ros' (late w)->uY w ros'<=uY w ros
theorem yWJ {n:Nat} (hv:Val w n):Ros w (fun _=>-1)/\zCV w (fun _=>-1) (late w):=by
 refine ⟨⟨fun i hi=>⟨Int.le_refl _,by show (-1:Int)<_;omega⟩⟩, ?_⟩
 intro q k i hk hq;unfold wE;by_cases h:q=5
 ·rw [if_pos h];have:((List.range w.duties.length).filter fun i=>decide ((-1:Int)=(k:Int)))=[]:=by
   apply List.filter_eq_nil_iff.2;intro a _ h;have:=of_decide_eq_true h;omega
  have hu:=hv.used k hk;apply decide_eq_false;rw [this];show ¬ w.hours<(drv w k).used+0;omega
 ·rw [if_neg h,decide_eq_false (by show ¬ (-1:Int)=(k:Int);omega),Bool.false_and]
theorem xYG {n:Nat} (hv:Val w n) {st:Nat->Std} (hs:∀ k,k<w.drivers.length->st k=before (drv w k)) {e:Option (List Int × List Int)} (h:xR 6 (Ch w true zEJ n 0 st) e):MostR w n e:=by
 cases e with
 | none =>
  obtain ⟨h1,h2⟩:=yWJ hv;exact h _ _ ((yBO hv h1 hs).2 ⟨⟨h2,fun h=>by cases h⟩,rfl⟩)
 | some p =>
  obtain ⟨who,v⟩:=p;obtain ⟨h1,h2,h3⟩:=h;obtain ⟨h4,h5⟩:=yYG h1;refine ⟨h4, ?_⟩
  intro ros hros;subst hros;have hr:=yMZ hv.toDays h5;obtain ⟨⟨k1,k2⟩,k3⟩:=(yBO hv hr hs).1 h1;rw [zPC hv.toDays] at k3;refine ⟨hr,k1,k3, ?_⟩
  intro ros' hr' hl';have:=h3 _ _ ((yBO hv hr' hs).2 ⟨⟨hl',fun h=>by cases h⟩,(zPC hv.toDays).symm⟩);rw [k3] at this;unfold wY at this;by_cases e:uY w ros'=uY w ros
  ·omega
  ·rw [if_neg e] at this;have:=of_decide_eq_false this;omega
end
end Go.Proofs.YtgfiniccfpfplaaGreat
