
import Derived.Test.YtgfiniccfpfplaaGreatPE
namespace Go.Proofs.YtgfiniccfpfplaaGreat
set_option linter.unusedVariables false
set_option linter.unusedSimpArgs false
section
variable {w:Wk} {leaves:Bool} {wf:Nat→List Int→List Int} {ros:Nat→Int}
theorem zLK {D j i:Nat}:i∈yC w D j↔i<j∧(dty w i).day=(D:Int):=by
 unfold yC;rw [List.mem_filter,List.mem_range,decide_eq_true_eq]
theorem zLJ:∀ {r D i:Nat},i∈yZ w r D↔i<w.duties.length∧∃ d:Nat,D≤d∧d<D+r∧(dty w i).day=(d:Int)
 | 0,D,i=>by
  unfold yZ;constructor
  ·intro h;cases h
  ·rintro ⟨_,d,h1,h2,_⟩;omega
 | r+1,D,i=>by
  unfold yZ;rw [List.mem_append,zLK,zLJ];constructor
  ·rintro (⟨h1,h2⟩ | ⟨h1,d,h2,h3,h4⟩)
   ·exact ⟨h1,D,Nat.le_refl _,by omega,h2⟩
   ·exact ⟨h1,d,by omega,by omega,h4⟩
  ·rintro ⟨h1,d,h2,h3,h4⟩;by_cases e:d=D
   ·subst e;exact .inl ⟨h1,h4⟩
   ·exact .inr ⟨h1,d,by omega,by omega,h4⟩
theorem zJS:∀ {r D:Nat},(yZ w r D).Nodup
 | 0,D=>List.Pairwise.nil
 | r+1,D=>by
  unfold yZ;rw [List.nodup_append];refine ⟨?_,zJS, ?_⟩
  ·unfold yC;exact (List.pairwise_lt_range.imp fun h=>Nat.ne_of_lt h).filter _
  ·intro a ha b hb e;subst e;obtain ⟨_,h1⟩:=zLK.1 ha;obtain ⟨_,d,h2,_,h3⟩:=zLJ.1 hb;omega
theorem yUV {n:Nat} (hd:Days w n):(yZ w n 0).Perm (List.range w.duties.length):=by
 rw [List.perm_ext_iff_of_nodup zJS List.nodup_range];intro i;rw [zLJ,List.mem_range];constructor
 ·intro h;exact h.1
 ·intro h;have:=hd.duty i h;exact ⟨h,(dty w i).day.toNat,by omega,by omega,by omega⟩
theorem yKT {n:Nat} (hd:Days w n) (h:∀ x∈(yZ w n 0).map ros, -1≤x∧x<(w.drivers.length:Int)):Ros w ros:=by
 refine ⟨fun i hi=>h _ (List.mem_map.2 ⟨i, ?_,rfl⟩)⟩
 have:=hd.duty i hi;exact zLJ.2 ⟨hi,(dty w i).day.toNat,by omega,by omega,by omega⟩
def zEX (who:List Int):Int:=(who.filter fun r=>decide (r≠-1)).length
def zDY (D:Nat) (who:List Int):List Int:=[zEX who,0,0,0,0,0]
def uE (w:Wk) (ros:Nat→Int):Int:=((List.range w.duties.length).filter fun i=>decide (ros i≠-1)).length
def gr (w:Wk) (ros:Nat→Int) (k:Nat):Int:=((drv w k).wish.filter fun d=>(wL w ros k d.toNat).isNone).length
def grV (w:Wk) (ros:Nat→Int):List Int:=(List.range 6).map fun k=>if k<w.drivers.length then gr w ros k else 0
theorem yBT {a b:List Int}:zEX (a++b)=zEX a+zEX b:=by
 unfold zEX;rw [List.filter_append,List.length_append];omega
theorem yVK {l:List Nat}:zEX (l.map ros)=((l.filter fun i=>decide (ros i≠-1)).length:Nat):=by
 unfold zEX;rw [List.filter_map,List.length_map];rfl
theorem zSZ:∀ {r D:Nat},zID w zDY ros r D=[zEX ((yZ w r D).map ros),0,0,0,0,0]
 | 0,D=>rfl
 | r+1,D=>by
  show vQ (zID w zDY ros r (D+1)) (zDY D _)=[zEX ((yC w D w.duties.length++yZ w r (D+1)).map ros),0,0,0,0,0];rw [zSZ,List.map_append,yBT];unfold zDY vQ;simp [Int.add_comm]
theorem zOF {n:Nat} (hd:Days w n):zID w zDY ros n 0=[uE w ros,0,0,0,0,0]:=by
 rw [zSZ,yVK];unfold uE;rw [((yUV hd).filter _).length_eq]
def xWS (w:Wk) (ros:Nat→Int):Prop:=∀ i,i<w.duties.length→ros i≠-1
def xZC (w:Wk) (n:Nat):Option (List Int × List Int)→Prop
 | none=>∀ ros,Ros w ros→vN w ros (late w)→¬ xWS w ros
 | some (who,v)=>who.length=(yZ w n 0).length∧∀ ros,(yZ w n 0).map ros=who→Ros w ros∧vN w ros (late w)∧xWS w ros∧v=grV w ros∧∀ ros',Ros w ros'→vN w ros' (late w)→xWS w ros'→wW (grV w ros') v=false
def MostR (w:Wk) (n:Nat):Option (List Int × List Int)→Prop
 | none=>False
 | some (who,v)=>who.length=(yZ w n 0).length∧∀ ros,(yZ w n 0).map ros=who→Ros w ros∧vN w ros (late w)∧v=[uE w ros,0,0,0,0,0]∧∀ ros',Ros w ros'→vN w ros' (late w)→uE w ros'≤uE w ros
theorem yTX {n:Nat} (hv:Val w n):Ros w (fun _=>-1)∧vN w (fun _=>-1) (late w):=by
 refine ⟨⟨fun i hi=>⟨Int.le_refl _,by show (-1:Int)<_;omega⟩⟩, ?_⟩
 intro q k i hk hq;unfold xO;by_cases h:q=5
 ·rw [if_pos h];have:((List.range w.duties.length).filter fun i=>decide ((-1:Int)=(k:Int)))=[]:=by
   apply List.filter_eq_nil_iff.2;intro a _ h;have:=of_decide_eq_true h;omega
  have hu:=hv.used k hk;apply decide_eq_false;rw [this];show ¬ w.hours<(drv w k).used+0;omega
 ·rw [if_neg h,decide_eq_false (by show ¬ (-1:Int)=(k:Int);omega),Bool.false_and]
theorem xVG {n:Nat} (hv:Val w n) {st:Nat→Std} (hs:∀ k,k<w.drivers.length→st k=before (drv w k)) {e:Option (List Int × List Int)} (h:xR 6 (Ch w true zDY n 0 st) e):MostR w n e:=by
 cases e with
 | none =>
  obtain ⟨h1,h2⟩:=yTX hv;exact h _ _ ((yAH hv h1 hs).2 ⟨⟨h2,fun h=>by cases h⟩,rfl⟩)
 | some p =>
  obtain ⟨who,v⟩:=p;obtain ⟨h1,h2,h3⟩:=h;obtain ⟨h4,h5⟩:=yVT h1;refine ⟨h4, ?_⟩
  intro ros hros;subst hros;have hr:=yKT hv.toDays h5;obtain ⟨⟨k1,k2⟩,k3⟩:=(yAH hv hr hs).1 h1;rw [zOF hv.toDays] at k3;refine ⟨hr,k1,k3, ?_⟩
  intro ros' hr' hl';have:=h3 _ _ ((yAH hv hr' hs).2 ⟨⟨hl',fun h=>by cases h⟩,(zOF hv.toDays).symm⟩);rw [k3] at this;unfold wW at this;by_cases e:uE w ros'=uE w ros
  ·omega
  ·rw [if_neg e] at this;have:=of_decide_eq_false this;omega
end
end Go.Proofs.YtgfiniccfpfplaaGreat
