
import Derived.Test.YtgfiniccfpfplaaGreatPE
namespace Go.Proofs.YtgfiniccfpfplaaGreat
section
variable {w:Wk} {leaves:Bool} {wf:Nat->List Int->List Int} {ros:Nat->Int}
theorem zLU {D j i:Nat}:i∈yF w D j↔i<j/\(dtQ w i).day=(D:Int):=by
 unfold yF;rw [List.mem_filter,List.mem_range,decide_eq_true_eq]
theorem zLT:∀ {r D i:Nat},i∈xE w r D↔i<w.duties.length/\∃ d:Nat,D<=d/\d<D+r/\(dtQ w i).day=(d:Int)
 | 0,D,i=>by
  unfold xE;constructor
  ·intro h;cases h
  ·rintro ⟨_,d,h1,h2,_⟩;omega
 | r+1,D,i=>by
  unfold xE;rw [List.mem_append,zLU,zLT];constructor
  ·rintro (⟨h1,h2⟩ | ⟨h1,d,h2,h3,h4⟩)
   ·exact ⟨h1,D,Nat.le_refl _,by omega,h2⟩
   ·exact ⟨h1,d,by omega,by omega,h4⟩
  ·rintro ⟨h1,d,h2,h3,h4⟩;by_cases e:d=D
   ·subst e;exact .inl ⟨h1,h4⟩
   ·exact .inr ⟨h1,d,by omega,by omega,h4⟩
theorem zKA:∀ {r D:Nat},(xE w r D).Nodup
 | 0,D=>List.Pairwise.nil
 | r+1,D=>by
  unfold xE;rw [List.nodup_append];refine ⟨?_,zKA, ?_⟩
  ·unfold yF;exact (List.pairwise_lt_range.imp fun h=>Nat.ne_of_lt h).filter _
  ·intro a ha b hb e;subst e;obtain ⟨_,h1⟩:=zLU.1 ha;obtain ⟨_,d,h2,_,h3⟩:=zLT.1 hb;omega
theorem yWN {n:Nat} (hd:Days w n):(xE w n 0).Perm (List.range w.duties.length):=by
 rw [List.perm_ext_iff_of_nodup zKA List.nodup_range];intro i;rw [zLT,List.mem_range];constructor
 ·intro h;exact h.1
 ·intro h;have:=hd.duty i h;exact ⟨h,(dtQ w i).day.toNat,by omega,by omega,by omega⟩
theorem yLV {n:Nat} (hd:Days w n) (h:∀ x∈(xE w n 0).map ros, -1<=x/\x<(w.drivers.length:Int)):Ros w ros:=by
 refine ⟨fun i hi=>h _ (List.mem_map.2 ⟨i, ?_,rfl⟩)⟩
 have:=hd.duty i hi;exact zLT.2 ⟨hi,(dtQ w i).day.toNat,by omega,by omega,by omega⟩
def zEZ (who:List Int):Int:=(who.filter fun r=>decide (r≠-1)).length
def zED (D:Nat) (who:List Int):List Int:=[zEZ who,0,0,0,0,0]
def vO (w:Wk) (ros:Nat->Int):Int:=((List.range w.duties.length).filter fun i=>decide (ros i≠-1)).length
def gr (w:Wk) (ros:Nat->Int) (k:Nat):Int:=((drQ w k).wish.filter fun d=>(wS w ros k d.toNat).isNone).length
def grV (w:Wk) (ros:Nat->Int):List Int:=(List.range 6).map fun k=>if k<w.drivers.length then gr w ros k else 0
theorem yCO {a b:List Int}:zEZ (a++b)=zEZ a+zEZ b:=by
 unfold zEZ;rw [List.filter_append,List.length_append];omega
theorem yXD {l:List Nat}:zEZ (l.map ros)=((l.filter fun i=>decide (ros i≠-1)).length:Nat):=by
 unfold zEZ;rw [List.filter_map,List.length_map];rfl
theorem zTS:∀ {r D:Nat},zIO w zED ros r D=[zEZ ((xE w r D).map ros),0,0,0,0,0]
 | 0,D=>rfl
 | r+1,D=>by
  show uB (zIO w zED ros r (D+1)) (zED D _)=[zEZ ((yF w D w.duties.length++xE w r (D+1)).map ros),0,0,0,0,0];rw [zTS,List.map_append,yCO];unfold zED uB;simp [Int.add_comm]
theorem zOT {n:Nat} (hd:Days w n):zIO w zED ros n 0=[vO w ros,0,0,0,0,0]:=by
 rw [zTS,yXD];unfold vO;rw [((yWN hd).filter _).length_eq]
def xYW (w:Wk) (ros:Nat->Int):Prop:=∀ i,i<w.duties.length->ros i≠-1
def wAX (w:Wk) (n:Nat):Option (List Int × List Int)->Prop
 | none=>∀ ros,Ros w ros->vY w ros (late w)->¬ xYW w ros
 | some (who,v)=>who.length=(xE w n 0).length/\∀ ros,(xE w n 0).map ros=who->Ros w ros/\vY w ros (late w)/\xYW w ros/\v=grV w ros/\∀ ros',Ros w ros'->vY w ros' (late w)->xYW w ros'->vH (grV w ros') v=false
def MostR (w:Wk) (n:Nat):Option (List Int × List Int)->Prop
 | none=>False
 | some (who,v)=>who.length=(xE w n 0).length/\∀ ros,(xE w n 0).map ros=who->Ros w ros/\vY w ros (late w)/\v=[vO w ros,0,0,0,0,0]/\∀ ros',Ros w ros'->vY w ros' (late w)->vO w ros'<=vO w ros
theorem yVM {n:Nat} (hv:Val w n):Ros w (fun _=>-1)/\vY w (fun _=>-1) (late w):=by
 refine ⟨⟨fun i hi=>⟨Int.le_refl _,by show (-1:Int)<_;omega⟩⟩, ?_⟩
 intro q k i hk hq;unfold xQ;by_cases h:q=5
 ·rw [if_pos h];have:((List.range w.duties.length).filter fun i=>decide ((-1:Int)=(k:Int)))=[]:=by
   apply List.filter_eq_nil_iff.2;intro a _ h;have:=of_decide_eq_true h;omega
  have hu:=hv.used k hk;apply decide_eq_false;rw [this];show ¬ w.hours<(drQ w k).used+0;omega
 ·rw [if_neg h,decide_eq_false (by show ¬ (-1:Int)=(k:Int);omega),Bool.false_and]
theorem xXM {n:Nat} (hv:Val w n) {st:Nat->Std} (hs:∀ k,k<w.drivers.length->st k=before (drQ w k)) {e:Option (List Int × List Int)} (h:xU 6 (Ch w true zED n 0 st) e):MostR w n e:=by
 cases e with
 | none =>
  obtain ⟨h1,h2⟩:=yVM hv;exact h _ _ ((yBC hv h1 hs).2 ⟨⟨h2,fun h=>by cases h⟩,rfl⟩)
 | some p =>
  obtain ⟨who,v⟩:=p;obtain ⟨h1,h2,h3⟩:=h;obtain ⟨h4,h5⟩:=yXM h1;refine ⟨h4, ?_⟩
  intro ros hros;subst hros;have hr:=yLV hv.toDays h5;obtain ⟨⟨k1,k2⟩,k3⟩:=(yBC hv hr hs).1 h1;rw [zOT hv.toDays] at k3;refine ⟨hr,k1,k3, ?_⟩
  intro ros' hr' hl';have:=h3 _ _ ((yBC hv hr' hs).2 ⟨⟨hl',fun h=>by cases h⟩,(zOT hv.toDays).symm⟩);rw [k3] at this;unfold vH at this;by_cases e:vO w ros'=vO w ros
  ·omega
  ·rw [if_neg e] at this;have:=of_decide_eq_false this;omega
end
end Go.Proofs.YtgfiniccfpfplaaGreat
