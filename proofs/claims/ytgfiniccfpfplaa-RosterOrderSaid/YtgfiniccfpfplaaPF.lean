
import Derived.Test.YtgfiniccfpfplaaPE
namespace Go.Proofs.Ytgfiniccfpfplaa
section
variable {w:Wk} {leaves:Bool} {wf:Nat→List Int→List Int} {ros:Nat→Int}
theorem zBU {D j i:Nat}:i∈yC w D j↔i<j∧(dty w i).day=(D:Int):=by
 unfold yC;rw [List.mem_filter,List.mem_range,decide_eq_true_eq]
theorem zLI:∀ {r D i:Nat},i∈xB w r D↔i<w.N.length∧∃ d:Nat,D≤d∧d<D+r∧(dty w i).day=(d:Int)
 | 0,D,i=>by
  unfold xB;constructor
  ·intro h;cases h
  ·rintro ⟨_,d,h1,h2,_⟩;omega
 | r+1,D,i=>by
  unfold xB;rw [List.mem_append,zBU,zLI];constructor
  ·rintro (⟨h1,h2⟩ | ⟨h1,d,h2,h3,h4⟩)
   ·exact ⟨h1,D,Nat.le_refl _,by omega,h2⟩
   ·exact ⟨h1,d,by omega,by omega,h4⟩
  ·rintro ⟨h1,d,h2,h3,h4⟩;by_cases e:d=D
   ·subst e;exact .inl ⟨h1,h4⟩
   ·exact .inr ⟨h1,d,by omega,by omega,h4⟩
theorem zJP:∀ {r D:Nat},(xB w r D).Nodup
 | 0,D=>List.Pairwise.nil
 | r+1,D=>by
  unfold xB;rw [List.nodup_append];refine ⟨?_,zJP, ?_⟩
  ·unfold yC;exact (List.pairwise_lt_range.imp fun h=>Nat.ne_of_lt h).filter _
  ·intro a ha b hb e;subst e;obtain ⟨_,h1⟩:=zBU.1 ha;obtain ⟨_,d,h2,_,h3⟩:=zLI.1 hb;omega
theorem yUC {n:Nat} (hd:Days w n):(xB w n 0).Perm (List.range w.N.length):=by
 rw [List.perm_ext_iff_of_nodup zJP List.nodup_range];intro i;rw [zLI,List.mem_range];constructor
 ·intro h;exact h.1
 ·intro h;have:=hd.duty i h;exact ⟨h,(dty w i).day.toNat,by omega,by omega,by omega⟩
theorem zST {n:Nat} (hd:Days w n) (h:∀ x∈(xB w n 0).map ros, -1≤x∧x<(w.L.length:Int)):Ros w ros:=by
 refine ⟨fun i hi=>h _ (List.mem_map.2 ⟨i, ?_,rfl⟩)⟩
 have:=hd.duty i hi;exact zLI.2 ⟨hi,(dty w i).day.toNat,by omega,by omega,by omega⟩
def zEY (who:List Int):Int:=(who.filter fun r=>decide (r≠-1)).length
def zDZ (D:Nat) (who:List Int):List Int:=[zEY who,0,0,0,0,0]
def wX (w:Wk) (ros:Nat→Int):Int:=((List.range w.N.length).filter fun i=>decide (ros i≠-1)).length
def grQ (w:Wk) (ros:Nat→Int) (k:Nat):Int:=((drQ w k).qb.filter fun d=>(xE w ros k d.toNat).isNone).length
def grV (w:Wk) (ros:Nat→Int):List Int:=(List.range 6).map fun k=>if k<w.L.length then grQ w ros k else 0
def uG (w:Wk) (D:Nat) (who:List Int):List Int:=(List.range 6).map fun k=>if k<w.L.length∧(drQ w k).qb.contains (D:Int)=true∧who.contains (k:Int)=false then 1 else 0
theorem yBA {a b:List Int}:zEY (a++b)=zEY a+zEY b:=by
 unfold zEY;rw [List.filter_append,List.length_append];omega
theorem yUR {l:List Nat}:zEY (l.map ros)=((l.filter fun i=>decide (ros i≠-1)).length:Nat):=by
 unfold zEY;rw [List.filter_map,List.length_map];rfl
theorem zSR:∀ {r D:Nat},zDH w zDZ ros r D=[zEY ((xB w r D).map ros),0,0,0,0,0]
 | 0,D=>rfl
 | r+1,D=>by
  show vM (zDH w zDZ ros r (D+1)) (zDZ D _)=[zEY ((yC w D w.N.length++xB w r (D+1)).map ros),0,0,0,0,0];rw [zSR,List.map_append,yBA];unfold zDZ vM;simp [Int.add_comm]
theorem zOD {n:Nat} (hd:Days w n):zDH w zDZ ros n 0=[wX w ros,0,0,0,0,0]:=by
 rw [zSR,yUR];unfold wX;rw [((yUC hd).filter _).length_eq]
theorem zZF {p:Int→Bool} {n:Nat}:∀ {l:List Int},l.Nodup→(∀ d∈l,0≤d∧d<(n:Int))→((l.filter p).length:Int)=((List.range n).map fun d:Nat=>if l.contains (d:Int)=true∧p (d:Int)=true then (1:Int) else 0).sum
 | [],_,_=>by
  have:((List.range n).map fun d:Nat=>if ([]:List Int).contains (d:Int)=true∧p (d:Int)=true then (1:Int) else 0)=(List.range n).map fun _=>(0:Int):=by
   apply List.map_congr_left;intro d _;simp
  rw [this];induction n with
  | zero=>rfl
  | succ n ih =>
   rw [List.range_succ,List.map_append,List.sum_append];have:=ih (fun d h=>by cases h) (by apply List.map_congr_left;intro d _;simp);simp at this ⊢;exact this
 | a::l,hn,hb=>by
  have hn2:=List.nodup_cons.1 hn;have ih:=zZF (p:=p) (n:=n) hn2.2 fun d hd=>hb d (List.mem_cons_of_mem _ hd)
  have ha:=hb a List.mem_cons_self;have key:∀ m:Nat,((List.range m).map fun d:Nat=>if (a::l).contains (d:Int)=true∧p (d:Int)=true then (1:Int) else 0).sum=((List.range m).map fun d:Nat=>if l.contains (d:Int)=true∧p (d:Int)=true then (1:Int) else 0).sum+if a<(m:Int)∧p a=true then 1 else 0:=by
   intro m;induction m with
   | zero=>rw [if_neg (by omega)];rfl
   | succ m ihm =>
    rw [List.range_succ,List.map_append,List.map_append,List.sum_append,List.sum_append,ihm];simp only [List.map_cons,List.map_nil,List.sum_cons,List.sum_nil];by_cases e:(m:Int)=a
    ·subst e;have h1:l.contains (m:Int)=false:=by
      cases h:l.contains (m:Int) with
      | false=>rfl
      | true=>exact absurd (List.contains_iff_mem.1 h) hn2.1
     rw [h1];by_cases hp:p (m:Int)=true
     ·rw [if_neg (by omega:¬ ((m:Int)<(m:Int)∧p (m:Int)=true)),if_pos ⟨by simp,hp⟩,if_neg (by simp),if_pos ⟨by omega,hp⟩];omega
     ·rw [if_neg (fun h=>hp h.2),if_neg (fun h=>hp h.2),if_neg (fun h=>hp h.2),if_neg (fun h=>hp h.2)];omega
    ·have h1:(a::l).contains (m:Int)=l.contains (m:Int):=by
      rw [List.contains_cons];have:((m:Int) == a)=false:=by simpa using e
      rw [this,Bool.false_or]
     rw [h1];have h2:(a<((m+1:Nat):Int)∧p a=true)↔(a<(m:Int)∧p a=true):=⟨fun h=>⟨by omega,h.2⟩,fun h=>⟨by omega,h.2⟩⟩;simp only [h2];rw [Int.add_right_comm]
  rw [key n,← ih,List.filter_cons];by_cases hp:p a=true
  ·rw [if_pos hp,if_pos ⟨ha.2,hp⟩,List.length_cons];omega
  ·rw [if_neg hp,if_neg (fun h=>hp h.2)];omega
theorem zVU:∀ {r D:Nat},zDH w (uG w) ros r D=(List.range 6).map fun k=>if k<w.L.length then ((List.range r).map fun d:Nat=>if (drQ w k).qb.contains ((D+d:Nat):Int)=true∧(xE w ros k (D+d)).isNone=true then (1:Int) else 0).sum else 0
 | 0,D=>by
  show zCV=_;have:∀ k:Nat,(if k<w.L.length then ((List.range 0).map fun d:Nat=>if (drQ w k).qb.contains ((D+d:Nat):Int)=true∧(xE w ros k (D+d)).isNone=true then (1:Int) else 0).sum else 0)=0:=by
   intro k;split <;> rfl
  simp only [this];rfl
 | r+1,D=>by
  show vM (zDH w (uG w) ros r (D+1)) (uG w D ((yC w D w.N.length).map ros))=_;rw [zVU];unfold vM uG;rw [List.zipWith_map];have hz:∀ (g:Nat→Nat→Int) (l:List Nat),List.zipWith g l l=l.map fun k=>g k k:=by
   intro g l;induction l with
   | nil=>rfl
   | cons a l ih=>rw [List.zipWith_cons_cons,ih,List.map_cons]
  rw [hz];apply List.map_congr_left;intro k _;by_cases hk:k<w.L.length
  ·rw [if_pos hk,if_pos hk,List.range_succ_eq_map,List.map_cons,List.sum_cons,List.map_map];have e1:((List.range r).map fun d:Nat=>if (drQ w k).qb.contains ((D+1+d:Nat):Int)=true∧(xE w ros k (D+1+d)).isNone=true then (1:Int) else 0)=(List.range r).map ((fun d:Nat=>if (drQ w k).qb.contains ((D+d:Nat):Int)=true∧(xE w ros k (D+d)).isNone=true then (1:Int) else 0) ∘ Nat.succ):=by
    apply List.map_congr_left;intro d _;show (if (drQ w k).qb.contains ((D+1+d:Nat):Int)=true∧(xE w ros k (D+1+d)).isNone=true then (1:Int) else 0)=if (drQ w k).qb.contains ((D+(d+1):Nat):Int)=true∧(xE w ros k (D+(d+1))).isNone=true then (1:Int) else 0;rw [show D+1+d=D+(d+1) from by omega]
   rw [e1];have e2:(((yC w D w.N.length).map ros).contains (k:Int)=false)↔((xE w ros k (D+0)).isNone=true):=by
    rw [Nat.add_zero];have hc:((yC w D w.N.length).map ros).contains (k:Int)=true↔∃ i,i<w.N.length∧(dty w i).day=(D:Int)∧ros i=(k:Int):=by
     rw [List.contains_iff_mem,List.mem_map];constructor
     ·rintro ⟨i,hi,e⟩;exact ⟨i,(zBU.1 hi).1,(zBU.1 hi).2,e⟩
     ·rintro ⟨i,h1,h2,h3⟩;exact ⟨i,zBU.2 ⟨h1,h2⟩,h3⟩
    constructor
    ·intro h;cases hf:xE w ros k D with
     | none=>rfl
     | some i =>
      obtain ⟨h1,h2,h3⟩:=zAS hf;rw [hc.2 ⟨i,h1,h3,h2⟩] at h;cases h
    ·intro h;cases hcc:((yC w D w.N.length).map ros).contains (k:Int) with
     | false=>rfl
     | true =>
      obtain ⟨i,h1,h2,h3⟩:=hc.1 hcc;obtain ⟨j,hj⟩:=zPO h1 h3 h2;rw [hj] at h;cases h
   rw [Int.add_comm];congr 1;by_cases hw:(drQ w k).qb.contains (D:Int)=true
   ·by_cases hf:(xE w ros k (D+0)).isNone=true
    ·rw [if_pos ⟨hk,hw,e2.2 hf⟩,if_pos ⟨hw,hf⟩]
    ·rw [if_neg (fun h=>hf (e2.1 h.2.2)),if_neg (fun h=>hf h.2)]
   ·rw [if_neg (fun h=>hw h.2.1),if_neg (fun h=>hw h.1)]
  ·rw [if_neg hk,if_neg hk,if_neg (fun h=>hk h.1)];rfl
def yWC (w:Wk) (n:Nat):Prop:=∀ k,k<w.L.length→(drQ w k).qb.Nodup∧∀ d∈(drQ w k).qb,0≤d∧d<(n:Int)
theorem zSQ {n:Nat} (hw:yWC w n):zDH w (uG w) ros n 0=grV w ros:=by
 rw [zVU];unfold grV;apply List.map_congr_left;intro k _;by_cases hk:k<w.L.length
 ·rw [if_pos hk,if_pos hk];obtain ⟨h1,h2⟩:=hw k hk;unfold grQ;rw [zZF (p:=fun d=>(xE w ros k d.toNat).isNone) h1 h2];congr 1;apply List.map_congr_left;intro d _;rw [Nat.zero_add,Int.toNat_natCast]
 ·rw [if_neg hk,if_neg hk]
def yAM (w:Wk) (ros:Nat→Int):Prop:=∀ i,i<w.N.length→ros i≠-1
def xXX (w:Wk) (n:Nat):Option (List Int × List Int)→Prop
 | none=>∀ ros,Ros w ros→wC w ros (late w)→¬ yAM w ros
 | some (who,v)=>who.length=(xB w n 0).length∧∀ ros,(xB w n 0).map ros=who→Ros w ros∧wC w ros (late w)∧yAM w ros∧v=grV w ros∧∀ ros',Ros w ros'→wC w ros' (late w)→yAM w ros'→wK (grV w ros') v=false
def xXW (w:Wk) (n:Nat):Option (List Int × List Int)→Prop
 | none=>False
 | some (who,v)=>who.length=(xB w n 0).length∧∀ ros,(xB w n 0).map ros=who→Ros w ros∧wC w ros (late w)∧v=[wX w ros,0,0,0,0,0]∧∀ ros',Ros w ros'→wC w ros' (late w)→wX w ros'≤wX w ros
theorem xWC {n:Nat} (hv:Val w n) (hw:yWC w n) {st:Nat→Std} (hs:∀ k,k<w.L.length→st k=before (drQ w k)) {e:Option (List Int × List Int)} (h:xU 6 (Ch w false (uG w) n 0 st) e):xXX w n e:=by
 cases e with
 | none =>
  intro ros hr hl hf;exact h _ _ ((zFV hv hr hs).2 ⟨⟨hl,fun _=>hf⟩,rfl⟩)
 | some p =>
  obtain ⟨who,v⟩:=p;obtain ⟨h1,h2,h3⟩:=h;obtain ⟨h4,h5⟩:=yHY h1;refine ⟨h4, ?_⟩
  intro ros hros;subst hros;have hr:=zST hv.toDays h5;obtain ⟨⟨k1,k2⟩,k3⟩:=(zFV hv hr hs).1 h1;rw [zSQ hw] at k3;refine ⟨hr,k1,k2 rfl,k3, ?_⟩
  intro ros' hr' hl' hf';refine h3 _ _ ((zFV hv hr' hs).2 ⟨⟨hl',fun _=>hf'⟩,(zSQ hw).symm⟩)
theorem yTB {n:Nat} (hv:Val w n):Ros w (fun _=>-1)∧wC w (fun _=>-1) (late w):=by
 refine ⟨⟨fun i hi=>⟨Int.le_refl _,by show (-1:Int)<_;omega⟩⟩, ?_⟩
 intro q k i hk hq;unfold xR;by_cases h:q=5
 ·rw [if_pos h];have:((List.range w.N.length).filter fun i=>decide ((-1:Int)=(k:Int)))=[]:=by
   apply List.filter_eq_nil_iff.2;intro a _ h;have:=of_decide_eq_true h;omega
  have hu:=hv.used k hk;apply decide_eq_false;rw [this];show ¬ w.j<(drQ w k).used+0;omega
 ·rw [if_neg h,decide_eq_false (by show ¬ (-1:Int)=(k:Int);omega),Bool.false_and]
theorem xVF {n:Nat} (hv:Val w n) {st:Nat→Std} (hs:∀ k,k<w.L.length→st k=before (drQ w k)) {e:Option (List Int × List Int)} (h:xU 6 (Ch w true zDZ n 0 st) e):xXW w n e:=by
 cases e with
 | none =>
  obtain ⟨h1,h2⟩:=yTB hv;exact h _ _ ((zFV hv h1 hs).2 ⟨⟨h2,fun h=>by cases h⟩,rfl⟩)
 | some p =>
  obtain ⟨who,v⟩:=p;obtain ⟨h1,h2,h3⟩:=h;obtain ⟨h4,h5⟩:=yHY h1;refine ⟨h4, ?_⟩
  intro ros hros;subst hros;have hr:=zST hv.toDays h5;obtain ⟨⟨k1,k2⟩,k3⟩:=(zFV hv hr hs).1 h1;rw [zOD hv.toDays] at k3;refine ⟨hr,k1,k3, ?_⟩
  intro ros' hr' hl';have:=h3 _ _ ((zFV hv hr' hs).2 ⟨⟨hl',fun h=>by cases h⟩,(zOD hv.toDays).symm⟩);rw [k3] at this;unfold wK at this;by_cases e:wX w ros'=wX w ros
  ·omega
  ·rw [if_neg e] at this;have:=of_decide_eq_false this;omega
end
end Go.Proofs.Ytgfiniccfpfplaa
