import Derived.Test.YtgfiniccfpfplaaGreatPE
import Derived.Test.YtgfiniccfpfplaaGreatRA
import Derived.Test.YtgfiniccfpfplaaGreatXA

namespace Go.Proofs.YtgfiniccfpfplaaGreat
set_option linter.unusedVariables false
set_option linter.unusedSimpArgs false
section
variable {w:Wk} {leaves:Bool} {wf:Nat->List Int->List Int} {ros:Nat->Int}
theorem zBS {D j i:Nat}:i∈yC w D j↔i<j/\(dty w i).day=(D:Int):=by
 unfold yC;rw [List.mem_filter,List.mem_range,decide_eq_true_eq]
theorem zNK:∀ {r D i:Nat},i∈xA w r D↔i<w.duties.length/\∃ d:Nat,D<=d/\d<D+r/\(dty w i).day=(d:Int)
 | 0,D,i=>by
  unfold xA;constructor
  ·intro h;cases h
  ·rintro ⟨_,d,h1,h2,_⟩;omega
 | r+1,D,i=>by
  unfold xA;rw [List.mem_append,zBS,zNK];constructor
  ·rintro (⟨h1,h2⟩ | ⟨h1,d,h2,h3,h4⟩)
   ·exact ⟨h1,D,Nat.le_refl _,by omega,h2⟩
   ·exact ⟨h1,d,by omega,by omega,h4⟩
  ·rintro ⟨h1,d,h2,h3,h4⟩;by_cases e:d=D
   ·subst e;exact .inl ⟨h1,h4⟩
   ·exact .inr ⟨h1,d,by omega,by omega,h4⟩
theorem zLC:∀ {r D:Nat},(xA w r D).Nodup
 | 0,D=>List.Pairwise.nil
 | r+1,D=>by
  unfold xA;rw [List.nodup_append];refine ⟨?_,zLC, ?_⟩
  ·unfold yC;exact (List.pairwise_lt_range.imp fun h=>Nat.ne_of_lt h).filter _
  ·intro a ha b hb e;subst e;obtain ⟨_,h1⟩:=zBS.1 ha;obtain ⟨_,d,h2,_,h3⟩:=zNK.1 hb;omega
theorem yUN {n:Nat} (hd:Days w n):(xA w n 0).Perm (List.range w.duties.length):=by
 rw [List.perm_ext_iff_of_nodup zLC List.nodup_range];intro i;rw [zNK,List.mem_range];constructor
 ·intro h;exact h.1
 ·intro h;have:=hd.duty i h;exact ⟨h,(dty w i).day.toNat,by omega,by omega,by omega⟩
theorem zTH {n:Nat} (hd:Days w n) (h:∀ x∈(xA w n 0).map ros, -1<=x/\x<(w.drivers.length:Int)):Ros w ros:=by
 refine ⟨fun i hi=>h _ (List.mem_map.2 ⟨i, ?_,rfl⟩)⟩
 have:=hd.duty i hi;exact zNK.2 ⟨hi,(dty w i).day.toNat,by omega,by omega,by omega⟩
def zGD (who:List Int):Int:=(who.filter fun r=>decide (r≠-1)).length
def zES (D:Nat) (who:List Int):List Int:=[zGD who,0,0,0,0,0]
def xS (w:Wk) (ros:Nat->Int):Int:=((List.range w.duties.length).filter fun i=>decide (ros i≠-1)).length
def gr (w:Wk) (ros:Nat->Int) (k:Nat):Int:=((drv w k).wish.filter fun d=>(xV w ros k d.toNat).isNone).length
def grV (w:Wk) (ros:Nat->Int):List Int:=(List.range 6).map fun k=>if k<w.drivers.length then gr w ros k else 0
def uB (w:Wk) (D:Nat) (who:List Int):List Int:=(List.range 6).map fun k=>if k<w.drivers.length/\(drv w k).wish.contains (D:Int)=true/\who.contains (k:Int)=false then 1 else 0
theorem yBL {a b:List Int}:zGD (a++b)=zGD a+zGD b:=by
 unfold zGD;rw [List.filter_append,List.length_append];omega
theorem yVC {l:List Nat}:zGD (l.map ros)=((l.filter fun i=>decide (ros i≠-1)).length:Nat):=by
 unfold zGD;rw [List.filter_map,List.length_map];rfl
theorem zTF:∀ {r D:Nat},zDW w zES ros r D=[zGD ((xA w r D).map ros),0,0,0,0,0]
 | 0,D=>rfl
 | r+1,D=>by
  show vB (zDW w zES ros r (D+1)) (zES D _)=[zGD ((yC w D w.duties.length++xA w r (D+1)).map ros),0,0,0,0,0];rw [zTF,List.map_append,yBL];unfold zES vB;simp [Int.add_comm]
theorem zPT {n:Nat} (hd:Days w n):zDW w zES ros n 0=[xS w ros,0,0,0,0,0]:=by
 rw [zTF,yVC];unfold xS;rw [((yUN hd).filter _).length_eq]
theorem zZM {p:Int->Bool} {n:Nat}:∀ {l:List Int},l.Nodup->(∀ d∈l,0<=d/\d<(n:Int))->((l.filter p).length:Int)=((List.range n).map fun d:Nat=>if l.contains (d:Int)=true/\p (d:Int)=true then (1:Int) else 0).sum
 | [],_,_=>by
  have:((List.range n).map fun d:Nat=>if ([]:List Int).contains (d:Int)=true/\p (d:Int)=true then (1:Int) else 0)=(List.range n).map fun _=>(0:Int):=by
   apply List.map_congr_left;intro d _;simp
  rw [this];induction n with
  | zero=>rfl
  | succ n ih =>
   rw [List.range_succ,List.map_append,List.sum_append];have:=ih (fun d h=>by cases h) (by apply List.map_congr_left;intro d _;simp);simp at this ⊢;exact this
 | a::l,hn,hb=>by
  have hn2:=List.nodup_cons.1 hn;have ih:=zZM (p:=p) (n:=n) hn2.2 fun d hd=>hb d (List.mem_cons_of_mem _ hd)
  have ha:=hb a List.mem_cons_self;have key:∀ m:Nat,((List.range m).map fun d:Nat=>if (a::l).contains (d:Int)=true/\p (d:Int)=true then (1:Int) else 0).sum=((List.range m).map fun d:Nat=>if l.contains (d:Int)=true/\p (d:Int)=true then (1:Int) else 0).sum+if a<(m:Int)/\p a=true then 1 else 0:=by
   intro m;induction m with
   | zero=>rw [if_neg (by omega)];rfl
   | succ m ihm =>
    rw [List.range_succ,List.map_append,List.map_append,List.sum_append,List.sum_append,ihm];simp only [List.map_cons,List.map_nil,List.sum_cons,List.sum_nil];by_cases e:(m:Int)=a
    ·subst e;have h1:l.contains (m:Int)=false:=by
      cases h:l.contains (m:Int) with
      | false=>rfl
      | true=>exact absurd (List.contains_iff_mem.1 h) hn2.1
     rw [h1];by_cases hp:p (m:Int)=true
     ·rw [if_neg (by omega:¬ ((m:Int)<(m:Int)/\p (m:Int)=true)),if_pos ⟨by simp,hp⟩,if_neg (by simp),if_pos ⟨by omega,hp⟩];omega
     ·rw [if_neg (fun h=>hp h.2),if_neg (fun h=>hp h.2),if_neg (fun h=>hp h.2),if_neg (fun h=>hp h.2)];omega
    ·have h1:(a::l).contains (m:Int)=l.contains (m:Int):=by
      rw [List.contains_cons];have:((m:Int) == a)=false:=by simpa using e
      rw [this,Bool.false_or]
     rw [h1];have h2:(a<((m+1:Nat):Int)/\p a=true)↔(a<(m:Int)/\p a=true):=⟨fun h=>⟨by omega,h.2⟩,fun h=>⟨by omega,h.2⟩⟩;simp only [h2];rw [Int.add_right_comm]
  rw [key n,<- ih,List.filter_cons];by_cases hp:p a=true
  ·rw [if_pos hp,if_pos ⟨ha.2,hp⟩,List.length_cons];omega
  ·rw [if_neg hp,if_neg (fun h=>hp h.2)];omega
theorem zWI:∀ {r D:Nat},zDW w (uB w) ros r D=(List.range 6).map fun k=>if k<w.drivers.length then ((List.range r).map fun d:Nat=>if (drv w k).wish.contains ((D+d:Nat):Int)=true/\(xV w ros k (D+d)).isNone=true then (1:Int) else 0).sum else 0
 | 0,D=>by
  show zCQ=_;have:∀ k:Nat,(if k<w.drivers.length then ((List.range 0).map fun d:Nat=>if (drv w k).wish.contains ((D+d:Nat):Int)=true/\(xV w ros k (D+d)).isNone=true then (1:Int) else 0).sum else 0)=0:=by
   intro k;split <;> rfl
  simp only [this];rfl
 | r+1,D=>by
  show vB (zDW w (uB w) ros r (D+1)) (uB w D ((yC w D w.duties.length).map ros))=_;rw [zWI];unfold vB uB;rw [List.zipWith_map];have hz:∀ (g:Nat->Nat->Int) (l:List Nat),List.zipWith g l l=l.map fun k=>g k k:=by
   intro g l;induction l with
   | nil=>rfl
   | cons a l ih=>rw [List.zipWith_cons_cons,ih,List.map_cons]
  rw [hz];apply List.map_congr_left;intro k _;by_cases hk:k<w.drivers.length
  ·rw [if_pos hk,if_pos hk,List.range_succ_eq_map,List.map_cons,List.sum_cons,List.map_map];have e1:((List.range r).map fun d:Nat=>if (drv w k).wish.contains ((D+1+d:Nat):Int)=true/\(xV w ros k (D+1+d)).isNone=true then (1:Int) else 0)=(List.range r).map ((fun d:Nat=>if (drv w k).wish.contains ((D+d:Nat):Int)=true/\(xV w ros k (D+d)).isNone=true then (1:Int) else 0) ∘ Nat.succ):=by
    apply List.map_congr_left;intro d _;show (if (drv w k).wish.contains ((D+1+d:Nat):Int)=true/\(xV w ros k (D+1+d)).isNone=true then (1:Int) else 0)=if (drv w k).wish.contains ((D+(d+1):Nat):Int)=true/\(xV w ros k (D+(d+1))).isNone=true then (1:Int) else 0;rw [show D+1+d=D+(d+1) from by omega]
   rw [e1];have e2:(((yC w D w.duties.length).map ros).contains (k:Int)=false)↔((xV w ros k (D+0)).isNone=true):=by
    rw [Nat.add_zero];have hc:((yC w D w.duties.length).map ros).contains (k:Int)=true↔∃ i,i<w.duties.length/\(dty w i).day=(D:Int)/\ros i=(k:Int):=by
     rw [List.contains_iff_mem,List.mem_map];constructor
     ·rintro ⟨i,hi,e⟩;exact ⟨i,(zBS.1 hi).1,(zBS.1 hi).2,e⟩
     ·rintro ⟨i,h1,h2,h3⟩;exact ⟨i,zBS.2 ⟨h1,h2⟩,h3⟩
    constructor
    ·intro h;cases hf:xV w ros k D with
     | none=>rfl
     | some i =>
      obtain ⟨h1,h2,h3⟩:=first_mem hf;rw [hc.2 ⟨i,h1,h3,h2⟩] at h;cases h
    ·intro h;cases hcc:((yC w D w.duties.length).map ros).contains (k:Int) with
     | false=>rfl
     | true =>
      obtain ⟨i,h1,h2,h3⟩:=hc.1 hcc;obtain ⟨j,hj⟩:=first_ex h1 h3 h2;rw [hj] at h;cases h
   rw [Int.add_comm];congr 1;by_cases hw:(drv w k).wish.contains (D:Int)=true
   ·by_cases hf:(xV w ros k (D+0)).isNone=true
    ·rw [if_pos ⟨hk,hw,e2.2 hf⟩,if_pos ⟨hw,hf⟩]
    ·rw [if_neg (fun h=>hf (e2.1 h.2.2)),if_neg (fun h=>hf h.2)]
   ·rw [if_neg (fun h=>hw h.2.1),if_neg (fun h=>hw h.1)]
  ·rw [if_neg hk,if_neg hk,if_neg (fun h=>hk h.1)];rfl
def yWS (w:Wk) (n:Nat):Prop:=∀ k,k<w.drivers.length->(drv w k).wish.Nodup/\∀ d∈(drv w k).wish,0<=d/\d<(n:Int)
theorem zTE {n:Nat} (hw:yWS w n):zDW w (uB w) ros n 0=grV w ros:=by
 rw [zWI];unfold grV;apply List.map_congr_left;intro k _;by_cases hk:k<w.drivers.length
 ·rw [if_pos hk,if_pos hk];obtain ⟨h1,h2⟩:=hw k hk;unfold gr;rw [zZM (p:=fun d=>(xV w ros k d.toNat).isNone) h1 h2];congr 1;apply List.map_congr_left;intro d _;rw [Nat.zero_add,Int.toNat_natCast]
 ·rw [if_neg hk,if_neg hk]
def yBU (w:Wk) (ros:Nat->Int):Prop:=∀ i,i<w.duties.length->ros i≠-1
def BestR (w:Wk) (n:Nat):Option (List Int × List Int)->Prop
 | none=>∀ ros,Ros w ros->uP w ros (late w)->¬ yBU w ros
 | some (who,v)=>who.length=(xA w n 0).length/\∀ ros,(xA w n 0).map ros=who->Ros w ros/\uP w ros (late w)/\yBU w ros/\v=grV w ros/\∀ ros',Ros w ros'->uP w ros' (late w)->yBU w ros'->wS (grV w ros') v=false
def MostR (w:Wk) (n:Nat):Option (List Int × List Int)->Prop
 | none=>False
 | some (who,v)=>who.length=(xA w n 0).length/\∀ ros,(xA w n 0).map ros=who->Ros w ros/\uP w ros (late w)/\v=[xS w ros,0,0,0,0,0]/\∀ ros',Ros w ros'->uP w ros' (late w)->xS w ros'<=xS w ros
theorem best_r {n:Nat} (hv:Val w n) (hw:yWS w n) {st:Nat->Std} (hs:∀ k,k<w.drivers.length->st k=before (drv w k)) {e:Option (List Int × List Int)} (h:xO 6 (Ch w false (uB w) n 0 st) e):BestR w n e:=by
 cases e with
 | none =>
  intro ros hr hl hf;exact h _ _ ((zHC hv hr hs).2 ⟨⟨hl,fun _=>hf⟩,rfl⟩)
 | some p =>
  obtain ⟨who,v⟩:=p;obtain ⟨h1,h2,h3⟩:=h;obtain ⟨h4,h5⟩:=yIN h1;refine ⟨h4, ?_⟩
  intro ros hros;subst hros;have hr:=zTH hv.toDays h5;obtain ⟨⟨k1,k2⟩,k3⟩:=(zHC hv hr hs).1 h1;rw [zTE hw] at k3;refine ⟨hr,k1,k2 rfl,k3, ?_⟩
  intro ros' hr' hl' hf';refine h3 _ _ ((zHC hv hr' hs).2 ⟨⟨hl',fun _=>hf'⟩,(zTE hw).symm⟩)
theorem yTS {n:Nat} (hv:Val w n):Ros w (fun _=>-1)/\uP w (fun _=>-1) (late w):=by
 refine ⟨⟨fun i hi=>⟨Int.le_refl _,by show (-1:Int)<_;omega⟩⟩, ?_⟩
 intro q k i hk hq;unfold wD;by_cases h:q=5
 ·rw [if_pos h];have:((List.range w.duties.length).filter fun i=>decide ((-1:Int)=(k:Int)))=[]:=by
   apply List.filter_eq_nil_iff.2;intro a _ h;have:=of_decide_eq_true h;omega
  have hu:=hv.used k hk;apply decide_eq_false;rw [this];show ¬ w.hours<(drv w k).used+0;omega
 ·rw [if_neg h,decide_eq_false (by show ¬ (-1:Int)=(k:Int);omega),Bool.false_and]
theorem most_r {n:Nat} (hv:Val w n) {st:Nat->Std} (hs:∀ k,k<w.drivers.length->st k=before (drv w k)) {e:Option (List Int × List Int)} (h:xO 6 (Ch w true zES n 0 st) e):MostR w n e:=by
 cases e with
 | none =>
  obtain ⟨h1,h2⟩:=yTS hv;exact h _ _ ((zHC hv h1 hs).2 ⟨⟨h2,fun h=>by cases h⟩,rfl⟩)
 | some p =>
  obtain ⟨who,v⟩:=p;obtain ⟨h1,h2,h3⟩:=h;obtain ⟨h4,h5⟩:=yIN h1;refine ⟨h4, ?_⟩
  intro ros hros;subst hros;have hr:=zTH hv.toDays h5;obtain ⟨⟨k1,k2⟩,k3⟩:=(zHC hv hr hs).1 h1;rw [zPT hv.toDays] at k3;refine ⟨hr,k1,k3, ?_⟩
  intro ros' hr' hl';have:=h3 _ _ ((zHC hv hr' hs).2 ⟨⟨hl',fun h=>by cases h⟩,(zPT hv.toDays).symm⟩);rw [k3] at this;unfold wS at this;by_cases e:xS w ros'=xS w ros
  ·omega
  ·rw [if_neg e] at this;have:=of_decide_eq_false this;omega
end
end Go.Proofs.YtgfiniccfpfplaaGreat

namespace Go.Proofs.YtgfiniccfpfplaaGreat
open Go Go.Lay
open Tryz renaming prog -> Pg
set_option linter.unusedVariables false
set_option linter.unusedSimpArgs false
set_option maxRecDepth 20000
theorem zHF:AppT Pg 26 26 3 1:=zRI (by kernel_rfl)
theorem zAX (x:Int):zIS Pg 3 1 (yB x):=.inl ⟨zS,rfl,rfl⟩
abbrev yG (Z:St) (p:Option Addr) (l:Nat) (xs:List Int):Prop:=SlV Pg Z 3 1 p l (xs.map yB)
theorem yG.len {Z:St} {p:Option Addr} {l:Nat} {xs:List Int} (h:yG Z p l xs):xs.length=l:=by have:=h.2.1;simpa using this
theorem vF {Z:St} {α:Type} {t n len i:Nat} {p:Option Addr} {xs:List α} {f:α->Value} (h:SlV Pg Z t n p len (xs.map f)) (hi:i<len):∃ a,p=some a/\∃ x,xs[i]?=some x/\zB Pg Z t (zM a (Int.toNat (i:Int)*n))=some (f x):=by
 obtain ⟨a,rfl,_⟩:=h.some hi;have hl:i<xs.length:=by have:=h.2.1;simp at this;omega
 exact ⟨a,rfl,xs[i],by simp,h.at rfl (by simp [hl])⟩
abbrev zBT (d:Dty):Value:=.agg ⟨zF d.day d.on d.lo d.hi d.route⟩
abbrev yAR (Z:St) (t:Nat) (p:Option Addr) (l:Nat) (xs:List Dty):Prop:=SlV Pg Z t 5 p l (xs.map zBT)
def zVG (Z:St) (v:Value) (x:Drv):Prop:=∃ p l c q m d r n e,v=.agg ⟨zL p l c q m d r n e x.off x.row x.used⟩/\yG Z p l x.knows/\yG Z q m x.leave/\yG Z r n x.wish
def zUY (Z:St) (t:Nat) (p:Option Addr) (l:Nat) (xs:List Drv):Prop:=∃ vs:List Value,SlV Pg Z t 6 p l vs/\xs.length=l/\∀ (i:Nat) (x:Drv),xs[i]?=some x->∃ v,vs[i]?=some v/\zVG Z v x
section
variable {Z Z':St} {td tv:Nat} {p q:Option Addr} {l m c d:Nat} {w:Wk}
theorem zVG.le {v:Value} {x:Drv} (h:zVG Z v x) (k:Le Z Z'):zVG Z' v x:=by
 obtain ⟨p,l,c,q,m,d,r,n,e,h1,h2,h3,h4⟩:=h;exact ⟨p,l,c,q,m,d,r,n,e,h1,h2.le k,h3.le k,h4.le k⟩
theorem zUY.le {xs:List Drv} (h:zUY Z tv p l xs) (k:Le Z Z'):zUY Z' tv p l xs:=by
 obtain ⟨vs,h1,h2,h3⟩:=h;exact ⟨vs,h1.le k,h2,fun i x hi=>by obtain ⟨v,g1,g2⟩:=h3 i x hi;exact ⟨v,g1,g2.le k⟩⟩
structure WkP (Z:St) (td tv:Nat) (w:Wk) (p:Option Addr) (l:Nat) (q:Option Addr) (m:Nat):Prop where
 dty:yAR Z td p l w.duties
 drv:zUY Z tv q m w.drivers
theorem WkP.le (h:WkP Z td tv w p l q m) (k:Le Z Z'):WkP Z' td tv w p l q m:=⟨h.dty.le k,h.drv.le k⟩
theorem WkP.len (h:WkP Z td tv w p l q m):w.duties.length=l/\w.drivers.length=m:=by
 have h1:=h.dty.2.1;exact ⟨by simpa using h1,h.drv.choose_spec.2.1⟩
theorem yEV {n k:Nat} {x v:Value} (hk:k<n) (hv:x.cells.toList[k]?=some v):∀ {vs:List Value} {i:Nat},(∀ y∈vs,y.cells.toList.length=n)->vs[i]?=some x->(vA vs)[i*n+k]?=some v
 | [],i,_,h=>by simp at h
 | y::ys,0,hn,h=>by
  have:y=x:=by simpa using h
  subst this;have hl:=hn y List.mem_cons_self;simp only [vA,List.flatMap_cons,Nat.zero_mul,Nat.zero_add];rw [List.getElem?_append_left (by omega)];exact hv
 | y::ys,i+1,hn,h=>by
  have ih:=yEV hk hv (vs:=ys) (i:=i) (fun z hz=>hn z (List.mem_cons_of_mem _ hz)) (by simpa using h);have hl:=hn y List.mem_cons_self;have e:(i+1)*n+k=y.cells.toList.length+(i*n+k):=by rw [hl,Nat.add_mul,Nat.one_mul];omega
  simp only [vA,List.flatMap_cons] at ih ⊢;rw [e,List.getElem?_append_right (by omega),Nat.add_sub_cancel_left];exact ih
theorem WkP.vld (h:WkP Z td tv w p l q m) (ht:wI Pg tv=some true) (hs:yV Pg tv=some 6) {i:Nat} (hi:i<m):∃ a,q=some a/\∃ p l c r n d s j e,zB Pg Z tv (zM a (Int.toNat (i:Int)*6))=some (.agg ⟨zL p l c r n d s j e (Go.Proofs.YtgfiniccfpfplaaGreat.drv w i).off (Go.Proofs.YtgfiniccfpfplaaGreat.drv w i).row (Go.Proofs.YtgfiniccfpfplaaGreat.drv w i).used⟩) /\
  yG Z p l (Go.Proofs.YtgfiniccfpfplaaGreat.drv w i).knows/\yG Z r n (Go.Proofs.YtgfiniccfpfplaaGreat.drv w i).leave/\yG Z s j (Go.Proofs.YtgfiniccfpfplaaGreat.drv w i).wish /\
  ∀ (k:Nat) (v:Value),(zL p l c r n d s j e (Go.Proofs.YtgfiniccfpfplaaGreat.drv w i).off (Go.Proofs.YtgfiniccfpfplaaGreat.drv w i).row (Go.Proofs.YtgfiniccfpfplaaGreat.drv w i).used)[k]?=some v->∀ t,wI Pg t=some false->zB Pg Z t (zM a (Int.toNat (i:Int)*6+k))=some v:=by
 obtain ⟨vs,h1,h2,h3⟩:=h.drv;obtain ⟨a,rfl,hr⟩:=h1.some hi;have hx:w.drivers[i]?=some (Go.Proofs.YtgfiniccfpfplaaGreat.drv w i):=by
  unfold Go.Proofs.YtgfiniccfpfplaaGreat.drv;rw [List.getD_eq_getElem?_getD,List.getElem?_eq_getElem (by omega)];rfl
 obtain ⟨v,g1,p,l,c,r,n,d,s,j,e,rfl,g2,g3,g4⟩:=h3 i _ hx;refine ⟨a,rfl,p,l,c,r,n,d,s,j,e,h1.at rfl g1,g2,g3,g4, ?_⟩
 intro k v hk t htt;rw [Int.toNat_natCast];refine hr.load1 htt ?_
 have hk6:k<6:=by
  rcases Nat.lt_or_ge k 6 with h | h
  ·exact h
  ·rw [List.getElem?_eq_none (by simpa using h)] at hk;cases hk
 exact yEV hk6 (by exact hk) (fun y hy=>(h1.2.2 y hy).len) g1
theorem zJX {n lo hi:Int}:zD Pg 47 [iV n,iV lo,iV hi] Z (.bool (inB n lo hi)) Z:=by
 by_cases h1:lo<=n <;> by_cases h2:n<=hi
 ·exact (within_ra ⟨by simp [inB,h1,h2],Nat.le_refl _⟩).pure
 ·exact (within_rb ⟨by simp [inB,h1,h2],Nat.le_refl _⟩).pure
 ·exact (yBX ⟨by simp [inB,h1],Nat.le_refl _⟩).pure
 ·exact (yBX ⟨by simp [inB,h1],Nat.le_refl _⟩).pure
theorem rIn_c {n lo hi:Int}:zD Pg 33 [iV n,iV lo,iV hi] Z (.bool (inB n lo hi)) Z:=by
 by_cases h1:lo<=n <;> by_cases h2:n<=hi
 ·exact (rIn_ra ⟨by simp [inB,h1,h2],Nat.le_refl _⟩).pure
 ·exact (rIn_rb ⟨by simp [inB,h1,h2],Nat.le_refl _⟩).pure
 ·exact (rIn_rc ⟨by simp [inB,h1],Nat.le_refl _⟩).pure
 ·exact (rIn_rc ⟨by simp [inB,h1],Nat.le_refl _⟩).pure
theorem rHas_c {xs:List Int} {n:Int} (h:yG Z p l xs) (hl:l<=1073741824):zD Pg 43 [.slice p l c,iV n] Z (.bool (xs.contains n)) Z:=by
 have h1:=h.re;have e1:=h.len;refine (rHas_ra (yRQ (Inv:=fun k i τ=>τ=Z.re/\∃ j:Nat,i=j/\j+k=l/\n ∉ xs.take j) (Qr:=fun b τ=>τ=Z.re/\b=true/\n∈xs) (Q0:=fun τ=>τ=Z.re/\n ∉ xs) ?_ l 0 Z.re ⟨rfl,0,rfl,by omega,by simp⟩) ?_ ?_).pure
 ·rintro k i τ ⟨rfl,j,rfl,hk,he⟩;by_cases hi:j<l
  ·obtain ⟨a,rfl,x,hx,l1⟩:=vF h1 hi;by_cases hxy:x=n
   ·exact rHas_s1a l1 ⟨rfl,rfl,hxy ▸ List.mem_of_getElem? hx⟩
   ·exact rHas_s1b l1 ⟨k-1,by omega,rfl,j+1,by omega,by omega,by rw [wP hx,List.mem_append];simp;exact ⟨he,fun e=>hxy e.symm⟩⟩
  ·rw [List.take_of_length_le (by omega)] at he;exact rHas_s1c ⟨rfl,he⟩
 ·rintro b τ ⟨rfl,rfl,hn⟩;exact yRO ⟨by simp [hn],Nat.le_refl _⟩
 ·rintro τ ⟨rfl,hn⟩;exact yRP ⟨by simp [hn],Nat.le_refl _⟩
def wJ (xs:List Int) (lo hi:Int):Bool:=(List.range xs.length).all fun i=>inB (xs.getD i 0) lo hi && (i == 0 || decide (xs.getD (i-1) 0<xs.getD i 0))
theorem yM {xs:List Int} {i:Nat} {x:Int} (h:xs[i]?=some x):xs.getD i 0=x:=by rw [List.getD_eq_getElem?_getD,h];rfl
theorem zBK {f:Nat->Bool} {n:Nat}:(List.range n).all f=true↔∀ i,i<n->f i=true:=by simp
theorem zXJ {xs:List Int} {lo hi:Int} (h:yG Z p l xs) (hl:l<=1073741824):zD Pg 42 [.slice p l c,iV lo,iV hi] Z (.bool (wJ xs lo hi)) Z:=by
 have h1:=h.re;have e1:=h.len;have no:∀ j,j<l->(inB (xs.getD j 0) lo hi && (j == 0 || decide (xs.getD (j-1) 0<xs.getD j 0)))=false->wJ xs lo hi=false:=by
  intro j hj hf;cases hr:wJ xs lo hi with
  | false=>rfl
  | true=>rw [zBK.1 hr j (by omega)] at hf;cases hf
 refine (rRises_ra (yGQ (Inv:=fun k i τ=>τ=Z.re/\∃ j:Nat,i=j/\j+k=l/\∀ i,i<j->(inB (xs.getD i 0) lo hi && (i == 0 || decide (xs.getD (i-1) 0<xs.getD i 0)))=true) (Qr:=fun b τ=>τ=Z.re/\b=false/\wJ xs lo hi=false) (Q0:=fun τ=>τ=Z.re/\wJ xs lo hi=true) ?_ l 0 Z.re ⟨rfl,0,rfl,by omega,fun i h=>by omega⟩) ?_ ?_).pure
 ·rintro k i τ ⟨rfl,j,rfl,hk,he⟩;by_cases hj:j<l
  ·obtain ⟨a,rfl,x,hx,l1⟩:=vF h1 hj;have cin:=rIn_c (Z:=Z.re) (n:=x) (lo:=lo) (hi:=hi);have gx:=yM hx;cases hb:inB x lo hi with
   | false =>
    rw [hb] at cin
    exact yRJ l1 cin ⟨rfl,rfl,no j hj (by rw [gx,hb];rfl)⟩
   | true =>
    rw [hb] at cin
    by_cases h0:0<j
    ·obtain ⟨a',ea,y,hy,l2⟩:=vF h1 (show j-1<l by omega);cases ea
     have gy:=yM hy;have e:((j:Int)-1)=((j-1:Nat):Int):=by omega
     rw [<- e] at l2;by_cases hxy:x<=y
     ·exact yRM l1 cin l2 ⟨rfl,rfl,no j hj (by rw [gx,gy,hb];simp;omega)⟩
     ·refine yRL l1 cin l2 ⟨k-1,by omega,rfl,j+1,by omega,by omega, ?_⟩;intro i hi2;by_cases e2:i=j
      ·subst e2;rw [gx,gy,hb];simp;omega
      ·exact he i (by omega)
    ·refine yRK l1 cin ⟨k-1,by omega,rfl,j+1,by omega,by omega, ?_⟩
     intro i hi2;have e2:i=j:=by omega
     subst e2;have:i=0:=by omega
     rw [gx,hb,this];rfl
  ·exact yRI ⟨rfl,zBK.2 fun i hi2=>he i (by omega)⟩
 ·rintro b τ ⟨rfl,rfl,hn⟩;exact yGO ⟨by rw [hn],Nat.le_refl _⟩
 ·rintro τ ⟨rfl,hn⟩;exact yGP ⟨by rw [hn],Nat.le_refl _⟩
theorem yGK {xs:List Int} {lo hi:Int} (h:yG Z p l xs) (hl:l<=1073741824):zD Pg 71 [.slice p l c,iV lo,iV hi] Z (.bool (wJ xs lo hi)) Z:=by
 have h1:=h.re;have e1:=h.len;have no:∀ j,j<l->(inB (xs.getD j 0) lo hi && (j == 0 || decide (xs.getD (j-1) 0<xs.getD j 0)))=false->wJ xs lo hi=false:=by
  intro j hj hf;cases hr:wJ xs lo hi with
  | false=>rfl
  | true=>rw [zBK.1 hr j (by omega)] at hf;cases hf
 refine (rises_ra (yKW (Inv:=fun k i τ=>τ=Z.re/\∃ j:Nat,i=j/\j+k=l/\∀ i,i<j->(inB (xs.getD i 0) lo hi && (i == 0 || decide (xs.getD (i-1) 0<xs.getD i 0)))=true) (Qr:=fun b τ=>τ=Z.re/\b=false/\wJ xs lo hi=false) (Q0:=fun τ=>τ=Z.re/\wJ xs lo hi=true) ?_ l 0 Z.re ⟨rfl,0,rfl,by omega,fun i h=>by omega⟩) ?_ ?_).pure
 ·rintro k i τ ⟨rfl,j,rfl,hk,he⟩;by_cases hj:j<l
  ·obtain ⟨a,rfl,x,hx,l1⟩:=vF h1 hj;have cin:=zJX (Z:=Z.re) (n:=x) (lo:=lo) (hi:=hi);have gx:=yM hx;cases hb:inB x lo hi with
   | false =>
    rw [hb] at cin
    exact rises_s1d l1 cin ⟨rfl,rfl,no j hj (by rw [gx,hb];rfl)⟩
   | true =>
    rw [hb] at cin
    by_cases h0:0<j
    ·obtain ⟨a',ea,y,hy,l2⟩:=vF h1 (show j-1<l by omega);cases ea
     have gy:=yM hy;have e:((j:Int)-1)=((j-1:Nat):Int):=by omega
     rw [<- e] at l2;by_cases hxy:x<=y
     ·exact rises_s1a l1 cin l2 ⟨rfl,rfl,no j hj (by rw [gx,gy,hb];simp;omega)⟩
     ·refine rises_s1b l1 cin l2 ⟨k-1,by omega,rfl,j+1,by omega,by omega, ?_⟩;intro i hi2;by_cases e2:i=j
      ·subst e2;rw [gx,gy,hb];simp;omega
      ·exact he i (by omega)
    ·refine rises_s1c l1 cin ⟨k-1,by omega,rfl,j+1,by omega,by omega, ?_⟩
     intro i hi2;have e2:i=j:=by omega
     subst e2;have:i=0:=by omega
     rw [gx,hb,this];rfl
  ·exact rises_s1e ⟨rfl,zBK.2 fun i hi2=>he i (by omega)⟩
 ·rintro b τ ⟨rfl,rfl,hn⟩;exact yKU ⟨by rw [hn],Nat.le_refl _⟩
 ·rintro τ ⟨rfl,hn⟩;exact yKV ⟨by rw [hn],Nat.le_refl _⟩
end
end Go.Proofs.YtgfiniccfpfplaaGreat
