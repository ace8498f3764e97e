
import Derived.Test.YtgfiniccfpfplaaPB
namespace Go.Proofs.Ytgfiniccfpfplaa
def wC (w:Wk) (ros tru:Nat→Int):Prop:=∀ q k i,k<w.L.length→(q<5∧i<w.N.length∨q=5∧i=0)→xR w ros tru q k i=false
section
variable {w x:Wk} {ros ros' tru tru':Nat→Int}
theorem xCS:zIA w ros tru w.L.length=[]↔wC w ros tru:=by
 constructor
 ·intro h q k i hk hq;cases hb:xR w ros tru q k i with
  | false=>rfl
  | true =>
   have:(⟨q,k,i⟩:Bch)∈zIA w ros tru w.L.length:=zWU.2 ⟨hq,hk,hb⟩;rw [h] at this;cases this
 ·intro h;apply List.eq_nil_iff_forall_not_mem.2;intro b hb;obtain ⟨h1,h2,h3⟩:=zWU.1 hb;rw [h _ _ _ h2 h1] at h3;cases h3
theorem zAS {k D i:Nat} (h:xE w ros k D=some i):i<w.N.length∧ros i=(k:Int)∧(dty w i).day=(D:Int) :=
 zLC.1 (List.mem_of_mem_head? h)
theorem zPO {k D i:Nat} (hi:i<w.N.length) (hr:ros i=(k:Int)) (hD:(dty w i).day=(D:Int)):∃ j,xE w ros k D=some j:=by
 have:i∈onL w ros k D w.N.length:=zLC.2 ⟨hi,hr,hD⟩;unfold xE;cases h:onL w ros k D w.N.length with
 | nil=>rw [h] at this;cases this
 | cons a l=>exact ⟨a,rfl⟩
theorem yUA (h:∀ i,i<w.N.length→tru i≤tru' i) {k:Nat}:∀ {D:Nat},wL w ros tru k D≤wL w ros tru' k D
 | 0=>Int.le_refl _
 | D+1=>by
  have:=yUA h (k:=k) (D:=D);unfold wL;cases hf:xE w ros k D with
  | none=>exact this
  | some i=>have:=h i (zAS hf).1;simp only;omega
structure Eas (w x:Wk) (ros ros' tru tru':Nat→Int) (f:Nat→Nat):Prop where
 lt:∀ i,i<x.N.length→f i<w.N.length
 inj:∀ i j,i<x.N.length→j<x.N.length→f i=f j→i=j
 edty:∀ i,i<x.N.length→dty x i=dty w (f i)
 etru:∀ i,i<x.N.length→tru' i=tru (f i)
 eros:∀ i,i<x.N.length→ros' i=ros (f i)∨ros' i=-1
 len:x.L.length=w.L.length
 J:∀ k r,k<w.L.length→(drQ w k).J.contains r=true→(drQ x k).J.contains r=true
 qa:∀ k r,k<w.L.length→(drQ x k).qa.contains r=true→(drQ w k).qa.contains r=true
 off:∀ k,k<w.L.length→(drQ x k).off≤(drQ w k).off
 row:∀ k,k<w.L.length→(drQ x k).row≤(drQ w k).row∧0≤(drQ w k).row
 used:∀ k,k<w.L.length→(drQ x k).used≤(drQ w k).used
 rest:x.rest≤w.rest∧0≤w.rest
 run:w.run≤x.run
 j:w.j≤x.j
 ends:∀ i,i<w.N.length→(dty w i).on≤tru i
 day:∀ i,i<w.N.length→0≤(dty w i).day
theorem xHQ {A B:List Int} (h:A.Perm B):A.sum=B.sum:=by
 induction h with
 | nil=>rfl
 | cons a _ ih=>simp only [List.sum_cons,ih]
 | swap a b l=>simp only [List.sum_cons];omega
 | trans _ _ h1 h2=>exact h1.trans h2
theorem yWW {g:Nat→Int}:∀ {A B:List Nat},A.Nodup→(∀ a∈A,a∈B)→(∀ b∈B,0≤g b)→(A.map g).sum≤(B.map g).sum
 | [],B,_,_,h=>by
  induction B with
  | nil=>simp
  | cons b B ih =>
   have:=h b List.mem_cons_self;have:=ih (fun a ha=>by cases ha) fun c hc=>h c (List.mem_cons_of_mem _ hc)
   simp only [List.map_nil,List.sum_nil,List.map_cons,List.sum_cons] at *;omega
 | a::A,B,hA,hs,h=>by
  have ha:=hs a List.mem_cons_self;have hp:=List.perm_cons_erase ha;have hn:=List.nodup_cons.1 hA;have hB:(B.map g).sum=g a+((B.erase a).map g).sum:=by
   have:(B.map g).Perm ((a::B.erase a).map g):=hp.map g;rw [xHQ this];rfl
  rw [hB,List.map_cons,List.sum_cons];have:=yWW (g:=g) (A:=A) (B:=B.erase a) hn.2 (fun c hc=>by
   refine (List.mem_erase_of_ne ?_).2 (hs c (List.mem_cons_of_mem _ hc));intro e;subst e;exact hn.1 hc) fun b hb=>h b (List.mem_of_mem_erase hb)
  omega
section
variable {f:Nat→Nat}
theorem Eas.first (E:Eas w x ros ros' tru tru' f) (hl:wC w ros tru) {k D i:Nat} (hk:k<w.L.length) (h:xE x ros' k D=some i):xE w ros k D=some (f i):=by
 obtain ⟨h1,h2,h3⟩:=zAS h;have hr:ros (f i)=(k:Int):=by rcases E.eros i h1 with h | h <;> omega
 have hlt:=E.lt i h1;have hD:(dty w (f i)).day=(D:Int):=by rw [← E.edty i h1];exact h3
 have:=hl 2 k (f i) hk (.inl ⟨by omega,hlt⟩);unfold xR at this;rw [if_neg (by omega),decide_eq_true hr,Bool.true_and] at this;simp only [Bool.not_eq_false',decide_eq_true_eq] at this;rw [hD] at this;exact this
theorem Eas.free_le (E:Eas w x ros ros' tru tru' f) (hl:wC w ros tru) {k:Nat} (hk:k<w.L.length):∀ {D:Nat},wL x ros' tru' k D≤wL w ros tru k D
 | 0=>E.off k hk
 | D+1=>by
  have ih:=Eas.free_le E hl hk (D:=D);unfold wL;cases h:xE x ros' k D with
  | some i =>
   rw [E.first hl hk h];have:=E.etru i (zAS h).1;simp only;omega
  | none =>
   simp only;cases h2:xE w ros k D with
   | none=>exact ih
   | some j =>
    obtain ⟨h3,h4,h5⟩:=zAS h2;have h6:=hl 3 k j hk (.inl ⟨by omega,h3⟩);unfold xR at h6;have e:(dty w j).day.toNat=D:=by omega
    rw [if_neg (by omega),decide_eq_true h4,Bool.true_and] at h6;simp only [e,h2,decide_true,Bool.true_and,decide_eq_false_iff_not] at h6;have:=E.ends j h3;have:=E.rest;simp only;omega
theorem Eas.wk (E:Eas w x ros ros' tru tru' f) (hl:wC w ros tru) {k D:Nat} (hk:k<w.L.length) (h:uI x ros' k D=true):uI w ros k D=true:=by
 unfold uI at h ⊢;cases h2:xE x ros' k D with
 | none=>rw [h2] at h;cases h
 | some i=>rw [E.first hl hk h2];rfl
theorem zYJ {k:Nat} (h:0≤(drQ w k).row):∀ {D:Nat},0≤vU w ros k D
 | 0=>by unfold vU;split <;> omega
 | D+1=>by have:=zYJ h (D:=D);unfold vU;split <;> omega
theorem Eas.row_le (E:Eas w x ros ros' tru tru' f) (hl:wC w ros tru) {k:Nat} (hk:k<w.L.length):∀ {D:Nat},vU x ros' k D≤vU w ros k D
 | 0=>by
  by_cases h:uI x ros' k 0=true
  ·unfold vU;rw [if_pos h,if_pos (E.wk hl hk h)];have:=E.row k hk;omega
  ·have e:vU x ros' k 0=0:=by unfold vU;rw [if_neg h]
   rw [e];exact zYJ (E.row k hk).2
 | D+1=>by
  have ih:=Eas.row_le E hl hk (D:=D);by_cases h:uI x ros' k (D+1)=true
  ·unfold vU;rw [if_pos h,if_pos (E.wk hl hk h)];omega
  ·have e:vU x ros' k (D+1)=0:=by unfold vU;rw [if_neg h]
   rw [e];exact zYJ (E.row k hk).2
theorem Eas.sum_le (E:Eas w x ros ros' tru tru' f) {k:Nat}:(((List.range x.N.length).filter fun i=>decide (ros' i=(k:Int))).map fun i=>tru' i-(dty x i).on).sum≤(((List.range w.N.length).filter fun i=>decide (ros i=(k:Int))).map fun i=>tru i-(dty w i).on).sum:=by
  have e:(((List.range x.N.length).filter fun i=>decide (ros' i=(k:Int))).map fun i=>tru' i-(dty x i).on)=((((List.range x.N.length).filter fun i=>decide (ros' i=(k:Int))).map f).map fun i=>tru i-(dty w i).on):=by
    rw [List.map_map];apply List.map_congr_left;intro i hi;have hi:=List.mem_range.1 (List.mem_filter.1 hi).1;show _=tru (f i)-(dty w (f i)).on;rw [E.etru i hi,E.edty i hi]
  rw [e];apply yWW
  · show List.Pairwise (·≠·) _;rw [List.pairwise_map];have:((List.range x.N.length).filter fun i=>decide (ros' i=(k:Int))).Pairwise (·≠·):=(List.pairwise_lt_range.imp fun h=>Nat.ne_of_lt h).filter _;refine this.imp_of_mem ?_
    intro a b ha hb hne he;exact hne (E.inj a b (List.mem_range.1 (List.mem_filter.1 ha).1) (List.mem_range.1 (List.mem_filter.1 hb).1) he)
  · intro a ha;obtain ⟨i,hi,rfl⟩:=List.mem_map.1 ha;obtain ⟨h1,h2⟩:=List.mem_filter.1 hi;have h1:=List.mem_range.1 h1;have h2:=of_decide_eq_true h2;refine List.mem_filter.2 ⟨List.mem_range.2 (E.lt i h1), ?_⟩;refine decide_eq_true ?_
    rcases E.eros i h1 with h | h <;> omega
  · intro b hb;have:=E.ends b (List.mem_range.1 (List.mem_filter.1 hb).1);omega
theorem Eas.legal (E:Eas w x ros ros' tru tru' f) (hl:wC w ros tru):wC x ros' tru':=by
 intro q k i hk hq;rw [E.len] at hk;cases hb:xR x ros' tru' q k i with
 | false=>rfl
 | true =>
  exfalso;by_cases h5:q=5
  ·subst h5;have h:=hl 5 k 0 hk (.inr ⟨rfl,rfl⟩);unfold xR at hb h;rw [if_pos rfl] at hb h;have hb:=of_decide_eq_true hb;have h:=of_decide_eq_false h;have:=E.sum_le (k:=k);have:=E.used k hk;have:=E.j;omega
  ·have hi:i<x.N.length∧q<5:=by rcases hq with h | h;exact ⟨h.2,h.1⟩;exact absurd h.1 h5
   have h:=hl q k (f i) hk (.inl ⟨hi.2,E.lt i hi.1⟩);unfold xR at hb h;rw [if_neg h5] at hb h;rw [Bool.and_eq_true] at hb;obtain ⟨h1,h2⟩:=hb;have h1:=of_decide_eq_true h1;have hr:ros (f i)=(k:Int):=by rcases E.eros i hi.1 with h | h <;> omega
   rw [decide_eq_true hr,Bool.true_and] at h;rw [E.edty i hi.1] at h2;have hday:=E.day (f i) (E.lt i hi.1);have hfx:xE x ros' k (dty w (f i)).day.toNat=some i:=by
    obtain ⟨j,hj⟩:=zPO (w:=x) (ros:=ros') (D:=(dty w (f i)).day.toNat) hi.1 h1 (by rw [E.edty i hi.1];omega);have h3:=E.first hl hk hj;have h4:=hl 2 k (f i) hk (.inl ⟨by omega,E.lt i hi.1⟩);unfold xR at h4;rw [if_neg (by omega),decide_eq_true hr,Bool.true_and] at h4;simp only [Bool.not_eq_false',decide_eq_true_eq] at h4;rw [h4] at h3;injection h3 with h3;rw [hj];congr 1;exact (E.inj i j hi.1 (zAS hj).1 h3).symm
   have hfw:=E.first hl hk hfx;match q,hi.2 with
   | 0,_ =>
    simp only [Bool.not_eq_true',Bool.not_eq_false'] at h2 h;rw [E.J k _ hk h] at h2;cases h2
   | 1,_ =>
    simp only at h2 h;rw [E.qa k _ hk h2] at h;cases h
   | 2,_ =>
    simp only [hfx,decide_true,Bool.not_true] at h2;cases h2
   | 3,_ =>
    simp only [hfx,hfw,decide_true,Bool.true_and,decide_eq_true_eq,decide_eq_false_iff_not] at h2 h;have:=E.free_le hl hk (D:=(dty w (f i)).day.toNat);have:=E.rest;omega
   | 4,_ =>
    simp only [hfx,hfw,decide_true,Bool.true_and,decide_eq_true_eq,decide_eq_false_iff_not] at h2 h;have:=E.row_le hl hk (D:=(dty w (f i)).day.toNat);have:=E.run;omega
end
end
end Go.Proofs.Ytgfiniccfpfplaa
