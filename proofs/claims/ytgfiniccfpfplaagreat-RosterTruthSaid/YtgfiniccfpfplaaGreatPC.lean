
import Derived.Test.YtgfiniccfpfplaaGreatPB
namespace Go.Proofs.YtgfiniccfpfplaaGreat
variable {k D i:Nat}
def uW (w:Wk) (ros tru:Nat->Int):Prop:=∀ q k i,k<w.L.length->(q<5/\i<w.N.length\/q=5/\i=0)->xT w ros tru q k i=false
section
variable {w x:Wk} {ros ros' tru tru':Nat->Int}
theorem zSU:uQ w ros tru w.L.length=[]↔uW w ros tru:=by
 constructor
 ·intro h q k i hk hq;cases hb:xT w ros tru q k i with
  | false=>rfl
  | true =>
   have:(⟨q,k,i⟩:Bch)∈uQ w ros tru w.L.length:=zJK.2 ⟨hq,hk,hb⟩;rw [h] at this;cases this
 ·intro h;apply List.eq_nil_iff_forall_not_mem.2;intro b hb;obtain ⟨h1,h2,h3⟩:=zJK.1 hb;rw [h _ _ _ h2 h1] at h3;cases h3
theorem yIA (h:xW w ros k D=some i):i<w.N.length/\ros i=(k:Int)/\(dtQ w i).day=(D:Int) :=
 zME.1 (List.mem_of_mem_head? h)
theorem xRK (hi:i<w.N.length) (hr:ros i=(k:Int)) (hD:(dtQ w i).day=(D:Int)):∃ j,xW w ros k D=some j:=by
 have:i∈onL w ros k D w.N.length:=zME.2 ⟨hi,hr,hD⟩;unfold xW;cases h:onL w ros k D w.N.length with
 | nil=>rw [h] at this;cases this
 | cons a l=>exact ⟨a,rfl⟩
theorem yBP (h:∀ i,i<w.N.length->tru i<=tru' i) {k:Nat}:∀ {D:Nat},wW w ros tru k D<=wW w ros tru' k D
 | 0=>Int.le_refl _
 | D+1=>by
  have:=yBP h (k:=k) (D:=D);unfold wW;cases hf:xW w ros k D with
  | none=>exact this
  | some i=>have:=h i (yIA hf).1;simp only;omega
theorem yNN {p:Nat->Bool} {f g:Nat->Int}:∀ {l:List Nat},(∀ i∈l,f i<=g i)->((l.filter p).map f).sum<=((l.filter p).map g).sum
 | [],_=>by simp
 | i::l,h=>by
  have h1:=h i List.mem_cons_self;have h2:=yNN (p:=p) (f:=f) (g:=g) (l:=l) fun j hj=>h j (List.mem_cons_of_mem _ hj)
  rw [List.filter_cons];split
  ·simp only [List.map_cons,List.sum_cons];omega
  ·exact h2
theorem ySM (h:∀ i,i<w.N.length->tru i<=tru' i) {q k i:Nat} (hb:xT w ros tru q k i=true):xT w ros tru' q k i=true:=by
 unfold xT at hb ⊢;by_cases h5:q=5
 ·rw [if_pos h5] at hb ⊢;have h1:=of_decide_eq_true hb;refine decide_eq_true ?_
  have:=yNN (p:=fun i=>decide (ros i=(k:Int))) (f:=fun i=>tru i-(dtQ w i).on) (g:=fun i=>tru' i-(dtQ w i).on) (l:=List.range w.N.length) (fun i hi=>by have:=h i (List.mem_range.1 hi);omega);omega
 ·rw [if_neg h5] at hb ⊢;rw [Bool.and_eq_true] at hb ⊢;refine ⟨hb.1, ?_⟩
  have hb:=hb.2;match q with
  | 0=>exact hb
  | 1=>exact hb
  | 2=>exact hb
  | 3 =>
   simp only [Bool.and_eq_true,decide_eq_true_eq] at hb ⊢;refine ⟨hb.1, ?_⟩
   have:=yBP (ros:=ros) h (k:=k) (D:=(dtQ w i).day.toNat);omega
  | n+4=>exact hb
section
variable {f:Nat->Nat}
end
end
end Go.Proofs.YtgfiniccfpfplaaGreat
