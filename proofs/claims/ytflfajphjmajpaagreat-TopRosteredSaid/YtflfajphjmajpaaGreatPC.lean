
import Derived.Test.YtflfajphjmajpaaGreatPB
namespace Go.Proofs.YtflfajphjmajpaaGreat
def zAF(w:Wk)(ros tru:Nat->Int):Prop:=∀q k i,k<w.M.length->(q<5/\i<w.L.length\/q=5/\i=0)->wQ w ros tru q k i=false
section
variable{w x:Wk}{ros ros' tru tru':Nat->Int}
theorem xTY:wHD w ros tru w.M.length=[]↔zAF w ros tru:=by
 constructor
 .intro h q k i hk hq;cases hb:wQ w ros tru q k i with
  |false=>rfl
  |true =>
   have:(⟨q,k,i⟩:Bch)∈wHD w ros tru w.M.length:=zWA.2 ⟨hq,hk,hb⟩;rw[h]at this;cases this
 .intro h;apply List.eq_nil_iff_forall_not_mem.2;intro b hb;obtain⟨h1,h2,h3⟩:=zWA.1 hb;rw[h _ _ _ h2 h1]at h3;cases h3
theorem xUA{n:Nat}(hd:Days w n)(hr:Ros w ros):wKA w ros tru n=[]↔zAF w ros tru:=by
 rw[<- xTY];constructor <;> intro h <;> apply List.eq_nil_iff_forall_not_mem.2 <;> intro b hb
 .have:=(xEK (tru:=tru) hd hr).2 (zWA.1 hb);rw[h]at this;cases this
 .have:=zWA.2 ((xEK (tru:=tru) hd hr).1 hb);rw[h]at this;cases this
theorem xUS{k D i:Nat}(h:zDE w ros k D=some i):i<w.L.length/\ros i=(k:Int)/\(dty w i).day=(D:Int) :=
 zWD.1 (List.mem_of_mem_head? h)
theorem yIJ(h:∀i,i<w.L.length->tru i<=tru' i){k:Nat}:∀{D:Nat},vO w ros tru k D<=vO w ros tru' k D
 |0=>Int.le_refl _
 |D+1=>by
  have:=yIJ h (k:=k) (D:=D);unfold vO;cases hf:zDE w ros k D with
  |none=>exact this
  |some i=>have:=h i (xUS hf).1;simp only;omega
theorem xAT{p:Nat->Bool}{f g:Nat->Int}:∀{l:List Nat},(∀i∈l,f i<=g i)->((l.filter p).map f).sum<=((l.filter p).map g).sum
 |[],_=>by simp
 |i::l,h=>by
  have h1:=h i List.mem_cons_self;have h2:=xAT (p:=p) (f:=f) (g:=g) (l:=l) λj hj=>h j (List.mem_cons_of_mem _ hj)
  rw[List.filter_cons];split
  .simp only[List.map_cons,List.sum_cons];omega
  .exact h2
theorem xEA(h:∀i,i<w.L.length->tru i<=tru' i){q k i:Nat}(hb:wQ w ros tru q k i=true):wQ w ros tru' q k i=true:=by
 unfold wQ at hb ⊢;by_cases h5:q=5
 .rw[if_pos h5]at hb ⊢;have h1:=of_decide_eq_true hb;refine decide_eq_true ?_
  have:=xAT (p:=λi=>decide (ros i=(k:Int))) (f:=λi=>tru i-(dty w i).on) (g:=λi=>tru' i-(dty w i).on) (l:=List.range w.L.length) (λi hi=>by have:=h i (List.mem_range.1 hi);omega);omega
 .rw[if_neg h5]at hb ⊢;rw[Bool.and_eq_true]at hb ⊢;refine⟨hb.1, ?_⟩
  have hb:=hb.2;match q with
  |0=>exact hb
  |1=>exact hb
  |2=>exact hb
  |3 =>
   simp only[Bool.and_eq_true,decide_eq_true_eq]at hb ⊢;refine⟨hb.1, ?_⟩
   have:=yIJ (ros:=ros) h (k:=k) (D:=(dty w i).day.toNat);omega
  |n+4=>exact hb
section
variable{f:Nat->Nat}
end
end
end Go.Proofs.YtflfajphjmajpaaGreat
