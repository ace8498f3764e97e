
import Derived.Test.YtgfiniccfpfplaaGreatPB
namespace Go.Proofs.YtgfiniccfpfplaaGreat
set_option linter.unusedVariables false
set_option linter.unusedSimpArgs false
def zEN (w:Wk) (ros tru:Nat->Int):Prop:=∀ q k i,k<w.drivers.length->(q<5/\i<w.duties.length\/q=5/\i=0)->wO w ros tru q k i=false
section
variable {w x:Wk} {ros ros' tru tru':Nat->Int}
theorem xGL:zII w ros tru w.drivers.length=[]↔zEN w ros tru:=by
 constructor
 ·intro h q k i hk hq;cases hb:wO w ros tru q k i with
  | false=>rfl
  | true =>
   have:(⟨q,k,i⟩:Bch)∈zII w ros tru w.drivers.length:=zYF.2 ⟨hq,hk,hb⟩;rw [h] at this;cases this
 ·intro h;apply List.eq_nil_iff_forall_not_mem.2;intro b hb;obtain ⟨h1,h2,h3⟩:=zYF.1 hb;rw [h _ _ _ h2 h1] at h3;cases h3
theorem xHH {k D i:Nat} (h:yZ w ros k D=some i):i<w.duties.length/\ros i=(k:Int)/\(dty w i).day=(D:Int) :=
 zLR.1 (List.mem_of_mem_head? h)
theorem xPB {k D i:Nat} (hi:i<w.duties.length) (hr:ros i=(k:Int)) (hD:(dty w i).day=(D:Int)):∃ j,yZ w ros k D=some j:=by
 have:i∈onL w ros k D w.duties.length:=zLR.2 ⟨hi,hr,hD⟩;unfold yZ;cases h:onL w ros k D w.duties.length with
 | nil=>rw [h] at this;cases this
 | cons a l=>exact ⟨a,rfl⟩
section
variable {f:Nat->Nat}
end
end
end Go.Proofs.YtgfiniccfpfplaaGreat
