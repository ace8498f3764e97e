
import Derived.Test.YtgfiniccfpfplaaGreatPB
namespace Go.Proofs.YtgfiniccfpfplaaGreat
set_option linter.unusedVariables false
set_option linter.unusedSimpArgs false
def zCV (w:Wk) (ros tru:Nat->Int):Prop:=∀ q k i,k<w.drivers.length->(q<5/\i<w.duties.length\/q=5/\i=0)->wE w ros tru q k i=false
section
variable {w x:Wk} {ros ros' tru tru':Nat->Int}
theorem yFU:zCI w ros tru w.drivers.length=[]↔zCV w ros tru:=by
 constructor
 ·intro h q k i hk hq;cases hb:wE w ros tru q k i with
  | false=>rfl
  | true =>
   have:(⟨q,k,i⟩:Bch)∈zCI w ros tru w.drivers.length:=zYP.2 ⟨hq,hk,hb⟩;rw [h] at this;cases this
 ·intro h;apply List.eq_nil_iff_forall_not_mem.2;intro b hb;obtain ⟨h1,h2,h3⟩:=zYP.1 hb;rw [h _ _ _ h2 h1] at h3;cases h3
section
variable {f:Nat->Nat}
end
end
end Go.Proofs.YtgfiniccfpfplaaGreat
