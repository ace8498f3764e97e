
import Derived.Test.YtgfiniccfpfplaaGreatSI
import Derived.Test.YtgfiniccfpfplaaGreatSJ
import Derived.Test.YtgfiniccfpfplaaGreatXJ
namespace Go.Proofs.YtgfiniccfpfplaaGreat
open Go Go.Lay
set_option linter.unusedVariables false
set_option linter.unusedSimpArgs false
set_option maxRecDepth 20000
section
variable {σ:St} {w:Wk} {p q r t:Option Addr} {l m c d rl rc tl tc:Nat} {rs ts:List Int}
theorem yVR:zTT w rs=true↔rs.length=w.duties.length∧∀ i,i<rs.length→-1≤zR rs i∧zR rs i<(w.drivers.length:Int):=by
 unfold zTT
 rw [Bool.and_eq_true,decide_eq_true_eq,List.all_eq_true,And.comm]
 refine and_congr_right fun hl=>⟨fun h i hi=>?_,fun h x hx=>?_⟩
 ·have:=zCG.1 (h rs[i] (List.getElem_mem hi))
  have e:zR rs i=rs[i]:=by unfold zR;rw [List.getD_eq_getElem?_getD,List.getElem?_eq_getElem hi];rfl
  omega
 ·obtain ⟨i,hi,rfl⟩:=List.getElem_of_mem hx
  have:=h i hi
  have e:zR rs i=rs[i]:=by unfold zR;rw [List.getD_eq_getElem?_getD,List.getElem?_eq_getElem hi];rfl
  exact zCG.2 (by omega)
end
end Go.Proofs.YtgfiniccfpfplaaGreat
