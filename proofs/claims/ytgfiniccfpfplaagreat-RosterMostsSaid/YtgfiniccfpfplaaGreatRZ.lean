
import Derived.Test.YtgfiniccfpfplaaGreatSI
import Derived.Test.YtgfiniccfpfplaaGreatSK
import Derived.Test.YtgfiniccfpfplaaGreatXJ
namespace Go.Proofs.YtgfiniccfpfplaaGreat
open Go Go.Lay
set_option linter.unusedVariables false
set_option linter.unusedSimpArgs false
set_option maxRecDepth 20000
section
variable {σ:St} {w:Wk} {p q r t:Option Addr} {l m c d rl rc tl tc:Nat} {rs ts:List Int}
theorem yTG:zSW w rs=true↔rs.length=w.duties.length∧∀ i,i<rs.length→-1≤zV rs i∧zV rs i<(w.drivers.length:Int):=by
 unfold zSW
 rw [Bool.and_eq_true,decide_eq_true_eq,List.all_eq_true,And.comm]
 refine and_congr_right fun hl=>⟨fun h i hi=>?_,fun h x hx=>?_⟩
 ·have:=zBT.1 (h rs[i] (List.getElem_mem hi))
  have e:zV rs i=rs[i]:=by unfold zV;rw [List.getD_eq_getElem?_getD,List.getElem?_eq_getElem hi];rfl
  omega
 ·obtain ⟨i,hi,rfl⟩:=List.getElem_of_mem hx
  have:=h i hi
  have e:zV rs i=rs[i]:=by unfold zV;rw [List.getD_eq_getElem?_getD,List.getElem?_eq_getElem hi];rfl
  exact zBT.2 (by omega)
end
end Go.Proofs.YtgfiniccfpfplaaGreat
