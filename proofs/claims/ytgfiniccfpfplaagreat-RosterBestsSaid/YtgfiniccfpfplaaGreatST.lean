
import Derived.Test.YtgfiniccfpfplaaGreatSP
import Derived.Test.YtgfiniccfpfplaaGreatSR
import Derived.Test.YtgfiniccfpfplaaGreatSB
namespace Go.Proofs.YtgfiniccfpfplaaGreat
open Go Go.Lay
set_option linter.unusedVariables false
set_option linter.unusedSimpArgs false
set_option maxRecDepth 20000
section
variable {σ:St} {w:Wk} {p q:Option Addr} {l m c d:Nat}
theorem ySQ:zR (zDM w)=late w:=by
 funext i
 unfold zR zDM late dty
 rw [List.getD_eq_getElem?_getD,List.getD_eq_getElem?_getD,List.getElem?_map]
 cases w.duties[i]? <;> rfl
theorem zUP {rs:List Int} (hl:w.duties.length=l) (hm:w.drivers.length=m):rs∈zFM w m l []↔rs.length=l∧(∀ y∈rs, -1≤y∧y<(m:Int))∧zHS w (zR rs) (late w):=by
 rw [zYI]
 unfold legB
 rw [ySQ,← hm,decide_eq_true_iff,yBJ]
 constructor
 ·rintro ⟨a,h1,h2,h3,h4⟩
  rw [List.nil_append] at h2
  subst h2
  exact ⟨h1,h3,h4⟩
 ·rintro ⟨h1,h2,h3⟩
  exact ⟨rs,h1,rfl,h2,h3⟩
theorem yTB (h:w.duties.length≤5∧w.drivers.length≤3∨w.duties.length≤4∧w.drivers.length≤4) (hl:w.duties.length=l) (hm:w.drivers.length=m):(m+1) ^ l≤1073741824:=by
 rcases h with ⟨h1,h2⟩ | ⟨h1,h2⟩
 ·exact Nat.le_trans (Nat.le_trans (Nat.pow_le_pow_left (by omega:m+1≤4) l) (Nat.pow_le_pow_right (by decide) (by omega:l≤5))) (by decide)
 ·exact Nat.le_trans (Nat.le_trans (Nat.pow_le_pow_left (by omega:m+1≤5) l) (Nat.pow_le_pow_right (by decide) (by omega:l≤4))) (by decide)
theorem zWV:∀ {a b c:List Int},a.length=b.length→xF (a++c) (b++c)=xF a b
 | [],[],c,_=>by rw [List.nil_append,zBP];rfl
 | x::a,y::b,c,h=>by
  have ih:=zWV (a:=a) (b:=b) (c:=c) (by simpa using h)
  rw [List.cons_append,List.cons_append]
  unfold xF
  rw [ih]
theorem yQF {ros:Nat→Int} (hm:w.drivers.length=m) (h6:m≤6):grV w ros=yW w ros m++List.replicate (6-m) 0:=by
 apply List.ext_getElem (by simp [grV,yW];omega)
 intro i h1 h2
 have hi:i<6:=by simpa [grV] using h1
 by_cases e:i<m
 ·rw [List.getElem_append_left (by simp [yW];exact e)]
  simp [grV,yW,hm,e]
 ·rw [List.getElem_append_right (by simp [yW];omega)]
  simp [grV,hm,e]
theorem wI {ros:Nat→Int}:(yW w ros m).length=m:=by simp [yW]
theorem more_gr {ros ros':Nat→Int} (hm:w.drivers.length=m) (h6:m≤6):xF (grV w ros') (grV w ros)=xF (yW w ros' m) (yW w ros m):=by
 rw [yQF hm h6,yQF hm h6,zWV (by rw [wI,wI])]
def yQP (x:List Int):Nat:=(x.filter fun y=>decide (0≤y)).length
theorem yLC {x:List Int} (hl:x.length=l) (hw:w.duties.length=l) (h:∀ y∈x, -1≤y∧y<(m:Int)):¬ ((yQP x:Nat):Int)<(l:Int)↔zKO w (zR x):=by
 have hle:yQP x≤x.length:=List.length_filter_le _ _
 unfold zKO
 rw [hw]
 constructor
 ·intro hc i hi
  have he:yQP x=x.length:=by omega
  have:=List.length_filter_eq_length_iff.1 he x[i] (List.getElem_mem (by omega))
  have:=of_decide_eq_true this
  unfold zR
  rw [List.getD_eq_getElem?_getD,List.getElem?_eq_getElem (by omega:i<x.length)]
  show x[i]≠-1
  omega
 ·intro hf
  have:yQP x=x.length:=List.length_filter_eq_length_iff.2 fun y hy=>by
   obtain ⟨i,hi,rfl⟩:=List.getElem_of_mem hy
   have h1:=hf i (by omega)
   unfold zR at h1
   rw [List.getD_eq_getElem?_getD,List.getElem?_eq_getElem hi] at h1
   have h1:x[i]≠-1:=h1
   have:=h x[i] hy
   exact decide_eq_true (by omega)
  omega
theorem yDS {x:List Int} (hl:x.length=w.duties.length):Ros w (zR x)↔∀ y∈x, -1≤y∧y<(w.drivers.length:Int):=by
 constructor
 ·intro h y hy
  obtain ⟨i,hi,rfl⟩:=List.getElem_of_mem hy
  have:=h.ros i (by omega)
  unfold zR at this
  rw [List.getD_eq_getElem?_getD,List.getElem?_eq_getElem hi] at this
  exact this
 ·intro h
  refine ⟨fun i hi=>?_⟩
  unfold zR
  rw [List.getD_eq_getElem?_getD,List.getElem?_eq_getElem (by omega:i<x.length)]
  exact h _ (List.getElem_mem _)
end
end Go.Proofs.YtgfiniccfpfplaaGreat
