
import Derived.Test.YtgfiniccfpfplaaGreatXE
namespace Go.Proofs.YtgfiniccfpfplaaGreat
section
variable {w:Wk} {l m:Nat}
theorem zAS (h:xC w=0):w.duties.length<=12/\w.drivers.length<=6/\vC w=true/\(∀ x∈w.duties,vW w x=true)/\∀ x∈w.drivers,uN w x=true:=by
 unfold xC at h;split at h
 ·cases h
 ·rename_i h1;split at h
  ·rename_i h2;rw [Bool.and_eq_true,Bool.and_eq_true,List.all_eq_true,List.all_eq_true] at h2;exact ⟨by omega,by omega,h2.1,h2.2.1,h2.2.2⟩
  ·cases h
theorem yJJ {i:Nat} (h:i<w.duties.length):dtQ w i∈w.duties:=by
 unfold dtQ;rw [List.getD_eq_getElem?_getD,List.getElem?_eq_getElem h];exact List.getElem_mem h
theorem zQO {k:Nat} (h:k<w.drivers.length):drQ w k∈w.drivers:=by
 unfold drQ;rw [List.getD_eq_getElem?_getD,List.getElem?_eq_getElem h];exact List.getElem_mem h
theorem zHH (h:vC w=true):(1<=w.days/\w.days<=7)/\(0<=w.rest/\w.rest<=3000)/\(1<=w.run/\w.run<=14)/\0<=w.hours/\w.hours<=20000:=by
 unfold vC at h;simp only [Bool.and_eq_true,vK] at h;exact h
theorem zOG {d:Dty} (h:vW w d=true):(0<=d.day/\d.day<=w.days-1)/\(0<=d.on/\d.on<=1439)/\(d.on<=d.lo/\d.lo<=d.hi)/\d.hi<=d.on+1440/\0<=d.route/\d.route<=15:=by
 unfold vW at h;simp only [Bool.and_eq_true,vK,Bool.not_eq_true',decide_eq_false_iff_not,Int.not_lt] at h;exact h
theorem zLV {x:Drv} (h:uN w x=true):xW x.knows 0 15=true/\xW x.leave 0 (w.days-1)=true/\xW x.wish 0 (w.days-1)=true/\(-10080<=x.off/\x.off<=1440)/\(0<=x.row/\x.row<=14)/\0<=x.used/\x.used<=w.hours:=by
 unfold uN at h;simp only [Bool.and_eq_true,vK] at h;exact h
theorem Sane.of (h:xC w=0) (hsh:zBC w) (hl:w.duties.length=l) (hm:w.drivers.length=m):Sane w l m:=by
 obtain ⟨h1,h2,h3,h4,h5⟩:=zAS h;obtain ⟨hd,hr,hu,hh⟩:=zHH h3;refine ⟨by omega,by omega, ?_, ?_, ?_,hr,hu,hh⟩
 ·intro i hi;have:=zOG (h4 _ (yJJ (by omega:i<w.duties.length)));omega
 ·intro k hk;have:=zLV (h5 _ (zQO (by omega:k<w.drivers.length)));omega
 ·intro k hk;exact hsh _ (zQO (by omega:k<w.drivers.length))
theorem yJM (h:xC w=0):∃ n:Nat,w.days=(n:Int)/\1<=n/\n<=7/\Val w n:=by
 obtain ⟨h1,h2,h3,h4,h5⟩:=zAS h;obtain ⟨hd,hr,hu,hh⟩:=zHH h3;refine ⟨w.days.toNat,by omega,by omega,by omega,⟨⟨by omega, ?_⟩, ?_, ?_⟩⟩
 ·intro i hi;have:=zOG (h4 _ (yJJ hi));omega
 ·intro i hi;have:=zOG (h4 _ (yJJ hi));omega
 ·intro k hk;have:=zLV (h5 _ (zQO hk));omega
end
end Go.Proofs.YtgfiniccfpfplaaGreat
