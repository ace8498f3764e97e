
import Derived.Test.YtgfiniccfpfplaaGreatUA
namespace Go.Proofs.YtgfiniccfpfplaaGreat
set_option linter.unusedVariables false
set_option linter.unusedSimpArgs false
section
variable {w:Wk} {l m:Nat}
theorem zKM (h:yY w=0):w.duties.length<=12/\w.drivers.length<=6/\vL w=true/\(∀ x∈w.duties,vU w x=true)/\∀ x∈w.drivers,zAU w x=true:=by
 unfold yY at h;split at h
 ·cases h
 ·rename_i h1;split at h
  ·rename_i h2;rw [Bool.and_eq_true,Bool.and_eq_true,List.all_eq_true,List.all_eq_true] at h2;exact ⟨by omega,by omega,h2.1,h2.2.1,h2.2.2⟩
  ·cases h
theorem yKP {i:Nat} (h:i<w.duties.length):dty w i∈w.duties:=by
 unfold dty;rw [List.getD_eq_getElem?_getD,List.getElem?_eq_getElem h];exact List.getElem_mem h
theorem zXE {k:Nat} (h:k<w.drivers.length):drv w k∈w.drivers:=by
 unfold drv;rw [List.getD_eq_getElem?_getD,List.getElem?_eq_getElem h];exact List.getElem_mem h
theorem yAP (h:vL w=true):(1<=w.days/\w.days<=7)/\(0<=w.rest/\w.rest<=3000)/\(1<=w.run/\w.run<=14)/\0<=w.hours/\w.hours<=20000:=by
 unfold vL at h;simp only [Bool.and_eq_true,vG] at h;exact h
theorem zOO {d:Dty} (h:vU w d=true):(0<=d.day/\d.day<=w.days-1)/\(0<=d.on/\d.on<=1439)/\(d.on<=d.lo/\d.lo<=d.hi)/\d.hi<=d.on+1440/\0<=d.route/\d.route<=15:=by
 unfold vU at h;simp only [Bool.and_eq_true,vG,Bool.not_eq_true',decide_eq_false_iff_not,Int.not_lt] at h;exact h
theorem yHD {x:Drv} (h:zAU w x=true):wG x.knows 0 15=true/\wG x.leave 0 (w.days-1)=true/\wG x.wish 0 (w.days-1)=true/\(-10080<=x.off/\x.off<=1440)/\(0<=x.row/\x.row<=14)/\0<=x.used/\x.used<=w.hours:=by
 unfold zAU at h;simp only [Bool.and_eq_true,vG] at h;exact h
theorem Sane.of (h:yY w=0) (hsh:zAG w) (hl:w.duties.length=l) (hm:w.drivers.length=m):Sane w l m:=by
 obtain ⟨h1,h2,h3,h4,h5⟩:=zKM h;obtain ⟨hd,hr,hu,hh⟩:=yAP h3;refine ⟨by omega,by omega, ?_, ?_, ?_,hr,hu,hh⟩
 ·intro i hi;have:=zOO (h4 _ (yKP (by omega:i<w.duties.length)));omega
 ·intro k hk;have:=yHD (h5 _ (zXE (by omega:k<w.drivers.length)));omega
 ·intro k hk;exact hsh _ (zXE (by omega:k<w.drivers.length))
theorem zXF (h:yY w=0):∃ n:Nat,w.days=(n:Int)/\1<=n/\n<=7/\Val w n:=by
 obtain ⟨h1,h2,h3,h4,h5⟩:=zKM h;obtain ⟨hd,hr,hu,hh⟩:=yAP h3;refine ⟨w.days.toNat,by omega,by omega,by omega,⟨⟨by omega, ?_⟩, ?_, ?_⟩⟩
 ·intro i hi;have:=zOO (h4 _ (yKP hi));omega
 ·intro i hi;have:=zOO (h4 _ (yKP hi));omega
 ·intro k hk;have:=yHD (h5 _ (zXE hk));omega
end
end Go.Proofs.YtgfiniccfpfplaaGreat
