
import Derived.Test.YtgfiniccfpfplaaGreatXE
namespace Go.Proofs.YtgfiniccfpfplaaGreat
set_option linter.unusedVariables false
set_option linter.unusedSimpArgs false
section
variable {w:Wk} {l m:Nat}
theorem zJV (h:xH w=0):w.duties.length≤12∧w.drivers.length≤6∧vK w=true∧(∀ x∈w.duties,vT w x=true)∧∀ x∈w.drivers,zAI w x=true:=by
 unfold xH at h;split at h
 ·cases h
 ·rename_i h1;split at h
  ·rename_i h2;rw [Bool.and_eq_true,Bool.and_eq_true,List.all_eq_true,List.all_eq_true] at h2;exact ⟨by omega,by omega,h2.1,h2.2.1,h2.2.2⟩
  ·cases h
theorem yIM {i:Nat} (h:i<w.duties.length):dty w i∈w.duties:=by
 unfold dty;rw [List.getD_eq_getElem?_getD,List.getElem?_eq_getElem h];exact List.getElem_mem h
theorem zVW {k:Nat} (h:k<w.drivers.length):drv w k∈w.drivers:=by
 unfold drv;rw [List.getD_eq_getElem?_getD,List.getElem?_eq_getElem h];exact List.getElem_mem h
theorem zZH (h:vK w=true):(1≤w.days∧w.days≤7)∧(0≤w.rest∧w.rest≤3000)∧(1≤w.run∧w.run≤14)∧0≤w.hours∧w.hours≤20000:=by
 unfold vK at h;simp only [Bool.and_eq_true,zAQ] at h;exact h
theorem zNS {d:Dty} (h:vT w d=true):(0≤d.day∧d.day≤w.days-1)∧(0≤d.on∧d.on≤1439)∧(d.on≤d.lo∧d.lo≤d.hi)∧d.hi≤d.on+1440∧0≤d.route∧d.route≤15:=by
 unfold vT at h;simp only [Bool.and_eq_true,zAQ,Bool.not_eq_true',decide_eq_false_iff_not,Int.not_lt] at h;exact h
theorem yFI {x:Drv} (h:zAI w x=true):wU x.knows 0 15=true∧wU x.leave 0 (w.days-1)=true∧wU x.wish 0 (w.days-1)=true∧(-10080≤x.off∧x.off≤1440)∧(0≤x.row∧x.row≤14)∧0≤x.used∧x.used≤w.hours:=by
 unfold zAI at h;simp only [Bool.and_eq_true,zAQ] at h;exact h
theorem Sane.of (h:xH w=0) (hsh:zCF w) (hl:w.duties.length=l) (hm:w.drivers.length=m):Sane w l m:=by
 obtain ⟨h1,h2,h3,h4,h5⟩:=zJV h;obtain ⟨hd,hr,hu,hh⟩:=zZH h3;refine ⟨by omega,by omega, ?_, ?_, ?_,hr,hu,hh⟩
 ·intro i hi;have:=zNS (h4 _ (yIM (by omega:i<w.duties.length)));omega
 ·intro k hk;have:=yFI (h5 _ (zVW (by omega:k<w.drivers.length)));omega
 ·intro k hk;exact hsh _ (zVW (by omega:k<w.drivers.length))
theorem yZU (h:xH w=0):∃ n:Nat,w.days=(n:Int)∧1≤n∧n≤7∧Val w n:=by
 obtain ⟨h1,h2,h3,h4,h5⟩:=zJV h;obtain ⟨hd,hr,hu,hh⟩:=zZH h3;refine ⟨w.days.toNat,by omega,by omega,by omega,⟨⟨by omega, ?_⟩, ?_, ?_⟩⟩
 ·intro i hi;have:=zNS (h4 _ (yIM hi));omega
 ·intro i hi;have:=zNS (h4 _ (yIM hi));omega
 ·intro k hk;have:=yFI (h5 _ (zVW hk));omega
end
end Go.Proofs.YtgfiniccfpfplaaGreat
