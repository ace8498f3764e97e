
import Derived.Test.YtgfiniccfpfplaaUB
namespace Go.Proofs.Ytgfiniccfpfplaa
section
variable {w:Wk} {l m:Nat}
theorem zCP (h:yM w=0):w.N.length≤12∧w.L.length≤6∧vL w=true∧(∀ x∈w.N,vV w x=true)∧∀ x∈w.L,zAB w x=true:=by
 unfold yM at h;split at h
 ·cases h
 ·rename_i h1;split at h
  ·rename_i h2;rw [Bool.and_eq_true,Bool.and_eq_true,List.all_eq_true,List.all_eq_true] at h2;exact ⟨by omega,by omega,h2.1,h2.2.1,h2.2.2⟩
  ·cases h
theorem yHR {i:Nat} (h:i<w.N.length):dty w i∈w.N:=by
 unfold dty;rw [List.getD_eq_getElem?_getD,List.getElem?_eq_getElem h];exact List.getElem_mem h
theorem zLJ {k:Nat} (h:k<w.L.length):drQ w k∈w.L:=by
 unfold drQ;rw [List.getD_eq_getElem?_getD,List.getElem?_eq_getElem h];exact List.getElem_mem h
theorem zYS (h:vL w=true):(1≤w.M∧w.M≤7)∧(0≤w.rest∧w.rest≤3000)∧(1≤w.run∧w.run≤14)∧0≤w.j∧w.j≤20000:=by
 unfold vL at h;simp only [Bool.and_eq_true,zAG] at h;exact h
theorem zNR {d:Dty} (h:vV w d=true):(0≤d.day∧d.day≤w.M-1)∧(0≤d.on∧d.on≤1439)∧(d.on≤d.lo∧d.lo≤d.hi)∧d.hi≤d.on+1440∧0≤d.route∧d.route≤15:=by
 unfold vV at h;simp only [Bool.and_eq_true,zAG,Bool.not_eq_true',decide_eq_false_iff_not,Int.not_lt] at h;exact h
theorem zRT {x:Drv} (h:zAB w x=true):wO x.J 0 15=true∧wO x.qa 0 (w.M-1)=true∧wO x.qb 0 (w.M-1)=true∧(-10080≤x.off∧x.off≤1440)∧(0≤x.row∧x.row≤14)∧0≤x.used∧x.used≤w.j:=by
 unfold zAB at h;simp only [Bool.and_eq_true,zAG] at h;exact h
theorem Sane.of (h:yM w=0) (hsh:uX w) (hl:w.N.length=l) (hm:w.L.length=m):Sane w l m:=by
 obtain ⟨h1,h2,h3,h4,h5⟩:=zCP h;obtain ⟨hd,hr,hu,hh⟩:=zYS h3;refine ⟨by omega,by omega, ?_, ?_, ?_,hr,hu,hh⟩
 ·intro i hi;have:=zNR (h4 _ (yHR (by omega:i<w.N.length)));omega
 ·intro k hk;have:=zRT (h5 _ (zLJ (by omega:k<w.L.length)));omega
 ·intro k hk;exact hsh _ (zLJ (by omega:k<w.L.length))
theorem yHT (h:yM w=0):∃ n:Nat,w.M=(n:Int)∧1≤n∧n≤7∧Val w n:=by
 obtain ⟨h1,h2,h3,h4,h5⟩:=zCP h;obtain ⟨hd,hr,hu,hh⟩:=zYS h3;refine ⟨w.M.toNat,by omega,by omega,by omega,⟨⟨by omega, ?_⟩, ?_, ?_⟩⟩
 ·intro i hi;have:=zNR (h4 _ (yHR hi));omega
 ·intro i hi;have:=zNR (h4 _ (yHR hi));omega
 ·intro k hk;have:=zRT (h5 _ (zLJ hk));omega
theorem xGZ {xs:List Int} {lo hi:Int} (h:wO xs lo hi=true):xs.Pairwise (· < ·)∧∀ x∈xs,lo≤x∧x≤hi:=by
 unfold wO at h;have h:=zBL.1 h;have hin:∀ x∈xs,lo≤x∧x≤hi:=by
  intro x hx;obtain ⟨i,hi,rfl⟩:=List.getElem_of_mem hx;have:=h i hi;rw [Bool.and_eq_true,zAG,List.getD_eq_getElem?_getD,List.getElem?_eq_getElem hi] at this;exact this.1
 have step:∀ i (hi:i+1<xs.length),xs[i]<xs[i+1]:=by
  intro i hi;have:=h (i+1) hi;rw [Bool.and_eq_true,Nat.add_sub_cancel,List.getD_eq_getElem?_getD,List.getD_eq_getElem?_getD,List.getElem?_eq_getElem hi,List.getElem?_eq_getElem (by omega:i<xs.length)] at this;have:=this.2;simpa using this
 refine ⟨?_,hin⟩
 rw [List.pairwise_iff_getElem];intro i j hi hj hij;have key:∀ d (hd:i+d+1<xs.length),xs[i]<xs[i+d+1]:=by
  intro d;induction d with
  | zero=>intro hd;exact step i hd
  | succ d ih =>
   intro hd;have h1:=ih (by omega);have h2:=step (i+d+1) (by omega);have e:i+(d+1)+1=i+d+1+1:=by omega
   simp only [e];omega
 have:=key (j-i-1) (by omega);have e:i+(j-i-1)+1=j:=by omega
 simp only [e] at this;exact this
theorem yZP {n:Nat} (h:yM w=0) (hn:w.M=(n:Int)):yWC w n:=by
 obtain ⟨h1,h2,h3,h4,h5⟩:=zCP h;intro k hk;have:=zRT (h5 _ (zLJ hk));obtain ⟨g1,g2⟩:=xGZ this.2.2.1;refine ⟨g1.imp fun h=>by omega,fun d hd=>?_⟩
 have:=g2 d hd;omega
end
end Go.Proofs.Ytgfiniccfpfplaa
