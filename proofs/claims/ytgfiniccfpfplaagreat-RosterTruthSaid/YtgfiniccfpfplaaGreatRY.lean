
import Derived.Test.YtgfiniccfpfplaaGreatUA
namespace Go.Proofs.YtgfiniccfpfplaaGreat
section
variable {w:Wk} {l m:Nat}
theorem zEV (h:yX w=0):w.N.length<=12/\w.L.length<=6/\vM w=true/\(∀ x∈w.N,vU w x=true)/\∀ x∈w.L,zAR w x=true:=by
 unfold yX at h;split at h
 ·cases h
 ·rename_i h1;split at h
  ·rename_i h2;rw [Bool.and_eq_true,Bool.and_eq_true,List.all_eq_true,List.all_eq_true] at h2;exact ⟨by omega,by omega,h2.1,h2.2.1,h2.2.2⟩
  ·cases h
theorem yLT {i:Nat} (h:i<w.N.length):dtQ w i∈w.N:=by
 unfold dtQ;rw [List.getD_eq_getElem?_getD,List.getElem?_eq_getElem h];exact List.getElem_mem h
theorem zMO {k:Nat} (h:k<w.L.length):drQ w k∈w.L:=by
 unfold drQ;rw [List.getD_eq_getElem?_getD,List.getElem?_eq_getElem h];exact List.getElem_mem h
theorem yBI (h:vM w=true):(1<=w.M/\w.M<=7)/\(0<=w.rest/\w.rest<=3000)/\(1<=w.run/\w.run<=14)/\0<=w.j/\w.j<=20000:=by
 unfold vM at h;simp only [Bool.and_eq_true,uF] at h;exact h
theorem zOX {d:Dty} (h:vU w d=true):(0<=d.day/\d.day<=w.M-1)/\(0<=d.on/\d.on<=1439)/\(d.on<=d.lo/\d.lo<=d.hi)/\d.hi<=d.on+1440/\0<=d.route/\d.route<=15:=by
 unfold vU at h;simp only [Bool.and_eq_true,uF,Bool.not_eq_true',decide_eq_false_iff_not,Int.not_lt] at h;exact h
theorem zTO {x:Drv} (h:zAR w x=true):wM x.J 0 15=true/\wM x.qa 0 (w.M-1)=true/\wM x.qb 0 (w.M-1)=true/\(-10080<=x.off/\x.off<=1440)/\(0<=x.row/\x.row<=14)/\0<=x.used/\x.used<=w.j:=by
 unfold zAR at h;simp only [Bool.and_eq_true,uF] at h;exact h
theorem Sane.of (h:yX w=0) (hsh:zAD w) (hl:w.N.length=l) (hm:w.L.length=m):Sane w l m:=by
 obtain ⟨h1,h2,h3,h4,h5⟩:=zEV h;obtain ⟨hd,hr,hu,hh⟩:=yBI h3;refine ⟨by omega,by omega, ?_, ?_, ?_,hr,hu,hh⟩
 ·intro i hi;have:=zOX (h4 _ (yLT (by omega:i<w.N.length)));omega
 ·intro k hk;have:=zTO (h5 _ (zMO (by omega:k<w.L.length)));omega
 ·intro k hk;exact hsh _ (zMO (by omega:k<w.L.length))
theorem zXW (h:yX w=0):∃ n:Nat,w.M=(n:Int)/\1<=n/\n<=7/\Val w n:=by
 obtain ⟨h1,h2,h3,h4,h5⟩:=zEV h;obtain ⟨hd,hr,hu,hh⟩:=yBI h3;refine ⟨w.M.toNat,by omega,by omega,by omega,⟨⟨by omega, ?_⟩, ?_, ?_⟩⟩
 ·intro i hi;have:=zOX (h4 _ (yLT hi));omega
 ·intro i hi;have:=zOX (h4 _ (yLT hi));omega
 ·intro k hk;have:=zTO (h5 _ (zMO hk));omega
theorem xMN {xs:List Int} {lo hi:Int} (h:wM xs lo hi=true):xs.Pairwise (· < ·)/\∀ x∈xs,lo<=x/\x<=hi:=by
 unfold wM at h;have h:=zBL.1 h;have hin:∀ x∈xs,lo<=x/\x<=hi:=by
  intro x hx;obtain ⟨i,hi,rfl⟩:=List.getElem_of_mem hx;have:=h i hi;rw [Bool.and_eq_true,uF,List.getD_eq_getElem?_getD,List.getElem?_eq_getElem hi] at this;exact this.1
 have step:∀ i (hi:i+1<xs.length),xs[i]<xs[i+1]:=by
  intro i hi;have:=h (i+1) hi;rw [Bool.and_eq_true,Nat.add_sub_cancel,List.getD_eq_getElem?_getD,List.getD_eq_getElem?_getD,List.getElem?_eq_getElem hi,List.getElem?_eq_getElem (by omega:i<xs.length)] at this;have:=this.2;simpa using this
 refine ⟨?_,hin⟩
 rw [List.pairwise_iff_getElem];intro i j hi hj hij;have key:∀ d (hd:i+d+1<xs.length),xs[i]<xs[i+d+1]:=by
  intro d;induction d with
  | zero=>intro hd;exact step i hd
  | succ d ih =>
   intro hd;have h1:=ih (by omega);have h2:=step (i+d+1) (by omega);have e:i+(d+1)+1=i+d+1+1:=by omega
   simp only [e];omega
 have:=key (j-i-1) (by omega);have e:i+(j-i-1)+1=j:=by omega
 simp only [e] at this;exact this
theorem xET {n:Nat} (h:yX w=0) (hn:w.M=(n:Int)):xBG w n:=by
 obtain ⟨h1,h2,h3,h4,h5⟩:=zEV h;intro k hk;have:=zTO (h5 _ (zMO hk));obtain ⟨g1,g2⟩:=xMN this.2.2.1;refine ⟨g1.imp fun h=>by omega,fun d hd=>?_⟩
 have:=g2 d hd;omega
end
end Go.Proofs.YtgfiniccfpfplaaGreat
