
import Derived.Test.YtgfiniccfpfplaaGreatUA
namespace Go.Proofs.YtgfiniccfpfplaaGreat
set_option linter.unusedVariables false
set_option linter.unusedSimpArgs false
section
variable {w:Wk} {l m:Nat}
theorem zEU (h:xF w=0):w.duties.length<=12/\w.drivers.length<=6/\vJ w=true/\(∀ x∈w.duties,vT w x=true)/\∀ x∈w.drivers,zAJ w x=true:=by
 unfold xF at h;split at h
 ·cases h
 ·rename_i h1;split at h
  ·rename_i h2;rw [Bool.and_eq_true,Bool.and_eq_true,List.all_eq_true,List.all_eq_true] at h2;exact ⟨by omega,by omega,h2.1,h2.2.1,h2.2.2⟩
  ·cases h
theorem yKF {i:Nat} (h:i<w.duties.length):dty w i∈w.duties:=by
 unfold dty;rw [List.getD_eq_getElem?_getD,List.getElem?_eq_getElem h];exact List.getElem_mem h
theorem zLY {k:Nat} (h:k<w.drivers.length):drv w k∈w.drivers:=by
 unfold drv;rw [List.getD_eq_getElem?_getD,List.getElem?_eq_getElem h];exact List.getElem_mem h
theorem yAK (h:vJ w=true):(1<=w.days/\w.days<=7)/\(0<=w.rest/\w.rest<=3000)/\(1<=w.run/\w.run<=14)/\0<=w.hours/\w.hours<=20000:=by
 unfold vJ at h;simp only [Bool.and_eq_true,uX] at h;exact h
theorem zOI {d:Dty} (h:vT w d=true):(0<=d.day/\d.day<=w.days-1)/\(0<=d.on/\d.on<=1439)/\(d.on<=d.lo/\d.lo<=d.hi)/\d.hi<=d.on+1440/\0<=d.route/\d.route<=15:=by
 unfold vT at h;simp only [Bool.and_eq_true,uX,Bool.not_eq_true',decide_eq_false_iff_not,Int.not_lt] at h;exact h
theorem zST {x:Drv} (h:zAJ w x=true):wK x.knows 0 15=true/\wK x.leave 0 (w.days-1)=true/\wK x.wish 0 (w.days-1)=true/\(-10080<=x.off/\x.off<=1440)/\(0<=x.row/\x.row<=14)/\0<=x.used/\x.used<=w.hours:=by
 unfold zAJ at h;simp only [Bool.and_eq_true,uX] at h;exact h
theorem Sane.of (h:xF w=0) (hsh:zAX w) (hl:w.duties.length=l) (hm:w.drivers.length=m):Sane w l m:=by
 obtain ⟨h1,h2,h3,h4,h5⟩:=zEU h;obtain ⟨hd,hr,hu,hh⟩:=yAK h3;refine ⟨by omega,by omega, ?_, ?_, ?_,hr,hu,hh⟩
 ·intro i hi;have:=zOI (h4 _ (yKF (by omega:i<w.duties.length)));omega
 ·intro k hk;have:=zST (h5 _ (zLY (by omega:k<w.drivers.length)));omega
 ·intro k hk;exact hsh _ (zLY (by omega:k<w.drivers.length))
theorem yKH (h:xF w=0):∃ n:Nat,w.days=(n:Int)/\1<=n/\n<=7/\Val w n:=by
 obtain ⟨h1,h2,h3,h4,h5⟩:=zEU h;obtain ⟨hd,hr,hu,hh⟩:=yAK h3;refine ⟨w.days.toNat,by omega,by omega,by omega,⟨⟨by omega, ?_⟩, ?_, ?_⟩⟩
 ·intro i hi;have:=zOI (h4 _ (yKF hi));omega
 ·intro i hi;have:=zOI (h4 _ (yKF hi));omega
 ·intro k hk;have:=zST (h5 _ (zLY hk));omega
theorem xKF {xs:List Int} {lo hi:Int} (h:wK xs lo hi=true):xs.Pairwise (· < ·)/\∀ x∈xs,lo<=x/\x<=hi:=by
 unfold wK at h;have h:=zBH.1 h;have hin:∀ x∈xs,lo<=x/\x<=hi:=by
  intro x hx;obtain ⟨i,hi,rfl⟩:=List.getElem_of_mem hx;have:=h i hi;rw [Bool.and_eq_true,uX,List.getD_eq_getElem?_getD,List.getElem?_eq_getElem hi] at this;exact this.1
 have step:∀ i (hi:i+1<xs.length),xs[i]<xs[i+1]:=by
  intro i hi;have:=h (i+1) hi;rw [Bool.and_eq_true,Nat.add_sub_cancel,List.getD_eq_getElem?_getD,List.getD_eq_getElem?_getD,List.getElem?_eq_getElem hi,List.getElem?_eq_getElem (by omega:i<xs.length)] at this;have:=this.2;simpa using this
 refine ⟨?_,hin⟩
 rw [List.pairwise_iff_getElem];intro i j hi hj hij;have key:∀ d (hd:i+d+1<xs.length),xs[i]<xs[i+d+1]:=by
  intro d;induction d with
  | zero=>intro hd;exact step i hd
  | succ d ih =>
   intro hd;have h1:=ih (by omega);have h2:=step (i+d+1) (by omega);have e:i+(d+1)+1=i+d+1+1:=by omega
   simp only [e];omega
 have:=key (j-i-1) (by omega);have e:i+(j-i-1)+1=j:=by omega
 simp only [e] at this;exact this
theorem yDN {n:Nat} (h:xF w=0) (hn:w.days=(n:Int)):yLD w n:=by
 obtain ⟨h1,h2,h3,h4,h5⟩:=zEU h;intro k hk;have:=zST (h5 _ (zLY hk));obtain ⟨g1,g2⟩:=xKF this.2.2.1;refine ⟨g1.imp fun h=>by omega,fun d hd=>?_⟩
 have:=g2 d hd;omega
end
end Go.Proofs.YtgfiniccfpfplaaGreat
