
import Derived.Test.YtflfajphjmajpaaGreatRD
namespace Go.Proofs.YtflfajphjmajpaaGreat
section
variable{w:Wk}{l m:Nat}
theorem zOM(h:vR w=0):w.L.length<=12/\w.M.length<=6/\zCU w=true/\(∀x∈w.L,zAP w x=true)/\∀x∈w.M,zDP w x=true:=by
 unfold vR at h;split at h
 .cases h
 .rename_i h1;split at h
  .rename_i h2;rw[Bool.and_eq_true,Bool.and_eq_true,List.all_eq_true,List.all_eq_true]at h2;exact⟨by omega,by omega,h2.1,h2.2.1,h2.2.2⟩
  .cases h
theorem yUM{i:Nat}(h:i<w.L.length):dty w i∈w.L:=by
 unfold dty;rw[List.getD_eq_getElem?_getD,List.getElem?_eq_getElem h];exact List.getElem_mem h
theorem zWU{k:Nat}(h:k<w.M.length):drQ w k∈w.M:=by
 unfold drQ;rw[List.getD_eq_getElem?_getD,List.getElem?_eq_getElem h];exact List.getElem_mem h
theorem yIC(h:zCU w=true):(1<=w.J/\w.J<=7)/\(0<=w.rest/\w.rest<=3000)/\(1<=w.run/\w.run<=14)/\0<=w.N/\w.N<=20000:=by
 unfold zCU at h;simp only[Bool.and_eq_true,uB]at h;exact h
theorem zTF{d:Dty}(h:zAP w d=true):(0<=d.day/\d.day<=w.J-1)/\(0<=d.on/\d.on<=1439)/\(d.on<=d.lo/\d.lo<=d.hi)/\d.hi<=d.on+1440/\0<=d.route/\d.route<=15:=by
 unfold zAP at h;simp only[Bool.and_eq_true,uB,Bool.not_eq_true',decide_eq_false_iff_not,Int.not_lt]at h;exact h
theorem yPD{x:Drv}(h:zDP w x=true):zAZ x.qa 0 15=true/\zAZ x.qb 0 (w.J-1)=true/\zAZ x.qc 0 (w.J-1)=true/\(-10080<=x.off/\x.off<=1440)/\(0<=x.row/\x.row<=14)/\0<=x.used/\x.used<=w.N:=by
 unfold zDP at h;simp only[Bool.and_eq_true,uB]at h;exact h
theorem Sane.of(h:vR w=0)(hsh:zCE w)(hl:w.L.length=l)(hm:w.M.length=m):Sane w l m:=by
 obtain⟨h1,h2,h3,h4,h5⟩:=zOM h;obtain⟨hd,hr,hu,hh⟩:=yIC h3;refine⟨by omega,by omega, ?_, ?_, ?_,hr,hu,hh⟩
 .intro i hi;have:=zTF (h4 _ (yUM (by omega:i<w.L.length)));omega
 .intro k hk;have:=yPD (h5 _ (zWU (by omega:k<w.M.length)));omega
 .intro k hk;exact hsh _ (zWU (by omega:k<w.M.length))
theorem yDG(h:vR w=0):∃n:Nat,w.J=(n:Int)/\1<=n/\n<=7/\Val w n:=by
 obtain⟨h1,h2,h3,h4,h5⟩:=zOM h;obtain⟨hd,hr,hu,hh⟩:=yIC h3;refine⟨w.J.toNat,by omega,by omega,by omega,⟨⟨by omega, ?_⟩, ?_, ?_⟩⟩
 .intro i hi;have:=zTF (h4 _ (yUM hi));omega
 .intro i hi;have:=zTF (h4 _ (yUM hi));omega
 .intro k hk;have:=yPD (h5 _ (zWU hk));omega
end
end Go.Proofs.YtflfajphjmajpaaGreat
