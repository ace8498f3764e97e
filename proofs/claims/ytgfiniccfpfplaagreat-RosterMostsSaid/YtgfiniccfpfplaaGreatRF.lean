
import Derived.Test.YtgfiniccfpfplaaGreatRB
import Derived.Test.YtgfiniccfpfplaaGreatXC
namespace Go.Proofs.YtgfiniccfpfplaaGreat
open Go Go.Lay
set_option linter.unusedVariables false
set_option linter.unusedSimpArgs false
set_option maxRecDepth 20000
def zAE (w:Wk) (d:Dty):Bool:=inB d.day 0 (w.days-1) && (inB d.on 0 1439 && (inB d.lo d.on d.hi && (!decide (d.on+1440<d.hi) && inB d.route 0 15)))
def zCG (w:Wk) (x:Drv):Bool:=wT x.knows 0 15 && (wT x.leave 0 (w.days-1) && (wT x.wish 0 (w.days-1) && (inB x.off (-10080) 1440 && (inB x.row 0 14 && inB x.used 0 w.hours))))
def uL (w:Wk):Bool:=inB w.days 1 7 && (inB w.rest 0 3000 && (inB w.run 1 14 && inB w.hours 0 20000))
def xM (w:Wk):Int:=if 12<w.duties.length∨6<w.drivers.length then 3 else if uL w && (w.duties.all (zAE w) && w.drivers.all (zCG w)) then 0 else 1
theorem zQM {α:Type} {xs:List α} {i:Nat} {f:α→Bool} {x:α} (h:xs[i]?=some x) (ha:(xs.take i).all f=true) (hf:f x=true):(xs.take (i+1)).all f=true:=by
 rw [vS h,List.all_append,ha];simp [hf]
theorem yEG {α:Type} {xs:List α} {f:α→Bool} {x:α} (h:x∈xs) (hf:f x=false):xs.all f=false:=by
 cases ha:xs.all f with
 | false=>rfl
 | true=>rw [List.all_eq_true.1 ha x h] at hf;cases hf
def zLY (w:Wk):Prop:=∀ x∈w.drivers,x.knows.length≤1000∧x.leave.length≤1000∧x.wish.length≤1000
section
variable {σ:St} {w:Wk} {p q:Option Addr} {l m c d:Nat}
theorem yGO (h:WkP σ 92 76 w p l q m) (hsh:zLY w):zE Tryz.prog 55 [.agg ⟨wkc w.days p l c q m d w.rest w.run w.hours⟩] σ (iV (xM w)) σ:=by
 have hwp:=h
 have hn:=h.len.1
 have hm:=h.len.2
 by_cases h12:12<l
 ·have:xM w=3:=by unfold xM;rw [if_pos (.inl (by omega))]
  rw [this];exact (ySM ⟨rfl,Nat.le_refl _⟩ (by omega)).pure
 by_cases h6:6<m
 ·have:xM w=3:=by unfold xM;rw [if_pos (.inr (by omega))]
  rw [this];exact (ySL ⟨rfl,Nat.le_refl _⟩ (by omega) (by omega)).pure
 have hf0:xM w=if uL w && (w.duties.all (zAE w) && w.drivers.all (zCG w)) then 0 else 1:=by unfold xM;rw [if_neg (by omega)]
 obtain ⟨σ1,hσ1⟩:∃ σ1,σ1=σ.re.row (wkc w.days p l c q m d w.rest w.run w.hours) 6:=⟨_,rfl⟩
 have cin:∀ {τ:St} {n lo hi:Int} {b:Bool},inB n lo hi=b→zE Tryz.prog 33 [iV n,iV lo,iV hi] τ (.bool b) τ:=fun e=>e ▸ yVZ
 have no:uL w=false→xM w=1:=fun e=>by rw [hf0,e];rfl
 cases b1:inB w.days 1 7 with
 | false=>rw [no (by unfold uL;rw [b1];rfl)];exact (ySG (cin b1) ⟨rfl,Nat.le_refl _⟩ (by omega) (by omega)).pure
 | true =>
 cases b2:inB w.rest 0 3000 with
 | false=>rw [no (by unfold uL;rw [b1,b2];rfl)];exact (ySH (cin b1) (cin b2) ⟨rfl,Nat.le_refl _⟩ (by omega) (by omega)).pure
 | true =>
 cases b3:inB w.run 1 14 with
 | false=>rw [no (by unfold uL;rw [b1,b2,b3];rfl)];exact (ySI (cin b1) (cin b2) (cin b3) ⟨rfl,Nat.le_refl _⟩ (by omega) (by omega)).pure
 | true =>
 cases b4:inB w.hours 0 20000 with
 | false=>rw [no (by unfold uL;rw [b1,b2,b3,b4];rfl)];exact (ySJ (cin b1) (cin b2) (cin b3) (cin b4) ⟨rfl,Nat.le_refl _⟩ (by omega) (by omega)).pure
 | true =>
 have hh:uL w=true:=by unfold uL;rw [b1,b2,b3,b4];rfl
 have hd:=zBT.1 b1
 have N1:New σ.re σ1:=by rw [hσ1];exact New.row _ _ _
 have L1:Le σ σ1:=(le0 σ).trans N1.le
 have hW:∀ {τ},Le σ1 τ→Row τ ⟨σ.re.next,0,none⟩ (wkc w.days p l c q m d w.rest w.run w.hours):=fun {τ} hN=>by
  have:=xG σ.re (wkc w.days p l c q m d w.rest w.run w.hours) 6
  rw [← hσ1] at this
  exact this.le hN
 have nod:∀ x∈w.duties,zAE w x=false→xM w=1:=fun x hx e=>by rw [hf0,yEG hx e];simp
 have nov:∀ x∈w.drivers,zCG w x=false→xM w=1:=fun x hx e=>by rw [hf0,yEG hx e];simp
 have lw1:∀ {τ:St},New σ1 τ→σ.next≤τ.low:=fun hN=>(N1.trans hN).lw
 refine zQ.pure (ySK (Pr:=fun n τ=>New σ1 τ∧n=xM w) (P0:=fun τ=>New σ1 τ∧w.duties.all (zAE w)=true) (cin b1) (cin b2) (cin b3) (cin b4)
  (yCX (Inv:=fun k i τ=>New σ1 τ∧∃ j:Nat,i=j∧j+k=l∧(w.duties.take j).all (zAE w)=true) ?_ l 0 _ ⟨by rw [← hσ1];exact New.refl _,0,rfl,by omega,rfl⟩)
  (fun n τ h=>yCU ⟨by rw [h.2],lw1 h.1⟩) (fun τ h=>?_) (by omega) (by omega))
 ·rintro k i τ ⟨hN,j,rfl,hk,ha⟩
  have ldD:zB Tryz.prog τ 22 ⟨σ.re.next,1,none⟩=some (.slice p l c):=(hW hN.le).ld wR rfl
  by_cases hj:j<l
  rotate_left
  ·exact yMD ldD ⟨hN,by rwa [List.take_of_length_le (by omega)] at ha⟩ (by omega)
  obtain ⟨a,rfl,x,hx,lx⟩:=vR (SlV.le h.dty (L1.trans hN.le)) hj
  have hmem:=List.mem_of_getElem? hx
  have hN2:New σ1 ((τ.row (zF 0 0 0 0 0) 5).own τ.next (zF x.day x.on x.lo x.hi x.route) 5):=hN.row'.own hN.le.next
  have ld0:zB Tryz.prog ((τ.row (zF 0 0 0 0 0) 5).own τ.next (zF x.day x.on x.lo x.hi x.route) 5) 3 ⟨σ.re.next,0,none⟩=some (iV w.days):=(hW hN2.le).ld zR rfl
  cases c1:inB x.day 0 (w.days-1) with
  | false=>exact yME ldD lx ld0 (cin c1) ⟨hN2,(nod x hmem (by unfold zAE;rw [c1];rfl)).symm⟩ (by omega) (by omega) (by omega)
  | true =>
  cases c2:inB x.on 0 1439 with
  | false=>exact yMF ldD lx ld0 (cin c1) (cin c2) ⟨hN2,(nod x hmem (by unfold zAE;rw [c1,c2];rfl)).symm⟩ (by omega) (by omega) (by omega)
  | true =>
  have hon:=zBT.1 c2
  cases c3:inB x.lo x.on x.hi with
  | false=>exact yMG ldD lx ld0 (cin c1) (cin c2) (cin c3) ⟨hN2,(nod x hmem (by unfold zAE;rw [c1,c2,c3];rfl)).symm⟩ (by omega) (by omega) (by omega)
  | true =>
  by_cases c4:x.on+1440<x.hi
  ·exact yMJ ldD lx ld0 (cin c1) (cin c2) (cin c3) ⟨hN2,(nod x hmem (by unfold zAE;rw [c1,c2,c3,decide_eq_true c4];rfl)).symm⟩ (by omega) (by omega) (by omega) (by omega) c4
  cases c5:inB x.route 0 15 with
  | false=>exact yMH ldD lx ld0 (cin c1) (cin c2) (cin c3) (cin c5) ⟨hN2,(nod x hmem (by unfold zAE;rw [c1,c2,c3,decide_eq_false c4,c5];rfl)).symm⟩ (by omega) (by omega) (by omega) (by omega) c4
  | true=>exact yMI ldD lx ld0 (cin c1) (cin c2) (cin c3) (cin c5) ⟨k-1,by omega,hN2,j+1,by omega,by omega,zQM hx ha (by unfold zAE;rw [c1,c2,c3,decide_eq_false c4,c5];rfl)⟩ (by omega) (by omega) (by omega) (by omega) c4 (by omega)
 ·obtain ⟨hN1,hdu⟩:=h
  refine yCV (Pr:=fun n τ=>New σ1 τ∧n=xM w) (P2:=fun τ=>New σ1 τ∧w.drivers.all (zCG w)=true)
   (yCW (Inv:=fun k i τ=>New σ1 τ∧∃ j:Nat,i=j∧j+k=m∧(w.drivers.take j).all (zCG w)=true) ?_ m 0 _ ⟨hN1,0,rfl,by omega,rfl⟩)
   (fun n τ h=>yCS ⟨by rw [h.2],lw1 h.1⟩) (fun τ h=>yCT ⟨by rw [hf0,hh,hdu,h.2];rfl,lw1 h.1⟩)
  rintro k i τ ⟨hN,j,rfl,hk,ha⟩
  have ldV:zB Tryz.prog τ 23 ⟨σ.re.next,2,none⟩=some (.slice q m d):=(hW hN.le).ld uN rfl
  by_cases hj:j<m
  rotate_left
  ·exact yLV ldV ⟨hN,by rwa [List.take_of_length_le (by omega)] at ha⟩ (by omega)
  have LL:=L1.trans hN.le
  obtain ⟨vs,hv1,hv2,hv3⟩:=hwp.drv
  obtain ⟨qa,rfl,_⟩:=hv1.some hj
  have hx:w.drivers[j]?=some w.drivers[j]:=by simp
  obtain ⟨x,hxe⟩:∃ x,x=w.drivers[j]:=⟨_,rfl⟩
  rw [← hxe] at hx
  obtain ⟨v,g1,p',l',c',r',n',d',s',j',e',rfl,hkn,hlv,hws⟩:=hv3 j _ hx
  have lx:zB Tryz.prog τ 76 (zP qa (Int.toNat (j:Int)*6))=some (.agg ⟨zK p' l' c' r' n' d' s' j' e' x.off x.row x.used⟩):=(hv1.le LL).at rfl g1
  have hmem:=List.mem_of_getElem? hx
  have hsx:=hsh x hmem
  have hN2:New σ1 ((τ.row (zK none 0 0 none 0 0 none 0 0 0 0 0) 6).own τ.next (zK p' l' c' r' n' d' s' j' e' x.off x.row x.used) 6):=hN.row'.own hN.le.next
  have L2:=L1.trans hN2.le
  have ld0:zB Tryz.prog ((τ.row (zK none 0 0 none 0 0 none 0 0 0 0 0) 6).own τ.next (zK p' l' c' r' n' d' s' j' e' x.off x.row x.used) 6) 3 ⟨σ.re.next,0,none⟩=some (iV w.days):=(hW hN2.le).ld zR rfl
  have ld5:zB Tryz.prog ((τ.row (zK none 0 0 none 0 0 none 0 0 0 0 0) 6).own τ.next (zK p' l' c' r' n' d' s' j' e' x.off x.row x.used) 6) 3 ⟨σ.re.next,5,none⟩=some (iV w.hours):=(hW hN2.le).ld zR rfl
  have k1:=zUZ (c:=c') (lo:=0) (hi:=15) (SlV.le hkn L2) (by have:=hkn.len;omega)
  have k2:=zUZ (c:=d') (lo:=0) (hi:=w.days-1) (SlV.le hlv L2) (by have:=hlv.len;omega)
  have k3:=zUZ (c:=e') (lo:=0) (hi:=w.days-1) (SlV.le hws L2) (by have:=hws.len;omega)
  cases c1:wT x.knows 0 15 with
  | false=>rw [c1] at k1;exact yLW ldV lx k1 ⟨hN2,(nov x hmem (by unfold zCG;rw [c1];rfl)).symm⟩ (by omega) (by omega)
  | true =>
  cases c2:wT x.leave 0 (w.days-1) with
  | false=>rw [c1] at k1;rw [c2] at k2;exact yLX ldV lx k1 ld0 k2 ⟨hN2,(nov x hmem (by unfold zCG;rw [c1,c2];rfl)).symm⟩ (by omega) (by omega) (by omega)
  | true =>
  cases c3:wT x.wish 0 (w.days-1) with
  | false=>rw [c1] at k1;rw [c2] at k2;rw [c3] at k3;exact yLY ldV lx k1 ld0 k2 k3 ⟨hN2,(nov x hmem (by unfold zCG;rw [c1,c2,c3];rfl)).symm⟩ (by omega) (by omega) (by omega)
  | true =>
  rw [c1] at k1;rw [c2] at k2;rw [c3] at k3
  cases c4:inB x.off (-10080) 1440 with
  | false=>exact yLZ ldV lx k1 ld0 k2 k3 (cin c4) ⟨hN2,(nov x hmem (by unfold zCG;rw [c1,c2,c3,c4];rfl)).symm⟩ (by omega) (by omega) (by omega)
  | true =>
  cases c5:inB x.row 0 14 with
  | false=>exact yMA ldV lx k1 ld0 k2 k3 (cin c4) (cin c5) ⟨hN2,(nov x hmem (by unfold zCG;rw [c1,c2,c3,c4,c5];rfl)).symm⟩ (by omega) (by omega) (by omega)
  | true =>
  cases c6:inB x.used 0 w.hours with
  | false=>exact yMB ldV lx k1 ld0 k2 k3 (cin c4) (cin c5) ld5 (cin c6) ⟨hN2,(nov x hmem (by unfold zCG;rw [c1,c2,c3,c4,c5,c6];rfl)).symm⟩ (by omega) (by omega) (by omega)
  | true=>exact yMC ldV lx k1 ld0 k2 k3 (cin c4) (cin c5) ld5 (cin c6) ⟨k-1,by omega,hN2,j+1,by omega,by omega,zQM hx ha (by unfold zCG;rw [c1,c2,c3,c4,c5,c6];rfl)⟩ (by omega) (by omega) (by omega) (by omega)
end
end Go.Proofs.YtgfiniccfpfplaaGreat
