
import Derived.Test.YtgfiniccfpfplaaGreatRB
import Derived.Test.YtgfiniccfpfplaaGreatXC
namespace Go.Proofs.YtgfiniccfpfplaaGreat
open Go Go.Lay
set_option linter.unusedVariables false
set_option linter.unusedSimpArgs false
set_option maxRecDepth 20000
def vS (w:Wk) (d:Dty):Bool:=inB d.day 0 (w.days-1) && (inB d.on 0 1439 && (inB d.lo d.on d.hi && (!decide (d.on+1440<d.hi) && inB d.route 0 15)))
def zAM (w:Wk) (x:Drv):Bool:=wJ x.knows 0 15 && (wJ x.leave 0 (w.days-1) && (wJ x.wish 0 (w.days-1) && (inB x.off (-10080) 1440 && (inB x.row 0 14 && inB x.used 0 w.hours))))
def vK (w:Wk):Bool:=inB w.days 1 7 && (inB w.rest 0 3000 && (inB w.run 1 14 && inB w.hours 0 20000))
def yY (w:Wk):Int:=if 12<w.duties.length\/6<w.drivers.length then 3 else if vK w && (w.duties.all (vS w) && w.drivers.all (zAM w)) then 0 else 1
theorem zRJ {α:Type} {xs:List α} {i:Nat} {f:α->Bool} {x:α} (h:xs[i]?=some x) (ha:(xs.take i).all f=true) (hf:f x=true):(xs.take (i+1)).all f=true:=by
 rw [wP h,List.all_append,ha];simp [hf]
theorem yJB {α:Type} {xs:List α} {f:α->Bool} {x:α} (h:x∈xs) (hf:f x=false):xs.all f=false:=by
 cases ha:xs.all f with
 | false=>rfl
 | true=>rw [List.all_eq_true.1 ha x h] at hf;cases hf
def zAQ (w:Wk):Prop:=∀ x∈w.drivers,x.knows.length<=1000/\x.leave.length<=1000/\x.wish.length<=1000
section
variable {Z:St} {w:Wk} {p q:Option Addr} {l m c d:Nat}
theorem rFault_c (h:WkP Z 92 76 w p l q m) (hsh:zAQ w):zD Tryz.prog 55 [.agg ⟨wkc w.days p l c q m d w.rest w.run w.hours⟩] Z (iV (yY w)) Z:=by
 have hwp:=h;have hn:=h.len.1;have hm:=h.len.2;by_cases h12:12<l
 ·have:yY w=3:=by unfold yY;rw [if_pos (.inl (by omega))]
  rw [this];exact (rFault_ra ⟨rfl,Nat.le_refl _⟩ (by omega)).pure
 by_cases h6:6<m
 ·have:yY w=3:=by unfold yY;rw [if_pos (.inr (by omega))]
  rw [this];exact (rFault_rb ⟨rfl,Nat.le_refl _⟩ (by omega) (by omega)).pure
 have hf0:yY w=if vK w && (w.duties.all (vS w) && w.drivers.all (zAM w)) then 0 else 1:=by unfold yY;rw [if_neg (by omega)]
 obtain ⟨Z1,hZ1⟩:∃ Z1,Z1=Z.re.row (wkc w.days p l c q m d w.rest w.run w.hours) 6:=⟨_,rfl⟩;have cin:∀ {τ:St} {n lo hi:Int} {b:Bool},inB n lo hi=b->zD Tryz.prog 33 [iV n,iV lo,iV hi] τ (.bool b) τ:=fun e=>e ▸ rIn_c
 have no:vK w=false->yY w=1:=fun e=>by rw [hf0,e];rfl
 cases b1:inB w.days 1 7 with
 | false=>rw [no (by unfold vK;rw [b1];rfl)];exact (rFault_rg (cin b1) ⟨rfl,Nat.le_refl _⟩ (by omega) (by omega)).pure
 | true =>
 cases b2:inB w.rest 0 3000 with
 | false=>rw [no (by unfold vK;rw [b1,b2];rfl)];exact (rFault_rf (cin b1) (cin b2) ⟨rfl,Nat.le_refl _⟩ (by omega) (by omega)).pure
 | true =>
 cases b3:inB w.run 1 14 with
 | false=>rw [no (by unfold vK;rw [b1,b2,b3];rfl)];exact (rFault_re (cin b1) (cin b2) (cin b3) ⟨rfl,Nat.le_refl _⟩ (by omega) (by omega)).pure
 | true =>
 cases b4:inB w.hours 0 20000 with
 | false=>rw [no (by unfold vK;rw [b1,b2,b3,b4];rfl)];exact (rFault_rd (cin b1) (cin b2) (cin b3) (cin b4) ⟨rfl,Nat.le_refl _⟩ (by omega) (by omega)).pure
 | true =>
 have hh:vK w=true:=by unfold vK;rw [b1,b2,b3,b4];rfl
 have hd:=uW.1 b1;have N1:New Z.re Z1:=by rw [hZ1];exact New.row _ _ _
 have L1:Le Z Z1:=(le0 Z).trans N1.le;have hW:∀ {τ},Le Z1 τ->Row τ ⟨Z.re.next,0,none⟩ (wkc w.days p l c q m d w.rest w.run w.hours):=fun {τ} hN=>by
  have:=xP Z.re (wkc w.days p l c q m d w.rest w.run w.hours) 6;rw [<- hZ1] at this;exact this.le hN
 have nod:∀ x∈w.duties,vS w x=false->yY w=1:=fun x hx e=>by rw [hf0,yJB hx e];simp
 have nov:∀ x∈w.drivers,zAM w x=false->yY w=1:=fun x hx e=>by rw [hf0,yJB hx e];simp
 have lw1:∀ {τ:St},New Z1 τ->Z.next<=τ.low:=fun hN=>(N1.trans hN).lw
 refine zO.pure (rFault_rc (Pr:=fun n τ=>New Z1 τ/\n=yY w) (P0:=fun τ=>New Z1 τ/\w.duties.all (vS w)=true) (cin b1) (cin b2) (cin b3) (cin b4)
  (yGX (Inv:=fun k i τ=>New Z1 τ/\∃ j:Nat,i=j/\j+k=l/\(w.duties.take j).all (vS w)=true) ?_ l 0 _ ⟨by rw [<- hZ1];exact New.refl _,0,rfl,by omega,rfl⟩)
  (fun n τ h=>yGU ⟨by rw [h.2],lw1 h.1⟩) (fun τ h=>?_) (by omega) (by omega))
 ·rintro k i τ ⟨hN,j,rfl,hk,ha⟩;have ldD:zB Tryz.prog τ 22 ⟨Z.re.next,1,none⟩=some (.slice p l c):=(hW hN.le).ld zCU rfl;by_cases hj:j<l;rotate_left
  ·exact yRZ ldD ⟨hN,by rwa [List.take_of_length_le (by omega)] at ha⟩ (by omega)
  obtain ⟨a,rfl,x,hx,lx⟩:=vF (SlV.le h.dty (L1.trans hN.le)) hj;have hmem:=List.mem_of_getElem? hx;have hN2:New Z1 ((τ.row (zF 0 0 0 0 0) 5).own τ.next (zF x.day x.on x.lo x.hi x.route) 5):=hN.row'.own hN.le.next;have ld0:zB Tryz.prog ((τ.row (zF 0 0 0 0 0) 5).own τ.next (zF x.day x.on x.lo x.hi x.route) 5) 3 ⟨Z.re.next,0,none⟩=some (iV w.days):=(hW hN2.le).ld zS rfl;cases c1:inB x.day 0 (w.days-1) with
  | false=>exact ySA ldD lx ld0 (cin c1) ⟨hN2,(nod x hmem (by unfold vS;rw [c1];rfl)).symm⟩ (by omega) (by omega) (by omega)
  | true =>
  cases c2:inB x.on 0 1439 with
  | false=>exact ySB ldD lx ld0 (cin c1) (cin c2) ⟨hN2,(nod x hmem (by unfold vS;rw [c1,c2];rfl)).symm⟩ (by omega) (by omega) (by omega)
  | true =>
  have hon:=uW.1 c2;cases c3:inB x.lo x.on x.hi with
  | false=>exact ySC ldD lx ld0 (cin c1) (cin c2) (cin c3) ⟨hN2,(nod x hmem (by unfold vS;rw [c1,c2,c3];rfl)).symm⟩ (by omega) (by omega) (by omega)
  | true =>
  by_cases c4:x.on+1440<x.hi
  ·exact ySF ldD lx ld0 (cin c1) (cin c2) (cin c3) ⟨hN2,(nod x hmem (by unfold vS;rw [c1,c2,c3,decide_eq_true c4];rfl)).symm⟩ (by omega) (by omega) (by omega) (by omega) c4
  cases c5:inB x.route 0 15 with
  | false=>exact ySD ldD lx ld0 (cin c1) (cin c2) (cin c3) (cin c5) ⟨hN2,(nod x hmem (by unfold vS;rw [c1,c2,c3,decide_eq_false c4,c5];rfl)).symm⟩ (by omega) (by omega) (by omega) (by omega) c4
  | true=>exact ySE ldD lx ld0 (cin c1) (cin c2) (cin c3) (cin c5) ⟨k-1,by omega,hN2,j+1,by omega,by omega,zRJ hx ha (by unfold vS;rw [c1,c2,c3,decide_eq_false c4,c5];rfl)⟩ (by omega) (by omega) (by omega) (by omega) c4 (by omega)
 ·obtain ⟨hN1,hdu⟩:=h;refine yGV (Pr:=fun n τ=>New Z1 τ/\n=yY w) (P2:=fun τ=>New Z1 τ/\w.drivers.all (zAM w)=true)
   (yGW (Inv:=fun k i τ=>New Z1 τ/\∃ j:Nat,i=j/\j+k=m/\(w.drivers.take j).all (zAM w)=true) ?_ m 0 _ ⟨hN1,0,rfl,by omega,rfl⟩)
   (fun n τ h=>yGS ⟨by rw [h.2],lw1 h.1⟩) (fun τ h=>yGT ⟨by rw [hf0,hh,hdu,h.2];rfl,lw1 h.1⟩)
  rintro k i τ ⟨hN,j,rfl,hk,ha⟩;have ldV:zB Tryz.prog τ 23 ⟨Z.re.next,2,none⟩=some (.slice q m d):=(hW hN.le).ld zHG rfl;by_cases hj:j<m;rotate_left
  ·exact yRR ldV ⟨hN,by rwa [List.take_of_length_le (by omega)] at ha⟩ (by omega)
  have LL:=L1.trans hN.le;obtain ⟨vs,hv1,hv2,hv3⟩:=hwp.drv;obtain ⟨qa,rfl,_⟩:=hv1.some hj;have hx:w.drivers[j]?=some w.drivers[j]:=by simp
  obtain ⟨x,hxe⟩:∃ x,x=w.drivers[j]:=⟨_,rfl⟩;rw [<- hxe] at hx;obtain ⟨v,g1,p',l',c',r',n',d',s',j',e',rfl,hkn,hlv,hws⟩:=hv3 j _ hx;have lx:zB Tryz.prog τ 76 (zM qa (Int.toNat (j:Int)*6))=some (.agg ⟨zL p' l' c' r' n' d' s' j' e' x.off x.row x.used⟩):=(hv1.le LL).at rfl g1;have hmem:=List.mem_of_getElem? hx;have hsx:=hsh x hmem;have hN2:New Z1 ((τ.row (zL none 0 0 none 0 0 none 0 0 0 0 0) 6).own τ.next (zL p' l' c' r' n' d' s' j' e' x.off x.row x.used) 6):=hN.row'.own hN.le.next;have L2:=L1.trans hN2.le;have ld0:zB Tryz.prog ((τ.row (zL none 0 0 none 0 0 none 0 0 0 0 0) 6).own τ.next (zL p' l' c' r' n' d' s' j' e' x.off x.row x.used) 6) 3 ⟨Z.re.next,0,none⟩=some (iV w.days):=(hW hN2.le).ld zS rfl;have ld5:zB Tryz.prog ((τ.row (zL none 0 0 none 0 0 none 0 0 0 0 0) 6).own τ.next (zL p' l' c' r' n' d' s' j' e' x.off x.row x.used) 6) 3 ⟨Z.re.next,5,none⟩=some (iV w.hours):=(hW hN2.le).ld zS rfl;have k1:=zXJ (c:=c') (lo:=0) (hi:=15) (SlV.le hkn L2) (by have:=hkn.len;omega);have k2:=zXJ (c:=d') (lo:=0) (hi:=w.days-1) (SlV.le hlv L2) (by have:=hlv.len;omega);have k3:=zXJ (c:=e') (lo:=0) (hi:=w.days-1) (SlV.le hws L2) (by have:=hws.len;omega);cases c1:wJ x.knows 0 15 with
  | false=>rw [c1] at k1;exact yRS ldV lx k1 ⟨hN2,(nov x hmem (by unfold zAM;rw [c1];rfl)).symm⟩ (by omega) (by omega)
  | true =>
  cases c2:wJ x.leave 0 (w.days-1) with
  | false=>rw [c1] at k1;rw [c2] at k2;exact yRT ldV lx k1 ld0 k2 ⟨hN2,(nov x hmem (by unfold zAM;rw [c1,c2];rfl)).symm⟩ (by omega) (by omega) (by omega)
  | true =>
  cases c3:wJ x.wish 0 (w.days-1) with
  | false=>rw [c1] at k1;rw [c2] at k2;rw [c3] at k3;exact yRU ldV lx k1 ld0 k2 k3 ⟨hN2,(nov x hmem (by unfold zAM;rw [c1,c2,c3];rfl)).symm⟩ (by omega) (by omega) (by omega)
  | true =>
  rw [c1] at k1;rw [c2] at k2;rw [c3] at k3;cases c4:inB x.off (-10080) 1440 with
  | false=>exact yRV ldV lx k1 ld0 k2 k3 (cin c4) ⟨hN2,(nov x hmem (by unfold zAM;rw [c1,c2,c3,c4];rfl)).symm⟩ (by omega) (by omega) (by omega)
  | true =>
  cases c5:inB x.row 0 14 with
  | false=>exact yRW ldV lx k1 ld0 k2 k3 (cin c4) (cin c5) ⟨hN2,(nov x hmem (by unfold zAM;rw [c1,c2,c3,c4,c5];rfl)).symm⟩ (by omega) (by omega) (by omega)
  | true =>
  cases c6:inB x.used 0 w.hours with
  | false=>exact yRX ldV lx k1 ld0 k2 k3 (cin c4) (cin c5) ld5 (cin c6) ⟨hN2,(nov x hmem (by unfold zAM;rw [c1,c2,c3,c4,c5,c6];rfl)).symm⟩ (by omega) (by omega) (by omega)
  | true=>exact yRY ldV lx k1 ld0 k2 k3 (cin c4) (cin c5) ld5 (cin c6) ⟨k-1,by omega,hN2,j+1,by omega,by omega,zRJ hx ha (by unfold zAM;rw [c1,c2,c3,c4,c5,c6];rfl)⟩ (by omega) (by omega) (by omega) (by omega)
end
end Go.Proofs.YtgfiniccfpfplaaGreat
