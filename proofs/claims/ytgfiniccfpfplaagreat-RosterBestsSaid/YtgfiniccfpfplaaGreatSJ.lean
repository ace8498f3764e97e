import Derived.Test.YtgfiniccfpfplaaGreatRD
import Derived.Test.YtgfiniccfpfplaaGreatRF
import Derived.Test.YtgfiniccfpfplaaGreatSI
import Derived.Test.YtgfiniccfpfplaaGreatXQ

namespace Go.Proofs.YtgfiniccfpfplaaGreat
set_option linter.unusedVariables false
set_option linter.unusedSimpArgs false
section
variable {w:Wk} {l m:Nat}
theorem zME (h:xP w=0):w.duties.length≤12∧w.drivers.length≤6∧uX w=true∧(∀ x∈w.duties,zAR w x=true)∧∀ x∈w.drivers,zCU w x=true:=by
 unfold xP at h
 split at h
 ·cases h
 ·rename_i h1
  split at h
  ·rename_i h2
   rw [Bool.and_eq_true,Bool.and_eq_true,List.all_eq_true,List.all_eq_true] at h2
   exact ⟨by omega,by omega,h2.1,h2.2.1,h2.2.2⟩
  ·cases h
theorem yFM {i:Nat} (h:i<w.duties.length):dty w i∈w.duties:=by
 unfold dty
 rw [List.getD_eq_getElem?_getD,List.getElem?_eq_getElem h]
 exact List.getElem_mem h
theorem zNL {k:Nat} (h:k<w.drivers.length):drv w k∈w.drivers:=by
 unfold drv
 rw [List.getD_eq_getElem?_getD,List.getElem?_eq_getElem h]
 exact List.getElem_mem h
theorem zXF (h:uX w=true):(1≤w.days∧w.days≤7)∧(0≤w.rest∧w.rest≤3000)∧(1≤w.run∧w.run≤14)∧0≤w.hours∧w.hours≤20000:=by
 unfold uX at h
 simp only [Bool.and_eq_true,zCG] at h
 exact h
theorem zPJ {d:Dty} (h:zAR w d=true):(0≤d.day∧d.day≤w.days-1)∧(0≤d.on∧d.on≤1439)∧(d.on≤d.lo∧d.lo≤d.hi)∧d.hi≤d.on+1440∧0≤d.route∧d.route≤15:=by
 unfold zAR at h
 simp only [Bool.and_eq_true,zCG,Bool.not_eq_true',decide_eq_false_iff_not,Int.not_lt] at h
 exact h
theorem zSI {x:Drv} (h:zCU w x=true):wZ x.knows 0 15=true∧wZ x.leave 0 (w.days-1)=true∧wZ x.wish 0 (w.days-1)=true∧(-10080≤x.off∧x.off≤1440)∧(0≤x.row∧x.row≤14)∧0≤x.used∧x.used≤w.hours:=by
 unfold zCU at h
 simp only [Bool.and_eq_true,zCG] at h
 exact h
theorem Sane.of (h:xP w=0) (hsh:zKT w) (hl:w.duties.length=l) (hm:w.drivers.length=m):Sane w l m:=by
 obtain ⟨h1,h2,h3,h4,h5⟩:=zME h
 obtain ⟨hd,hr,hu,hh⟩:=zXF h3
 refine ⟨by omega,by omega, ?_, ?_, ?_,hr,hu,hh⟩
 ·intro i hi
  have:=zPJ (h4 _ (yFM (by omega:i<w.duties.length)))
  omega
 ·intro k hk
  have:=zSI (h5 _ (zNL (by omega:k<w.drivers.length)))
  omega
 ·intro k hk
  exact hsh _ (zNL (by omega:k<w.drivers.length))
theorem yTD (h:xP w=0):∃ n:Nat,w.days=(n:Int)∧1≤n∧n≤7∧Val w n:=by
 obtain ⟨h1,h2,h3,h4,h5⟩:=zME h
 obtain ⟨hd,hr,hu,hh⟩:=zXF h3
 refine ⟨w.days.toNat,by omega,by omega,by omega,⟨⟨by omega, ?_⟩, ?_, ?_⟩⟩
 ·intro i hi
  have:=zPJ (h4 _ (yFM hi))
  omega
 ·intro i hi
  have:=zPJ (h4 _ (yFM hi))
  omega
 ·intro k hk
  have:=zSI (h5 _ (zNL hk))
  omega
theorem yYJ {xs:List Int} {lo hi:Int} (h:wZ xs lo hi=true):xs.Pairwise (· < ·)∧∀ x∈xs,lo≤x∧x≤hi:=by
 unfold wZ at h
 have h:=zDV.1 h
 have hin:∀ x∈xs,lo≤x∧x≤hi:=by
  intro x hx
  obtain ⟨i,hi,rfl⟩:=List.getElem_of_mem hx
  have:=h i hi
  rw [Bool.and_eq_true,zCG,List.getD_eq_getElem?_getD,List.getElem?_eq_getElem hi] at this
  exact this.1
 have step:∀ i (hi:i+1<xs.length),xs[i]<xs[i+1]:=by
  intro i hi
  have:=h (i+1) hi
  rw [Bool.and_eq_true,Nat.add_sub_cancel,List.getD_eq_getElem?_getD,List.getD_eq_getElem?_getD,List.getElem?_eq_getElem hi,List.getElem?_eq_getElem (by omega:i<xs.length)] at this
  have:=this.2
  simpa using this
 refine ⟨?_,hin⟩
 rw [List.pairwise_iff_getElem]
 intro i j hi hj hij
 have key:∀ d (hd:i+d+1<xs.length),xs[i]<xs[i+d+1]:=by
  intro d
  induction d with
  | zero=>intro hd;exact step i hd
  | succ d ih =>
   intro hd
   have h1:=ih (by omega)
   have h2:=step (i+d+1) (by omega)
   have e:i+(d+1)+1=i+d+1+1:=by omega
   simp only [e]
   omega
 have:=key (j-i-1) (by omega)
 have e:i+(j-i-1)+1=j:=by omega
 simp only [e] at this
 exact this
theorem yAE {n:Nat} (h:xP w=0) (hn:w.days=(n:Int)):yFX w n:=by
 obtain ⟨h1,h2,h3,h4,h5⟩:=zME h
 intro k hk
 have:=zSI (h5 _ (zNL hk))
 obtain ⟨g1,g2⟩:=yYJ this.2.2.1
 refine ⟨g1.imp fun h=>by omega,fun d hd=>?_⟩
 have:=g2 d hd
 omega
end
end Go.Proofs.YtgfiniccfpfplaaGreat

namespace Go.Proofs.YtgfiniccfpfplaaGreat
open Go Go.Lay
set_option linter.unusedVariables false
set_option linter.unusedSimpArgs false
set_option maxRecDepth 20000
section
variable {σ:St} {w:Wk} {p q pw:Option Addr} {l m c d D Bw lw cw:Nat} {who:List Int}
theorem yCF {k:Nat} (hk:k<6):(zAX w D who).getD k 0=if k<w.drivers.length∧(drv w k).wish.contains (D:Int)=true∧who.contains (k:Int)=false then 1 else 0:=by
 unfold zAX
 rw [List.getD_eq_getElem?_getD,List.getElem?_map,List.getElem?_range hk];rfl
theorem yWC:(zAX w D who).length=6:=by simp [zAX]
theorem Best1_c (hw:Row σ ⟨Bw,0,none⟩ (wkc w.days p l c q m d w.rest w.run w.hours)) (h:WkP σ 85 88 w p l q m) (hm6:m≤6) (hsh:zKT w) (hi:yG σ pw lw who) (hl:lw≤1000):zE Tryz.prog 57 [iV (D:Int),.slice pw lw cw,.pointer (some ⟨Bw,0,none⟩)] σ (.agg ⟨six (zAX w D who)⟩) σ:=by
 have hmm:=h.len.2
 obtain ⟨τ0,hτ0⟩:∃ τ0,τ0=σ.re.row (zL 0 0 0 0 0 0) 1:=⟨_,rfl⟩
 have N0:New σ.re τ0:=by rw [hτ0];exact New.row _ _ _
 have L0:Le σ τ0:=(le0 σ).trans N0.le
 have o0:Own τ0 σ.next (vR 6 fun _=>0) 1:=by rw [hτ0];exact zC σ.re (zL 0 0 0 0 0 0) 1
 have l1:zB Tryz.prog τ0 32 (zP ⟨Bw,0,none⟩ 2)=some (.slice q m d):=(hw.le L0).load1 zDK rfl
 rw [hτ0] at l1
 refine (Best1_ra l1 (yMG (Inv:=fun k i τ=>New σ.re τ∧∃ j:Nat,i=j∧j+k=m∧Own τ σ.next (vR 6 fun s=>if s<j then (zAX w D who).getD s 0 else 0) 1)
  (Q0:=fun τ=>New σ.re τ∧Own τ σ.next (six (zAX w D who)) 1) ?_ m 0 _ ⟨hτ0 ▸ N0,0,rfl,by omega,by simpa using hτ0 ▸ o0⟩) ?_).pure
 ·rintro k i τ ⟨hN,j,rfl,hk,w1⟩
  by_cases hj:j<m
  rotate_left
  ·have:j=m:=by omega
   subst this
   refine yXF ⟨hN, ?_⟩ (by omega)
   have e:(vR 6 fun s=>if s<j then (zAX w D who).getD s 0 else 0)=six (zAX w D who):=by
    refine zGD fun s hs=>?_
    by_cases e1:s<j
    ·rw [if_pos e1]
    ·rw [if_neg e1,yCF hs,if_neg (by omega)]
   rw [← e];exact w1
  have LL:=(le0 σ).trans hN.le
  obtain ⟨a,rfl,p',l',c',r',n',d',s',j',e',ld,hkn,hlv,hws,_⟩:=(h.le LL).vld yCU zHL hj
  have N2:New τ ((τ.row (zJ none 0 0 none 0 0 none 0 0 0 0 0) 6).own τ.next (zJ p' l' c' r' n' d' s' j' e' (drv w j).off (drv w j).row (drv w j).used) 6):=(New.row _ _ _).own (Nat.le_refl _)
  have hwl:=(hsh _ (zNL (by omega:j<w.drivers.length))).2.2
  have eln:=hws.len
  have c1:=yFO (c:=e') (n:=(D:Int)) (SlV.le hws N2.le) (by omega)
  have c2:=yFO (c:=cw) (n:=(j:Int)) (SlV.le hi (LL.trans N2.le)) (by omega)
  have o2:=w1.le N2.le
  have hj6:j<6:=by omega
  have hg:=yCF (w:=w) (D:=D) (who:=who) hj6
  have same:(zAX w D who).getD j 0=0→(vR 6 fun s=>if s<j then (zAX w D who).getD s 0 else 0)=vR 6 fun s=>if s<j+1 then (zAX w D who).getD s 0 else 0:=fun h0=>by
   refine zGD fun s hs=>?_
   by_cases e1:s<j
   ·rw [if_pos e1,if_pos (by omega)]
   ·rw [if_neg e1]
    by_cases e2:s=j
    ·subst e2;rw [if_pos (by omega),h0]
    ·rw [if_neg (by omega)]
  cases b1:(drv w j).wish.contains (D:Int) with
  | false =>
   rw [b1] at c1 hg
   rw [if_neg (by simp)] at hg
   exact yXG ld c1 ⟨k-1,by omega,hN.trans N2,j+1,by omega,by omega,by rw [← same hg];exact o2⟩ (by omega) (by omega) (by omega)
  | true =>
  cases b2:who.contains (j:Int) with
  | true =>
   rw [b1] at c1
   rw [b2] at c2 hg
   rw [if_neg (by simp)] at hg
   exact yXI ld c1 c2 ⟨k-1,by omega,hN.trans N2,j+1,by omega,by omega,by rw [← same hg];exact o2⟩ (by omega) (by omega) (by omega)
  | false =>
   rw [b1] at c1 hg
   rw [b2] at c2 hg
   rw [if_pos ⟨by omega,rfl,rfl⟩] at hg
   have st:=yXR (x:=1) o2 hj6
   refine yXH ld c1 c2 st ⟨k-1,by omega,(hN.trans N2).own (by show σ.next≤σ.next;omega),j+1,by omega,by omega, ?_⟩ (by omega) (by omega) (by omega) (by omega)
   have e:(vR 6 fun s=>if s=j then 1 else if s<j then (zAX w D who).getD s 0 else 0)=vR 6 fun s=>if s<j+1 then (zAX w D who).getD s 0 else 0:=by
    refine zGD fun s hs=>?_
    by_cases e2:s=j
    ·subst e2;rw [if_pos rfl,if_pos (by omega),hg]
    ·rw [if_neg e2]
     by_cases e1:s<j
     ·rw [if_pos e1,if_pos (by omega)]
     ·rw [if_neg e1,if_neg (by omega)]
   rw [← e];exact o2.put
 ·rintro τ ⟨hN,w1⟩
  generalize zAX w D who=v at w1 ⊢
  have g1:zB Tryz.prog τ 98 ⟨σ.next,0,none⟩=some (.agg ⟨zL (v.getD 0 0) (v.getD 1 0) (v.getD 2 0) (v.getD 3 0) (v.getD 4 0) (v.getD 5 0)⟩):=by rw [← zDT];exact zJC w1
  have g2:zS Tryz.prog (evL [.pointer (some ⟨σ.next,0,none⟩),.agg ⟨zL (v.getD 0 0) (v.getD 1 0) (v.getD 2 0) (v.getD 3 0) (v.getD 4 0) (v.getD 5 0)⟩]) τ (.store 98 (.tmp 0) (.tmp 1))=some (undef,τ.own σ.next (six v) 1):=by rw [← zDT];exact yRW w1
  have g3:zB Tryz.prog (τ.own σ.next (six v) 1) 98 ⟨σ.next,0,none⟩=some (.agg ⟨zL (v.getD 0 0) (v.getD 1 0) (v.getD 2 0) (v.getD 3 0) (v.getD 4 0) (v.getD 5 0)⟩):=by rw [← zDT];exact zJC (w1.put)
  exact yMF g1 g2 g3 ⟨by rw [zDT],(hN.own (b:=σ.next) (n:=1) (cs:=six v) (by show σ.next≤σ.next;omega)).lw⟩
end
end Go.Proofs.YtgfiniccfpfplaaGreat
