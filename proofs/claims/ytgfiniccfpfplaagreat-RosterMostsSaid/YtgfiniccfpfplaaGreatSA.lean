
import Derived.Test.YtgfiniccfpfplaaGreatRZ
import Derived.Test.YtgfiniccfpfplaaGreatXK
namespace Go.Proofs.YtgfiniccfpfplaaGreat
open Go Go.Lay
set_option linter.unusedVariables false
set_option linter.unusedSimpArgs false
set_option maxRecDepth 20000
section
variable {σ:St} {w:Wk} {p q r t:Option Addr} {l m c d rl rc tl tc:Nat} {rs ts:List Int}
theorem yFP {i j:Nat} {k:Int} (hi:i<rs.length):zV (rs.set i k) j=if j=i then k else zV rs j:=by
 unfold zV
 rw [List.getD_eq_getElem?_getD,List.getD_eq_getElem?_getD,List.getElem?_set]
 by_cases e:i=j
 ·subst e;rw [if_pos rfl,if_pos hi,if_pos rfl];rfl
 ·rw [if_neg e,if_neg (Ne.symm e)]
theorem fault_c (h:WkP σ 92 76 w p l q m) (hsh:zLY w):zE Tryz.prog 20 [.agg ⟨wkc w.days p l c q m d w.rest w.run w.hours⟩] σ (iV (xM w)) σ:=by
 have L1:Le σ (σ.re.row (wkc w.days p l c q m d w.rest w.run w.hours) 6):=(le0 σ).trans (Le.row _ _ _)
 exact (yYL (yGO (h.le L1) hsh) ⟨rfl,Nat.le_refl _⟩).pure
def zNF (x:Drv):Bool:=decide (x.knows.length≤20) && (decide (x.leave.length≤20) && decide (x.wish.length≤20))
def zHD (w:Wk):Bool:=(w.drivers.take 10).all zNF && (decide (w.duties.length≤15) && decide (w.drivers.length≤9))
theorem zUI (h:zHD w=true):zLY w∧w.duties.length≤15∧w.drivers.length≤9:=by
 unfold zHD at h
 rw [Bool.and_eq_true,Bool.and_eq_true,decide_eq_true_eq,decide_eq_true_eq] at h
 obtain ⟨h1,h2,h3⟩:=h
 refine ⟨fun x hx=>?_,h2,h3⟩
 rw [List.take_of_length_le (by omega)] at h1
 have:=List.all_eq_true.1 h1 x hx
 unfold zNF at this
 rw [Bool.and_eq_true,Bool.and_eq_true,decide_eq_true_eq,decide_eq_true_eq,decide_eq_true_eq] at this
 omega
theorem Thin_c (h:WkP σ 92 76 w p l q m):zE Tryz.prog 14 [.agg ⟨wkc w.days p l c q m d w.rest w.run w.hours⟩] σ (.bool (zHD w)) σ:=by
 have hln:=h.len.1
 have hm:=h.len.2
 obtain ⟨σ1,hσ1⟩:∃ σ1,σ1=σ.re.row (wkc w.days p l c q m d w.rest w.run w.hours) 6:=⟨_,rfl⟩
 have N1:New σ.re σ1:=by rw [hσ1];exact New.row _ _ _
 have L1:Le σ σ1:=(le0 σ).trans N1.le
 have hk0:=xG σ.re (wkc w.days p l c q m d w.rest w.run w.hours) 6
 rw [← hσ1] at hk0
 have lD:∀ {τ},New σ1 τ→zB Tryz.prog τ 22 ⟨σ.re.next,1,none⟩=some (.slice p l c):=fun hN=>(hk0.le hN.le).ld wR rfl
 have lV:∀ {τ},New σ1 τ→zB Tryz.prog τ 23 ⟨σ.re.next,2,none⟩=some (.slice q m d):=fun hN=>(hk0.le hN.le).ld uN rfl
 refine (Thin_ra (yPE (Inv:=fun k i τ=>New σ1 τ∧∃ j:Nat,i=j∧j+k=m∧j≤10∧(w.drivers.take j).all zNF=true) (Qr:=fun b τ=>New σ1 τ∧b=false∧zHD w=false) (Q0:=fun τ=>New σ1 τ∧(w.drivers.take 10).all zNF=true) ?_ m 0 _ ⟨by rw [← hσ1];exact New.refl _,0,rfl,by omega,by omega,rfl⟩) ?_ ?_).pure
 ·rintro k i τ ⟨hN,j,rfl,hk,hj10,ha⟩
  by_cases hj:j<m
  rotate_left
  ·refine Thin_s1f (lV hN) ⟨hN, ?_⟩ (by omega)
   rw [List.take_of_length_le (by omega)] at ha ⊢
   exact ha
  by_cases h10:j<10
  rotate_left
  ·have:j=10:=by omega
   subst this
   exact Thin_s1e (lV hN) ⟨hN,ha⟩ (by omega) (by omega)
  obtain ⟨a,rfl,p',l',c',r',n',d',s',j',e',ld,hkn,hlv,hws,_⟩:=(h.le (L1.trans hN.le)).vld yBJ uI hj
  have e1:=hkn.len
  have e2:=hlv.len
  have e3:=hws.len
  have N2:New τ ((τ.row (zK none 0 0 none 0 0 none 0 0 0 0 0) 6).own τ.next (zK p' l' c' r' n' d' s' j' e' (drv w j).off (drv w j).row (drv w j).used) 6):=(New.row _ _ _).own (Nat.le_refl _)
  have hx:w.drivers[j]?=some (drv w j):=by
   unfold drv
   rw [List.getD_eq_getElem?_getD,List.getElem?_eq_getElem (by omega)];rfl
  have no:zNF (drv w j)=false→zHD w=false:=by
   intro hf
   have:(w.drivers.take 10).all zNF=false:=by
    refine yEG (x:=drv w j) ?_ hf
    rw [List.mem_iff_getElem?]
    exact ⟨j,by rw [List.getElem?_take,if_pos h10];exact hx⟩
   unfold zHD
   rw [this];rfl
  by_cases g1:20<l'
  ·exact Thin_s1a (lV hN) ld ⟨hN.trans N2,rfl,no (by unfold zNF;rw [decide_eq_false (by omega)];rfl)⟩ (by omega) (by omega) (by omega) (by omega)
  by_cases g2:20<n'
  ·exact Thin_s1b (lV hN) ld ⟨hN.trans N2,rfl,no (by unfold zNF;rw [decide_eq_true (by omega),decide_eq_false (by omega)];rfl)⟩ (by omega) (by omega) (by omega) (by omega) (by omega)
  by_cases g3:20<j'
  ·exact Thin_s1c (lV hN) ld ⟨hN.trans N2,rfl,no (by unfold zNF;rw [decide_eq_true (by omega),decide_eq_true (by omega),decide_eq_false (by omega)];rfl)⟩ (by omega) (by omega) (by omega) (by omega) (by omega) (by omega)
  ·exact Thin_s1d (lV hN) ld ⟨k-1,by omega,hN.trans N2,j+1,by omega,by omega,by omega,zQM hx ha (by unfold zNF;rw [decide_eq_true (by omega),decide_eq_true (by omega),decide_eq_true (by omega)];rfl)⟩ (by omega) (by omega) (by omega) (by omega) (by omega) (by omega) (by omega)
 ·rintro b τ ⟨hN,rfl,e⟩
  exact yPA ⟨by rw [e],(N1.trans hN).lw⟩
 ·rintro τ ⟨hN,e⟩
  have hlow:=(N1.trans hN).lw
  by_cases h15:l≤15
  ·by_cases h9:m≤9
   ·exact yPD (lD hN) (lV hN) ⟨by unfold zHD;rw [e,decide_eq_true (by omega),decide_eq_true (by omega)];rfl,hlow⟩ (by omega) (by omega)
   ·exact yPC (lD hN) (lV hN) ⟨by unfold zHD;rw [e,decide_eq_true (by omega),decide_eq_false (by omega)];rfl,hlow⟩ (by omega) (by omega)
  ·exact yPB (lD hN) ⟨by unfold zHD;rw [e,decide_eq_false (by omega)];rfl,hlow⟩ (by omega)
end
end Go.Proofs.YtgfiniccfpfplaaGreat
