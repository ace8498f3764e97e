
import Derived.Test.YtgfiniccfpfplaaGreatRG
import Derived.Test.YtgfiniccfpfplaaGreatRH
import Derived.Test.YtgfiniccfpfplaaGreatXH
namespace Go.Proofs.YtgfiniccfpfplaaGreat
open Go Go.Lay
set_option linter.unusedVariables false
set_option linter.unusedSimpArgs false
set_option maxRecDepth 20000
theorem zFF (xs:List Int):∀ (_:IntKind),vJ (xs.map yC)=xs.map yC:=by
 intro _
 induction xs with
 | nil=>rfl
 | cons x xs ih=>simp only [vJ,List.map_cons,List.flatMap_cons] at ih ⊢;rw [ih];rfl
section
variable {σ:St}
theorem yNE {p:Option Addr} {l c:Nat} {xs:List Int} (h:yI σ p l xs) (hl:l≤1073741824) :
  ∃ p' c' σ',zE Tryz.prog 19 [.slice p l c] σ (.slice p' l c') σ'∧New σ σ'∧yI σ' p' l xs∧∀ b,AtP p' b→σ.next≤b:=by
 have hc:(vJ (xs.map yC)).all cellB=true:=by rw [zFF xs .i64];simp [List.all_eq_true];intro a _;rfl
 have N1:New σ.re (σ.re.row [] 1):=New.row _ _ _
 obtain ⟨p6,c6,s5,ap1,A6,O6,b6⟩:=Ax.append (P:=Tryz.prog) (k:=c) (n0:=σ.re.next) zDS (Ax.lit (len:=0) (zC σ.re [] 1) rfl ((yY 0).2 uK) (Nat.le_refl _)) (SlV.le h ((le0 σ).trans N1.le)).1 (by omega) hc N1.nx
 rw [Nat.zero_add] at ap1 A6
 have N5:New σ.re s5:=N1.of_only O6 (by rintro b ⟨a,e,rfl⟩;cases e;exact Nat.le_refl _)
 exact zQ.newSl (list_ra ap1 ⟨N5,p6,c6,rfl,Ax.slv (by simpa using A6) (by simpa using h.2.1) h.2.2,fun b hb=>(A6.bd b hb).1⟩)
theorem zZP {p:Option Addr} {l c:Nat} {xs:List Int} (h:yI σ p l xs) (hl:l≤1073741824):zE Tryz.prog 27 [.slice p l c] σ (iV ((xs.filter fun x=>decide (0≤x)).length:Nat)) σ:=by
 have h1:=h.re
 have e1:=h.len
 refine (yMK (zXU (Inv:=fun k i3 i4 τ=>τ=σ.re∧∃ j:Nat,i4=j∧j+k=l∧i3=(((xs.take j).filter fun x=>decide (0≤x)).length:Nat)∧((xs.take j).filter fun x=>decide (0≤x)).length≤j) (Q0:=fun i3 τ=>τ=σ.re∧i3=((xs.filter fun x=>decide (0≤x)).length:Nat)) ?_ l 0 0 σ.re ⟨rfl,0,rfl,by omega,rfl,Nat.le_refl _⟩) ?_).pure
 ·rintro k i3 i4 τ ⟨rfl,j,rfl,hk,rfl,hle⟩
  by_cases hj:j<l
  ·obtain ⟨a,rfl,x,hx,l1⟩:=vR h1 hj
   have es:(xs.take (j+1)).filter (fun x=>decide (0≤x))=(xs.take j).filter (fun x=>decide (0≤x))++if 0≤x then [x] else []:=by
    rw [vS hx,List.filter_append]
    by_cases e:0≤x <;> simp [e]
   by_cases e:0≤x
   ·rw [if_pos e] at es
    exact yGR l1 ⟨k-1,by omega,rfl,j+1,by omega,by omega,by rw [es,List.length_append];simp,by rw [es,List.length_append];show _+1≤_;omega⟩ (by omega) (by omega) e (by omega) (by omega)
   ·rw [if_neg e,List.append_nil] at es
    exact yGQ l1 ⟨k-1,by omega,rfl,j+1,by omega,by omega,by rw [es],by rw [es];omega⟩ (by omega) (by omega) e (by omega)
  ·rw [List.take_of_length_le (by omega)]
   exact yGP ⟨rfl,rfl⟩ (by omega)
 ·rintro i3 τ ⟨rfl,rfl⟩
  exact zXT ⟨rfl,Nat.le_refl _⟩
theorem yYV {p:Option Addr} {l c:Nat} {xs:List Int} (h:yI σ p l xs) (hl:l≤1073741824):zE Tryz.prog 63 [.slice p l c] σ (iV ((xs.filter fun x=>decide (x≠-1)).length:Nat)) σ:=by
 have h1:=h.re
 have e1:=h.len
 refine (yTY (yDY (Inv:=fun k i3 i4 τ=>τ=σ.re∧∃ j:Nat,i4=j∧j+k=l∧i3=(((xs.take j).filter fun x=>decide (x≠-1)).length:Nat)∧((xs.take j).filter fun x=>decide (x≠-1)).length≤j) (Q0:=fun i3 τ=>τ=σ.re∧i3=((xs.filter fun x=>decide (x≠-1)).length:Nat)) ?_ l 0 0 σ.re ⟨rfl,0,rfl,by omega,rfl,Nat.le_refl _⟩) ?_).pure
 ·rintro k i3 i4 τ ⟨rfl,j,rfl,hk,rfl,hle⟩
  by_cases hj:j<l
  ·obtain ⟨a,rfl,x,hx,l1⟩:=vR h1 hj
   have es:(xs.take (j+1)).filter (fun x=>decide (x≠-1))=(xs.take j).filter (fun x=>decide (x≠-1))++if x≠-1 then [x] else []:=by
    rw [vS hx,List.filter_append]
    by_cases e:x≠-1 <;> simp [e]
   by_cases e:x≠-1
   ·rw [if_pos e] at es
    exact yOF l1 ⟨k-1,by omega,rfl,j+1,by omega,by omega,by rw [es,List.length_append];simp,by rw [es,List.length_append];show _+1≤_;omega⟩ (by omega) (by omega) e (by omega) (by omega)
   ·rw [if_neg e,List.append_nil] at es
    exact yOE l1 ⟨k-1,by omega,rfl,j+1,by omega,by omega,by rw [es],by rw [es];omega⟩ (by omega) (by omega) (Decidable.not_not.1 e) (by omega)
  ·rw [List.take_of_length_le (by omega)]
   exact yOD ⟨rfl,rfl⟩ (by omega)
 ·rintro i3 τ ⟨rfl,rfl⟩
  exact yDX ⟨rfl,Nat.le_refl _⟩
section
variable {w:Wk} {p q r t:Option Addr} {l m c d rl rc tl tc:Nat} {rs ts:List Int}
theorem yGF (h:WkP σ 92 76 w p l q m) (hs:Sane w l m) (hr:yI σ r l rs):zE Tryz.prog 31 [.agg ⟨wkc w.days p l c q m d w.rest w.run w.hours⟩,.slice r l rc] σ (.bool (decide (zEC w (zV rs) (zV (zCX w)) m=[]))) σ:=by
 have hn:=h.len.1
 have hl12:=hs.l12
 obtain ⟨σ1,hσ1⟩:∃ σ1,σ1=σ.re.row (wkc w.days p l c q m d w.rest w.run w.hours) 6:=⟨_,rfl⟩
 have N1:New σ.re σ1:=by rw [hσ1];exact New.row _ _ _
 have L1:Le σ σ1:=(le0 σ).trans N1.le
 have hk0:=xG σ.re (wkc w.days p l c q m d w.rest w.run w.hours) 6
 rw [← hσ1] at hk0
 obtain ⟨p2,c2,σ2,k2,n2,s2,f2⟩:=ySA (c:=c) (d:=d) (h.le L1) (by omega)
 have L2:=L1.trans n2.le
 have hte:∀ i,i<l→(dty w i).on≤zV (zCX w) i∧zV (zCX w) i≤(dty w i).on+1440:=by
  intro i hi
  have e:zV (zCX w) i=(dty w i).hi:=by
   unfold zV zCX dty
   rw [List.getD_eq_getElem?_getD,List.getElem?_map,List.getD_eq_getElem?_getD,List.getElem?_eq_getElem (by omega)];rfl
  rw [e]
  have:=hs.duty i hi
  omega
 obtain ⟨p3,c3,σ3,k3,n3,s3,f3⟩:=ySO (c:=c) (d:=d) (rc:=rc) (tc:=c2) (h.le L2) hs (SlV.le hr L2) s2 hte
 have hlow:σ.next≤σ3.low:=((N1.trans n2).trans n3).lw
 have pab:∀ a,p=some a→a.block<σ.next:=xK h.dty
 have qab:∀ a,q=some a→a.block<σ.next:=by obtain ⟨vs,h1,_⟩:=h.drv;exact xK h1
 have rab:∀ a,r=some a→a.block<σ.next:=xK hr
 have ld:zB Tryz.prog σ2 25 ⟨σ.re.next,0,none⟩=some (.agg ⟨wkc w.days p l c q m d w.rest w.run w.hours⟩):=(hk0.le n2.le).ldN (k:=0) wH xI (ds:=wkc w.days p l c q m d w.rest w.run w.hours) rfl rfl (by simp)
 have nx1:σ1.next=σ.next+1:=by rw [hσ1];rfl
 have nx2:=n2.le.next
 have hb1:zH σ1.next [.agg ⟨wkc w.days p l c q m d w.rest w.run w.hours⟩]:=zD (zIA (fun a e=>by have:=pab a e;omega) (fun a e=>by have:=qab a e;omega)) zG
 have hb2:zH σ2.next [.agg ⟨wkc w.days p l c q m d w.rest w.run w.hours⟩,.slice r l rc,.slice p2 l c2]:=zD (zIA (fun a e=>by have:=pab a e;omega) (fun a e=>by have:=qab a e;omega)) (zD (yP (fun a e=>by have:=rab a e;omega)) (zD (yP (xK s2)) zG))
 have hb3:zH σ3.next [.slice p3 (zEC w (zV rs) (zV (zCX w)) m).length c3]:=zD (yP (xK s3)) zG
 rw [hσ1] at k2 hb1
 by_cases e:zEC w (zV rs) (zV (zCX w)) m=[]
 ·rw [decide_eq_true e]
  exact (yRZ k2 k3 hb1 hb2 hb3 ⟨⟨by show σ.next<_;omega,rfl⟩,ld⟩ ⟨rfl,hlow⟩ (by rw [e];rfl)).pure
 ·rw [decide_eq_false e]
  exact (yRY k2 k3 hb1 hb2 hb3 ⟨⟨by show σ.next<_;omega,rfl⟩,ld⟩ ⟨rfl,hlow⟩ (fun h=>e (List.length_eq_zero_iff.1 (by omega)))).pure
end
end
end Go.Proofs.YtgfiniccfpfplaaGreat
