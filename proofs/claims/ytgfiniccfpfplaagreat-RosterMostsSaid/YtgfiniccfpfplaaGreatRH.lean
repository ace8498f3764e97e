import Derived.Test.YtgfiniccfpfplaaGreatRD
import Derived.Test.YtgfiniccfpfplaaGreatXL
import Derived.Test.YtgfiniccfpfplaaGreatRF

namespace Go.Proofs.YtgfiniccfpfplaaGreat
open Go Go.Lay
open Tryz renaming prog → Pg
set_option linter.unusedVariables false
set_option linter.unusedSimpArgs false
set_option maxRecDepth 20000
abbrev zLT (b:Bch):Value:=.agg ⟨rcd b.kind b.drv b.dut⟩
theorem yUQ:AppT Pg 42 42 46 3:=zJT (by kernel_rfl)
theorem yTU (b:Bch):zGY Pg 46 3 (zLT b):=.inr ⟨agg46,size46,_,rfl,rfl⟩
section
variable {w:Wk} {ros tru:Nat→Int} {k q j:Nat}
theorem refK_s:zMY w ros tru k q (j+1)=zMY w ros tru k q j++(if xF w ros tru q k j then [⟨q,k,j⟩] else []):=by
 unfold zMY
 rw [List.range_succ,List.filterMap_append]
 simp only [List.filterMap_cons,List.filterMap_nil]
 split <;> simp_all
theorem yVV:zMZ w ros tru k (q+1)=zMZ w ros tru k q++zMY w ros tru k q w.duties.length:=by
 unfold zMZ
 rw [List.range_succ,List.flatMap_append]
 simp
theorem yVW:zEC w ros tru (k+1)=zEC w ros tru k++(zMZ w ros tru k 5++yFZ w ros tru k):=by
 unfold zEC
 rw [List.range_succ,List.flatMap_append]
 simp
theorem yGA:(zMY w ros tru k q j).length≤j:=by
 unfold zMY
 have:=List.length_filterMap_le (fun i=>if xF w ros tru q k i=true then some (⟨q,k,i⟩:Bch) else none) (List.range j)
 simpa using this
theorem zUU:(zMZ w ros tru k q).length≤q*w.duties.length:=by
 induction q with
 | zero=>simp [zMZ]
 | succ q ih=>rw [yVV,List.length_append,Nat.add_mul,Nat.one_mul];have:=yGA (w:=w) (ros:=ros) (tru:=tru) (k:=k) (q:=q) (j:=w.duties.length);omega
theorem yVU:(yFZ w ros tru k).length≤1:=by unfold yFZ;split <;> simp
theorem yVX:(zEC w ros tru k).length≤k*(5*w.duties.length+1):=by
 induction k with
 | zero=>simp [zEC]
 | succ k ih =>
  rw [yVW,List.length_append,List.length_append,Nat.add_mul,Nat.one_mul]
  have h1:=zUU (w:=w) (ros:=ros) (tru:=tru) (k:=k) (q:=5)
  have h2:=yVU (w:=w) (ros:=ros) (tru:=tru) (k:=k)
  omega
end
section
variable {σ:St} {w:Wk} {p q r t:Option Addr} {l m c d rc tc:Nat} {rs ts:List Int} {k i:Nat}
theorem ySO (h:WkP σ 92 76 w p l q m) (hs:Sane w l m) (hr:yI σ r l rs) (ht:yI σ t l ts) (hts:∀ i,i<l→(dty w i).on≤zV ts i∧zV ts i≤(dty w i).on+1440) :
  ∃ p' c' σ',zE Pg 23 [.agg ⟨wkL w p l c q m d⟩,.slice r l rc,.slice t l tc] σ (.slice p' (zEC w (zV rs) (zV ts) m).length c') σ'∧New σ σ'∧SlV Pg σ' 46 3 p' (zEC w (zV rs) (zV ts) m).length ((zEC w (zV rs) (zV ts) m).map zLT)∧∀ b,AtP p' b→σ.next≤b:=by
 have hn:=h.len.1
 have hl12:=hs.l12
 have hm6:=hs.m6
 obtain ⟨σ1,hσ1⟩:∃ σ1,σ1=σ.re.row (wkL w p l c q m d) 6:=⟨_,rfl⟩
 have N1:New σ.re σ1:=by rw [hσ1];exact New.row _ _ _
 have L1:Le σ σ1:=(le0 σ).trans N1.le
 have hW:∀ {τ},New σ1 τ→Row τ ⟨σ.re.next,0,none⟩ (wkL w p l c q m d):=fun {τ} hN=>by
  have:=xG σ.re (wkL w p l c q m d) 6
  rw [← hσ1] at this
  exact this.le hN.le
 have lD:∀ {τ},New σ1 τ→zB Pg τ 22 ⟨σ.re.next,1,none⟩=some (.slice p l c):=fun hN=>(hW hN).ld wR rfl
 have lV:∀ {τ},New σ1 τ→zB Pg τ 23 ⟨σ.re.next,2,none⟩=some (.slice q m d):=fun hN=>(hW hN).ld uN rfl
 have lW:∀ {τ},New σ1 τ→zB Pg τ 25 ⟨σ.re.next,0,none⟩=some (.agg ⟨wkL w p l c q m d⟩):=fun hN=>(hW hN).ldN (k:=0) wH xI (ds:=wkL w p l c q m d) rfl rfl (by simp [wkL])
 have one:∀ {τ:St} {p7:Option Addr} {c7:Nat} {A:List Bch} (b:Bch),New σ1 τ→Gr Pg τ σ1.next 46 3 p7 A.length c7 (A.map zLT)→A.length≤1000 →
   ∃ q7 d7 τ',yJ Pg 42 42 (.slice p7 A.length c7) (.slice (some ⟨τ.next,0,none⟩) 1 1) (τ.row (rcd b.kind b.drv b.dut) 3)=some (.slice q7 (A++[b]).length d7,τ')∧New σ1 τ'∧Gr Pg τ' σ1.next 46 3 q7 (A++[b]).length d7 ((A++[b]).map zLT):=by
  intro τ p7 c7 A b hN hg hA
  obtain ⟨q7,d7,τ',g1,g2,g3,_,_⟩:=grow (zLT b) yUQ hg hN (New.refl τ) (yTU b) (by omega)
  refine ⟨q7,d7,τ',by rw [List.length_append];exact g1,g3, ?_⟩
  rw [List.length_append,List.map_append]
  exact g2
 have loop3:∀ {k0 q0:Nat} {A:List Bch} {τ:St} {p7:Option Addr} {c7:Nat},k0<m→q0<5→A.length≤500→New σ1 τ→Gr Pg τ σ1.next 46 3 p7 A.length c7 (A.map zLT) →
   zOD r l rc t l tc σ.re.next (k0:Int) (q0:Int) p7 A.length c7 0 τ (fun p' l' c' τ'=>New σ1 τ'∧l'=(A++zMY w (zV rs) (zV ts) k0 q0 l).length∧Gr Pg τ' σ1.next 46 3 p' l' c' ((A++zMY w (zV rs) (zV ts) k0 q0 l).map zLT)):=by
  intro k0 q0 A τ p7 c7 hk hq hA hN hg
  refine zYF (Inv:=fun k' p' l' c' i τ'=>New σ1 τ'∧∃ j:Nat,i=j∧j+k'=l∧l'=(A++zMY w (zV rs) (zV ts) k0 q0 j).length∧Gr Pg τ' σ1.next 46 3 p' l' c' ((A++zMY w (zV rs) (zV ts) k0 q0 j).map zLT)) ?_ l p7 A.length c7 0 τ ⟨hN,0,rfl,by omega,by simp [zMY],by simpa [zMY] using hg⟩
  rintro k' p' l' c' i τ' ⟨hN',j,rfl,hj,rfl,hg'⟩
  by_cases hjl:j<l
  ·have LL:Le σ τ':=L1.trans hN'.le
   have cb:=ySN (c:=c) (d:=d) (rc:=rc) (tc:=tc) (h.le LL) hs (SlV.le hr LL) (SlV.le ht LL) hts hk hjl hq
   have hrk:=yGA (w:=w) (ros:=zV rs) (tru:=zV ts) (k:=k0) (q:=q0) (j:=j)
   have es:=refK_s (w:=w) (ros:=zV rs) (tru:=zV ts) (k:=k0) (q:=q0) (j:=j)
   cases hb:xF w (zV rs) (zV ts) q0 k0 j with
   | true =>
    rw [hb] at cb es
    rw [if_pos rfl] at es
    obtain ⟨q7,d7,τ2,g1,g2,g3⟩:=one ⟨q0,k0,j⟩ hN' hg' (by rw [List.length_append];omega)
    rw [List.append_assoc,← es] at g1 g3
    exact yHG (lD hN') (lW hN') cb g1 ⟨k' - 1,by omega,g2,j+1,by omega,by omega,rfl,g3⟩ (by omega) (by omega)
   | false =>
    rw [hb] at cb es
    rw [if_neg (by simp),List.append_nil] at es
    rw [← es] at hg' ⊢
    exact yHF (lD hN') (lW hN') cb ⟨k' - 1,by omega,hN',j+1,by omega,by omega,rfl,hg'⟩ (by omega) (by omega)
  ·have:j=l:=by omega
   subst this
   exact yHE (lD hN') ⟨hN',rfl,hg'⟩ (by omega)
 have loop2:∀ {k0:Nat} {A:List Bch} {τ:St} {p7:Option Addr} {c7:Nat},k0<m→A.length≤400→New σ1 τ→Gr Pg τ σ1.next 46 3 p7 A.length c7 (A.map zLT) →
   zOE r l rc t l tc σ.re.next (k0:Int) p7 A.length c7 0 τ (fun p' l' c' τ'=>New σ1 τ'∧l'=(A++zMZ w (zV rs) (zV ts) k0 5).length∧Gr Pg τ' σ1.next 46 3 p' l' c' ((A++zMZ w (zV rs) (zV ts) k0 5).map zLT)):=by
  intro k0 A τ p7 c7 hk hA hN hg
  refine zYG (Inv:=fun k' p' l' c' i τ'=>New σ1 τ'∧∃ j:Nat,i=j∧j+k'=5∧l'=(A++zMZ w (zV rs) (zV ts) k0 j).length∧Gr Pg τ' σ1.next 46 3 p' l' c' ((A++zMZ w (zV rs) (zV ts) k0 j).map zLT)) ?_ 5 p7 A.length c7 0 τ ⟨hN,0,rfl,by omega,by simp [zMZ],by simpa [zMZ] using hg⟩
  rintro k' p' l' c' i τ' ⟨hN',j,rfl,hj,rfl,hg'⟩
  by_cases hjl:j<5
  ·have hrd:=zUU (w:=w) (ros:=zV rs) (tru:=zV ts) (k:=k0) (q:=j)
   have hjm:j*w.duties.length≤5*12:=Nat.mul_le_mul (by omega) (by omega)
   refine yHI (loop3 hk hjl (by rw [List.length_append];omega) hN' hg') ?_ (by omega)
   rintro p3 l3 c3 τ3 ⟨hN3,rfl,hg3⟩
   have es:=yVV (w:=w) (ros:=zV rs) (tru:=zV ts) (k:=k0) (q:=j)
   rw [List.append_assoc,← hn,← es] at hg3 ⊢
   refine zYB (zA:=((j+1:Nat):Int)) ?_ ⟨k' - 1,by omega,hN3,j+1,rfl,by omega,rfl,hg3⟩
   have:j=0∨j=1∨j=2∨j=3∨j=4:=by omega
   rcases this with rfl | rfl | rfl | rfl | rfl <;> rfl
  ·have:j=5:=by omega
   subst this
   exact yHH ⟨hN',rfl,hg'⟩ (by omega)
 refine zQ.newSl (yMR (zYH (Inv:=fun k' p' l' c' i τ'=>New σ1 τ'∧∃ j:Nat,i=j∧j+k'=m∧l'=(zEC w (zV rs) (zV ts) j).length∧Gr Pg τ' σ1.next 46 3 p' l' c' ((zEC w (zV rs) (zV ts) j).map zLT))
  (Q0:=fun p' l' c' τ'=>New σ1 τ'∧l'=(zEC w (zV rs) (zV ts) m).length∧Gr Pg τ' σ1.next 46 3 p' l' c' ((zEC w (zV rs) (zV ts) m).map zLT)) ?_ m none 0 0 0 _ ⟨by rw [← hσ1];exact New.refl _,0,rfl,by omega,by simp [zEC],by simpa [zEC] using Gr.nil⟩) ?_)
 ·rintro k' p' l' c' i τ' ⟨hN',j,rfl,hj,rfl,hg'⟩
  by_cases hjl:j<m
  ·have hrb:=yVX (w:=w) (ros:=zV rs) (tru:=zV ts) (k:=j)
   have hjm:j*(5*w.duties.length+1)≤6*(5*12+1):=Nat.mul_le_mul (by omega) (by omega)
   refine yHK (lV hN') (loop2 hjl (by omega) hN' hg') ?_ (by omega)
   rintro p3 l3 c3 τ3 ⟨hN3,rfl,hg3⟩
   have LL:Le σ τ3:=L1.trans hN3.le
   have cb:=yMQ (c:=c) (d:=d) (rc:=rc) (tc:=tc) (i:=0) (n:=0) (h.le LL) hs (SlV.le hr LL) (SlV.le ht LL) hts hjl
   have es:=yVW (w:=w) (ros:=zV rs) (tru:=zV ts) (k:=j)
   have hrd:=zUU (w:=w) (ros:=zV rs) (tru:=zV ts) (k:=j) (q:=5)
   have el:yFZ w (zV rs) (zV ts) j=if xF w (zV rs) (zV ts) 5 j 0 then [⟨5,j,0⟩] else []:=rfl
   cases hb:xF w (zV rs) (zV ts) 5 j 0 with
   | true =>
    rw [hb] at cb el
    rw [if_pos rfl] at el
    obtain ⟨q7,d7,τ4,g1,g2,g3⟩:=one ⟨5,j,0⟩ hN3 hg3 (by rw [List.length_append];omega)
    rw [List.append_assoc,← el,← es] at g1 g3
    exact zYD (lW hN3) cb g1 ⟨k' - 1,by omega,g2,j+1,by omega,by omega,rfl,g3⟩ (by omega)
   | false =>
    rw [hb] at cb el
    rw [if_neg (by simp)] at el
    rw [el,List.append_nil] at es
    rw [← es] at hg3 ⊢
    exact zYC (lW hN3) cb ⟨k' - 1,by omega,hN3,j+1,by omega,by omega,rfl,hg3⟩ (by omega)
  ·have:j=m:=by omega
   subst this
   exact yHJ (lV hN') ⟨hN',rfl,hg'⟩ (by omega)
 ·rintro p' l' c' τ' ⟨hN',rfl,hg'⟩
  refine zYE ⟨N1.trans hN',p',c',rfl,hg'.slv,fun b hb=>?_⟩
  have:=(hg'.bd hb).1
  have:=N1.nx
  show σ.re.next≤b
  omega
end
end Go.Proofs.YtgfiniccfpfplaaGreat

namespace Go.Proofs.YtgfiniccfpfplaaGreat
open Go Go.Lay
set_option linter.unusedVariables false
set_option linter.unusedSimpArgs false
set_option maxRecDepth 20000
def zSW (w:Wk) (rs:List Int):Bool:=rs.all (fun x=>inB x (-1) ((w.drivers.length:Int)-1)) && decide (rs.length=w.duties.length)
def zCX (w:Wk):List Int:=w.duties.map Dty.hi
section
variable {σ:St} {w:Wk} {p q r t:Option Addr} {l m c d rl rc tl tc:Nat} {rs ts:List Int} {td tv:Nat}
theorem yGI (h:WkP σ 92 76 w p l q m) (hr:yI σ r rl rs) (hl:rl≤1073741824) (hm:m≤1073741824):zE Tryz.prog 21 [.agg ⟨wkc w.days p l c q m d w.rest w.run w.hours⟩,.slice r rl rc] σ (.bool (zSW w rs)) σ:=by
 have hn:=h.len.1
 have hmm:=h.len.2
 have el:=hr.len
 obtain ⟨σ1,hσ1⟩:∃ σ1,σ1=σ.re.row (wkc w.days p l c q m d w.rest w.run w.hours) 6:=⟨_,rfl⟩
 have hk0:=xG σ.re (wkc w.days p l c q m d w.rest w.run w.hours) 6
 rw [← hσ1] at hk0
 have hr0:yI σ1 r rl rs:=by rw [hσ1];exact SlV.le hr ((le0 σ).trans (Le.row _ _ _))
 have lD:zB Tryz.prog σ1 22 ⟨σ.re.next,1,none⟩=some (.slice p l c):=hk0.ld wR rfl
 have lV:zB Tryz.prog σ1 23 ⟨σ.re.next,2,none⟩=some (.slice q m d):=hk0.ld uN rfl
 have low1:σ.next≤σ1.low:=by rw [hσ1];exact Nat.le_refl _
 refine (yCL (zTN (Inv:=fun k i τ=>τ=σ1∧∃ j:Nat,i=j∧j+k=rl∧(rs.take j).all (fun x=>inB x (-1) ((w.drivers.length:Int)-1))=true) (Qr:=fun b τ=>τ=σ1∧b=false∧zSW w rs=false)
  (Q0:=fun τ=>τ=σ1∧rs.all (fun x=>inB x (-1) ((w.drivers.length:Int)-1))=true) ?_ rl 0 _ ⟨hσ1.symm,0,rfl,by omega,rfl⟩) ?_ ?_).pure
 ·rintro k i τ ⟨rfl,j,rfl,hk,ha⟩
  by_cases hj:j<rl
  rotate_left
  ·exact zXQ ⟨rfl,by rwa [List.take_of_length_le (by omega)] at ha⟩ (by omega)
  obtain ⟨a,rfl,x,hx,lx⟩:=vR hr0 hj
  have cin:=yVZ (σ:=τ) (n:=x) (lo:=-1) (hi:=(m:Int)-1)
  cases hb:inB x (-1) ((m:Int)-1) with
  | true=>rw [hb] at cin;exact zXS lx lV cin ⟨k-1,by omega,rfl,j+1,by omega,by omega,zQM hx ha (by rw [hmm];exact hb)⟩ (by omega) (by omega) (by omega) (by omega)
  | false=>rw [hb] at cin;exact zXR lx lV cin ⟨rfl,rfl,by unfold zSW;rw [yEG (f:=fun x=>inB x (-1) ((w.drivers.length:Int)-1)) (List.mem_of_getElem? hx) (by rw [hmm];exact hb)];rfl⟩ (by omega) (by omega) (by omega)
 ·rintro b τ ⟨rfl,rfl,e⟩
  exact zTK ⟨by rw [e],low1⟩
 ·rintro τ ⟨rfl,e⟩
  by_cases hh:rl=l
  ·exact zTM lD ⟨by unfold zSW;rw [e,decide_eq_true (by omega)];rfl,low1⟩ (by omega)
  ·exact zTL lD ⟨by unfold zSW;rw [e,decide_eq_false (by omega)];rfl,low1⟩ (by omega)
theorem ySA (h:WkP σ 92 76 w p l q m) (hl:l≤1000):∃ p' c' σ',zE Tryz.prog 40 [.agg ⟨wkc w.days p l c q m d w.rest w.run w.hours⟩] σ (.slice p' l c') σ'∧New σ σ'∧yI σ' p' l (zCX w)∧∀ b,AtP p' b→σ.next≤b:=by
 have hn:=h.len.1
 obtain ⟨σ1,hσ1⟩:∃ σ1,σ1=σ.re.row (wkc w.days p l c q m d w.rest w.run w.hours) 6:=⟨_,rfl⟩
 have hk0:=xG σ.re (wkc w.days p l c q m d w.rest w.run w.hours) 6
 rw [← hσ1] at hk0
 have N1:New σ.re σ1:=by rw [hσ1];exact New.row _ _ _
 have L1:Le σ σ1:=(le0 σ).trans N1.le
 refine zQ.newSl (yLK (zXP (Inv:=fun k p' l' c' i τ=>New σ1 τ∧∃ j:Nat,i=j∧j+k=l∧l'=j∧Gr Tryz.prog τ σ1.next 3 1 p' l' c' (((zCX w).take j).map yC))
  (Q0:=fun p' l' c' τ=>New σ1 τ∧l'=l∧Gr Tryz.prog τ σ1.next 3 1 p' l' c' ((zCX w).map yC)) ?_ l none 0 0 0 _ ⟨by rw [← hσ1];exact New.refl _,0,rfl,by omega,rfl,Gr.nil⟩) ?_)
 ·rintro k p' l' c' i τ ⟨hN,j,rfl,hk,rfl,hg⟩
  have lD:zB Tryz.prog τ 22 ⟨σ.re.next,1,none⟩=some (.slice p l c):=(hk0.le hN.le).ld wR rfl
  by_cases hj:l' < l
  ·obtain ⟨a,rfl,l3⟩:=(h.le (L1.trans hN.le)).dld (i:=l') (k:=3) (n:=(dty w l').hi) hj (by omega) rfl
   obtain ⟨q7,d7,τ',g1,g2,g3,_,_⟩:=grow (yC (dty w l').hi) zDS hg hN (New.refl τ) (zBQ _) (by omega)
   have hx:(zCX w)[l']?=some (dty w l').hi:=by
    unfold zCX dty
    rw [List.getElem?_map,List.getD_eq_getElem?_getD,List.getElem?_eq_getElem (by omega)];rfl
   refine yGH lD l3 g1 ⟨k-1,by omega,g3,l'+1,by omega,by omega,rfl, ?_⟩ (by omega) (by omega) (by omega)
   rw [vS hx,List.map_append]
   exact g2
  ·have:l'=l:=by omega
   subst this
   refine yGG lD ⟨hN,rfl, ?_⟩ (by omega)
   rwa [List.take_of_length_le (by unfold zCX;rw [List.length_map];omega)] at hg
 ·rintro p' l' c' τ ⟨hN,rfl,hg⟩
  refine zXO ⟨N1.trans hN,p',c',rfl,hg.slv,fun b hb=>?_⟩
  have:=(hg.bd hb).1
  have:=N1.nx
  show σ.re.next≤b
  omega
end
end Go.Proofs.YtgfiniccfpfplaaGreat
