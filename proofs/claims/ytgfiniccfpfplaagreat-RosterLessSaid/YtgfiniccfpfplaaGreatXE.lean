import Derived.Test.YtgfiniccfpfplaaGreatXA
import Derived.Test.YtgfiniccfpfplaaGreatPF
import Derived.Test.YtgfiniccfpfplaaGreatTy
import Derived.Sort.AssemblyPlain
set_option linter.unusedVariables false
set_option linter.unusedSimpArgs false
set_option maxRecDepth 20000
namespace Go.Proofs.YtgfiniccfpfplaaGreat
open Go Go.Lay
open Tryz renaming prog → Pg
theorem zDB:AppT Pg 26 26 3 1:=zQH (by kernel_rfl)
theorem uV (x:Int):zHA Pg 3 1 (yA x):=.inl ⟨zT,rfl,rfl⟩
abbrev yI (σ:St) (p:Option Addr) (l:Nat) (xs:List Int):Prop:=SlV Pg σ 3 1 p l (xs.map yA)
theorem yI.len {σ:St} {p:Option Addr} {l:Nat} {xs:List Int} (h:yI σ p l xs):xs.length=l:=by have:=h.2.1;simpa using this
theorem vB {σ:St} {α:Type} {t n len i:Nat} {p:Option Addr} {xs:List α} {f:α→Value} (h:SlV Pg σ t n p len (xs.map f)) (hi:i<len):∃ a,p=some a∧∃ x,xs[i]?=some x∧zB Pg σ t (zL a (Int.toNat (i:Int)*n))=some (f x):=by
 obtain ⟨a,rfl,_⟩:=h.some hi;have hl:i<xs.length:=by have:=h.2.1;simp at this;omega
 exact ⟨a,rfl,xs[i],by simp,h.at rfl (by simp [hl])⟩
abbrev zBM (d:Dty):Value:=.agg ⟨zF d.day d.on d.lo d.hi d.route⟩
abbrev yBB (σ:St) (t:Nat) (p:Option Addr) (l:Nat) (xs:List Dty):Prop:=SlV Pg σ t 5 p l (xs.map zBM)
def zVA (σ:St) (v:Value) (x:Drv):Prop:=∃ p l c q m d r n e,v=.agg ⟨zO p l c q m d r n e x.off x.row x.used⟩∧yI σ p l x.knows∧yI σ q m x.leave∧yI σ r n x.wish
def zUR (σ:St) (t:Nat) (p:Option Addr) (l:Nat) (xs:List Drv):Prop:=∃ vs:List Value,SlV Pg σ t 6 p l vs∧xs.length=l∧∀ (i:Nat) (x:Drv),xs[i]?=some x→∃ v,vs[i]?=some v∧zVA σ v x
section
variable {σ σ':St} {td tv:Nat} {p q:Option Addr} {l m c d:Nat} {w:Wk}
theorem zVA.le {v:Value} {x:Drv} (h:zVA σ v x) (k:Le σ σ'):zVA σ' v x:=by
 obtain ⟨p,l,c,q,m,d,r,n,e,h1,h2,h3,h4⟩:=h;exact ⟨p,l,c,q,m,d,r,n,e,h1,h2.le k,h3.le k,h4.le k⟩
theorem zUR.le {xs:List Drv} (h:zUR σ tv p l xs) (k:Le σ σ'):zUR σ' tv p l xs:=by
 obtain ⟨vs,h1,h2,h3⟩:=h;exact ⟨vs,h1.le k,h2,fun i x hi=>by obtain ⟨v,g1,g2⟩:=h3 i x hi;exact ⟨v,g1,g2.le k⟩⟩
structure WkP (σ:St) (td tv:Nat) (w:Wk) (p:Option Addr) (l:Nat) (q:Option Addr) (m:Nat):Prop where
 dty:yBB σ td p l w.duties
 drv:zUR σ tv q m w.drivers
theorem WkP.le (h:WkP σ td tv w p l q m) (k:Le σ σ'):WkP σ' td tv w p l q m:=⟨h.dty.le k,h.drv.le k⟩
theorem WkP.len (h:WkP σ td tv w p l q m):w.duties.length=l∧w.drivers.length=m:=by
 have h1:=h.dty.2.1;exact ⟨by simpa using h1,h.drv.choose_spec.2.1⟩
theorem yEZ {n k:Nat} {x v:Value} (hk:k<n) (hv:x.cells.toList[k]?=some v):∀ {vs:List Value} {i:Nat},(∀ y∈vs,y.cells.toList.length=n)→vs[i]?=some x→(wY vs)[i*n+k]?=some v
 | [],i,_,h=>by simp at h
 | y::ys,0,hn,h=>by
  have:y=x:=by simpa using h
  subst this;have hl:=hn y List.mem_cons_self;simp only [wY,List.flatMap_cons,Nat.zero_mul,Nat.zero_add];rw [List.getElem?_append_left (by omega)];exact hv
 | y::ys,i+1,hn,h=>by
  have ih:=yEZ hk hv (vs:=ys) (i:=i) (fun z hz=>hn z (List.mem_cons_of_mem _ hz)) (by simpa using h);have hl:=hn y List.mem_cons_self;have e:(i+1)*n+k=y.cells.toList.length+(i*n+k):=by rw [hl,Nat.add_mul,Nat.one_mul];omega
  simp only [wY,List.flatMap_cons] at ih ⊢;rw [e,List.getElem?_append_right (by omega),Nat.add_sub_cancel_left];exact ih
theorem WkP.vld (h:WkP σ td tv w p l q m) (ht:wH Pg tv=some true) (hs:yT Pg tv=some 6) {i:Nat} (hi:i<m):∃ a,q=some a∧∃ p l c r n d s j e,zB Pg σ tv (zL a (Int.toNat (i:Int)*6))=some (.agg ⟨zO p l c r n d s j e (Go.Proofs.YtgfiniccfpfplaaGreat.drv w i).off (Go.Proofs.YtgfiniccfpfplaaGreat.drv w i).row (Go.Proofs.YtgfiniccfpfplaaGreat.drv w i).used⟩) ∧
  yI σ p l (Go.Proofs.YtgfiniccfpfplaaGreat.drv w i).knows∧yI σ r n (Go.Proofs.YtgfiniccfpfplaaGreat.drv w i).leave∧yI σ s j (Go.Proofs.YtgfiniccfpfplaaGreat.drv w i).wish ∧
  ∀ (k:Nat) (v:Value),(zO p l c r n d s j e (Go.Proofs.YtgfiniccfpfplaaGreat.drv w i).off (Go.Proofs.YtgfiniccfpfplaaGreat.drv w i).row (Go.Proofs.YtgfiniccfpfplaaGreat.drv w i).used)[k]?=some v→∀ t,wH Pg t=some false→zB Pg σ t (zL a (Int.toNat (i:Int)*6+k))=some v:=by
 obtain ⟨vs,h1,h2,h3⟩:=h.drv;obtain ⟨a,rfl,hr⟩:=h1.some hi;have hx:w.drivers[i]?=some (Go.Proofs.YtgfiniccfpfplaaGreat.drv w i):=by
  unfold Go.Proofs.YtgfiniccfpfplaaGreat.drv;rw [List.getD_eq_getElem?_getD,List.getElem?_eq_getElem (by omega)];rfl
 obtain ⟨v,g1,p,l,c,r,n,d,s,j,e,rfl,g2,g3,g4⟩:=h3 i _ hx;refine ⟨a,rfl,p,l,c,r,n,d,s,j,e,h1.at rfl g1,g2,g3,g4, ?_⟩
 intro k v hk t htt;rw [Int.toNat_natCast];refine hr.load1 htt ?_
 have hk6:k<6:=by
  rcases Nat.lt_or_ge k 6 with h | h
  ·exact h
  ·rw [List.getElem?_eq_none (by simpa using h)] at hk;cases hk
 exact yEZ hk6 (by exact hk) (fun y hy=>(h1.2.2 y hy).len) g1
theorem zIE {n lo hi:Int}:zD Pg 47 [iV n,iV lo,iV hi] σ (.bool (inB n lo hi)) σ:=by
 by_cases h1:lo≤n <;> by_cases h2:n≤hi
 ·exact (xAL ⟨by simp [inB,h1,h2],Nat.le_refl _⟩).pure
 ·exact (xAK ⟨by simp [inB,h1,h2],Nat.le_refl _⟩).pure
 ·exact (yCD ⟨by simp [inB,h1],Nat.le_refl _⟩).pure
 ·exact (yCD ⟨by simp [inB,h1],Nat.le_refl _⟩).pure
theorem xHS {n lo hi:Int}:zD Pg 33 [iV n,iV lo,iV hi] σ (.bool (inB n lo hi)) σ:=by
 by_cases h1:lo≤n <;> by_cases h2:n≤hi
 ·exact (xUS ⟨by simp [inB,h1,h2],Nat.le_refl _⟩).pure
 ·exact (xUR ⟨by simp [inB,h1,h2],Nat.le_refl _⟩).pure
 ·exact (xHR ⟨by simp [inB,h1],Nat.le_refl _⟩).pure
 ·exact (xHR ⟨by simp [inB,h1],Nat.le_refl _⟩).pure
theorem xYI {xs:List Int} {n:Int} (h:yI σ p l xs) (hl:l≤1073741824):zD Pg 43 [.slice p l c,iV n] σ (.bool (xs.contains n)) σ:=by
 have h1:=h.re;have e1:=h.len;refine (xPV (yRV (Inv:=fun k i τ=>τ=σ.re∧∃ j:Nat,i=j∧j+k=l∧n ∉ xs.take j) (Qr:=fun b τ=>τ=σ.re∧b=true∧n∈xs) (Q0:=fun τ=>τ=σ.re∧n ∉ xs) ?_ l 0 σ.re ⟨rfl,0,rfl,by omega,by simp⟩) ?_ ?_).pure
 ·rintro k i τ ⟨rfl,j,rfl,hk,he⟩;by_cases hi:j<l
  ·obtain ⟨a,rfl,x,hx,l1⟩:=vB h1 hi;by_cases hxy:x=n
   ·exact xHV l1 ⟨rfl,rfl,hxy ▸ List.mem_of_getElem? hx⟩
   ·exact xHU l1 ⟨k-1,by omega,rfl,j+1,by omega,by omega,by rw [wO hx,List.mem_append];simp;exact ⟨he,fun e=>hxy e.symm⟩⟩
  ·rw [List.take_of_length_le (by omega)] at he;exact xHT ⟨rfl,he⟩
 ·rintro b τ ⟨rfl,rfl,hn⟩;exact yRT ⟨by simp [hn],Nat.le_refl _⟩
 ·rintro τ ⟨rfl,hn⟩;exact yRU ⟨by simp [hn],Nat.le_refl _⟩
def wU (xs:List Int) (lo hi:Int):Bool:=(List.range xs.length).all fun i=>inB (xs.getD i 0) lo hi && (i == 0 || decide (xs.getD (i-1) 0<xs.getD i 0))
theorem yN {xs:List Int} {i:Nat} {x:Int} (h:xs[i]?=some x):xs.getD i 0=x:=by rw [List.getD_eq_getElem?_getD,h];rfl
theorem zCV {f:Nat→Bool} {n:Nat}:(List.range n).all f=true↔∀ i,i<n→f i=true:=by simp
theorem zXG {xs:List Int} {lo hi:Int} (h:yI σ p l xs) (hl:l≤1073741824):zD Pg 42 [.slice p l c,iV lo,iV hi] σ (.bool (wU xs lo hi)) σ:=by
 have h1:=h.re;have e1:=h.len;have no:∀ j,j<l→(inB (xs.getD j 0) lo hi && (j == 0 || decide (xs.getD (j-1) 0<xs.getD j 0)))=false→wU xs lo hi=false:=by
  intro j hj hf;cases hr:wU xs lo hi with
  | false=>rfl
  | true=>rw [zCV.1 hr j (by omega)] at hf;cases hf
 refine (xBL (yGX (Inv:=fun k i τ=>τ=σ.re∧∃ j:Nat,i=j∧j+k=l∧∀ i,i<j→(inB (xs.getD i 0) lo hi && (i == 0 || decide (xs.getD (i-1) 0<xs.getD i 0)))=true) (Qr:=fun b τ=>τ=σ.re∧b=false∧wU xs lo hi=false) (Q0:=fun τ=>τ=σ.re∧wU xs lo hi=true) ?_ l 0 σ.re ⟨rfl,0,rfl,by omega,fun i h=>by omega⟩) ?_ ?_).pure
 ·rintro k i τ ⟨rfl,j,rfl,hk,he⟩;by_cases hj:j<l
  ·obtain ⟨a,rfl,x,hx,l1⟩:=vB h1 hj;have cin:=xHS (σ:=σ.re) (n:=x) (lo:=lo) (hi:=hi);have gx:=yN hx;cases hb:inB x lo hi with
   | false =>
    rw [hb] at cin
    exact yRO l1 cin ⟨rfl,rfl,no j hj (by rw [gx,hb];rfl)⟩
   | true =>
    rw [hb] at cin
    by_cases h0:0<j
    ·obtain ⟨a',ea,y,hy,l2⟩:=vB h1 (show j-1<l by omega);cases ea
     have gy:=yN hy;have e:((j:Int)-1)=((j-1:Nat):Int):=by omega
     rw [← e] at l2;by_cases hxy:x≤y
     ·exact yRR l1 cin l2 ⟨rfl,rfl,no j hj (by rw [gx,gy,hb];simp;omega)⟩
     ·refine yRQ l1 cin l2 ⟨k-1,by omega,rfl,j+1,by omega,by omega, ?_⟩;intro i hi2;by_cases e2:i=j
      ·subst e2;rw [gx,gy,hb];simp;omega
      ·exact he i (by omega)
    ·refine yRP l1 cin ⟨k-1,by omega,rfl,j+1,by omega,by omega, ?_⟩
     intro i hi2;have e2:i=j:=by omega
     subst e2;have:i=0:=by omega
     rw [gx,hb,this];rfl
  ·exact yRN ⟨rfl,zCV.2 fun i hi2=>he i (by omega)⟩
 ·rintro b τ ⟨rfl,rfl,hn⟩;exact yGV ⟨by rw [hn],Nat.le_refl _⟩
 ·rintro τ ⟨rfl,hn⟩;exact yGW ⟨by rw [hn],Nat.le_refl _⟩
theorem yGR {xs:List Int} {lo hi:Int} (h:yI σ p l xs) (hl:l≤1073741824):zD Pg 71 [.slice p l c,iV lo,iV hi] σ (.bool (wU xs lo hi)) σ:=by
 have h1:=h.re;have e1:=h.len;have no:∀ j,j<l→(inB (xs.getD j 0) lo hi && (j == 0 || decide (xs.getD (j-1) 0<xs.getD j 0)))=false→wU xs lo hi=false:=by
  intro j hj hf;cases hr:wU xs lo hi with
  | false=>rfl
  | true=>rw [zCV.1 hr j (by omega)] at hf;cases hf
 refine (xHJ (yKX (Inv:=fun k i τ=>τ=σ.re∧∃ j:Nat,i=j∧j+k=l∧∀ i,i<j→(inB (xs.getD i 0) lo hi && (i == 0 || decide (xs.getD (i-1) 0<xs.getD i 0)))=true) (Qr:=fun b τ=>τ=σ.re∧b=false∧wU xs lo hi=false) (Q0:=fun τ=>τ=σ.re∧wU xs lo hi=true) ?_ l 0 σ.re ⟨rfl,0,rfl,by omega,fun i h=>by omega⟩) ?_ ?_).pure
 ·rintro k i τ ⟨rfl,j,rfl,hk,he⟩;by_cases hj:j<l
  ·obtain ⟨a,rfl,x,hx,l1⟩:=vB h1 hj;have cin:=zIE (σ:=σ.re) (n:=x) (lo:=lo) (hi:=hi);have gx:=yN hx;cases hb:inB x lo hi with
   | false =>
    rw [hb] at cin
    exact xBF l1 cin ⟨rfl,rfl,no j hj (by rw [gx,hb];rfl)⟩
   | true =>
    rw [hb] at cin
    by_cases h0:0<j
    ·obtain ⟨a',ea,y,hy,l2⟩:=vB h1 (show j-1<l by omega);cases ea
     have gy:=yN hy;have e:((j:Int)-1)=((j-1:Nat):Int):=by omega
     rw [← e] at l2;by_cases hxy:x≤y
     ·exact xBI l1 cin l2 ⟨rfl,rfl,no j hj (by rw [gx,gy,hb];simp;omega)⟩
     ·refine xBH l1 cin l2 ⟨k-1,by omega,rfl,j+1,by omega,by omega, ?_⟩;intro i hi2;by_cases e2:i=j
      ·subst e2;rw [gx,gy,hb];simp;omega
      ·exact he i (by omega)
    ·refine xBG l1 cin ⟨k-1,by omega,rfl,j+1,by omega,by omega, ?_⟩
     intro i hi2;have e2:i=j:=by omega
     subst e2;have:i=0:=by omega
     rw [gx,hb,this];rfl
  ·exact xBE ⟨rfl,zCV.2 fun i hi2=>he i (by omega)⟩
 ·rintro b τ ⟨rfl,rfl,hn⟩;exact yKV ⟨by rw [hn],Nat.le_refl _⟩
 ·rintro τ ⟨rfl,hn⟩;exact yKW ⟨by rw [hn],Nat.le_refl _⟩
end
section
noncomputable section
variable (BA:Nat) (q0:St→Prop) (aW dN i2_2 aH:Int) (Q:Int→St→Prop) (σ:St) (Nx Qr:Int→St→Prop) (q1:vPa) (Q2 Q0:St→Prop)
def yCV:Code:=(Code.part [1,1,1,0,1,0,0] (qh 55))
def zFH:lNa:=[(1,pt BA 0),(3,iV aW)]
def ySM:Alt:=⟨Int,.normal,fun t=>zFH BA t,fun t=>[],fun t σ=>Q t σ⟩
def zTH (BA:Nat) (aH:Int):lNa:=[(2,iV aH)]
def zIZ:Alt:=⟨Int,.ret,fun t=>zTH BA t,fun t=>[],fun t σ=>Q t σ⟩
def zTI:lNa:=[(1,pt BA 0)]
def zJA:Alt:=⟨Unit,(.exit 0),fun t=>zTI BA,fun t=>[],fun t σ=>q0 σ⟩
def zAG:Prop:=qi qj none yCV 145 (zFH BA aW) [] [ySM BA Nx,zIZ BA Qr,zJA BA Q0] σ
def yCX:Prop:=qk qj none yCV 145 (zFH BA aW) [] [zIZ BA Qr,zJA BA Q0] σ
def zTL:Prop:=kZ qj (qh 55) [1,1,1,0,1,0] (ql 55 q1) .ret 145 (zTH BA aH) σ
def zTM:Prop:=kZ qj (qh 55) [1,1,1,0,1,0] (ql 55 q1) (.exit 0) 145 (zTI BA) σ
def yCU:Code:=(Code.part [1,1,1,1,0,1,0,0] (qh 55))
def zFG:lNa:=[(1,pt BA 0),(5,iV dN)]
def ySL:Alt:=⟨Int,.normal,fun t=>zFG BA t,fun t=>[],fun t σ=>Q t σ⟩
def zTF (BA:Nat) (i2_2:Int):lNa:=[(2,iV i2_2)]
def zIX:Alt:=⟨Int,.ret,fun t=>zTF BA t,fun t=>[],fun t σ=>Q t σ⟩
def zTG (BA:Nat):lNa:=[]
def zIY:Alt:=⟨Unit,(.exit 2),fun t=>zTG BA,fun t=>[],fun t σ=>q0 σ⟩
def uM:Prop:=qi qj none yCU 145 (zFG BA dN) [] [ySL BA Nx,zIX BA Qr,zIY BA Q2] σ
def yCW:Prop:=qk qj none yCU 145 (zFG BA dN) [] [zIX BA Qr,zIY BA Q2] σ
def zTJ:Prop:=kZ qj (qh 55) [1,1,1,1,0,1,0] (ql 55 q1) .ret 145 (zTF BA i2_2) σ
def zTK:Prop:=kZ qj (qh 55) [1,1,1,1,0,1,0] (ql 55 q1) (.exit 2) 145 (zTG BA) σ
end
variable {ak ao au aj aW nG nD nB nA nF nK aH dN nH nI nJ nN nGC i2_2:Int} {af ae qE qB qA qC qH:oAa} {ac ad aa ab BA lF cF lI cI lB cB lA cA lE cD:Nat} {σ:St} {Q:vPa} {Inv:Nat→Int→St→Prop} {Qr Nx Pr:Int→St→Prop} {Q0 P0 Q2 P2:St→Prop} {dQ eH:Addr}
theorem xBS (nx:Q (iV 3) (σ.row (wkc ak af ac ad ae aa ab ao au aj) 6)) (u1:12<(ac:Int):=by omega):qg 55 [qf (wkc ak af ac ad ae aa ab ao au aj)] σ Q :=
 zG [.g,.g,.g,.l (.slice af ac ad),.g,.b true,.g,.g,.g] (kd (an2 ((zC _ _ _).rw.ld zAW (k:=1) rfl:lz (σ.row (wkc ak af ac ad ae aa ab ao au aj) 6) 22 (qe σ.y 1) (.slice af ac ad)) (zR u1) nx))
theorem xBR:let y0:=wkc ak af ac ad ae aa ab ao au aj;∀ (nx:Q (iV 3) (σ.row y0 6)) (u1:¬ 12<(ac:Int):=by omega) (u2:6<(aa:Int):=by omega),qg 55 [qf y0] σ Q :=
 let s1:=σ.row (wkc ak af ac ad ae aa ab ao au aj) 6;fun nx u1 u2=>zG [.g,.g,.g,.l (.slice af ac ad),.g,.b false,.g,.g,.l (.slice ae aa ab),.g,.b true,.g,.g] (kd (an4 ((zC _ _ _).rw.ld zAW (k:=1) rfl:lz s1 22 (qe σ.y 1) (.slice af ac ad)) (zU u1) ((zC _ _ _).rw.ld zEO (k:=2) rfl:lz s1 23 (qe σ.y 2) (.slice ae aa ab)) (zR u2) nx))
theorem yHE (hb:∀ k aW σ,Inv k aW σ→zAG BA aW σ (NX1 Inv k) Qr Q0):∀ k aW σ,Inv k aW σ→yCX BA aW σ Qr Q0 :=
 xE (ai zAN (ai (wA 0) trivial)) hb
theorem ySK:let s1:=σ.row (zF 0 0 0 0 0) 5;let s2:=s1.own σ.y (zF nG nD nB nA nF) 5;∀ (h1:lz σ 22 (qe BA 1) (.slice (some dQ) lF cF)) (h2:lz σ 92 (zL dQ (Int.toNat aW*5)) (qf (zF nG nD nB nA nF))) (h3:lz s2 3 (qe BA 0) (iV nK)) (h4:qm 33 [iV nG,iV 0,iV (nK-1)] s2 (.bool true) s2) (h5:qm 33 [iV nD,iV 0,iV 1439] s2 (.bool true) s2) (h6:qm 33 [iV nB,iV nD,iV nA] s2 (.bool true) s2) (nx:Qr (1:Int) s2) (u1:aW<(lF:Int):=by omega) (u2:Ix aW lF:=by omega) (u3:I6 (nK-1):=by omega) (u4:I6 (nD+1440):=by omega) (u5:(nD+1440)<nA:=by omega),zAG BA aW σ Nx Qr Q0:=
 let s1:=σ.row (zF 0 0 0 0 0) 5;let s2:=s1.own σ.y (zF nG nD nB nA nF) 5;fun h1 h2 h3 h4 h5 h6 nx u1 u2 u3 u4 u5=>kO 1 (1:Int) [.g,.g,.l (.slice (some dQ) lF cF),.g,.b true,.g,.l (.slice (some dQ) lF cF),.g,.i,.l (qf (zF nG nD nB nA nF)),.g,.e undef s2,.g,.l (iV nG),.g,.l (iV nK),.n (nK-1),.c (.bool true) s2,.g,.g,.g,.l (iV nD),.c (.bool true) s2,.g,.g,.g,.g,.g,.l (iV nB),.g,.l (iV nD),.g,.g,.l (iV nA),.c (.bool true) s2,.g,.g,.g,.g,.g,.l (iV nA),.g,.l (iV nD),.n (nD+1440),.b true,.g,.g,.g,.g] (fun _ f=>an2 h1 (zR u1) (an6 h1 u2 h2 ((zC _ _ _).store (vs:=(zF nG nD nB nA nF)) rfl zIJ rfl (nle rfl) rfl:qn (evL [pt σ.y 0,qf (zF nG nD nB nA nF)]) s1 (.store 92 (.tmp 0) (.tmp 1))=some (undef,s2)) ((zC _ _ _).put.rw.ld zT (k:=0) rfl:lz s2 3 (qe σ.y 0) (iV nG)) h3 (an6 (w64 u3) h4 ((zC _ _ _).put.rw.ld zT (k:=1) rfl:lz s2 3 (qe σ.y 1) (iV nD)) h5 ((zC _ _ _).put.rw.ld zT (k:=2) rfl:lz s2 3 (qe σ.y 2) (iV nB)) ((zC _ _ _).put.rw.ld zT (k:=1) rfl:lz s2 3 (qe σ.y 1) (iV nD)) (an6 ((zC _ _ _).put.rw.ld zT (k:=3) rfl:lz s2 3 (qe σ.y 3) (iV nA)) h6 ((zC _ _ _).put.rw.ld zT (k:=3) rfl:lz s2 3 (qe σ.y 3) (iV nA)) ((zC _ _ _).put.rw.ld zT (k:=1) rfl:lz s2 3 (qe σ.y 1) (iV nD)) (w64 u4) (zR u5) f)))) nx
theorem ySJ:let s1:=σ.row (zF 0 0 0 0 0) 5;let s2:=s1.own σ.y (zF nG nD nB nA nF) 5;∀ (h1:lz σ 22 (qe BA 1) (.slice (some dQ) lF cF)) (h2:lz σ 92 (zL dQ (Int.toNat aW*5)) (qf (zF nG nD nB nA nF))) (h3:lz s2 3 (qe BA 0) (iV nK)) (h4:qm 33 [iV nG,iV 0,iV (nK-1)] s2 (.bool true) s2) (h5:qm 33 [iV nD,iV 0,iV 1439] s2 (.bool true) s2) (h6:qm 33 [iV nB,iV nD,iV nA] s2 (.bool true) s2) (h7:qm 33 [iV nF,iV 0,iV 15] s2 (.bool true) s2) (nx:Nx (aW+1) s2) (u1:aW<(lF:Int):=by omega) (u2:Ix aW lF:=by omega) (u3:I6 (nK-1):=by omega) (u4:I6 (nD+1440):=by omega) (u5:¬ (nD+1440)<nA:=by omega) (u6:I6 (aW+1):=by omega),zAG BA aW σ Nx Qr Q0:=
 let s1:=σ.row (zF 0 0 0 0 0) 5;let s2:=s1.own σ.y (zF nG nD nB nA nF) 5;fun h1 h2 h3 h4 h5 h6 h7 nx u1 u2 u3 u4 u5 u6=>kO 0 (aW+1) [.g,.g,.l (.slice (some dQ) lF cF),.g,.b true,.g,.l (.slice (some dQ) lF cF),.g,.i,.l (qf (zF nG nD nB nA nF)),.g,.e undef s2,.g,.l (iV nG),.g,.l (iV nK),.n (nK-1),.c (.bool true) s2,.g,.g,.g,.l (iV nD),.c (.bool true) s2,.g,.g,.g,.g,.g,.l (iV nB),.g,.l (iV nD),.g,.g,.l (iV nA),.c (.bool true) s2,.g,.g,.g,.g,.g,.l (iV nA),.g,.l (iV nD),.n (nD+1440),.b false,.g,.g,.g,.l (iV nF),.c (.bool true) s2,.g,.g,.g,.n (aW+1),.g] (fun _ f=>an5 h1 (zR u1) h1 u2 h2 (an6 ((zC _ _ _).store (vs:=(zF nG nD nB nA nF)) rfl zIJ rfl (nle rfl) rfl:qn (evL [pt σ.y 0,qf (zF nG nD nB nA nF)]) s1 (.store 92 (.tmp 0) (.tmp 1))=some (undef,s2)) ((zC _ _ _).put.rw.ld zT (k:=0) rfl:lz s2 3 (qe σ.y 0) (iV nG)) h3 (w64 u3) h4 ((zC _ _ _).put.rw.ld zT (k:=1) rfl:lz s2 3 (qe σ.y 1) (iV nD)) (an6 h5 ((zC _ _ _).put.rw.ld zT (k:=2) rfl:lz s2 3 (qe σ.y 2) (iV nB)) ((zC _ _ _).put.rw.ld zT (k:=1) rfl:lz s2 3 (qe σ.y 1) (iV nD)) ((zC _ _ _).put.rw.ld zT (k:=3) rfl:lz s2 3 (qe σ.y 3) (iV nA)) h6 ((zC _ _ _).put.rw.ld zT (k:=3) rfl:lz s2 3 (qe σ.y 3) (iV nA)) (an6 ((zC _ _ _).put.rw.ld zT (k:=1) rfl:lz s2 3 (qe σ.y 1) (iV nD)) (w64 u4) (zU u5) ((zC _ _ _).put.rw.ld zT (k:=4) rfl:lz s2 3 (qe σ.y 4) (iV nF)) h7 (w64 u6) f)))) nx
theorem ySI:let s1:=σ.row (zF 0 0 0 0 0) 5;let s2:=s1.own σ.y (zF nG nD nB nA nF) 5;∀ (h1:lz σ 22 (qe BA 1) (.slice (some dQ) lF cF)) (h2:lz σ 92 (zL dQ (Int.toNat aW*5)) (qf (zF nG nD nB nA nF))) (h3:lz s2 3 (qe BA 0) (iV nK)) (h4:qm 33 [iV nG,iV 0,iV (nK-1)] s2 (.bool true) s2) (h5:qm 33 [iV nD,iV 0,iV 1439] s2 (.bool true) s2) (h6:qm 33 [iV nB,iV nD,iV nA] s2 (.bool true) s2) (h7:qm 33 [iV nF,iV 0,iV 15] s2 (.bool false) s2) (nx:Qr (1:Int) s2) (u1:aW<(lF:Int):=by omega) (u2:Ix aW lF:=by omega) (u3:I6 (nK-1):=by omega) (u4:I6 (nD+1440):=by omega) (u5:¬ (nD+1440)<nA:=by omega),zAG BA aW σ Nx Qr Q0:=
 let s1:=σ.row (zF 0 0 0 0 0) 5;let s2:=s1.own σ.y (zF nG nD nB nA nF) 5;fun h1 h2 h3 h4 h5 h6 h7 nx u1 u2 u3 u4 u5=>kO 1 (1:Int) [.g,.g,.l (.slice (some dQ) lF cF),.g,.b true,.g,.l (.slice (some dQ) lF cF),.g,.i,.l (qf (zF nG nD nB nA nF)),.g,.e undef s2,.g,.l (iV nG),.g,.l (iV nK),.n (nK-1),.c (.bool true) s2,.g,.g,.g,.l (iV nD),.c (.bool true) s2,.g,.g,.g,.g,.g,.l (iV nB),.g,.l (iV nD),.g,.g,.l (iV nA),.c (.bool true) s2,.g,.g,.g,.g,.g,.l (iV nA),.g,.l (iV nD),.n (nD+1440),.b false,.g,.g,.g,.l (iV nF),.c (.bool false) s2,.g,.g,.g] (fun _ f=>an4 h1 (zR u1) h1 u2 (an6 h2 ((zC _ _ _).store (vs:=(zF nG nD nB nA nF)) rfl zIJ rfl (nle rfl) rfl:qn (evL [pt σ.y 0,qf (zF nG nD nB nA nF)]) s1 (.store 92 (.tmp 0) (.tmp 1))=some (undef,s2)) ((zC _ _ _).put.rw.ld zT (k:=0) rfl:lz s2 3 (qe σ.y 0) (iV nG)) h3 (w64 u3) h4 (an6 ((zC _ _ _).put.rw.ld zT (k:=1) rfl:lz s2 3 (qe σ.y 1) (iV nD)) h5 ((zC _ _ _).put.rw.ld zT (k:=2) rfl:lz s2 3 (qe σ.y 2) (iV nB)) ((zC _ _ _).put.rw.ld zT (k:=1) rfl:lz s2 3 (qe σ.y 1) (iV nD)) ((zC _ _ _).put.rw.ld zT (k:=3) rfl:lz s2 3 (qe σ.y 3) (iV nA)) h6 (an6 ((zC _ _ _).put.rw.ld zT (k:=3) rfl:lz s2 3 (qe σ.y 3) (iV nA)) ((zC _ _ _).put.rw.ld zT (k:=1) rfl:lz s2 3 (qe σ.y 1) (iV nD)) (w64 u4) (zU u5) ((zC _ _ _).put.rw.ld zT (k:=4) rfl:lz s2 3 (qe σ.y 4) (iV nF)) h7 f)))) nx
theorem ySH:let s1:=σ.row (zF 0 0 0 0 0) 5;let s2:=s1.own σ.y (zF nG nD nB nA nF) 5;∀ (h1:lz σ 22 (qe BA 1) (.slice (some dQ) lF cF)) (h2:lz σ 92 (zL dQ (Int.toNat aW*5)) (qf (zF nG nD nB nA nF))) (h3:lz s2 3 (qe BA 0) (iV nK)) (h4:qm 33 [iV nG,iV 0,iV (nK-1)] s2 (.bool true) s2) (h5:qm 33 [iV nD,iV 0,iV 1439] s2 (.bool true) s2) (h6:qm 33 [iV nB,iV nD,iV nA] s2 (.bool false) s2) (nx:Qr (1:Int) s2) (u1:aW<(lF:Int):=by omega) (u2:Ix aW lF:=by omega) (u3:I6 (nK-1):=by omega),zAG BA aW σ Nx Qr Q0:=
 let s1:=σ.row (zF 0 0 0 0 0) 5;let s2:=s1.own σ.y (zF nG nD nB nA nF) 5;fun h1 h2 h3 h4 h5 h6 nx u1 u2 u3=>kO 1 (1:Int) [.g,.g,.l (.slice (some dQ) lF cF),.g,.b true,.g,.l (.slice (some dQ) lF cF),.g,.i,.l (qf (zF nG nD nB nA nF)),.g,.e undef s2,.g,.l (iV nG),.g,.l (iV nK),.n (nK-1),.c (.bool true) s2,.g,.g,.g,.l (iV nD),.c (.bool true) s2,.g,.g,.g,.g,.g,.l (iV nB),.g,.l (iV nD),.g,.g,.l (iV nA),.c (.bool false) s2,.g,.g,.g,.g,.g,.g,.g] (fun _ f=>an4 h1 (zR u1) h1 u2 (an6 h2 ((zC _ _ _).store (vs:=(zF nG nD nB nA nF)) rfl zIJ rfl (nle rfl) rfl:qn (evL [pt σ.y 0,qf (zF nG nD nB nA nF)]) s1 (.store 92 (.tmp 0) (.tmp 1))=some (undef,s2)) ((zC _ _ _).put.rw.ld zT (k:=0) rfl:lz s2 3 (qe σ.y 0) (iV nG)) h3 (w64 u3) h4 (an6 ((zC _ _ _).put.rw.ld zT (k:=1) rfl:lz s2 3 (qe σ.y 1) (iV nD)) h5 ((zC _ _ _).put.rw.ld zT (k:=2) rfl:lz s2 3 (qe σ.y 2) (iV nB)) ((zC _ _ _).put.rw.ld zT (k:=1) rfl:lz s2 3 (qe σ.y 1) (iV nD)) ((zC _ _ _).put.rw.ld zT (k:=3) rfl:lz s2 3 (qe σ.y 3) (iV nA)) h6 f))) nx
theorem ySG:let s1:=σ.row (zF 0 0 0 0 0) 5;let s2:=s1.own σ.y (zF nG nD nB nA nF) 5;∀ (h1:lz σ 22 (qe BA 1) (.slice (some dQ) lF cF)) (h2:lz σ 92 (zL dQ (Int.toNat aW*5)) (qf (zF nG nD nB nA nF))) (h3:lz s2 3 (qe BA 0) (iV nK)) (h4:qm 33 [iV nG,iV 0,iV (nK-1)] s2 (.bool true) s2) (h5:qm 33 [iV nD,iV 0,iV 1439] s2 (.bool false) s2) (nx:Qr (1:Int) s2) (u1:aW<(lF:Int):=by omega) (u2:Ix aW lF:=by omega) (u3:I6 (nK-1):=by omega),zAG BA aW σ Nx Qr Q0:=
 let s1:=σ.row (zF 0 0 0 0 0) 5;let s2:=s1.own σ.y (zF nG nD nB nA nF) 5;fun h1 h2 h3 h4 h5 nx u1 u2 u3=>kO 1 (1:Int) [.g,.g,.l (.slice (some dQ) lF cF),.g,.b true,.g,.l (.slice (some dQ) lF cF),.g,.i,.l (qf (zF nG nD nB nA nF)),.g,.e undef s2,.g,.l (iV nG),.g,.l (iV nK),.n (nK-1),.c (.bool true) s2,.g,.g,.g,.l (iV nD),.c (.bool false) s2,.g,.g,.g,.g,.g,.g,.g,.g,.g] (fun _ f=>an6 h1 (zR u1) h1 u2 h2 ((zC _ _ _).store (vs:=(zF nG nD nB nA nF)) rfl zIJ rfl (nle rfl) rfl:qn (evL [pt σ.y 0,qf (zF nG nD nB nA nF)]) s1 (.store 92 (.tmp 0) (.tmp 1))=some (undef,s2)) (an6 ((zC _ _ _).put.rw.ld zT (k:=0) rfl:lz s2 3 (qe σ.y 0) (iV nG)) h3 (w64 u3) h4 ((zC _ _ _).put.rw.ld zT (k:=1) rfl:lz s2 3 (qe σ.y 1) (iV nD)) h5 f)) nx
theorem ySF:let s1:=σ.row (zF 0 0 0 0 0) 5;let s2:=s1.own σ.y (zF nG nD nB nA nF) 5;∀ (h1:lz σ 22 (qe BA 1) (.slice (some dQ) lF cF)) (h2:lz σ 92 (zL dQ (Int.toNat aW*5)) (qf (zF nG nD nB nA nF))) (h3:lz s2 3 (qe BA 0) (iV nK)) (h4:qm 33 [iV nG,iV 0,iV (nK-1)] s2 (.bool false) s2) (nx:Qr (1:Int) s2) (u1:aW<(lF:Int):=by omega) (u2:Ix aW lF:=by omega) (u3:I6 (nK-1):=by omega),zAG BA aW σ Nx Qr Q0:=
 let s1:=σ.row (zF 0 0 0 0 0) 5;let s2:=s1.own σ.y (zF nG nD nB nA nF) 5;fun h1 h2 h3 h4 nx u1 u2 u3=>kO 1 (1:Int) [.g,.g,.l (.slice (some dQ) lF cF),.g,.b true,.g,.l (.slice (some dQ) lF cF),.g,.i,.l (qf (zF nG nD nB nA nF)),.g,.e undef s2,.g,.l (iV nG),.g,.l (iV nK),.n (nK-1),.c (.bool false) s2,.g,.g,.g,.g,.g,.g,.g,.g,.g,.g] (fun _ f=>an4 h1 (zR u1) h1 u2 (an6 h2 ((zC _ _ _).store (vs:=(zF nG nD nB nA nF)) rfl zIJ rfl (nle rfl) rfl:qn (evL [pt σ.y 0,qf (zF nG nD nB nA nF)]) s1 (.store 92 (.tmp 0) (.tmp 1))=some (undef,s2)) ((zC _ _ _).put.rw.ld zT (k:=0) rfl:lz s2 3 (qe σ.y 0) (iV nG)) h3 (w64 u3) h4 f)) nx
theorem ySE (h1:lz σ 22 (qe BA 1) (.slice qE lF cF)) (nx:Q0 σ) (u1:¬ aW<(lF:Int):=by omega):zAG BA aW σ Nx Qr Q0 :=
 kO 2 () [.g,.g,.l (.slice qE lF cF),.g,.b false] (fun _ f=>an2 h1 (zU u1) f) nx
theorem xBQ:let s1:=σ.row (wkc ak af ac ad ae aa ab ao au aj) 6;∀ (h1:qm 33 [iV ak,iV 1,iV 7] s1 (.bool true) s1) (h2:qm 33 [iV ao,iV 0,iV 3000] s1 (.bool true) s1) (h3:qm 33 [iV au,iV 1,iV 14] s1 (.bool true) s1) (h4:qm 33 [iV aj,iV 0,iV 20000] s1 (.bool true) s1) (hL:yCX σ.y 0 s1 Pr P0) (kr:∀ i2_1' σ',Pr i2_1' σ'→zTL σ.y i2_1' σ' Q) (k0:∀ σ',P0 σ'→zTM σ.y σ' Q) (u1:¬ 12<(ac:Int):=by omega) (u2:¬ 6<(aa:Int):=by omega),qg 55 [qf (wkc ak af ac ad ae aa ab ao au aj)] σ Q:=
 let s1:=σ.row (wkc ak af ac ad ae aa ab ao au aj) 6;fun h1 h2 h3 h4 hL kr k0 u1 u2=>zG [.g,.g,.g,.l (.slice af ac ad),.g,.b false,.g,.g,.l (.slice ae aa ab),.g,.b false,.g,.g,.l (iV ak),.c (.bool true) s1,.g,.g,.g,.l (iV ao),.c (.bool true) s1,.g,.g,.g,.g,.l (iV au),.c (.bool true) s1,.g,.g,.g,.g,.l (iV aj),.c (.bool true) s1,.g,.g,.g,.lf 145 (zFH σ.y 0) [zIZ σ.y Pr,zJA σ.y P0]] (kd (an6 ((zC _ _ _).rw.ld zAW (k:=1) rfl:lz s1 22 (qe σ.y 1) (.slice af ac ad)) (zU u1) ((zC _ _ _).rw.ld zEO (k:=2) rfl:lz s1 23 (qe σ.y 2) (.slice ae aa ab)) (zU u2) ((zC _ _ _).rw.ld zT (k:=0) rfl:lz s1 3 (qe σ.y 0) (iV ak)) h1 (an6 ((zC _ _ _).rw.ld zT (k:=3) rfl:lz s1 3 (qe σ.y 3) (iV ao)) h2 ((zC _ _ _).rw.ld zT (k:=4) rfl:lz s1 3 (qe σ.y 4) (iV au)) h3 ((zC _ _ _).rw.ld zT (k:=5) rfl:lz s1 3 (qe σ.y 5) (iV aj)) h4 (ai (ai tt (ai (arf (zFH σ.y 0)) hL)) (ai (kz1 kr) (ai (kz0 k0) trivial))))))
theorem xBP:let s1:=σ.row (wkc ak af ac ad ae aa ab ao au aj) 6;∀ (h1:qm 33 [iV ak,iV 1,iV 7] s1 (.bool true) s1) (h2:qm 33 [iV ao,iV 0,iV 3000] s1 (.bool true) s1) (h3:qm 33 [iV au,iV 1,iV 14] s1 (.bool true) s1) (h4:qm 33 [iV aj,iV 0,iV 20000] s1 (.bool false) s1) (nx:Q (iV 1) s1) (u1:¬ 12<(ac:Int):=by omega) (u2:¬ 6<(aa:Int):=by omega),qg 55 [qf (wkc ak af ac ad ae aa ab ao au aj)] σ Q:=
 let s1:=σ.row (wkc ak af ac ad ae aa ab ao au aj) 6;fun h1 h2 h3 h4 nx u1 u2=>zG [.g,.g,.g,.l (.slice af ac ad),.g,.b false,.g,.g,.l (.slice ae aa ab),.g,.b false,.g,.g,.l (iV ak),.c (.bool true) s1,.g,.g,.g,.l (iV ao),.c (.bool true) s1,.g,.g,.g,.g,.l (iV au),.c (.bool true) s1,.g,.g,.g,.g,.l (iV aj),.c (.bool false) s1,.g,.g,.g] (kd (an6 ((zC _ _ _).rw.ld zAW (k:=1) rfl:lz s1 22 (qe σ.y 1) (.slice af ac ad)) (zU u1) ((zC _ _ _).rw.ld zEO (k:=2) rfl:lz s1 23 (qe σ.y 2) (.slice ae aa ab)) (zU u2) ((zC _ _ _).rw.ld zT (k:=0) rfl:lz s1 3 (qe σ.y 0) (iV ak)) h1 (an6 ((zC _ _ _).rw.ld zT (k:=3) rfl:lz s1 3 (qe σ.y 3) (iV ao)) h2 ((zC _ _ _).rw.ld zT (k:=4) rfl:lz s1 3 (qe σ.y 4) (iV au)) h3 ((zC _ _ _).rw.ld zT (k:=5) rfl:lz s1 3 (qe σ.y 5) (iV aj)) h4 nx)))
theorem xBO:let s1:=σ.row (wkc ak af ac ad ae aa ab ao au aj) 6;∀ (h1:qm 33 [iV ak,iV 1,iV 7] s1 (.bool true) s1) (h2:qm 33 [iV ao,iV 0,iV 3000] s1 (.bool true) s1) (h3:qm 33 [iV au,iV 1,iV 14] s1 (.bool false) s1) (nx:Q (iV 1) s1) (u1:¬ 12<(ac:Int):=by omega) (u2:¬ 6<(aa:Int):=by omega),qg 55 [qf (wkc ak af ac ad ae aa ab ao au aj)] σ Q:=
 let s1:=σ.row (wkc ak af ac ad ae aa ab ao au aj) 6;fun h1 h2 h3 nx u1 u2=>zG [.g,.g,.g,.l (.slice af ac ad),.g,.b false,.g,.g,.l (.slice ae aa ab),.g,.b false,.g,.g,.l (iV ak),.c (.bool true) s1,.g,.g,.g,.l (iV ao),.c (.bool true) s1,.g,.g,.g,.g,.l (iV au),.c (.bool false) s1,.g,.g,.g,.g,.g] (kd (an4 ((zC _ _ _).rw.ld zAW (k:=1) rfl:lz s1 22 (qe σ.y 1) (.slice af ac ad)) (zU u1) ((zC _ _ _).rw.ld zEO (k:=2) rfl:lz s1 23 (qe σ.y 2) (.slice ae aa ab)) (zU u2) (an6 ((zC _ _ _).rw.ld zT (k:=0) rfl:lz s1 3 (qe σ.y 0) (iV ak)) h1 ((zC _ _ _).rw.ld zT (k:=3) rfl:lz s1 3 (qe σ.y 3) (iV ao)) h2 ((zC _ _ _).rw.ld zT (k:=4) rfl:lz s1 3 (qe σ.y 4) (iV au)) h3 nx)))
theorem xBN:let s1:=σ.row (wkc ak af ac ad ae aa ab ao au aj) 6;∀ (h1:qm 33 [iV ak,iV 1,iV 7] s1 (.bool true) s1) (h2:qm 33 [iV ao,iV 0,iV 3000] s1 (.bool false) s1) (nx:Q (iV 1) s1) (u1:¬ 12<(ac:Int):=by omega) (u2:¬ 6<(aa:Int):=by omega),qg 55 [qf (wkc ak af ac ad ae aa ab ao au aj)] σ Q:=
 let s1:=σ.row (wkc ak af ac ad ae aa ab ao au aj) 6;fun h1 h2 nx u1 u2=>zG [.g,.g,.g,.l (.slice af ac ad),.g,.b false,.g,.g,.l (.slice ae aa ab),.g,.b false,.g,.g,.l (iV ak),.c (.bool true) s1,.g,.g,.g,.l (iV ao),.c (.bool false) s1,.g,.g,.g,.g,.g,.g,.g] (kd (an2 ((zC _ _ _).rw.ld zAW (k:=1) rfl:lz s1 22 (qe σ.y 1) (.slice af ac ad)) (zU u1) (an6 ((zC _ _ _).rw.ld zEO (k:=2) rfl:lz s1 23 (qe σ.y 2) (.slice ae aa ab)) (zU u2) ((zC _ _ _).rw.ld zT (k:=0) rfl:lz s1 3 (qe σ.y 0) (iV ak)) h1 ((zC _ _ _).rw.ld zT (k:=3) rfl:lz s1 3 (qe σ.y 3) (iV ao)) h2 nx)))
theorem xBM:let s1:=σ.row (wkc ak af ac ad ae aa ab ao au aj) 6;∀ (h1:qm 33 [iV ak,iV 1,iV 7] s1 (.bool false) s1) (nx:Q (iV 1) s1) (u1:¬ 12<(ac:Int):=by omega) (u2:¬ 6<(aa:Int):=by omega),qg 55 [qf (wkc ak af ac ad ae aa ab ao au aj)] σ Q:=
 let s1:=σ.row (wkc ak af ac ad ae aa ab ao au aj) 6;fun h1 nx u1 u2=>zG [.g,.g,.g,.l (.slice af ac ad),.g,.b false,.g,.g,.l (.slice ae aa ab),.g,.b false,.g,.g,.l (iV ak),.c (.bool false) s1,.g,.g,.g,.g,.g,.g,.g,.g] (kd (an6 ((zC _ _ _).rw.ld zAW (k:=1) rfl:lz s1 22 (qe σ.y 1) (.slice af ac ad)) (zU u1) ((zC _ _ _).rw.ld zEO (k:=2) rfl:lz s1 23 (qe σ.y 2) (.slice ae aa ab)) (zU u2) ((zC _ _ _).rw.ld zT (k:=0) rfl:lz s1 3 (qe σ.y 0) (iV ak)) h1 nx))
theorem yHB (nx:Q (iV aH) σ):zTL BA aH σ Q :=
 sK [] nx
theorem yHD (hb:∀ k dN σ,Inv k dN σ→uM BA dN σ (NX1 Inv k) Qr Q2):∀ k dN σ,Inv k dN σ→yCW BA dN σ Qr Q2 :=
 xE (ai zAN (ai (wA 2) trivial)) hb
theorem ySD:let s1:=σ.row (zO none 0 0 none 0 0 none 0 0 0 0 0) 6;let s2:=s1.own σ.y (zO qB lB cB qA lA cA qC lE cD nH nI nJ) 6;∀ (h1:lz σ 23 (qe BA 2) (.slice (some eH) lI cI)) (h2:lz σ 76 (zL eH (Int.toNat dN*6)) (qf (zO qB lB cB qA lA cA qC lE cD nH nI nJ))) (h3:qm 42 [.slice qB lB cB,iV 0,iV 15] s2 (.bool true) s2) (h4:lz s2 3 (qe BA 0) (iV nN)) (h5:qm 42 [.slice qA lA cA,iV 0,iV (nN-1)] s2 (.bool true) s2) (h6:qm 42 [.slice qC lE cD,iV 0,iV (nN-1)] s2 (.bool true) s2) (h7:qm 33 [iV nH,iV (-10080),iV 1440] s2 (.bool true) s2) (h8:qm 33 [iV nI,iV 0,iV 14] s2 (.bool true) s2) (h9:lz s2 3 (qe BA 5) (iV nGC)) (h10:qm 33 [iV nJ,iV 0,iV nGC] s2 (.bool true) s2) (nx:Nx (dN+1) s2) (u1:dN<(lI:Int):=by omega) (u2:Ix dN lI:=by omega) (u3:I6 (nN-1):=by omega) (u4:I6 (dN+1):=by omega),uM BA dN σ Nx Qr Q2:=
 let s1:=σ.row (zO none 0 0 none 0 0 none 0 0 0 0 0) 6;let s2:=s1.own σ.y (zO qB lB cB qA lA cA qC lE cD nH nI nJ) 6;fun h1 h2 h3 h4 h5 h6 h7 h8 h9 h10 nx u1 u2 u3 u4=>kO 0 (dN+1) [.g,.g,.l (.slice (some eH) lI cI),.g,.b true,.g,.l (.slice (some eH) lI cI),.g,.i,.l (qf (zO qB lB cB qA lA cA qC lE cD nH nI nJ)),.g,.e undef s2,.g,.l (.slice qB lB cB),.c (.bool true) s2,.g,.g,.g,.l (.slice qA lA cA),.g,.l (iV nN),.n (nN-1),.c (.bool true) s2,.g,.g,.g,.g,.l (.slice qC lE cD),.g,.l (iV nN),.n (nN-1),.c (.bool true) s2,.g,.g,.g,.g,.l (iV nH),.c (.bool true) s2,.g,.g,.g,.g,.l (iV nI),.c (.bool true) s2,.g,.g,.g,.g,.l (iV nJ),.g,.l (iV nGC),.c (.bool true) s2,.g,.g,.g,.n (dN+1),.g] (fun _ f=>an6 h1 (zR u1) h1 u2 h2 ((zC _ _ _).store (vs:=(zO qB lB cB qA lA cA qC lE cD nH nI nJ)) rfl uZ rfl (nle rfl) rfl:qn (evL [pt σ.y 0,qf (zO qB lB cB qA lA cA qC lE cD nH nI nJ)]) s1 (.store 76 (.tmp 0) (.tmp 1))=some (undef,s2)) (an6 ((zC _ _ _).put.rw.ld yV (k:=0) rfl:lz s2 26 (qe σ.y 0) (.slice qB lB cB)) h3 ((zC _ _ _).put.rw.ld yV (k:=1) rfl:lz s2 26 (qe σ.y 1) (.slice qA lA cA)) h4 (w64 u3) h5 (an6 ((zC _ _ _).put.rw.ld yV (k:=2) rfl:lz s2 26 (qe σ.y 2) (.slice qC lE cD)) h4 (w64 u3) h6 ((zC _ _ _).put.rw.ld zT (k:=3) rfl:lz s2 3 (qe σ.y 3) (iV nH)) h7 (an6 ((zC _ _ _).put.rw.ld zT (k:=4) rfl:lz s2 3 (qe σ.y 4) (iV nI)) h8 ((zC _ _ _).put.rw.ld zT (k:=5) rfl:lz s2 3 (qe σ.y 5) (iV nJ)) h9 h10 (w64 u4) f)))) nx
theorem ySC:let s1:=σ.row (zO none 0 0 none 0 0 none 0 0 0 0 0) 6;let s2:=s1.own σ.y (zO qB lB cB qA lA cA qC lE cD nH nI nJ) 6;∀ (h1:lz σ 23 (qe BA 2) (.slice (some eH) lI cI)) (h2:lz σ 76 (zL eH (Int.toNat dN*6)) (qf (zO qB lB cB qA lA cA qC lE cD nH nI nJ))) (h3:qm 42 [.slice qB lB cB,iV 0,iV 15] s2 (.bool true) s2) (h4:lz s2 3 (qe BA 0) (iV nN)) (h5:qm 42 [.slice qA lA cA,iV 0,iV (nN-1)] s2 (.bool true) s2) (h6:qm 42 [.slice qC lE cD,iV 0,iV (nN-1)] s2 (.bool true) s2) (h7:qm 33 [iV nH,iV (-10080),iV 1440] s2 (.bool true) s2) (h8:qm 33 [iV nI,iV 0,iV 14] s2 (.bool true) s2) (h9:lz s2 3 (qe BA 5) (iV nGC)) (h10:qm 33 [iV nJ,iV 0,iV nGC] s2 (.bool false) s2) (nx:Qr (1:Int) s2) (u1:dN<(lI:Int):=by omega) (u2:Ix dN lI:=by omega) (u3:I6 (nN-1):=by omega),uM BA dN σ Nx Qr Q2:=
 let s1:=σ.row (zO none 0 0 none 0 0 none 0 0 0 0 0) 6;let s2:=s1.own σ.y (zO qB lB cB qA lA cA qC lE cD nH nI nJ) 6;fun h1 h2 h3 h4 h5 h6 h7 h8 h9 h10 nx u1 u2 u3=>kO 1 (1:Int) [.g,.g,.l (.slice (some eH) lI cI),.g,.b true,.g,.l (.slice (some eH) lI cI),.g,.i,.l (qf (zO qB lB cB qA lA cA qC lE cD nH nI nJ)),.g,.e undef s2,.g,.l (.slice qB lB cB),.c (.bool true) s2,.g,.g,.g,.l (.slice qA lA cA),.g,.l (iV nN),.n (nN-1),.c (.bool true) s2,.g,.g,.g,.g,.l (.slice qC lE cD),.g,.l (iV nN),.n (nN-1),.c (.bool true) s2,.g,.g,.g,.g,.l (iV nH),.c (.bool true) s2,.g,.g,.g,.g,.l (iV nI),.c (.bool true) s2,.g,.g,.g,.g,.l (iV nJ),.g,.l (iV nGC),.c (.bool false) s2,.g,.g,.g] (fun _ f=>an5 h1 (zR u1) h1 u2 h2 (an6 ((zC _ _ _).store (vs:=(zO qB lB cB qA lA cA qC lE cD nH nI nJ)) rfl uZ rfl (nle rfl) rfl:qn (evL [pt σ.y 0,qf (zO qB lB cB qA lA cA qC lE cD nH nI nJ)]) s1 (.store 76 (.tmp 0) (.tmp 1))=some (undef,s2)) ((zC _ _ _).put.rw.ld yV (k:=0) rfl:lz s2 26 (qe σ.y 0) (.slice qB lB cB)) h3 ((zC _ _ _).put.rw.ld yV (k:=1) rfl:lz s2 26 (qe σ.y 1) (.slice qA lA cA)) h4 (w64 u3) (an6 h5 ((zC _ _ _).put.rw.ld yV (k:=2) rfl:lz s2 26 (qe σ.y 2) (.slice qC lE cD)) h4 (w64 u3) h6 ((zC _ _ _).put.rw.ld zT (k:=3) rfl:lz s2 3 (qe σ.y 3) (iV nH)) (an6 h7 ((zC _ _ _).put.rw.ld zT (k:=4) rfl:lz s2 3 (qe σ.y 4) (iV nI)) h8 ((zC _ _ _).put.rw.ld zT (k:=5) rfl:lz s2 3 (qe σ.y 5) (iV nJ)) h9 h10 f)))) nx
theorem ySB:let s1:=σ.row (zO none 0 0 none 0 0 none 0 0 0 0 0) 6;let s2:=s1.own σ.y (zO qB lB cB qA lA cA qC lE cD nH nI nJ) 6;∀ (h1:lz σ 23 (qe BA 2) (.slice (some eH) lI cI)) (h2:lz σ 76 (zL eH (Int.toNat dN*6)) (qf (zO qB lB cB qA lA cA qC lE cD nH nI nJ))) (h3:qm 42 [.slice qB lB cB,iV 0,iV 15] s2 (.bool true) s2) (h4:lz s2 3 (qe BA 0) (iV nN)) (h5:qm 42 [.slice qA lA cA,iV 0,iV (nN-1)] s2 (.bool true) s2) (h6:qm 42 [.slice qC lE cD,iV 0,iV (nN-1)] s2 (.bool true) s2) (h7:qm 33 [iV nH,iV (-10080),iV 1440] s2 (.bool true) s2) (h8:qm 33 [iV nI,iV 0,iV 14] s2 (.bool false) s2) (nx:Qr (1:Int) s2) (u1:dN<(lI:Int):=by omega) (u2:Ix dN lI:=by omega) (u3:I6 (nN-1):=by omega),uM BA dN σ Nx Qr Q2:=
 let s1:=σ.row (zO none 0 0 none 0 0 none 0 0 0 0 0) 6;let s2:=s1.own σ.y (zO qB lB cB qA lA cA qC lE cD nH nI nJ) 6;fun h1 h2 h3 h4 h5 h6 h7 h8 nx u1 u2 u3=>kO 1 (1:Int) [.g,.g,.l (.slice (some eH) lI cI),.g,.b true,.g,.l (.slice (some eH) lI cI),.g,.i,.l (qf (zO qB lB cB qA lA cA qC lE cD nH nI nJ)),.g,.e undef s2,.g,.l (.slice qB lB cB),.c (.bool true) s2,.g,.g,.g,.l (.slice qA lA cA),.g,.l (iV nN),.n (nN-1),.c (.bool true) s2,.g,.g,.g,.g,.l (.slice qC lE cD),.g,.l (iV nN),.n (nN-1),.c (.bool true) s2,.g,.g,.g,.g,.l (iV nH),.c (.bool true) s2,.g,.g,.g,.g,.l (iV nI),.c (.bool false) s2,.g,.g,.g,.g,.g] (fun _ f=>an2 h1 (zR u1) (an6 h1 u2 h2 ((zC _ _ _).store (vs:=(zO qB lB cB qA lA cA qC lE cD nH nI nJ)) rfl uZ rfl (nle rfl) rfl:qn (evL [pt σ.y 0,qf (zO qB lB cB qA lA cA qC lE cD nH nI nJ)]) s1 (.store 76 (.tmp 0) (.tmp 1))=some (undef,s2)) ((zC _ _ _).put.rw.ld yV (k:=0) rfl:lz s2 26 (qe σ.y 0) (.slice qB lB cB)) h3 (an6 ((zC _ _ _).put.rw.ld yV (k:=1) rfl:lz s2 26 (qe σ.y 1) (.slice qA lA cA)) h4 (w64 u3) h5 ((zC _ _ _).put.rw.ld yV (k:=2) rfl:lz s2 26 (qe σ.y 2) (.slice qC lE cD)) h4 (an6 (w64 u3) h6 ((zC _ _ _).put.rw.ld zT (k:=3) rfl:lz s2 3 (qe σ.y 3) (iV nH)) h7 ((zC _ _ _).put.rw.ld zT (k:=4) rfl:lz s2 3 (qe σ.y 4) (iV nI)) h8 f)))) nx
theorem ySA:let s1:=σ.row (zO none 0 0 none 0 0 none 0 0 0 0 0) 6;let s2:=s1.own σ.y (zO qB lB cB qA lA cA qC lE cD nH nI nJ) 6;∀ (h1:lz σ 23 (qe BA 2) (.slice (some eH) lI cI)) (h2:lz σ 76 (zL eH (Int.toNat dN*6)) (qf (zO qB lB cB qA lA cA qC lE cD nH nI nJ))) (h3:qm 42 [.slice qB lB cB,iV 0,iV 15] s2 (.bool true) s2) (h4:lz s2 3 (qe BA 0) (iV nN)) (h5:qm 42 [.slice qA lA cA,iV 0,iV (nN-1)] s2 (.bool true) s2) (h6:qm 42 [.slice qC lE cD,iV 0,iV (nN-1)] s2 (.bool true) s2) (h7:qm 33 [iV nH,iV (-10080),iV 1440] s2 (.bool false) s2) (nx:Qr (1:Int) s2) (u1:dN<(lI:Int):=by omega) (u2:Ix dN lI:=by omega) (u3:I6 (nN-1):=by omega),uM BA dN σ Nx Qr Q2:=
 let s1:=σ.row (zO none 0 0 none 0 0 none 0 0 0 0 0) 6;let s2:=s1.own σ.y (zO qB lB cB qA lA cA qC lE cD nH nI nJ) 6;fun h1 h2 h3 h4 h5 h6 h7 nx u1 u2 u3=>kO 1 (1:Int) [.g,.g,.l (.slice (some eH) lI cI),.g,.b true,.g,.l (.slice (some eH) lI cI),.g,.i,.l (qf (zO qB lB cB qA lA cA qC lE cD nH nI nJ)),.g,.e undef s2,.g,.l (.slice qB lB cB),.c (.bool true) s2,.g,.g,.g,.l (.slice qA lA cA),.g,.l (iV nN),.n (nN-1),.c (.bool true) s2,.g,.g,.g,.g,.l (.slice qC lE cD),.g,.l (iV nN),.n (nN-1),.c (.bool true) s2,.g,.g,.g,.g,.l (iV nH),.c (.bool false) s2,.g,.g,.g,.g,.g,.g,.g] (fun _ f=>an6 h1 (zR u1) h1 u2 h2 ((zC _ _ _).store (vs:=(zO qB lB cB qA lA cA qC lE cD nH nI nJ)) rfl uZ rfl (nle rfl) rfl:qn (evL [pt σ.y 0,qf (zO qB lB cB qA lA cA qC lE cD nH nI nJ)]) s1 (.store 76 (.tmp 0) (.tmp 1))=some (undef,s2)) (an6 ((zC _ _ _).put.rw.ld yV (k:=0) rfl:lz s2 26 (qe σ.y 0) (.slice qB lB cB)) h3 ((zC _ _ _).put.rw.ld yV (k:=1) rfl:lz s2 26 (qe σ.y 1) (.slice qA lA cA)) h4 (w64 u3) h5 (an6 ((zC _ _ _).put.rw.ld yV (k:=2) rfl:lz s2 26 (qe σ.y 2) (.slice qC lE cD)) h4 (w64 u3) h6 ((zC _ _ _).put.rw.ld zT (k:=3) rfl:lz s2 3 (qe σ.y 3) (iV nH)) h7 f))) nx
theorem yRZ:let s1:=σ.row (zO none 0 0 none 0 0 none 0 0 0 0 0) 6;let s2:=s1.own σ.y (zO qB lB cB qA lA cA qC lE cD nH nI nJ) 6;∀ (h1:lz σ 23 (qe BA 2) (.slice (some eH) lI cI)) (h2:lz σ 76 (zL eH (Int.toNat dN*6)) (qf (zO qB lB cB qA lA cA qC lE cD nH nI nJ))) (h3:qm 42 [.slice qB lB cB,iV 0,iV 15] s2 (.bool true) s2) (h4:lz s2 3 (qe BA 0) (iV nN)) (h5:qm 42 [.slice qA lA cA,iV 0,iV (nN-1)] s2 (.bool true) s2) (h6:qm 42 [.slice qC lE cD,iV 0,iV (nN-1)] s2 (.bool false) s2) (nx:Qr (1:Int) s2) (u1:dN<(lI:Int):=by omega) (u2:Ix dN lI:=by omega) (u3:I6 (nN-1):=by omega),uM BA dN σ Nx Qr Q2:=
 let s1:=σ.row (zO none 0 0 none 0 0 none 0 0 0 0 0) 6;let s2:=s1.own σ.y (zO qB lB cB qA lA cA qC lE cD nH nI nJ) 6;fun h1 h2 h3 h4 h5 h6 nx u1 u2 u3=>kO 1 (1:Int) [.g,.g,.l (.slice (some eH) lI cI),.g,.b true,.g,.l (.slice (some eH) lI cI),.g,.i,.l (qf (zO qB lB cB qA lA cA qC lE cD nH nI nJ)),.g,.e undef s2,.g,.l (.slice qB lB cB),.c (.bool true) s2,.g,.g,.g,.l (.slice qA lA cA),.g,.l (iV nN),.n (nN-1),.c (.bool true) s2,.g,.g,.g,.g,.l (.slice qC lE cD),.g,.l (iV nN),.n (nN-1),.c (.bool false) s2,.g,.g,.g,.g,.g,.g,.g,.g,.g] (fun _ f=>an4 h1 (zR u1) h1 u2 (an6 h2 ((zC _ _ _).store (vs:=(zO qB lB cB qA lA cA qC lE cD nH nI nJ)) rfl uZ rfl (nle rfl) rfl:qn (evL [pt σ.y 0,qf (zO qB lB cB qA lA cA qC lE cD nH nI nJ)]) s1 (.store 76 (.tmp 0) (.tmp 1))=some (undef,s2)) ((zC _ _ _).put.rw.ld yV (k:=0) rfl:lz s2 26 (qe σ.y 0) (.slice qB lB cB)) h3 ((zC _ _ _).put.rw.ld yV (k:=1) rfl:lz s2 26 (qe σ.y 1) (.slice qA lA cA)) h4 (an6 (w64 u3) h5 ((zC _ _ _).put.rw.ld yV (k:=2) rfl:lz s2 26 (qe σ.y 2) (.slice qC lE cD)) h4 (w64 u3) h6 f))) nx
theorem yRY:let s1:=σ.row (zO none 0 0 none 0 0 none 0 0 0 0 0) 6;let s2:=s1.own σ.y (zO qB lB cB qA lA cA qC lE cD nH nI nJ) 6;∀ (h1:lz σ 23 (qe BA 2) (.slice (some eH) lI cI)) (h2:lz σ 76 (zL eH (Int.toNat dN*6)) (qf (zO qB lB cB qA lA cA qC lE cD nH nI nJ))) (h3:qm 42 [.slice qB lB cB,iV 0,iV 15] s2 (.bool true) s2) (h4:lz s2 3 (qe BA 0) (iV nN)) (h5:qm 42 [.slice qA lA cA,iV 0,iV (nN-1)] s2 (.bool false) s2) (nx:Qr (1:Int) s2) (u1:dN<(lI:Int):=by omega) (u2:Ix dN lI:=by omega) (u3:I6 (nN-1):=by omega),uM BA dN σ Nx Qr Q2:=
 let s1:=σ.row (zO none 0 0 none 0 0 none 0 0 0 0 0) 6;let s2:=s1.own σ.y (zO qB lB cB qA lA cA qC lE cD nH nI nJ) 6;fun h1 h2 h3 h4 h5 nx u1 u2 u3=>kO 1 (1:Int) [.g,.g,.l (.slice (some eH) lI cI),.g,.b true,.g,.l (.slice (some eH) lI cI),.g,.i,.l (qf (zO qB lB cB qA lA cA qC lE cD nH nI nJ)),.g,.e undef s2,.g,.l (.slice qB lB cB),.c (.bool true) s2,.g,.g,.g,.l (.slice qA lA cA),.g,.l (iV nN),.n (nN-1),.c (.bool false) s2,.g,.g,.g,.g,.g,.g,.g,.g,.g,.g,.g] (fun _ f=>an6 h1 (zR u1) h1 u2 h2 ((zC _ _ _).store (vs:=(zO qB lB cB qA lA cA qC lE cD nH nI nJ)) rfl uZ rfl (nle rfl) rfl:qn (evL [pt σ.y 0,qf (zO qB lB cB qA lA cA qC lE cD nH nI nJ)]) s1 (.store 76 (.tmp 0) (.tmp 1))=some (undef,s2)) (an6 ((zC _ _ _).put.rw.ld yV (k:=0) rfl:lz s2 26 (qe σ.y 0) (.slice qB lB cB)) h3 ((zC _ _ _).put.rw.ld yV (k:=1) rfl:lz s2 26 (qe σ.y 1) (.slice qA lA cA)) h4 (w64 u3) h5 f)) nx
theorem yRX:let s1:=σ.row (zO none 0 0 none 0 0 none 0 0 0 0 0) 6;let s2:=s1.own σ.y (zO qB lB cB qA lA cA qC lE cD nH nI nJ) 6;∀ (h1:lz σ 23 (qe BA 2) (.slice (some eH) lI cI)) (h2:lz σ 76 (zL eH (Int.toNat dN*6)) (qf (zO qB lB cB qA lA cA qC lE cD nH nI nJ))) (h3:qm 42 [.slice qB lB cB,iV 0,iV 15] s2 (.bool false) s2) (nx:Qr (1:Int) s2) (u1:dN<(lI:Int):=by omega) (u2:Ix dN lI:=by omega),uM BA dN σ Nx Qr Q2:=
 let s1:=σ.row (zO none 0 0 none 0 0 none 0 0 0 0 0) 6;let s2:=s1.own σ.y (zO qB lB cB qA lA cA qC lE cD nH nI nJ) 6;fun h1 h2 h3 nx u1 u2=>kO 1 (1:Int) [.g,.g,.l (.slice (some eH) lI cI),.g,.b true,.g,.l (.slice (some eH) lI cI),.g,.i,.l (qf (zO qB lB cB qA lA cA qC lE cD nH nI nJ)),.g,.e undef s2,.g,.l (.slice qB lB cB),.c (.bool false) s2,.g,.g,.g,.g,.g,.g,.g,.g,.g,.g,.g,.g] (fun _ f=>an2 h1 (zR u1) (an6 h1 u2 h2 ((zC _ _ _).store (vs:=(zO qB lB cB qA lA cA qC lE cD nH nI nJ)) rfl uZ rfl (nle rfl) rfl:qn (evL [pt σ.y 0,qf (zO qB lB cB qA lA cA qC lE cD nH nI nJ)]) s1 (.store 76 (.tmp 0) (.tmp 1))=some (undef,s2)) ((zC _ _ _).put.rw.ld yV (k:=0) rfl:lz s2 26 (qe σ.y 0) (.slice qB lB cB)) h3 f)) nx
theorem yRW (h1:lz σ 23 (qe BA 2) (.slice qH lI cI)) (nx:Q2 σ) (u1:¬ dN<(lI:Int):=by omega):uM BA dN σ Nx Qr Q2 :=
 kO 2 () [.g,.g,.l (.slice qH lI cI),.g,.b false] (fun _ f=>an2 h1 (zU u1) f) nx
theorem yHC (hL:yCW BA 0 σ Pr P2) (kr:∀ i2_2' σ',Pr i2_2' σ'→zTJ BA i2_2' σ' Q) (k2:∀ σ',P2 σ'→zTK BA σ' Q):zTM BA σ Q :=
 sK [.g,.lf 145 (zFG BA 0) [zIX BA Pr,zIY BA P2]] (ai (ai tt (ai (arf (zFG BA 0)) hL)) (ai (kz1 kr) (ai (kz0 k2) trivial)))
theorem yGZ (nx:Q (iV i2_2) σ):zTJ BA i2_2 σ Q :=
 sK [] nx
theorem yHA (nx:Q (iV 0) σ):zTK BA σ Q :=
 sK [.g] nx
end
def vT (w:Wk) (d:Dty):Bool:=inB d.day 0 (w.days-1) && (inB d.on 0 1439 && (inB d.lo d.on d.hi && (!decide (d.on+1440<d.hi) && inB d.route 0 15)))
def zAI (w:Wk) (x:Drv):Bool:=wU x.knows 0 15 && (wU x.leave 0 (w.days-1) && (wU x.wish 0 (w.days-1) && (inB x.off (-10080) 1440 && (inB x.row 0 14 && inB x.used 0 w.hours))))
def vK (w:Wk):Bool:=inB w.days 1 7 && (inB w.rest 0 3000 && (inB w.run 1 14 && inB w.hours 0 20000))
def xH (w:Wk):Int:=if 12<w.duties.length∨6<w.drivers.length then 3 else if vK w && (w.duties.all (vT w) && w.drivers.all (zAI w)) then 0 else 1
theorem zQI {α:Type} {xs:List α} {i:Nat} {f:α→Bool} {x:α} (h:xs[i]?=some x) (ha:(xs.take i).all f=true) (hf:f x=true):(xs.take (i+1)).all f=true:=by
 rw [wO h,List.all_append,ha];simp [hf]
theorem yJE {α:Type} {xs:List α} {f:α→Bool} {x:α} (h:x∈xs) (hf:f x=false):xs.all f=false:=by
 cases ha:xs.all f with
 | false=>rfl
 | true=>rw [List.all_eq_true.1 ha x h] at hf;cases hf
def zCF (w:Wk):Prop:=∀ x∈w.drivers,x.knows.length≤1000∧x.leave.length≤1000∧x.wish.length≤1000
section
variable {σ:St} {w:Wk} {p q:Option Addr} {l m c d:Nat}
theorem xHX (h:WkP σ 92 76 w p l q m) (hsh:zCF w):zD Tryz.prog 55 [.agg ⟨wkc w.days p l c q m d w.rest w.run w.hours⟩] σ (iV (xH w)) σ:=by
 have hwp:=h;have hn:=h.len.1;have hm:=h.len.2;by_cases h12:12<l
 ·have:xH w=3:=by unfold xH;rw [if_pos (.inl (by omega))]
  rw [this];exact (xBS ⟨rfl,Nat.le_refl _⟩ (by omega)).pure
 by_cases h6:6<m
 ·have:xH w=3:=by unfold xH;rw [if_pos (.inr (by omega))]
  rw [this];exact (xBR ⟨rfl,Nat.le_refl _⟩ (by omega) (by omega)).pure
 have hf0:xH w=if vK w && (w.duties.all (vT w) && w.drivers.all (zAI w)) then 0 else 1:=by unfold xH;rw [if_neg (by omega)]
 obtain ⟨σ1,hσ1⟩:∃ σ1,σ1=σ.re.row (wkc w.days p l c q m d w.rest w.run w.hours) 6:=⟨_,rfl⟩;have cin:∀ {τ:St} {n lo hi:Int} {b:Bool},inB n lo hi=b→zD Tryz.prog 33 [iV n,iV lo,iV hi] τ (.bool b) τ:=fun e=>e ▸ xHS
 have no:vK w=false→xH w=1:=fun e=>by rw [hf0,e];rfl
 cases b1:inB w.days 1 7 with
 | false=>rw [no (by unfold vK;rw [b1];rfl)];exact (xBM (cin b1) ⟨rfl,Nat.le_refl _⟩ (by omega) (by omega)).pure
 | true =>
 cases b2:inB w.rest 0 3000 with
 | false=>rw [no (by unfold vK;rw [b1,b2];rfl)];exact (xBN (cin b1) (cin b2) ⟨rfl,Nat.le_refl _⟩ (by omega) (by omega)).pure
 | true =>
 cases b3:inB w.run 1 14 with
 | false=>rw [no (by unfold vK;rw [b1,b2,b3];rfl)];exact (xBO (cin b1) (cin b2) (cin b3) ⟨rfl,Nat.le_refl _⟩ (by omega) (by omega)).pure
 | true =>
 cases b4:inB w.hours 0 20000 with
 | false=>rw [no (by unfold vK;rw [b1,b2,b3,b4];rfl)];exact (xBP (cin b1) (cin b2) (cin b3) (cin b4) ⟨rfl,Nat.le_refl _⟩ (by omega) (by omega)).pure
 | true =>
 have hh:vK w=true:=by unfold vK;rw [b1,b2,b3,b4];rfl
 have hd:=zAQ.1 b1;have N1:New σ.re σ1:=by rw [hσ1];exact New.row _ _ _
 have L1:Le σ σ1:=(le0 σ).trans N1.le;have hW:∀ {τ},Le σ1 τ→Row τ ⟨σ.re.y,0,none⟩ (wkc w.days p l c q m d w.rest w.run w.hours):=fun {τ} hN=>by
  have:=xN σ.re (wkc w.days p l c q m d w.rest w.run w.hours) 6;rw [← hσ1] at this;exact this.le hN
 have nod:∀ x∈w.duties,vT w x=false→xH w=1:=fun x hx e=>by rw [hf0,yJE hx e];simp
 have nov:∀ x∈w.drivers,zAI w x=false→xH w=1:=fun x hx e=>by rw [hf0,yJE hx e];simp
 have lw1:∀ {τ:St},New σ1 τ→σ.y≤τ.low:=fun hN=>(N1.trans hN).lw
 refine zP.pure (xBQ (Pr:=fun n τ=>New σ1 τ∧n=xH w) (P0:=fun τ=>New σ1 τ∧w.duties.all (vT w)=true) (cin b1) (cin b2) (cin b3) (cin b4)
  (yHE (Inv:=fun k i τ=>New σ1 τ∧∃ j:Nat,i=j∧j+k=l∧(w.duties.take j).all (vT w)=true) ?_ l 0 _ ⟨by rw [← hσ1];exact New.refl _,0,rfl,by omega,rfl⟩)
  (fun n τ h=>yHB ⟨by rw [h.2],lw1 h.1⟩) (fun τ h=>?_) (by omega) (by omega))
 ·rintro k i τ ⟨hN,j,rfl,hk,ha⟩;have ldD:zB Tryz.prog τ 22 ⟨σ.re.y,1,none⟩=some (.slice p l c):=(hW hN.le).ld zAW rfl;by_cases hj:j<l;rotate_left
  ·exact ySE ldD ⟨hN,by rwa [List.take_of_length_le (by omega)] at ha⟩ (by omega)
  obtain ⟨a,rfl,x,hx,lx⟩:=vB (SlV.le h.dty (L1.trans hN.le)) hj;have hmem:=List.mem_of_getElem? hx;have hN2:New σ1 ((τ.row (zF 0 0 0 0 0) 5).own τ.y (zF x.day x.on x.lo x.hi x.route) 5):=hN.row'.own hN.le.y;have ld0:zB Tryz.prog ((τ.row (zF 0 0 0 0 0) 5).own τ.y (zF x.day x.on x.lo x.hi x.route) 5) 3 ⟨σ.re.y,0,none⟩=some (iV w.days):=(hW hN2.le).ld zT rfl;cases c1:inB x.day 0 (w.days-1) with
  | false=>exact ySF ldD lx ld0 (cin c1) ⟨hN2,(nod x hmem (by unfold vT;rw [c1];rfl)).symm⟩ (by omega) (by omega) (by omega)
  | true =>
  cases c2:inB x.on 0 1439 with
  | false=>exact ySG ldD lx ld0 (cin c1) (cin c2) ⟨hN2,(nod x hmem (by unfold vT;rw [c1,c2];rfl)).symm⟩ (by omega) (by omega) (by omega)
  | true =>
  have hon:=zAQ.1 c2;cases c3:inB x.lo x.on x.hi with
  | false=>exact ySH ldD lx ld0 (cin c1) (cin c2) (cin c3) ⟨hN2,(nod x hmem (by unfold vT;rw [c1,c2,c3];rfl)).symm⟩ (by omega) (by omega) (by omega)
  | true =>
  by_cases c4:x.on+1440<x.hi
  ·exact ySK ldD lx ld0 (cin c1) (cin c2) (cin c3) ⟨hN2,(nod x hmem (by unfold vT;rw [c1,c2,c3,decide_eq_true c4];rfl)).symm⟩ (by omega) (by omega) (by omega) (by omega) c4
  cases c5:inB x.route 0 15 with
  | false=>exact ySI ldD lx ld0 (cin c1) (cin c2) (cin c3) (cin c5) ⟨hN2,(nod x hmem (by unfold vT;rw [c1,c2,c3,decide_eq_false c4,c5];rfl)).symm⟩ (by omega) (by omega) (by omega) (by omega) c4
  | true=>exact ySJ ldD lx ld0 (cin c1) (cin c2) (cin c3) (cin c5) ⟨k-1,by omega,hN2,j+1,by omega,by omega,zQI hx ha (by unfold vT;rw [c1,c2,c3,decide_eq_false c4,c5];rfl)⟩ (by omega) (by omega) (by omega) (by omega) c4 (by omega)
 ·obtain ⟨hN1,hdu⟩:=h;refine yHC (Pr:=fun n τ=>New σ1 τ∧n=xH w) (P2:=fun τ=>New σ1 τ∧w.drivers.all (zAI w)=true)
   (yHD (Inv:=fun k i τ=>New σ1 τ∧∃ j:Nat,i=j∧j+k=m∧(w.drivers.take j).all (zAI w)=true) ?_ m 0 _ ⟨hN1,0,rfl,by omega,rfl⟩)
   (fun n τ h=>yGZ ⟨by rw [h.2],lw1 h.1⟩) (fun τ h=>yHA ⟨by rw [hf0,hh,hdu,h.2];rfl,lw1 h.1⟩)
  rintro k i τ ⟨hN,j,rfl,hk,ha⟩;have ldV:zB Tryz.prog τ 23 ⟨σ.re.y,2,none⟩=some (.slice q m d):=(hW hN.le).ld zEO rfl;by_cases hj:j<m;rotate_left
  ·exact yRW ldV ⟨hN,by rwa [List.take_of_length_le (by omega)] at ha⟩ (by omega)
  have LL:=L1.trans hN.le;obtain ⟨vs,hv1,hv2,hv3⟩:=hwp.drv;obtain ⟨qa,rfl,_⟩:=hv1.some hj;have hx:w.drivers[j]?=some w.drivers[j]:=by simp
  obtain ⟨x,hxe⟩:∃ x,x=w.drivers[j]:=⟨_,rfl⟩;rw [← hxe] at hx;obtain ⟨v,g1,p',l',c',r',n',d',s',j',e',rfl,hkn,hlv,hws⟩:=hv3 j _ hx;have lx:zB Tryz.prog τ 76 (zL qa (Int.toNat (j:Int)*6))=some (.agg ⟨zO p' l' c' r' n' d' s' j' e' x.off x.row x.used⟩):=(hv1.le LL).at rfl g1;have hmem:=List.mem_of_getElem? hx;have hsx:=hsh x hmem;have hN2:New σ1 ((τ.row (zO none 0 0 none 0 0 none 0 0 0 0 0) 6).own τ.y (zO p' l' c' r' n' d' s' j' e' x.off x.row x.used) 6):=hN.row'.own hN.le.y;have L2:=L1.trans hN2.le;have ld0:zB Tryz.prog ((τ.row (zO none 0 0 none 0 0 none 0 0 0 0 0) 6).own τ.y (zO p' l' c' r' n' d' s' j' e' x.off x.row x.used) 6) 3 ⟨σ.re.y,0,none⟩=some (iV w.days):=(hW hN2.le).ld zT rfl;have ld5:zB Tryz.prog ((τ.row (zO none 0 0 none 0 0 none 0 0 0 0 0) 6).own τ.y (zO p' l' c' r' n' d' s' j' e' x.off x.row x.used) 6) 3 ⟨σ.re.y,5,none⟩=some (iV w.hours):=(hW hN2.le).ld zT rfl;have k1:=zXG (c:=c') (lo:=0) (hi:=15) (SlV.le hkn L2) (by have:=hkn.len;omega);have k2:=zXG (c:=d') (lo:=0) (hi:=w.days-1) (SlV.le hlv L2) (by have:=hlv.len;omega);have k3:=zXG (c:=e') (lo:=0) (hi:=w.days-1) (SlV.le hws L2) (by have:=hws.len;omega);cases c1:wU x.knows 0 15 with
  | false=>rw [c1] at k1;exact yRX ldV lx k1 ⟨hN2,(nov x hmem (by unfold zAI;rw [c1];rfl)).symm⟩ (by omega) (by omega)
  | true =>
  cases c2:wU x.leave 0 (w.days-1) with
  | false=>rw [c1] at k1;rw [c2] at k2;exact yRY ldV lx k1 ld0 k2 ⟨hN2,(nov x hmem (by unfold zAI;rw [c1,c2];rfl)).symm⟩ (by omega) (by omega) (by omega)
  | true =>
  cases c3:wU x.wish 0 (w.days-1) with
  | false=>rw [c1] at k1;rw [c2] at k2;rw [c3] at k3;exact yRZ ldV lx k1 ld0 k2 k3 ⟨hN2,(nov x hmem (by unfold zAI;rw [c1,c2,c3];rfl)).symm⟩ (by omega) (by omega) (by omega)
  | true =>
  rw [c1] at k1;rw [c2] at k2;rw [c3] at k3;cases c4:inB x.off (-10080) 1440 with
  | false=>exact ySA ldV lx k1 ld0 k2 k3 (cin c4) ⟨hN2,(nov x hmem (by unfold zAI;rw [c1,c2,c3,c4];rfl)).symm⟩ (by omega) (by omega) (by omega)
  | true =>
  cases c5:inB x.row 0 14 with
  | false=>exact ySB ldV lx k1 ld0 k2 k3 (cin c4) (cin c5) ⟨hN2,(nov x hmem (by unfold zAI;rw [c1,c2,c3,c4,c5];rfl)).symm⟩ (by omega) (by omega) (by omega)
  | true =>
  cases c6:inB x.used 0 w.hours with
  | false=>exact ySC ldV lx k1 ld0 k2 k3 (cin c4) (cin c5) ld5 (cin c6) ⟨hN2,(nov x hmem (by unfold zAI;rw [c1,c2,c3,c4,c5,c6];rfl)).symm⟩ (by omega) (by omega) (by omega)
  | true=>exact ySD ldV lx k1 ld0 k2 k3 (cin c4) (cin c5) ld5 (cin c6) ⟨k-1,by omega,hN2,j+1,by omega,by omega,zQI hx ha (by unfold zAI;rw [c1,c2,c3,c4,c5,c6];rfl)⟩ (by omega) (by omega) (by omega) (by omega)
end
section
noncomputable section
variable (s:oAa) (s_l s_c:Nat) (f:FuncId) (v:Int) (f_a f_c:lVa) (q0:St→Prop) (Q:Int→St→Prop) (aE bu:Int) (σ:St) (Nx Qr:Int→St→Prop) (q2:vPa) (Q0:St→Prop)
def yZO:Code:=(Code.part [1,0,1,0,0] (qh 87))
def zPR:lNa:=[(0,.slice s s_l s_c),(1,.func (.func f) ⟨f_a⟩ ⟨f_c⟩),(7,iV (s_l:Int)),(8,iV aE)]
def xLO:Alt:=⟨Int,.normal,fun t=>zPR s s_l s_c f f_a f_c t,fun t=>[],fun t σ=>Q t σ⟩
def yET (s:oAa) (s_l s_c:Nat) (f:FuncId) (f_a f_c:lVa) (bu:Int):lNa:=[(4,iV bu)]
def zRU:Alt:=⟨Int,.ret,fun t=>yET s s_l s_c f f_a f_c t,fun t=>[],fun t σ=>Q t σ⟩
def yEU (s:oAa) (s_l s_c:Nat) (f:FuncId) (f_a f_c:lVa):lNa:=[]
def zRV:Alt:=⟨Unit,(.exit 0),fun t=>yEU s s_l s_c f f_a f_c,fun t=>[],fun t σ=>q0 σ⟩
def zVV:Prop:=qi qj none yZO 19 (zPR s s_l s_c f f_a f_c aE) [] [xLO s s_l s_c f f_a f_c Nx,zRU s s_l s_c f f_a f_c Qr,zRV s s_l s_c f f_a f_c Q0] σ
def yZP:Prop:=qk qj none yZO 19 (zPR s s_l s_c f f_a f_c aE) [] [zRU s s_l s_c f f_a f_c Qr,zRV s s_l s_c f f_a f_c Q0] σ
def yEV:Prop:=kZ qj (qh 87) [1,0,1,0] (ql 87 q2) .ret 19 (yET s s_l s_c f f_a f_c bu) σ
def yEW:Prop:=kZ qj (qh 87) [1,0,1,0] (ql 87 q2) (.exit 0) 19 (yEU s s_l s_c f f_a f_c) σ
def yZH:Code:=(Code.part [1,0,1,0,0] (qh 88))
def zPO:lNa:=[(0,.slice s s_l s_c),(1,.func (.func f) ⟨f_a⟩ ⟨f_c⟩),(7,iV (s_l:Int)),(8,iV aE)]
def xLC:Alt:=⟨Int,.normal,fun t=>zPO s s_l s_c f f_a f_c t,fun t=>[],fun t σ=>Q t σ⟩
def yEH (s:oAa) (s_l s_c:Nat) (f:FuncId) (f_a f_c:lVa) (bu:Int):lNa:=[(4,iV bu)]
def zRN:Alt:=⟨Int,.ret,fun t=>yEH s s_l s_c f f_a f_c t,fun t=>[],fun t σ=>Q t σ⟩
def yEI (s:oAa) (s_l s_c:Nat) (f:FuncId) (f_a f_c:lVa):lNa:=[]
def zRO:Alt:=⟨Unit,(.exit 0),fun t=>yEI s s_l s_c f f_a f_c,fun t=>[],fun t σ=>q0 σ⟩
def zVS:Prop:=qi qj none yZH 19 (zPO s s_l s_c f f_a f_c aE) [] [xLC s s_l s_c f f_a f_c Nx,zRN s s_l s_c f f_a f_c Qr,zRO s s_l s_c f f_a f_c Q0] σ
def yZI:Prop:=qk qj none yZH 19 (zPO s s_l s_c f f_a f_c aE) [] [zRN s s_l s_c f f_a f_c Qr,zRO s s_l s_c f f_a f_c Q0] σ
def yEJ:Prop:=kZ qj (qh 88) [1,0,1,0] (ql 88 q2) .ret 19 (yEH s s_l s_c f f_a f_c bu) σ
def yEK:Prop:=kZ qj (qh 88) [1,0,1,0] (ql 88 q2) (.exit 0) 19 (yEI s s_l s_c f f_a f_c) σ
def yZM:Code:=(Code.part [1,0,1,0,0] (qh 105))
def zPQ:lNa:=[(0,.slice s s_l s_c),(1,.func (.func f) ⟨[]⟩ ⟨f_c⟩),(7,iV (s_l:Int)),(8,iV aE)]
def xLK:Alt:=⟨Int,.normal,fun t=>zPQ s s_l s_c f f_c t,fun t=>[],fun t σ=>Q t σ⟩
def yEP (s:oAa) (s_l s_c:Nat) (f:FuncId) (f_c:lVa) (bu:Int):lNa:=[(4,iV bu)]
def zRS:Alt:=⟨Int,.ret,fun t=>yEP s s_l s_c f f_c t,fun t=>[],fun t σ=>Q t σ⟩
def yEQ (s:oAa) (s_l s_c:Nat) (f:FuncId) (f_c:lVa):lNa:=[]
def zRT:Alt:=⟨Unit,(.exit 0),fun t=>yEQ s s_l s_c f f_c,fun t=>[],fun t σ=>q0 σ⟩
def zVU:Prop:=qi qj none yZM 19 (zPQ s s_l s_c f f_c aE) [] [xLK s s_l s_c f f_c Nx,zRS s s_l s_c f f_c Qr,zRT s s_l s_c f f_c Q0] σ
def yZN:Prop:=qk qj none yZM 19 (zPQ s s_l s_c f f_c aE) [] [zRS s s_l s_c f f_c Qr,zRT s s_l s_c f f_c Q0] σ
def yER:Prop:=kZ qj (qh 105) [1,0,1,0] (ql 105 q2) .ret 19 (yEP s s_l s_c f f_c bu) σ
def yES:Prop:=kZ qj (qh 105) [1,0,1,0] (ql 105 q2) (.exit 0) 19 (yEQ s s_l s_c f f_c) σ
def yNH:Code:=(Code.part [1,0,1,0,0] (qh 83))
def zJP:lNa:=[(0,.slice s s_l s_c),(1,iV v),(7,iV (s_l:Int)),(8,iV aE)]
def xDY:Alt:=⟨Int,.normal,fun t=>zJP s s_l s_c v t,fun t=>[],fun t σ=>Q t σ⟩
def zYU (s:oAa) (s_l s_c:Nat) (v bu:Int):lNa:=[(4,iV bu)]
def zNM:Alt:=⟨Int,.ret,fun t=>zYU s s_l s_c v t,fun t=>[],fun t σ=>Q t σ⟩
def zYV (s:oAa) (s_l s_c:Nat) (v:Int):lNa:=[]
def zNN:Alt:=⟨Unit,(.exit 0),fun t=>zYV s s_l s_c v,fun t=>[],fun t σ=>q0 σ⟩
def zPN:Prop:=qi qj none yNH 19 (zJP s s_l s_c v aE) [] [xDY s s_l s_c v Nx,zNM s s_l s_c v Qr,zNN s s_l s_c v Q0] σ
def yNI:Prop:=qk qj none yNH 19 (zJP s s_l s_c v aE) [] [zNM s s_l s_c v Qr,zNN s s_l s_c v Q0] σ
def zYW:Prop:=kZ qj (qh 83) [1,0,1,0] (ql 83 q2) .ret 19 (zYU s s_l s_c v bu) σ
def zYX:Prop:=kZ qj (qh 83) [1,0,1,0] (ql 83 q2) (.exit 0) 19 (zYV s s_l s_c v) σ
end
variable {s dK dJ eg l qE qD qF af ae aS aY bh q1:oAa} {s_l s_c bZ cf bX bY dg dh l_l l_c lF cF lG cE lH cG ac ad aa ab aI aJ aK aL aP aQ l1 c1:Nat} {f f1 right:FuncId} {f_c f_a dT f1_a bG dv:lVa} {n1 eU fM di dj dI eS eQ eh aE nE nG nD nB nA bu nF ak ao au aj aA aO ax ay aC bH bI bt x n v:Int} {σ:St} {Q:vPa} {v0 s_a:Addr} {Inv:Nat→Int→St→Prop} {Qr Nx Pr:Int→St→Prop} {Q0 P0:St→Prop} {b3 b6 b2 b1:Bool}
theorem xSD (h1:qm 87 [.slice s s_l s_c,.func (.func f) ⟨f_a⟩ ⟨f_c⟩] σ (iV n1) σ) (nx:Q (.bool true) σ) (u1:0≤n1:=by omega):qg 67 [.slice s s_l s_c,.func (.func f) ⟨f_a⟩ ⟨f_c⟩] σ Q :=
 zG [.g,.g,.g,.c (iV n1) σ,.b true,.g] (kd (an2 h1 (yD u1) nx))
theorem xSC (h1:qm 87 [.slice s s_l s_c,.func (.func f) ⟨f_a⟩ ⟨f_c⟩] σ (iV n1) σ) (nx:Q (.bool false) σ) (u1:¬ 0≤n1:=by omega):qg 67 [.slice s s_l s_c,.func (.func f) ⟨f_a⟩ ⟨f_c⟩] σ Q :=
 zG [.g,.g,.g,.c (iV n1) σ,.b false,.g] (kd (an2 h1 (yF u1) nx))
theorem xNV:let s1:=σ.row (zF eU fM di dj dI) 5;∀ (h1:lz s1 86 v0 (.func (.func f1) ⟨f1_a⟩ ⟨dT⟩)) (h2:qm f1 (f1_a ++ (qf (zF eU fM di dj dI)::dT)) s1 (.bool true) s1) (nx:Q (.bool false) s1),qg 68 [qf (zF eU fM di dj dI),pz v0] σ Q:=
 let s1:=σ.row (zF eU fM di dj dI) 5;fun h1 h2 nx=>zG [.g,.g,.l (.func (.func f1) ⟨f1_a⟩ ⟨dT⟩),.l (qf (zF eU fM di dj dI)),.c (.bool true) s1,.g,.g] (kd (an3 h1 ((zC _ _ _).rw.ldN zMM vY (k:=0) rfl rfl (nle rfl):lz s1 85 (qe σ.y 0) (qf (zF eU fM di dj dI))) h2 nx))
theorem xNU:let s1:=σ.row (zF eU fM di dj dI) 5;∀ (h1:lz s1 86 v0 (.func (.func f1) ⟨f1_a⟩ ⟨dT⟩)) (h2:qm f1 (f1_a ++ (qf (zF eU fM di dj dI)::dT)) s1 (.bool false) s1) (nx:Q (.bool true) s1),qg 68 [qf (zF eU fM di dj dI),pz v0] σ Q:=
 let s1:=σ.row (zF eU fM di dj dI) 5;fun h1 h2 nx=>zG [.g,.g,.l (.func (.func f1) ⟨f1_a⟩ ⟨dT⟩),.l (qf (zF eU fM di dj dI)),.c (.bool false) s1,.g,.g] (kd (an3 h1 ((zC _ _ _).rw.ldN zMM vY (k:=0) rfl rfl (nle rfl):lz s1 85 (qe σ.y 0) (qf (zF eU fM di dj dI))) h2 nx))
theorem xRV (h1:qm 88 [.slice s s_l s_c,.func (.func f) ⟨f_a⟩ ⟨f_c⟩] σ (iV n1) σ) (nx:Q (.bool true) σ) (u1:0≤n1:=by omega):qg 69 [.slice s s_l s_c,.func (.func f) ⟨f_a⟩ ⟨f_c⟩] σ Q :=
 zG [.g,.g,.g,.c (iV n1) σ,.b true,.g] (kd (an2 h1 (yD u1) nx))
theorem xRU (h1:qm 88 [.slice s s_l s_c,.func (.func f) ⟨f_a⟩ ⟨f_c⟩] σ (iV n1) σ) (nx:Q (.bool false) σ) (u1:¬ 0≤n1:=by omega):qg 69 [.slice s s_l s_c,.func (.func f) ⟨f_a⟩ ⟨f_c⟩] σ Q :=
 zG [.g,.g,.g,.c (iV n1) σ,.b false,.g] (kd (an2 h1 (yF u1) nx))
theorem xNP:let s1:=σ.row (zO dK bZ cf dJ bX bY eg dg dh eS eQ eh) 6;∀ (h1:lz s1 89 v0 (.func (.func f1) ⟨f1_a⟩ ⟨dT⟩)) (h2:qm f1 (f1_a ++ (qf (zO dK bZ cf dJ bX bY eg dg dh eS eQ eh)::dT)) s1 (.bool true) s1) (nx:Q (.bool false) s1),qg 70 [qf (zO dK bZ cf dJ bX bY eg dg dh eS eQ eh),pz v0] σ Q:=
 let s1:=σ.row (zO dK bZ cf dJ bX bY eg dg dh eS eQ eh) 6;fun h1 h2 nx=>zG [.g,.g,.l (.func (.func f1) ⟨f1_a⟩ ⟨dT⟩),.l (qf (zO dK bZ cf dJ bX bY eg dg dh eS eQ eh)),.c (.bool true) s1,.g,.g] (kd (an3 h1 ((zC _ _ _).rw.ldN yPS zQS (k:=0) rfl rfl (nle rfl):lz s1 88 (qe σ.y 0) (qf (zO dK bZ cf dJ bX bY eg dg dh eS eQ eh))) h2 nx))
theorem xNO:let s1:=σ.row (zO dK bZ cf dJ bX bY eg dg dh eS eQ eh) 6;∀ (h1:lz s1 89 v0 (.func (.func f1) ⟨f1_a⟩ ⟨dT⟩)) (h2:qm f1 (f1_a ++ (qf (zO dK bZ cf dJ bX bY eg dg dh eS eQ eh)::dT)) s1 (.bool false) s1) (nx:Q (.bool true) s1),qg 70 [qf (zO dK bZ cf dJ bX bY eg dg dh eS eQ eh),pz v0] σ Q:=
 let s1:=σ.row (zO dK bZ cf dJ bX bY eg dg dh eS eQ eh) 6;fun h1 h2 nx=>zG [.g,.g,.l (.func (.func f1) ⟨f1_a⟩ ⟨dT⟩),.l (qf (zO dK bZ cf dJ bX bY eg dg dh eS eQ eh)),.c (.bool false) s1,.g,.g] (kd (an3 h1 ((zC _ _ _).rw.ldN yPS zQS (k:=0) rfl rfl (nle rfl):lz s1 88 (qe σ.y 0) (qf (zO dK bZ cf dJ bX bY eg dg dh eS eQ eh))) h2 nx))
theorem xSZ:let Y1:=σ.row [.func (.func right) ⟨dv⟩ ⟨bG⟩] 1;∀ (h1:qm 67 [.slice l l_l l_c,.func (.func 68) ⟨[]⟩ ⟨[pt σ.y 0]⟩] Y1 (.bool true) Y1) (nx:Q (.bool false) Y1),qg 48 [.slice l l_l l_c,.func (.func right) ⟨dv⟩ ⟨bG⟩] σ Q:=
 fun h1 nx=>zG [.g,.g,.g,.g,.c (.bool true) (σ.row [.func (.func right) ⟨dv⟩ ⟨bG⟩] 1),.g,.g] (kd (ai h1 nx))
theorem xSY:let Y1:=σ.row [.func (.func right) ⟨dv⟩ ⟨bG⟩] 1;∀ (h1:qm 67 [.slice l l_l l_c,.func (.func 68) ⟨[]⟩ ⟨[pt σ.y 0]⟩] Y1 (.bool false) Y1) (nx:Q (.bool true) Y1),qg 48 [.slice l l_l l_c,.func (.func right) ⟨dv⟩ ⟨bG⟩] σ Q:=
 fun h1 nx=>zG [.g,.g,.g,.g,.c (.bool false) (σ.row [.func (.func right) ⟨dv⟩ ⟨bG⟩] 1),.g,.g] (kd (ai h1 nx))
theorem xSR:let Y1:=σ.row [.func (.func right) ⟨dv⟩ ⟨bG⟩] 1;∀ (h1:qm 69 [.slice l l_l l_c,.func (.func 70) ⟨[]⟩ ⟨[pt σ.y 0]⟩] Y1 (.bool true) Y1) (nx:Q (.bool false) Y1),qg 50 [.slice l l_l l_c,.func (.func right) ⟨dv⟩ ⟨bG⟩] σ Q:=
 fun h1 nx=>zG [.g,.g,.g,.g,.c (.bool true) (σ.row [.func (.func right) ⟨dv⟩ ⟨bG⟩] 1),.g,.g] (kd (ai h1 nx))
theorem xSQ:let Y1:=σ.row [.func (.func right) ⟨dv⟩ ⟨bG⟩] 1;∀ (h1:qm 69 [.slice l l_l l_c,.func (.func 70) ⟨[]⟩ ⟨[pt σ.y 0]⟩] Y1 (.bool false) Y1) (nx:Q (.bool true) Y1),qg 50 [.slice l l_l l_c,.func (.func right) ⟨dv⟩ ⟨bG⟩] σ Q:=
 fun h1 nx=>zG [.g,.g,.g,.g,.c (.bool false) (σ.row [.func (.func right) ⟨dv⟩ ⟨bG⟩] 1),.g,.g] (kd (ai h1 nx))
theorem yUS (hb:∀ k aE σ,Inv k aE σ→zVV s s_l s_c f f_a f_c aE σ (NX1 Inv k) Qr Q0):∀ k aE σ,Inv k aE σ→yZP s s_l s_c f f_a f_c aE σ Qr Q0 :=
 xE (ai zAN (ai (wA 0) trivial)) hb
theorem xLN (h1:lz σ 85 (zL s_a (Int.toNat aE*5)) (qf (zF nE nG nD nB nA))) (h2:qm f (f_a ++ (qf (zF nE nG nD nB nA)::f_c)) σ (.bool true) σ) (nx:Qr aE σ) (u1:aE<(s_l:Int):=by omega) (u2:Ix aE s_l:=by omega):zVV (some s_a) s_l s_c f f_a f_c aE σ Nx Qr Q0 :=
 kO 1 aE [.b true,.g,.g,.g,.g,.g,.i,.l (qf (zF nE nG nD nB nA)),.c (.bool true) σ,.g,.g] (fun _ f=>an4 (zR u1) u2 h1 h2 f) nx
theorem xLM (h1:lz σ 85 (zL s_a (Int.toNat aE*5)) (qf (zF nE nG nD nB nA))) (h2:qm f (f_a ++ (qf (zF nE nG nD nB nA)::f_c)) σ (.bool false) σ) (nx:Nx (aE+1) σ) (u1:aE<(s_l:Int):=by omega) (u2:Ix aE s_l:=by omega) (u3:I6 (aE+1):=by omega):zVV (some s_a) s_l s_c f f_a f_c aE σ Nx Qr Q0 :=
 kO 0 (aE+1) [.b true,.g,.g,.g,.g,.g,.i,.l (qf (zF nE nG nD nB nA)),.c (.bool false) σ,.n (aE+1),.g] (fun _ f=>an5 (zR u1) u2 h1 h2 (w64 u3) f) nx
theorem xLL (nx:Q0 σ) (u1:¬ aE<(s_l:Int):=by omega):zVV s s_l s_c f f_a f_c aE σ Nx Qr Q0 :=
 kO 2 () [.b false] (fun _ f=>ai (zU u1) f) nx
theorem xRJ (hL:yZP s s_l s_c f f_a f_c 0 σ Pr P0) (kr:∀ i4_1' σ',Pr i4_1' σ'→yEV s s_l s_c f f_a f_c i4_1' σ' Q) (k0:∀ σ',P0 σ'→yEW s s_l s_c f f_a f_c σ' Q):qg 87 [.slice s s_l s_c,.func (.func f) ⟨f_a⟩ ⟨f_c⟩] σ Q :=
 zG [.g,.g,.g,.g,.lf 19 (zPR s s_l s_c f f_a f_c 0) [zRU s s_l s_c f f_a f_c Pr,zRV s s_l s_c f f_a f_c P0]] (kd (ai (ai tt (ai (arf (zPR s s_l s_c f f_a f_c 0)) hL)) (ai (kz1 kr) (ai (kz0 k0) trivial))))
theorem yUQ (nx:Q (iV bu) σ):yEV s s_l s_c f f_a f_c bu σ Q :=
 sK [] nx
theorem yUR (nx:Q (iV (-1)) σ):yEW s s_l s_c f f_a f_c σ Q :=
 sK [.g] nx
theorem yUK (hb:∀ k aE σ,Inv k aE σ→zVS s s_l s_c f f_a f_c aE σ (NX1 Inv k) Qr Q0):∀ k aE σ,Inv k aE σ→yZI s s_l s_c f f_a f_c aE σ Qr Q0 :=
 xE (ai zAN (ai (wA 0) trivial)) hb
theorem xLB (h1:lz σ 88 (zL s_a (Int.toNat aE*6)) (qf (zO qE lF cF qD lG cE qF lH cG nB nA nF))) (h2:qm f (f_a ++ (qf (zO qE lF cF qD lG cE qF lH cG nB nA nF)::f_c)) σ (.bool true) σ) (nx:Qr aE σ) (u1:aE<(s_l:Int):=by omega) (u2:Ix aE s_l:=by omega):zVS (some s_a) s_l s_c f f_a f_c aE σ Nx Qr Q0 :=
 kO 1 aE [.b true,.g,.g,.g,.g,.g,.i,.l (qf (zO qE lF cF qD lG cE qF lH cG nB nA nF)),.c (.bool true) σ,.g,.g] (fun _ f=>an4 (zR u1) u2 h1 h2 f) nx
theorem xLA (h1:lz σ 88 (zL s_a (Int.toNat aE*6)) (qf (zO qE lF cF qD lG cE qF lH cG nB nA nF))) (h2:qm f (f_a ++ (qf (zO qE lF cF qD lG cE qF lH cG nB nA nF)::f_c)) σ (.bool false) σ) (nx:Nx (aE+1) σ) (u1:aE<(s_l:Int):=by omega) (u2:Ix aE s_l:=by omega) (u3:I6 (aE+1):=by omega):zVS (some s_a) s_l s_c f f_a f_c aE σ Nx Qr Q0 :=
 kO 0 (aE+1) [.b true,.g,.g,.g,.g,.g,.i,.l (qf (zO qE lF cF qD lG cE qF lH cG nB nA nF)),.c (.bool false) σ,.n (aE+1),.g] (fun _ f=>an5 (zR u1) u2 h1 h2 (w64 u3) f) nx
theorem xKZ (nx:Q0 σ) (u1:¬ aE<(s_l:Int):=by omega):zVS s s_l s_c f f_a f_c aE σ Nx Qr Q0 :=
 kO 2 () [.b false] (fun _ f=>ai (zU u1) f) nx
theorem xRH (hL:yZI s s_l s_c f f_a f_c 0 σ Pr P0) (kr:∀ i4_1' σ',Pr i4_1' σ'→yEJ s s_l s_c f f_a f_c i4_1' σ' Q) (k0:∀ σ',P0 σ'→yEK s s_l s_c f f_a f_c σ' Q):qg 88 [.slice s s_l s_c,.func (.func f) ⟨f_a⟩ ⟨f_c⟩] σ Q :=
 zG [.g,.g,.g,.g,.lf 19 (zPO s s_l s_c f f_a f_c 0) [zRN s s_l s_c f f_a f_c Pr,zRO s s_l s_c f f_a f_c P0]] (kd (ai (ai tt (ai (arf (zPO s s_l s_c f f_a f_c 0)) hL)) (ai (kz1 kr) (ai (kz0 k0) trivial))))
theorem yUI (nx:Q (iV bu) σ):yEJ s s_l s_c f f_a f_c bu σ Q :=
 sK [] nx
theorem yUJ (nx:Q (iV (-1)) σ):yEK s s_l s_c f f_a f_c σ Q :=
 sK [.g] nx
theorem xGN:let s1:=σ.row (wkc ak af ac ad ae aa ab ao au aj) 6;let s2:=s1.row (zF aA aO ax ay aC) 5;∀ (h1:qm 47 [iV aA,iV 0,iV (ak-1)] s2 (.bool true) s2) (h2:qm 47 [iV aO,iV 0,iV 1439] s2 (.bool true) s2) (h3:qm 47 [iV aC,iV 0,iV 15] s2 (.bool b3) s2) (nx:Q (.bool b3) s2) (u1:I6 (ak-1):=by omega) (u2:aO≤ax:=by omega) (u3:ax≤ay:=by omega) (u4:I6 (aO+1440):=by omega) (u5:ay≤(aO+1440):=by omega),qg 49 [qf (wkc ak af ac ad ae aa ab ao au aj),qf (zF aA aO ax ay aC)] σ Q:=
 let s1:=σ.row (wkc ak af ac ad ae aa ab ao au aj) 6;let s2:=s1.row (zF aA aO ax ay aC) 5;let s3:=σ.y+1;fun h1 h2 h3 nx u1 u2 u3 u4 u5=>zG [.g,.g,.g,.g,.l (iV aA),.g,.l (iV ak),.n (ak-1),.c (.bool true) s2,.g,.g,.l (iV aO),.c (.bool true) s2,.g,.g,.g,.l (iV aO),.g,.g,.l (iV ax),.b true,.g,.g,.g,.g,.l (iV ax),.g,.g,.l (iV ay),.b true,.g,.g,.g,.g,.l (iV ay),.g,.l (iV aO),.n (aO+1440),.b true,.g,.g,.g,.l (iV aC),.c (.bool b3) s2,.g,.g] (kd (an6 ((zC _ _ _).rw.ld zT (k:=0) rfl:lz s2 3 (qe s3 0) (iV aA)) ((zC _ _ _).row.rw.ld zT (k:=0) rfl:lz s2 3 (qe σ.y 0) (iV ak)) (w64 u1) h1 ((zC _ _ _).rw.ld zT (k:=1) rfl:lz s2 3 (qe s3 1) (iV aO)) h2 (an6 ((zC _ _ _).rw.ld zT (k:=1) rfl:lz s2 3 (qe s3 1) (iV aO)) ((zC _ _ _).rw.ld zT (k:=2) rfl:lz s2 3 (qe s3 2) (iV ax)) (yD u2) ((zC _ _ _).rw.ld zT (k:=2) rfl:lz s2 3 (qe s3 2) (iV ax)) ((zC _ _ _).rw.ld zT (k:=3) rfl:lz s2 3 (qe s3 3) (iV ay)) (yD u3) (an6 ((zC _ _ _).rw.ld zT (k:=3) rfl:lz s2 3 (qe s3 3) (iV ay)) ((zC _ _ _).rw.ld zT (k:=1) rfl:lz s2 3 (qe s3 1) (iV aO)) (w64 u4) (yD u5) ((zC _ _ _).rw.ld zT (k:=4) rfl:lz s2 3 (qe s3 4) (iV aC)) h3 nx))))
theorem xGM:let s1:=σ.row (wkc ak af ac ad ae aa ab ao au aj) 6;let s2:=s1.row (zF aA aO ax ay aC) 5;∀ (h1:qm 47 [iV aA,iV 0,iV (ak-1)] s2 (.bool true) s2) (h2:qm 47 [iV aO,iV 0,iV 1439] s2 (.bool true) s2) (nx:Q (.bool false) s2) (u1:I6 (ak-1):=by omega) (u2:aO≤ax:=by omega) (u3:ax≤ay:=by omega) (u4:I6 (aO+1440):=by omega) (u5:¬ ay≤(aO+1440):=by omega),qg 49 [qf (wkc ak af ac ad ae aa ab ao au aj),qf (zF aA aO ax ay aC)] σ Q:=
 let s1:=σ.row (wkc ak af ac ad ae aa ab ao au aj) 6;let s2:=s1.row (zF aA aO ax ay aC) 5;let s3:=σ.y+1;fun h1 h2 nx u1 u2 u3 u4 u5=>zG [.g,.g,.g,.g,.l (iV aA),.g,.l (iV ak),.n (ak-1),.c (.bool true) s2,.g,.g,.l (iV aO),.c (.bool true) s2,.g,.g,.g,.l (iV aO),.g,.g,.l (iV ax),.b true,.g,.g,.g,.g,.l (iV ax),.g,.g,.l (iV ay),.b true,.g,.g,.g,.g,.l (iV ay),.g,.l (iV aO),.n (aO+1440),.b false,.g,.g,.g,.g] (kd (an4 ((zC _ _ _).rw.ld zT (k:=0) rfl:lz s2 3 (qe s3 0) (iV aA)) ((zC _ _ _).row.rw.ld zT (k:=0) rfl:lz s2 3 (qe σ.y 0) (iV ak)) (w64 u1) h1 (an6 ((zC _ _ _).rw.ld zT (k:=1) rfl:lz s2 3 (qe s3 1) (iV aO)) h2 ((zC _ _ _).rw.ld zT (k:=1) rfl:lz s2 3 (qe s3 1) (iV aO)) ((zC _ _ _).rw.ld zT (k:=2) rfl:lz s2 3 (qe s3 2) (iV ax)) (yD u2) ((zC _ _ _).rw.ld zT (k:=2) rfl:lz s2 3 (qe s3 2) (iV ax)) (an6 ((zC _ _ _).rw.ld zT (k:=3) rfl:lz s2 3 (qe s3 3) (iV ay)) (yD u3) ((zC _ _ _).rw.ld zT (k:=3) rfl:lz s2 3 (qe s3 3) (iV ay)) ((zC _ _ _).rw.ld zT (k:=1) rfl:lz s2 3 (qe s3 1) (iV aO)) (w64 u4) (yF u5) nx))))
theorem xGL:let s1:=σ.row (wkc ak af ac ad ae aa ab ao au aj) 6;let s2:=s1.row (zF aA aO ax ay aC) 5;∀ (h1:qm 47 [iV aA,iV 0,iV (ak-1)] s2 (.bool true) s2) (h2:qm 47 [iV aO,iV 0,iV 1439] s2 (.bool true) s2) (nx:Q (.bool false) s2) (u1:I6 (ak-1):=by omega) (u2:aO≤ax:=by omega) (u3:¬ ax≤ay:=by omega),qg 49 [qf (wkc ak af ac ad ae aa ab ao au aj),qf (zF aA aO ax ay aC)] σ Q:=
 let s1:=σ.row (wkc ak af ac ad ae aa ab ao au aj) 6;let s2:=s1.row (zF aA aO ax ay aC) 5;let s3:=σ.y+1;fun h1 h2 nx u1 u2 u3=>zG [.g,.g,.g,.g,.l (iV aA),.g,.l (iV ak),.n (ak-1),.c (.bool true) s2,.g,.g,.l (iV aO),.c (.bool true) s2,.g,.g,.g,.l (iV aO),.g,.g,.l (iV ax),.b true,.g,.g,.g,.g,.l (iV ax),.g,.g,.l (iV ay),.b false,.g,.g,.g,.g,.g,.g] (kd (an6 ((zC _ _ _).rw.ld zT (k:=0) rfl:lz s2 3 (qe s3 0) (iV aA)) ((zC _ _ _).row.rw.ld zT (k:=0) rfl:lz s2 3 (qe σ.y 0) (iV ak)) (w64 u1) h1 ((zC _ _ _).rw.ld zT (k:=1) rfl:lz s2 3 (qe s3 1) (iV aO)) h2 (an6 ((zC _ _ _).rw.ld zT (k:=1) rfl:lz s2 3 (qe s3 1) (iV aO)) ((zC _ _ _).rw.ld zT (k:=2) rfl:lz s2 3 (qe s3 2) (iV ax)) (yD u2) ((zC _ _ _).rw.ld zT (k:=2) rfl:lz s2 3 (qe s3 2) (iV ax)) ((zC _ _ _).rw.ld zT (k:=3) rfl:lz s2 3 (qe s3 3) (iV ay)) (yF u3) nx)))
theorem xGK:let s1:=σ.row (wkc ak af ac ad ae aa ab ao au aj) 6;let s2:=s1.row (zF aA aO ax ay aC) 5;∀ (h1:qm 47 [iV aA,iV 0,iV (ak-1)] s2 (.bool true) s2) (h2:qm 47 [iV aO,iV 0,iV 1439] s2 (.bool true) s2) (nx:Q (.bool false) s2) (u1:I6 (ak-1):=by omega) (u2:¬ aO≤ax:=by omega),qg 49 [qf (wkc ak af ac ad ae aa ab ao au aj),qf (zF aA aO ax ay aC)] σ Q:=
 let s1:=σ.row (wkc ak af ac ad ae aa ab ao au aj) 6;let s2:=s1.row (zF aA aO ax ay aC) 5;let s3:=σ.y+1;fun h1 h2 nx u1 u2=>zG [.g,.g,.g,.g,.l (iV aA),.g,.l (iV ak),.n (ak-1),.c (.bool true) s2,.g,.g,.l (iV aO),.c (.bool true) s2,.g,.g,.g,.l (iV aO),.g,.g,.l (iV ax),.b false,.g,.g,.g,.g,.g,.g,.g,.g] (kd (an3 ((zC _ _ _).rw.ld zT (k:=0) rfl:lz s2 3 (qe s3 0) (iV aA)) ((zC _ _ _).row.rw.ld zT (k:=0) rfl:lz s2 3 (qe σ.y 0) (iV ak)) (w64 u1) (an6 h1 ((zC _ _ _).rw.ld zT (k:=1) rfl:lz s2 3 (qe s3 1) (iV aO)) h2 ((zC _ _ _).rw.ld zT (k:=1) rfl:lz s2 3 (qe s3 1) (iV aO)) ((zC _ _ _).rw.ld zT (k:=2) rfl:lz s2 3 (qe s3 2) (iV ax)) (yF u2) nx)))
theorem xGJ:let s1:=σ.row (wkc ak af ac ad ae aa ab ao au aj) 6;let s2:=s1.row (zF aA aO ax ay aC) 5;∀ (h1:qm 47 [iV aA,iV 0,iV (ak-1)] s2 (.bool true) s2) (h2:qm 47 [iV aO,iV 0,iV 1439] s2 (.bool false) s2) (nx:Q (.bool false) s2) (u1:I6 (ak-1):=by omega),qg 49 [qf (wkc ak af ac ad ae aa ab ao au aj),qf (zF aA aO ax ay aC)] σ Q:=
 let s1:=σ.row (wkc ak af ac ad ae aa ab ao au aj) 6;let s2:=s1.row (zF aA aO ax ay aC) 5;fun h1 h2 nx u1=>zG [.g,.g,.g,.g,.l (iV aA),.g,.l (iV ak),.n (ak-1),.c (.bool true) s2,.g,.g,.l (iV aO),.c (.bool false) s2,.g,.g,.g,.g,.g,.g,.g,.g,.g,.g] (kd (an6 ((zC _ _ _).rw.ld zT (k:=0) rfl:lz s2 3 ⟨(σ.y+1),0,none⟩ (iV aA)) ((zC _ _ _).row.rw.ld zT (k:=0) rfl:lz s2 3 (qe σ.y 0) (iV ak)) (w64 u1) h1 ((zC _ _ _).rw.ld zT (k:=1) rfl:lz s2 3 ⟨(σ.y+1),1,none⟩ (iV aO)) h2 nx))
theorem xGI:let s1:=σ.row (wkc ak af ac ad ae aa ab ao au aj) 6;let s2:=s1.row (zF aA aO ax ay aC) 5;∀ (h1:qm 47 [iV aA,iV 0,iV (ak-1)] s2 (.bool false) s2) (nx:Q (.bool false) s2) (u1:I6 (ak-1):=by omega),qg 49 [qf (wkc ak af ac ad ae aa ab ao au aj),qf (zF aA aO ax ay aC)] σ Q:=
 let s1:=σ.row (wkc ak af ac ad ae aa ab ao au aj) 6;let s2:=s1.row (zF aA aO ax ay aC) 5;fun h1 nx u1=>zG [.g,.g,.g,.g,.l (iV aA),.g,.l (iV ak),.n (ak-1),.c (.bool false) s2,.g,.g,.g,.g,.g,.g,.g,.g,.g,.g,.g] (kd (an4 ((zC _ _ _).rw.ld zT (k:=0) rfl:lz s2 3 ⟨(σ.y+1),0,none⟩ (iV aA)) ((zC _ _ _).row.rw.ld zT (k:=0) rfl:lz s2 3 (qe σ.y 0) (iV ak)) (w64 u1) h1 nx))
theorem yQN:let s1:=σ.row (wkc ak af ac ad ae aa ab ao au aj) 6;let s2:=s1.row (zO aS aI aJ aY aK aL bh aP aQ bH bI bt) 6;∀ (h1:qm 71 [.slice aS aI aJ,iV 0,iV 15] s2 (.bool true) s2) (h2:qm 71 [.slice aY aK aL,iV 0,iV (ak-1)] s2 (.bool true) s2) (h3:qm 71 [.slice bh aP aQ,iV 0,iV (ak-1)] s2 (.bool true) s2) (h4:qm 47 [iV bH,iV (-10080),iV 1440] s2 (.bool true) s2) (h5:qm 47 [iV bI,iV 0,iV 14] s2 (.bool true) s2) (h6:qm 47 [iV bt,iV 0,iV aj] s2 (.bool b6) s2) (nx:Q (.bool b6) s2) (u1:I6 (ak-1):=by omega),qg 51 [qf (wkc ak af ac ad ae aa ab ao au aj),qf (zO aS aI aJ aY aK aL bh aP aQ bH bI bt)] σ Q:=
 let s1:=σ.row (wkc ak af ac ad ae aa ab ao au aj) 6;let s2:=s1.row (zO aS aI aJ aY aK aL bh aP aQ bH bI bt) 6;let s3:=σ.y+1;fun h1 h2 h3 h4 h5 h6 nx u1=>zG [.g,.g,.g,.g,.l (.slice aS aI aJ),.c (.bool true) s2,.g,.g,.l (.slice aY aK aL),.g,.l (iV ak),.n (ak-1),.c (.bool true) s2,.g,.g,.g,.l (.slice bh aP aQ),.g,.l (iV ak),.n (ak-1),.c (.bool true) s2,.g,.g,.g,.l (iV bH),.c (.bool true) s2,.g,.g,.g,.l (iV bI),.c (.bool true) s2,.g,.g,.g,.l (iV bt),.g,.l (iV aj),.c (.bool b6) s2,.g,.g] (kd (an5 ((zC _ _ _).rw.ld yV (k:=0) rfl:lz s2 26 (qe s3 0) (.slice aS aI aJ)) h1 ((zC _ _ _).rw.ld yV (k:=1) rfl:lz s2 26 (qe s3 1) (.slice aY aK aL)) ((zC _ _ _).row.rw.ld zT (k:=0) rfl:lz s2 3 (qe σ.y 0) (iV ak)) (w64 u1) (an6 h2 ((zC _ _ _).rw.ld yV (k:=2) rfl:lz s2 26 (qe s3 2) (.slice bh aP aQ)) ((zC _ _ _).row.rw.ld zT (k:=0) rfl:lz s2 3 (qe σ.y 0) (iV ak)) (w64 u1) h3 ((zC _ _ _).rw.ld zT (k:=3) rfl:lz s2 3 (qe s3 3) (iV bH)) (an6 h4 ((zC _ _ _).rw.ld zT (k:=4) rfl:lz s2 3 (qe s3 4) (iV bI)) h5 ((zC _ _ _).rw.ld zT (k:=5) rfl:lz s2 3 (qe s3 5) (iV bt)) ((zC _ _ _).row.rw.ld zT (k:=5) rfl:lz s2 3 (qe σ.y 5) (iV aj)) h6 nx))))
theorem yQM:let s1:=σ.row (wkc ak af ac ad ae aa ab ao au aj) 6;let s2:=s1.row (zO aS aI aJ aY aK aL bh aP aQ bH bI bt) 6;∀ (h1:qm 71 [.slice aS aI aJ,iV 0,iV 15] s2 (.bool true) s2) (h2:qm 71 [.slice aY aK aL,iV 0,iV (ak-1)] s2 (.bool true) s2) (h3:qm 71 [.slice bh aP aQ,iV 0,iV (ak-1)] s2 (.bool true) s2) (h4:qm 47 [iV bH,iV (-10080),iV 1440] s2 (.bool true) s2) (h5:qm 47 [iV bI,iV 0,iV 14] s2 (.bool false) s2) (nx:Q (.bool false) s2) (u1:I6 (ak-1):=by omega),qg 51 [qf (wkc ak af ac ad ae aa ab ao au aj),qf (zO aS aI aJ aY aK aL bh aP aQ bH bI bt)] σ Q:=
 let s1:=σ.row (wkc ak af ac ad ae aa ab ao au aj) 6;let s2:=s1.row (zO aS aI aJ aY aK aL bh aP aQ bH bI bt) 6;let s3:=σ.y+1;fun h1 h2 h3 h4 h5 nx u1=>zG [.g,.g,.g,.g,.l (.slice aS aI aJ),.c (.bool true) s2,.g,.g,.l (.slice aY aK aL),.g,.l (iV ak),.n (ak-1),.c (.bool true) s2,.g,.g,.g,.l (.slice bh aP aQ),.g,.l (iV ak),.n (ak-1),.c (.bool true) s2,.g,.g,.g,.l (iV bH),.c (.bool true) s2,.g,.g,.g,.l (iV bI),.c (.bool false) s2,.g,.g,.g,.g] (kd (an2 ((zC _ _ _).rw.ld yV (k:=0) rfl:lz s2 26 (qe s3 0) (.slice aS aI aJ)) h1 (an6 ((zC _ _ _).rw.ld yV (k:=1) rfl:lz s2 26 (qe s3 1) (.slice aY aK aL)) ((zC _ _ _).row.rw.ld zT (k:=0) rfl:lz s2 3 (qe σ.y 0) (iV ak)) (w64 u1) h2 ((zC _ _ _).rw.ld yV (k:=2) rfl:lz s2 26 (qe s3 2) (.slice bh aP aQ)) ((zC _ _ _).row.rw.ld zT (k:=0) rfl:lz s2 3 (qe σ.y 0) (iV ak)) (an6 (w64 u1) h3 ((zC _ _ _).rw.ld zT (k:=3) rfl:lz s2 3 (qe s3 3) (iV bH)) h4 ((zC _ _ _).rw.ld zT (k:=4) rfl:lz s2 3 (qe s3 4) (iV bI)) h5 nx))))
theorem yQL:let s1:=σ.row (wkc ak af ac ad ae aa ab ao au aj) 6;let s2:=s1.row (zO aS aI aJ aY aK aL bh aP aQ bH bI bt) 6;∀ (h1:qm 71 [.slice aS aI aJ,iV 0,iV 15] s2 (.bool true) s2) (h2:qm 71 [.slice aY aK aL,iV 0,iV (ak-1)] s2 (.bool true) s2) (h3:qm 71 [.slice bh aP aQ,iV 0,iV (ak-1)] s2 (.bool true) s2) (h4:qm 47 [iV bH,iV (-10080),iV 1440] s2 (.bool false) s2) (nx:Q (.bool false) s2) (u1:I6 (ak-1):=by omega),qg 51 [qf (wkc ak af ac ad ae aa ab ao au aj),qf (zO aS aI aJ aY aK aL bh aP aQ bH bI bt)] σ Q:=
 let s1:=σ.row (wkc ak af ac ad ae aa ab ao au aj) 6;let s2:=s1.row (zO aS aI aJ aY aK aL bh aP aQ bH bI bt) 6;let s3:=σ.y+1;fun h1 h2 h3 h4 nx u1=>zG [.g,.g,.g,.g,.l (.slice aS aI aJ),.c (.bool true) s2,.g,.g,.l (.slice aY aK aL),.g,.l (iV ak),.n (ak-1),.c (.bool true) s2,.g,.g,.g,.l (.slice bh aP aQ),.g,.l (iV ak),.n (ak-1),.c (.bool true) s2,.g,.g,.g,.l (iV bH),.c (.bool false) s2,.g,.g,.g,.g,.g,.g] (kd (an6 ((zC _ _ _).rw.ld yV (k:=0) rfl:lz s2 26 (qe s3 0) (.slice aS aI aJ)) h1 ((zC _ _ _).rw.ld yV (k:=1) rfl:lz s2 26 (qe s3 1) (.slice aY aK aL)) ((zC _ _ _).row.rw.ld zT (k:=0) rfl:lz s2 3 (qe σ.y 0) (iV ak)) (w64 u1) h2 (an6 ((zC _ _ _).rw.ld yV (k:=2) rfl:lz s2 26 (qe s3 2) (.slice bh aP aQ)) ((zC _ _ _).row.rw.ld zT (k:=0) rfl:lz s2 3 (qe σ.y 0) (iV ak)) (w64 u1) h3 ((zC _ _ _).rw.ld zT (k:=3) rfl:lz s2 3 (qe s3 3) (iV bH)) h4 nx)))
theorem yQK:let s1:=σ.row (wkc ak af ac ad ae aa ab ao au aj) 6;let s2:=s1.row (zO aS aI aJ aY aK aL bh aP aQ bH bI bt) 6;∀ (h1:qm 71 [.slice aS aI aJ,iV 0,iV 15] s2 (.bool true) s2) (h2:qm 71 [.slice aY aK aL,iV 0,iV (ak-1)] s2 (.bool true) s2) (h3:qm 71 [.slice bh aP aQ,iV 0,iV (ak-1)] s2 (.bool false) s2) (nx:Q (.bool false) s2) (u1:I6 (ak-1):=by omega),qg 51 [qf (wkc ak af ac ad ae aa ab ao au aj),qf (zO aS aI aJ aY aK aL bh aP aQ bH bI bt)] σ Q:=
 let s1:=σ.row (wkc ak af ac ad ae aa ab ao au aj) 6;let s2:=s1.row (zO aS aI aJ aY aK aL bh aP aQ bH bI bt) 6;let s3:=σ.y+1;fun h1 h2 h3 nx u1=>zG [.g,.g,.g,.g,.l (.slice aS aI aJ),.c (.bool true) s2,.g,.g,.l (.slice aY aK aL),.g,.l (iV ak),.n (ak-1),.c (.bool true) s2,.g,.g,.g,.l (.slice bh aP aQ),.g,.l (iV ak),.n (ak-1),.c (.bool false) s2,.g,.g,.g,.g,.g,.g,.g,.g] (kd (an4 ((zC _ _ _).rw.ld yV (k:=0) rfl:lz s2 26 (qe s3 0) (.slice aS aI aJ)) h1 ((zC _ _ _).rw.ld yV (k:=1) rfl:lz s2 26 (qe s3 1) (.slice aY aK aL)) ((zC _ _ _).row.rw.ld zT (k:=0) rfl:lz s2 3 (qe σ.y 0) (iV ak)) (an6 (w64 u1) h2 ((zC _ _ _).rw.ld yV (k:=2) rfl:lz s2 26 (qe s3 2) (.slice bh aP aQ)) ((zC _ _ _).row.rw.ld zT (k:=0) rfl:lz s2 3 (qe σ.y 0) (iV ak)) (w64 u1) h3 nx)))
theorem yQJ:let s1:=σ.row (wkc ak af ac ad ae aa ab ao au aj) 6;let s2:=s1.row (zO aS aI aJ aY aK aL bh aP aQ bH bI bt) 6;∀ (h1:qm 71 [.slice aS aI aJ,iV 0,iV 15] s2 (.bool true) s2) (h2:qm 71 [.slice aY aK aL,iV 0,iV (ak-1)] s2 (.bool false) s2) (nx:Q (.bool false) s2) (u1:I6 (ak-1):=by omega),qg 51 [qf (wkc ak af ac ad ae aa ab ao au aj),qf (zO aS aI aJ aY aK aL bh aP aQ bH bI bt)] σ Q:=
 let s1:=σ.row (wkc ak af ac ad ae aa ab ao au aj) 6;let s2:=s1.row (zO aS aI aJ aY aK aL bh aP aQ bH bI bt) 6;fun h1 h2 nx u1=>zG [.g,.g,.g,.g,.l (.slice aS aI aJ),.c (.bool true) s2,.g,.g,.l (.slice aY aK aL),.g,.l (iV ak),.n (ak-1),.c (.bool false) s2,.g,.g,.g,.g,.g,.g,.g,.g,.g,.g] (kd (an6 ((zC _ _ _).rw.ld yV (k:=0) rfl:lz s2 26 ⟨(σ.y+1),0,none⟩ (.slice aS aI aJ)) h1 ((zC _ _ _).rw.ld yV (k:=1) rfl:lz s2 26 ⟨(σ.y+1),1,none⟩ (.slice aY aK aL)) ((zC _ _ _).row.rw.ld zT (k:=0) rfl:lz s2 3 (qe σ.y 0) (iV ak)) (w64 u1) h2 nx))
theorem yQI:let s1:=σ.row (wkc ak af ac ad ae aa ab ao au aj) 6;let s2:=s1.row (zO aS aI aJ aY aK aL bh aP aQ bH bI bt) 6;∀ (h1:qm 71 [.slice aS aI aJ,iV 0,iV 15] s2 (.bool false) s2) (nx:Q (.bool false) s2),qg 51 [qf (wkc ak af ac ad ae aa ab ao au aj),qf (zO aS aI aJ aY aK aL bh aP aQ bH bI bt)] σ Q:=
 let s1:=σ.row (wkc ak af ac ad ae aa ab ao au aj) 6;let s2:=s1.row (zO aS aI aJ aY aK aL bh aP aQ bH bI bt) 6;fun h1 nx=>zG [.g,.g,.g,.g,.l (.slice aS aI aJ),.c (.bool false) s2,.g,.g,.g,.g,.g,.g,.g,.g,.g,.g,.g] (kd (an2 ((zC _ _ _).rw.ld yV (k:=0) rfl:lz s2 26 ⟨(σ.y+1),0,none⟩ (.slice aS aI aJ)) h1 nx))
theorem xSW:let Y1:=σ.row [.func (.func right) ⟨[]⟩ ⟨bG⟩] 1;∀ (h1:qm 89 [.slice l l_l l_c,.func (.func 90) ⟨[]⟩ ⟨[pt σ.y 0]⟩] Y1 (.bool true) Y1) (nx:Q (.bool false) Y1),qg 72 [.slice l l_l l_c,.func (.func right) ⟨[]⟩ ⟨bG⟩] σ Q:=
 fun h1 nx=>zG [.g,.g,.g,.g,.c (.bool true) (σ.row [.func (.func right) ⟨[]⟩ ⟨bG⟩] 1),.g,.g] (kd (ai h1 nx))
theorem xSV:let Y1:=σ.row [.func (.func right) ⟨[]⟩ ⟨bG⟩] 1;∀ (h1:qm 89 [.slice l l_l l_c,.func (.func 90) ⟨[]⟩ ⟨[pt σ.y 0]⟩] Y1 (.bool false) Y1) (nx:Q (.bool true) Y1),qg 72 [.slice l l_l l_c,.func (.func right) ⟨[]⟩ ⟨bG⟩] σ Q:=
 fun h1 nx=>zG [.g,.g,.g,.g,.c (.bool false) (σ.row [.func (.func right) ⟨[]⟩ ⟨bG⟩] 1),.g,.g] (kd (ai h1 nx))
theorem xRZ (h1:qm 105 [.slice s s_l s_c,.func (.func f) ⟨[]⟩ ⟨f_c⟩] σ (iV n1) σ) (nx:Q (.bool true) σ) (u1:0≤n1:=by omega):qg 89 [.slice s s_l s_c,.func (.func f) ⟨[]⟩ ⟨f_c⟩] σ Q :=
 zG [.g,.g,.g,.c (iV n1) σ,.b true,.g] (kd (an2 h1 (yD u1) nx))
theorem xRY (h1:qm 105 [.slice s s_l s_c,.func (.func f) ⟨[]⟩ ⟨f_c⟩] σ (iV n1) σ) (nx:Q (.bool false) σ) (u1:¬ 0≤n1:=by omega):qg 89 [.slice s s_l s_c,.func (.func f) ⟨[]⟩ ⟨f_c⟩] σ Q :=
 zG [.g,.g,.g,.c (iV n1) σ,.b false,.g] (kd (an2 h1 (yF u1) nx))
theorem xNT (h1:lz σ 105 v0 (.func (.func f1) ⟨[]⟩ ⟨dT⟩)) (h2:qm f1 (iV x::dT) σ (.bool true) σ) (nx:Q (.bool false) σ):qg 90 [iV x,pz v0] σ Q :=
 zG [.g,.l (.func (.func f1) ⟨[]⟩ ⟨dT⟩),.g,.c (.bool true) σ,.g,.g] (kd (an2 h1 h2 nx))
theorem xNS (h1:lz σ 105 v0 (.func (.func f1) ⟨[]⟩ ⟨dT⟩)) (h2:qm f1 (iV x::dT) σ (.bool false) σ) (nx:Q (.bool true) σ):qg 90 [iV x,pz v0] σ Q :=
 zG [.g,.l (.func (.func f1) ⟨[]⟩ ⟨dT⟩),.g,.c (.bool false) σ,.g,.g] (kd (an2 h1 h2 nx))
theorem yUP (hb:∀ k aE σ,Inv k aE σ→zVU s s_l s_c f f_c aE σ (NX1 Inv k) Qr Q0):∀ k aE σ,Inv k aE σ→yZN s s_l s_c f f_c aE σ Qr Q0 :=
 xE (ai zAN (ai (wA 0) trivial)) hb
theorem xLJ (h1:lz σ 3 (zL s_a (Int.toNat aE*1)) (iV nE)) (h2:qm f (iV nE::f_c) σ (.bool true) σ) (nx:Qr aE σ) (u1:aE<(s_l:Int):=by omega) (u2:Ix aE s_l:=by omega):zVU (some s_a) s_l s_c f f_c aE σ Nx Qr Q0 :=
 kO 1 aE [.b true,.g,.g,.g,.g,.g,.i,.l (iV nE),.c (.bool true) σ,.g,.g] (fun _ f=>an4 (zR u1) u2 h1 h2 f) nx
theorem xLI (h1:lz σ 3 (zL s_a (Int.toNat aE*1)) (iV nE)) (h2:qm f (iV nE::f_c) σ (.bool false) σ) (nx:Nx (aE+1) σ) (u1:aE<(s_l:Int):=by omega) (u2:Ix aE s_l:=by omega) (u3:I6 (aE+1):=by omega):zVU (some s_a) s_l s_c f f_c aE σ Nx Qr Q0 :=
 kO 0 (aE+1) [.b true,.g,.g,.g,.g,.g,.i,.l (iV nE),.c (.bool false) σ,.n (aE+1),.g] (fun _ f=>an5 (zR u1) u2 h1 h2 (w64 u3) f) nx
theorem xLH (nx:Q0 σ) (u1:¬ aE<(s_l:Int):=by omega):zVU s s_l s_c f f_c aE σ Nx Qr Q0 :=
 kO 2 () [.b false] (fun _ f=>ai (zU u1) f) nx
theorem xRI (hL:yZN s s_l s_c f f_c 0 σ Pr P0) (kr:∀ i4_1' σ',Pr i4_1' σ'→yER s s_l s_c f f_c i4_1' σ' Q) (k0:∀ σ',P0 σ'→yES s s_l s_c f f_c σ' Q):qg 105 [.slice s s_l s_c,.func (.func f) ⟨[]⟩ ⟨f_c⟩] σ Q :=
 zG [.g,.g,.g,.g,.lf 19 (zPQ s s_l s_c f f_c 0) [zRS s s_l s_c f f_c Pr,zRT s s_l s_c f f_c P0]] (kd (ai (ai tt (ai (arf (zPQ s s_l s_c f f_c 0)) hL)) (ai (kz1 kr) (ai (kz0 k0) trivial))))
theorem yUN (nx:Q (iV bu) σ):yER s s_l s_c f f_c bu σ Q :=
 sK [] nx
theorem yUO (nx:Q (iV (-1)) σ):yES s s_l s_c f f_c σ Q :=
 sK [.g] nx
theorem yRF (h1:lz σ 32 (zL v0 2) (.slice q1 l1 c1)) (h2:qm 47 [iV n,iV (-1),iV ((l1:Int)-1)] σ (.bool b2) σ) (nx:Q (.bool b2) σ) (u1:I6 ((l1:Int)-1):=by omega):qg 73 [iV n,pz v0] σ Q :=
 zG [.g,.g,.g,.l (.slice q1 l1 c1),.g,.n ((l1:Int)-1),.c (.bool b2) σ,.g] (kd (an3 h1 (w64 u1) h2 nx))
theorem yQG:let s1:=σ.row (wkc ak af ac ad ae aa ab ao au aj) 6;∀ (h1:qm 72 [.slice l l_l l_c,.func (.func 73) ⟨[]⟩ ⟨[pt σ.y 0]⟩] s1 (.bool b1) s1) (nx:Q (.bool b1) s1) (u1:(l_l:Int)=(ac:Int):=by omega),qg 52 [qf (wkc ak af ac ad ae aa ab ao au aj),.slice l l_l l_c] σ Q:=
 let s1:=σ.row (wkc ak af ac ad ae aa ab ao au aj) 6;fun h1 nx u1=>zG [.g,.g,.g,.g,.g,.l (.slice af ac ad),.g,.b true,.g,.g,.g,.c (.bool b1) s1,.g,.g] (kd (an3 ((zC _ _ _).rw.ld zAV (k:=1) rfl:lz s1 31 (qe σ.y 1) (.slice af ac ad)) (xL u1) h1 nx))
theorem yQF (nx:Q (.bool false) (σ.row (wkc ak af ac ad ae aa ab ao au aj) 6)) (u1:¬ (l_l:Int)=(ac:Int):=by omega):qg 52 [qf (wkc ak af ac ad ae aa ab ao au aj),.slice l l_l l_c] σ Q :=
 zG [.g,.g,.g,.g,.g,.l (.slice af ac ad),.g,.b false,.g,.g,.g] (kd (an2 ((zC _ _ _).rw.ld zAV (k:=1) rfl:lz (σ.row (wkc ak af ac ad ae aa ab ao au aj) 6) 31 (qe σ.y 1) (.slice af ac ad)) (xG u1) nx))
theorem yNG (hb:∀ k aE σ,Inv k aE σ→zPN s s_l s_c v aE σ (NX1 Inv k) Qr Q0):∀ k aE σ,Inv k aE σ→yNI s s_l s_c v aE σ Qr Q0 :=
 xE (ai zAN (ai (wA 0) trivial)) hb
theorem xDX (h1:lz σ 3 (zL s_a (Int.toNat aE*1)) (iV nE)) (nx:Qr aE σ) (u1:aE<(s_l:Int):=by omega) (u2:Ix aE s_l:=by omega) (u3:v=nE:=by omega):zPN (some s_a) s_l s_c v aE σ Nx Qr Q0 :=
 kO 1 aE [.b true,.g,.g,.g,.g,.g,.i,.l (iV nE),.b true,.g,.g] (fun _ f=>an4 (zR u1) u2 h1 (xL u3) f) nx
theorem xDW (h1:lz σ 3 (zL s_a (Int.toNat aE*1)) (iV nE)) (nx:Nx (aE+1) σ) (u1:aE<(s_l:Int):=by omega) (u2:Ix aE s_l:=by omega) (u3:¬ v=nE:=by omega) (u4:I6 (aE+1):=by omega):zPN (some s_a) s_l s_c v aE σ Nx Qr Q0 :=
 kO 0 (aE+1) [.b true,.g,.g,.g,.g,.g,.i,.l (iV nE),.b false,.n (aE+1),.g] (fun _ f=>an5 (zR u1) u2 h1 (xG u3) (w64 u4) f) nx
theorem xDV (nx:Q0 σ) (u1:¬ aE<(s_l:Int):=by omega):zPN s s_l s_c v aE σ Nx Qr Q0 :=
 kO 2 () [.b false] (fun _ f=>ai (zU u1) f) nx
theorem xKX (hL:yNI s s_l s_c v 0 σ Pr P0) (kr:∀ i4_1' σ',Pr i4_1' σ'→zYW s s_l s_c v i4_1' σ' Q) (k0:∀ σ',P0 σ'→zYX s s_l s_c v σ' Q):qg 83 [.slice s s_l s_c,iV v] σ Q :=
 zG [.g,.g,.g,.g,.lf 19 (zJP s s_l s_c v 0) [zNM s s_l s_c v Pr,zNN s s_l s_c v P0]] (kd (ai (ai tt (ai (arf (zJP s s_l s_c v 0)) hL)) (ai (kz1 kr) (ai (kz0 k0) trivial))))
theorem yNE (nx:Q (iV bu) σ):zYW s s_l s_c v bu σ Q :=
 sK [] nx
theorem yNF (nx:Q (iV (-1)) σ):zYX s s_l s_c v σ Q :=
 sK [.g] nx
theorem xSB (h1:qm 83 [.slice s s_l s_c,iV v] σ (iV n1) σ) (nx:Q (.bool true) σ) (u1:0≤n1:=by omega):qg 58 [.slice s s_l s_c,iV v] σ Q :=
 zG [.g,.g,.g,.c (iV n1) σ,.b true,.g] (kd (an2 h1 (yD u1) nx))
theorem xSA (h1:qm 83 [.slice s s_l s_c,iV v] σ (iV n1) σ) (nx:Q (.bool false) σ) (u1:¬ 0≤n1:=by omega):qg 58 [.slice s s_l s_c,iV v] σ Q :=
 zG [.g,.g,.g,.c (iV n1) σ,.b false,.g] (kd (an2 h1 (yF u1) nx))
end
section
noncomputable section
variable (roster:oAa) (aG aN:Nat) (Q:Int→Int→St→Prop) (q0:Int→St→Prop) (aH bM:Int) (σ:St) (Nx:Int→Int→St→Prop) (q2:vPa) (Q0:Int→St→Prop)
def yFL:Code:=(Code.part [1,0,1,0,0] (qh 63))
def zFS:lNa:=[(2,iV aH),(5,.slice roster aG aN),(6,iV (aG:Int)),(7,iV bM)]
def yVJ:Alt:=⟨Int × Int,.normal,fun t=>zFS roster aG aN t.1 t.2,fun t=>[],fun t σ=>Q t.1 t.2 σ⟩
def zUC (roster:oAa) (aG aN:Nat) (aH:Int):lNa:=[(2,iV aH)]
def zJZ:Alt:=⟨Int,(.exit 0),fun t=>zUC roster aG aN t,fun t=>[],fun t σ=>q0 t σ⟩
def zLL:Prop:=qi qj none yFL 17 (zFS roster aG aN aH bM) [] [yVJ roster aG aN Nx,zJZ roster aG aN Q0] σ
def yFM:Prop:=qk qj none yFL 17 (zFS roster aG aN aH bM) [] [zJZ roster aG aN Q0] σ
def zUD:Prop:=kZ qj (qh 63) [1,0,1,0] (ql 63 q2) (.exit 0) 17 (zUC roster aG aN aH) σ
end
variable {ak ao au aj eF n1 n4 aH bM nE:Int} {af ae roster q1 q3:oAa} {ac ad aa ab aG aN l1 c1 l3 c3:Nat} {σ σ2 σ4:St} {Q:vPa} {Inv:Nat→Int→Int→St→Prop} {Q0 P0:Int→St→Prop} {eL:Addr} {Nx:Int→Int→St→Prop}
theorem yJS (nx:Q (iV 3) (σ.row (wkc ak af ac ad ae aa ab ao au aj) 6)) (u1:12<(ac:Int):=by omega):qg 16 [qf (wkc ak af ac ad ae aa ab ao au aj)] σ Q :=
 zG [.g,.g,.g,.l (.slice af ac ad),.g,.b true,.g,.g,.g,.g] (kd (an2 ((zC _ _ _).rw.ld zAV (k:=1) rfl:lz (σ.row (wkc ak af ac ad ae aa ab ao au aj) 6) 31 (qe σ.y 1) (.slice af ac ad)) (zR u1) nx))
theorem yJR:let y0:=wkc ak af ac ad ae aa ab ao au aj;∀ (nx:Q (iV 3) (σ.row y0 6)) (u1:¬ 12<(ac:Int):=by omega) (u2:6<(aa:Int):=by omega),qg 16 [qf y0] σ Q :=
 let s1:=σ.row (wkc ak af ac ad ae aa ab ao au aj) 6;fun nx u1 u2=>zG [.g,.g,.g,.l (.slice af ac ad),.g,.b false,.g,.g,.l (.slice ae aa ab),.g,.b true,.g,.g,.g] (kd (an4 ((zC _ _ _).rw.ld zAV (k:=1) rfl:lz s1 31 (qe σ.y 1) (.slice af ac ad)) (zU u1) ((zC _ _ _).rw.ld zAU (k:=2) rfl:lz s1 32 (qe σ.y 2) (.slice ae aa ab)) (zR u2) nx))
theorem yJQ:let s1:=σ.row (wkc ak af ac ad ae aa ab ao au aj) 6;∀ (h1:qm 47 [iV ak,iV 1,iV 7] s1 (.bool true) s1) (h2:qm 47 [iV ao,iV 0,iV 3000] s1 (.bool true) s1) (h3:qm 47 [iV au,iV 1,iV 14] s1 (.bool true) s1) (h4:qm 47 [iV aj,iV 0,iV 20000] s1 (.bool true) s1) (h5:qm 48 [.slice af ac ad,.func (.func 49) ⟨[qf (wkc ak af ac ad ae aa ab ao au aj)]⟩ ⟨[]⟩] s1 (.bool true) s1) (h6:qm 50 [.slice ae aa ab,.func (.func 51) ⟨[qf (wkc ak af ac ad ae aa ab ao au aj)]⟩ ⟨[]⟩] s1 (.bool true) s1) (nx:Q (iV 0) s1) (u1:¬ 12<(ac:Int):=by omega) (u2:¬ 6<(aa:Int):=by omega),qg 16 [qf (wkc ak af ac ad ae aa ab ao au aj)] σ Q:=
 let s1:=σ.row (wkc ak af ac ad ae aa ab ao au aj) 6;fun h1 h2 h3 h4 h5 h6 nx u1 u2=>zG [.g,.g,.g,.l (.slice af ac ad),.g,.b false,.g,.g,.l (.slice ae aa ab),.g,.b false,.g,.g,.g,.l (iV ak),.c (.bool true) s1,.g,.g,.g,.l (iV ao),.c (.bool true) s1,.g,.g,.g,.g,.l (iV au),.c (.bool true) s1,.g,.g,.g,.g,.l (iV aj),.c (.bool true) s1,.g,.g,.g,.g,.l (.slice af ac ad),.l (qf (wkc ak af ac ad ae aa ab ao au aj)),.g,.c (.bool true) s1,.g,.g,.g,.l (.slice ae aa ab),.l (qf (wkc ak af ac ad ae aa ab ao au aj)),.g,.c (.bool true) s1,.g,.g,.g,.g] (kd (an6 ((zC _ _ _).rw.ld zAV (k:=1) rfl:lz s1 31 (qe σ.y 1) (.slice af ac ad)) (zU u1) ((zC _ _ _).rw.ld zAU (k:=2) rfl:lz s1 32 (qe σ.y 2) (.slice ae aa ab)) (zU u2) ((zC _ _ _).rw.ld zT (k:=0) rfl:lz s1 3 (qe σ.y 0) (iV ak)) h1 (an6 ((zC _ _ _).rw.ld zT (k:=3) rfl:lz s1 3 (qe σ.y 3) (iV ao)) h2 ((zC _ _ _).rw.ld zT (k:=4) rfl:lz s1 3 (qe σ.y 4) (iV au)) h3 ((zC _ _ _).rw.ld zT (k:=5) rfl:lz s1 3 (qe σ.y 5) (iV aj)) h4 (an6 ((zC _ _ _).rw.ld zAV (k:=1) rfl:lz s1 31 (qe σ.y 1) (.slice af ac ad)) ((zC _ _ _).rw.ldN xW xC (k:=0) rfl rfl (nle rfl):lz s1 34 (qe σ.y 0) (qf (wkc ak af ac ad ae aa ab ao au aj))) h5 ((zC _ _ _).rw.ld zAU (k:=2) rfl:lz s1 32 (qe σ.y 2) (.slice ae aa ab)) ((zC _ _ _).rw.ldN xW xC (k:=0) rfl rfl (nle rfl):lz s1 34 (qe σ.y 0) (qf (wkc ak af ac ad ae aa ab ao au aj))) h6 nx))))
theorem yJP:let s1:=σ.row (wkc ak af ac ad ae aa ab ao au aj) 6;∀ (h1:qm 47 [iV ak,iV 1,iV 7] s1 (.bool true) s1) (h2:qm 47 [iV ao,iV 0,iV 3000] s1 (.bool true) s1) (h3:qm 47 [iV au,iV 1,iV 14] s1 (.bool true) s1) (h4:qm 47 [iV aj,iV 0,iV 20000] s1 (.bool true) s1) (h5:qm 48 [.slice af ac ad,.func (.func 49) ⟨[qf (wkc ak af ac ad ae aa ab ao au aj)]⟩ ⟨[]⟩] s1 (.bool true) s1) (h6:qm 50 [.slice ae aa ab,.func (.func 51) ⟨[qf (wkc ak af ac ad ae aa ab ao au aj)]⟩ ⟨[]⟩] s1 (.bool false) s1) (nx:Q (iV 1) s1) (u1:¬ 12<(ac:Int):=by omega) (u2:¬ 6<(aa:Int):=by omega),qg 16 [qf (wkc ak af ac ad ae aa ab ao au aj)] σ Q:=
 let s1:=σ.row (wkc ak af ac ad ae aa ab ao au aj) 6;fun h1 h2 h3 h4 h5 h6 nx u1 u2=>zG [.g,.g,.g,.l (.slice af ac ad),.g,.b false,.g,.g,.l (.slice ae aa ab),.g,.b false,.g,.g,.g,.l (iV ak),.c (.bool true) s1,.g,.g,.g,.l (iV ao),.c (.bool true) s1,.g,.g,.g,.g,.l (iV au),.c (.bool true) s1,.g,.g,.g,.g,.l (iV aj),.c (.bool true) s1,.g,.g,.g,.g,.l (.slice af ac ad),.l (qf (wkc ak af ac ad ae aa ab ao au aj)),.g,.c (.bool true) s1,.g,.g,.g,.l (.slice ae aa ab),.l (qf (wkc ak af ac ad ae aa ab ao au aj)),.g,.c (.bool false) s1,.g,.g,.g,.g] (kd (an6 ((zC _ _ _).rw.ld zAV (k:=1) rfl:lz s1 31 (qe σ.y 1) (.slice af ac ad)) (zU u1) ((zC _ _ _).rw.ld zAU (k:=2) rfl:lz s1 32 (qe σ.y 2) (.slice ae aa ab)) (zU u2) ((zC _ _ _).rw.ld zT (k:=0) rfl:lz s1 3 (qe σ.y 0) (iV ak)) h1 (an6 ((zC _ _ _).rw.ld zT (k:=3) rfl:lz s1 3 (qe σ.y 3) (iV ao)) h2 ((zC _ _ _).rw.ld zT (k:=4) rfl:lz s1 3 (qe σ.y 4) (iV au)) h3 ((zC _ _ _).rw.ld zT (k:=5) rfl:lz s1 3 (qe σ.y 5) (iV aj)) h4 (an6 ((zC _ _ _).rw.ld zAV (k:=1) rfl:lz s1 31 (qe σ.y 1) (.slice af ac ad)) ((zC _ _ _).rw.ldN xW xC (k:=0) rfl rfl (nle rfl):lz s1 34 (qe σ.y 0) (qf (wkc ak af ac ad ae aa ab ao au aj))) h5 ((zC _ _ _).rw.ld zAU (k:=2) rfl:lz s1 32 (qe σ.y 2) (.slice ae aa ab)) ((zC _ _ _).rw.ldN xW xC (k:=0) rfl rfl (nle rfl):lz s1 34 (qe σ.y 0) (qf (wkc ak af ac ad ae aa ab ao au aj))) h6 nx))))
theorem yJO:let s1:=σ.row (wkc ak af ac ad ae aa ab ao au aj) 6;∀ (h1:qm 47 [iV ak,iV 1,iV 7] s1 (.bool true) s1) (h2:qm 47 [iV ao,iV 0,iV 3000] s1 (.bool true) s1) (h3:qm 47 [iV au,iV 1,iV 14] s1 (.bool true) s1) (h4:qm 47 [iV aj,iV 0,iV 20000] s1 (.bool true) s1) (h5:qm 48 [.slice af ac ad,.func (.func 49) ⟨[qf (wkc ak af ac ad ae aa ab ao au aj)]⟩ ⟨[]⟩] s1 (.bool false) s1) (nx:Q (iV 1) s1) (u1:¬ 12<(ac:Int):=by omega) (u2:¬ 6<(aa:Int):=by omega),qg 16 [qf (wkc ak af ac ad ae aa ab ao au aj)] σ Q:=
 let s1:=σ.row (wkc ak af ac ad ae aa ab ao au aj) 6;fun h1 h2 h3 h4 h5 nx u1 u2=>zG [.g,.g,.g,.l (.slice af ac ad),.g,.b false,.g,.g,.l (.slice ae aa ab),.g,.b false,.g,.g,.g,.l (iV ak),.c (.bool true) s1,.g,.g,.g,.l (iV ao),.c (.bool true) s1,.g,.g,.g,.g,.l (iV au),.c (.bool true) s1,.g,.g,.g,.g,.l (iV aj),.c (.bool true) s1,.g,.g,.g,.g,.l (.slice af ac ad),.l (qf (wkc ak af ac ad ae aa ab ao au aj)),.g,.c (.bool false) s1,.g,.g,.g,.g,.g] (kd (an3 ((zC _ _ _).rw.ld zAV (k:=1) rfl:lz s1 31 (qe σ.y 1) (.slice af ac ad)) (zU u1) ((zC _ _ _).rw.ld zAU (k:=2) rfl:lz s1 32 (qe σ.y 2) (.slice ae aa ab)) (an6 (zU u2) ((zC _ _ _).rw.ld zT (k:=0) rfl:lz s1 3 (qe σ.y 0) (iV ak)) h1 ((zC _ _ _).rw.ld zT (k:=3) rfl:lz s1 3 (qe σ.y 3) (iV ao)) h2 ((zC _ _ _).rw.ld zT (k:=4) rfl:lz s1 3 (qe σ.y 4) (iV au)) (an6 h3 ((zC _ _ _).rw.ld zT (k:=5) rfl:lz s1 3 (qe σ.y 5) (iV aj)) h4 ((zC _ _ _).rw.ld zAV (k:=1) rfl:lz s1 31 (qe σ.y 1) (.slice af ac ad)) ((zC _ _ _).rw.ldN xW xC (k:=0) rfl rfl (nle rfl):lz s1 34 (qe σ.y 0) (qf (wkc ak af ac ad ae aa ab ao au aj))) h5 nx))))
theorem yJN:let s1:=σ.row (wkc ak af ac ad ae aa ab ao au aj) 6;∀ (h1:qm 47 [iV ak,iV 1,iV 7] s1 (.bool true) s1) (h2:qm 47 [iV ao,iV 0,iV 3000] s1 (.bool true) s1) (h3:qm 47 [iV au,iV 1,iV 14] s1 (.bool true) s1) (h4:qm 47 [iV aj,iV 0,iV 20000] s1 (.bool false) s1) (nx:Q (iV 1) s1) (u1:¬ 12<(ac:Int):=by omega) (u2:¬ 6<(aa:Int):=by omega),qg 16 [qf (wkc ak af ac ad ae aa ab ao au aj)] σ Q:=
 let s1:=σ.row (wkc ak af ac ad ae aa ab ao au aj) 6;fun h1 h2 h3 h4 nx u1 u2=>zG [.g,.g,.g,.l (.slice af ac ad),.g,.b false,.g,.g,.l (.slice ae aa ab),.g,.b false,.g,.g,.g,.l (iV ak),.c (.bool true) s1,.g,.g,.g,.l (iV ao),.c (.bool true) s1,.g,.g,.g,.g,.l (iV au),.c (.bool true) s1,.g,.g,.g,.g,.l (iV aj),.c (.bool false) s1,.g,.g,.g,.g] (kd (an6 ((zC _ _ _).rw.ld zAV (k:=1) rfl:lz s1 31 (qe σ.y 1) (.slice af ac ad)) (zU u1) ((zC _ _ _).rw.ld zAU (k:=2) rfl:lz s1 32 (qe σ.y 2) (.slice ae aa ab)) (zU u2) ((zC _ _ _).rw.ld zT (k:=0) rfl:lz s1 3 (qe σ.y 0) (iV ak)) h1 (an6 ((zC _ _ _).rw.ld zT (k:=3) rfl:lz s1 3 (qe σ.y 3) (iV ao)) h2 ((zC _ _ _).rw.ld zT (k:=4) rfl:lz s1 3 (qe σ.y 4) (iV au)) h3 ((zC _ _ _).rw.ld zT (k:=5) rfl:lz s1 3 (qe σ.y 5) (iV aj)) h4 nx)))
theorem yJM:let s1:=σ.row (wkc ak af ac ad ae aa ab ao au aj) 6;∀ (h1:qm 47 [iV ak,iV 1,iV 7] s1 (.bool true) s1) (h2:qm 47 [iV ao,iV 0,iV 3000] s1 (.bool true) s1) (h3:qm 47 [iV au,iV 1,iV 14] s1 (.bool false) s1) (nx:Q (iV 1) s1) (u1:¬ 12<(ac:Int):=by omega) (u2:¬ 6<(aa:Int):=by omega),qg 16 [qf (wkc ak af ac ad ae aa ab ao au aj)] σ Q:=
 let s1:=σ.row (wkc ak af ac ad ae aa ab ao au aj) 6;fun h1 h2 h3 nx u1 u2=>zG [.g,.g,.g,.l (.slice af ac ad),.g,.b false,.g,.g,.l (.slice ae aa ab),.g,.b false,.g,.g,.g,.l (iV ak),.c (.bool true) s1,.g,.g,.g,.l (iV ao),.c (.bool true) s1,.g,.g,.g,.g,.l (iV au),.c (.bool false) s1,.g,.g,.g,.g,.g,.g] (kd (an4 ((zC _ _ _).rw.ld zAV (k:=1) rfl:lz s1 31 (qe σ.y 1) (.slice af ac ad)) (zU u1) ((zC _ _ _).rw.ld zAU (k:=2) rfl:lz s1 32 (qe σ.y 2) (.slice ae aa ab)) (zU u2) (an6 ((zC _ _ _).rw.ld zT (k:=0) rfl:lz s1 3 (qe σ.y 0) (iV ak)) h1 ((zC _ _ _).rw.ld zT (k:=3) rfl:lz s1 3 (qe σ.y 3) (iV ao)) h2 ((zC _ _ _).rw.ld zT (k:=4) rfl:lz s1 3 (qe σ.y 4) (iV au)) h3 nx)))
theorem yJL:let s1:=σ.row (wkc ak af ac ad ae aa ab ao au aj) 6;∀ (h1:qm 47 [iV ak,iV 1,iV 7] s1 (.bool true) s1) (h2:qm 47 [iV ao,iV 0,iV 3000] s1 (.bool false) s1) (nx:Q (iV 1) s1) (u1:¬ 12<(ac:Int):=by omega) (u2:¬ 6<(aa:Int):=by omega),qg 16 [qf (wkc ak af ac ad ae aa ab ao au aj)] σ Q:=
 let s1:=σ.row (wkc ak af ac ad ae aa ab ao au aj) 6;fun h1 h2 nx u1 u2=>zG [.g,.g,.g,.l (.slice af ac ad),.g,.b false,.g,.g,.l (.slice ae aa ab),.g,.b false,.g,.g,.g,.l (iV ak),.c (.bool true) s1,.g,.g,.g,.l (iV ao),.c (.bool false) s1,.g,.g,.g,.g,.g,.g,.g,.g] (kd (an2 ((zC _ _ _).rw.ld zAV (k:=1) rfl:lz s1 31 (qe σ.y 1) (.slice af ac ad)) (zU u1) (an6 ((zC _ _ _).rw.ld zAU (k:=2) rfl:lz s1 32 (qe σ.y 2) (.slice ae aa ab)) (zU u2) ((zC _ _ _).rw.ld zT (k:=0) rfl:lz s1 3 (qe σ.y 0) (iV ak)) h1 ((zC _ _ _).rw.ld zT (k:=3) rfl:lz s1 3 (qe σ.y 3) (iV ao)) h2 nx)))
theorem yJK:let s1:=σ.row (wkc ak af ac ad ae aa ab ao au aj) 6;∀ (h1:qm 47 [iV ak,iV 1,iV 7] s1 (.bool false) s1) (nx:Q (iV 1) s1) (u1:¬ 12<(ac:Int):=by omega) (u2:¬ 6<(aa:Int):=by omega),qg 16 [qf (wkc ak af ac ad ae aa ab ao au aj)] σ Q:=
 let s1:=σ.row (wkc ak af ac ad ae aa ab ao au aj) 6;fun h1 nx u1 u2=>zG [.g,.g,.g,.l (.slice af ac ad),.g,.b false,.g,.g,.l (.slice ae aa ab),.g,.b false,.g,.g,.g,.l (iV ak),.c (.bool false) s1,.g,.g,.g,.g,.g,.g,.g,.g,.g] (kd (an6 ((zC _ _ _).rw.ld zAV (k:=1) rfl:lz s1 31 (qe σ.y 1) (.slice af ac ad)) (zU u1) ((zC _ _ _).rw.ld zAU (k:=2) rfl:lz s1 32 (qe σ.y 2) (.slice ae aa ab)) (zU u2) ((zC _ _ _).rw.ld zT (k:=0) rfl:lz s1 3 (qe σ.y 0) (iV ak)) h1 nx))
theorem xKI:let s1:=σ.row (wkc ak af ac ad ae aa ab ao au aj) 6;∀ (h1:qm 86 [qf (wkc ak af ac ad ae aa ab ao au aj)] s1 (.slice q1 l1 c1) σ2) (h2:qm 54 [qf (wkc ak af ac ad ae aa ab ao au aj),.slice roster aG aN,.slice q1 l1 c1] σ2 (.slice q3 l3 c3) σ4) (h3:zI s1.y [qf (wkc ak af ac ad ae aa ab ao au aj)]) (h4:zI σ2.y [qf (wkc ak af ac ad ae aa ab ao au aj),.slice roster aG aN,.slice q1 l1 c1]) (h5:zI σ4.y [.slice q3 l3 c3]) (h6:(zLq σ2 34 (qe σ.y 0) (qf (wkc ak af ac ad ae aa ab ao au aj)))) (nx:Q (.bool true) σ4) (u1:(l3:Int)=0:=by omega),qg 62 [qf (wkc ak af ac ad ae aa ab ao au aj),.slice roster aG aN] σ Q:=
 let s1:=σ.row (wkc ak af ac ad ae aa ab ao au aj) 6;fun h1 h2 h3 h4 h5 h6 nx u1=>zG [.g,.g,.l (qf (wkc ak af ac ad ae aa ab ao au aj)),.g,.l (qf (wkc ak af ac ad ae aa ab ao au aj)),.c (.slice q1 l1 c1) σ2,.c (.slice q3 l3 c3) σ4,.g,.b true,.g] (kd (an6 ((zC _ _ _).rw.ldN xW xC (k:=0) rfl rfl (nle rfl):lz s1 34 (qe σ.y 0) (qf (wkc ak af ac ad ae aa ab ao au aj))) ((zC _ _ _).rw.ldN xW xC (k:=0) rfl rfl (nle rfl):lz s1 34 (qe σ.y 0) (qf (wkc ak af ac ad ae aa ab ao au aj))) h1 h2 (xL u1) ((zE (zN (nlt σ.y 0 1 rfl)) zH):zI s1.y [pt σ.y 0]) (an6 ((zE (zN (nlt σ.y 0 1 rfl)) zH):zI s1.y [pt σ.y 0]) h3 h4 h5 (⟨⟨(nlt σ.y 0 1 rfl),rfl⟩,((zC _ _ _).rw.ldN xW xC (k:=0) rfl rfl (nle rfl))⟩:(zLq s1 34 (qe σ.y 0) (qf (wkc ak af ac ad ae aa ab ao au aj)))) h6 nx)))
theorem xKH:let s1:=σ.row (wkc ak af ac ad ae aa ab ao au aj) 6;∀ (h1:qm 86 [qf (wkc ak af ac ad ae aa ab ao au aj)] s1 (.slice q1 l1 c1) σ2) (h2:qm 54 [qf (wkc ak af ac ad ae aa ab ao au aj),.slice roster aG aN,.slice q1 l1 c1] σ2 (.slice q3 l3 c3) σ4) (h3:zI s1.y [qf (wkc ak af ac ad ae aa ab ao au aj)]) (h4:zI σ2.y [qf (wkc ak af ac ad ae aa ab ao au aj),.slice roster aG aN,.slice q1 l1 c1]) (h5:zI σ4.y [.slice q3 l3 c3]) (h6:(zLq σ2 34 (qe σ.y 0) (qf (wkc ak af ac ad ae aa ab ao au aj)))) (nx:Q (.bool false) σ4) (u1:¬ (l3:Int)=0:=by omega),qg 62 [qf (wkc ak af ac ad ae aa ab ao au aj),.slice roster aG aN] σ Q:=
 let s1:=σ.row (wkc ak af ac ad ae aa ab ao au aj) 6;fun h1 h2 h3 h4 h5 h6 nx u1=>zG [.g,.g,.l (qf (wkc ak af ac ad ae aa ab ao au aj)),.g,.l (qf (wkc ak af ac ad ae aa ab ao au aj)),.c (.slice q1 l1 c1) σ2,.c (.slice q3 l3 c3) σ4,.g,.b false,.g] (kd (an6 ((zC _ _ _).rw.ldN xW xC (k:=0) rfl rfl (nle rfl):lz s1 34 (qe σ.y 0) (qf (wkc ak af ac ad ae aa ab ao au aj))) ((zC _ _ _).rw.ldN xW xC (k:=0) rfl rfl (nle rfl):lz s1 34 (qe σ.y 0) (qf (wkc ak af ac ad ae aa ab ao au aj))) h1 h2 (xG u1) ((zE (zN (nlt σ.y 0 1 rfl)) zH):zI s1.y [pt σ.y 0]) (an6 ((zE (zN (nlt σ.y 0 1 rfl)) zH):zI s1.y [pt σ.y 0]) h3 h4 h5 (⟨⟨(nlt σ.y 0 1 rfl),rfl⟩,((zC _ _ _).rw.ldN xW xC (k:=0) rfl rfl (nle rfl))⟩:(zLq s1 34 (qe σ.y 0) (qf (wkc ak af ac ad ae aa ab ao au aj)))) h6 nx)))
theorem yAV:let s1:=σ.row (wkc ak af ac ad ae aa ab ao au aj) 6;∀ (h1:qm 16 [qf (wkc ak af ac ad ae aa ab ao au aj)] s1 (iV n1) s1) (h2:qm 52 [qf (wkc ak af ac ad ae aa ab ao au aj),.slice roster aG aN] s1 (.bool true) s1) (h3:qm 62 [qf (wkc ak af ac ad ae aa ab ao au aj),.slice roster aG aN] s1 (.bool true) s1) (h4:qm 63 [.slice roster aG aN] s1 (iV n4) s1) (nx:Q (.bool true) s1) (u1:n1=0:=by omega) (u2:eF≤n4:=by omega),qg 35 [qf (wkc ak af ac ad ae aa ab ao au aj),.slice roster aG aN,iV eF] σ Q:=
 let s1:=σ.row (wkc ak af ac ad ae aa ab ao au aj) 6;fun h1 h2 h3 h4 nx u1 u2=>zG [.g,.g,.l (qf (wkc ak af ac ad ae aa ab ao au aj)),.c (iV n1) s1,.b true,.g,.l (qf (wkc ak af ac ad ae aa ab ao au aj)),.g,.c (.bool true) s1,.g,.g,.l (qf (wkc ak af ac ad ae aa ab ao au aj)),.g,.c (.bool true) s1,.g,.g,.g,.c (iV n4) s1,.g,.b true,.g,.g] (kd (an3 ((zC _ _ _).rw.ldN xW xC (k:=0) rfl rfl (nle rfl):lz s1 34 (qe σ.y 0) (qf (wkc ak af ac ad ae aa ab ao au aj))) h1 (xL u1) (an6 ((zC _ _ _).rw.ldN xW xC (k:=0) rfl rfl (nle rfl):lz s1 34 (qe σ.y 0) (qf (wkc ak af ac ad ae aa ab ao au aj))) h2 ((zC _ _ _).rw.ldN xW xC (k:=0) rfl rfl (nle rfl):lz s1 34 (qe σ.y 0) (qf (wkc ak af ac ad ae aa ab ao au aj))) h3 h4 (yD u2) nx)))
theorem yAU:let s1:=σ.row (wkc ak af ac ad ae aa ab ao au aj) 6;∀ (h1:qm 16 [qf (wkc ak af ac ad ae aa ab ao au aj)] s1 (iV n1) s1) (h2:qm 52 [qf (wkc ak af ac ad ae aa ab ao au aj),.slice roster aG aN] s1 (.bool true) s1) (h3:qm 62 [qf (wkc ak af ac ad ae aa ab ao au aj),.slice roster aG aN] s1 (.bool true) s1) (h4:qm 63 [.slice roster aG aN] s1 (iV n4) s1) (nx:Q (.bool false) s1) (u1:n1=0:=by omega) (u2:¬ eF≤n4:=by omega),qg 35 [qf (wkc ak af ac ad ae aa ab ao au aj),.slice roster aG aN,iV eF] σ Q:=
 let s1:=σ.row (wkc ak af ac ad ae aa ab ao au aj) 6;fun h1 h2 h3 h4 nx u1 u2=>zG [.g,.g,.l (qf (wkc ak af ac ad ae aa ab ao au aj)),.c (iV n1) s1,.b true,.g,.l (qf (wkc ak af ac ad ae aa ab ao au aj)),.g,.c (.bool true) s1,.g,.g,.l (qf (wkc ak af ac ad ae aa ab ao au aj)),.g,.c (.bool true) s1,.g,.g,.g,.c (iV n4) s1,.g,.b false,.g,.g] (kd (an3 ((zC _ _ _).rw.ldN xW xC (k:=0) rfl rfl (nle rfl):lz s1 34 (qe σ.y 0) (qf (wkc ak af ac ad ae aa ab ao au aj))) h1 (xL u1) (an6 ((zC _ _ _).rw.ldN xW xC (k:=0) rfl rfl (nle rfl):lz s1 34 (qe σ.y 0) (qf (wkc ak af ac ad ae aa ab ao au aj))) h2 ((zC _ _ _).rw.ldN xW xC (k:=0) rfl rfl (nle rfl):lz s1 34 (qe σ.y 0) (qf (wkc ak af ac ad ae aa ab ao au aj))) h3 h4 (yF u2) nx)))
theorem yAT:let s1:=σ.row (wkc ak af ac ad ae aa ab ao au aj) 6;∀ (h1:qm 16 [qf (wkc ak af ac ad ae aa ab ao au aj)] s1 (iV n1) s1) (h2:qm 52 [qf (wkc ak af ac ad ae aa ab ao au aj),.slice roster aG aN] s1 (.bool true) s1) (h3:qm 62 [qf (wkc ak af ac ad ae aa ab ao au aj),.slice roster aG aN] s1 (.bool false) s1) (nx:Q (.bool false) s1) (u1:n1=0:=by omega),qg 35 [qf (wkc ak af ac ad ae aa ab ao au aj),.slice roster aG aN,iV eF] σ Q:=
 let s1:=σ.row (wkc ak af ac ad ae aa ab ao au aj) 6;fun h1 h2 h3 nx u1=>zG [.g,.g,.l (qf (wkc ak af ac ad ae aa ab ao au aj)),.c (iV n1) s1,.b true,.g,.l (qf (wkc ak af ac ad ae aa ab ao au aj)),.g,.c (.bool true) s1,.g,.g,.l (qf (wkc ak af ac ad ae aa ab ao au aj)),.g,.c (.bool false) s1,.g,.g,.g,.g] (kd (ai ((zC _ _ _).rw.ldN xW xC (k:=0) rfl rfl (nle rfl):lz s1 34 (qe σ.y 0) (qf (wkc ak af ac ad ae aa ab ao au aj))) (an6 h1 (xL u1) ((zC _ _ _).rw.ldN xW xC (k:=0) rfl rfl (nle rfl):lz s1 34 (qe σ.y 0) (qf (wkc ak af ac ad ae aa ab ao au aj))) h2 ((zC _ _ _).rw.ldN xW xC (k:=0) rfl rfl (nle rfl):lz s1 34 (qe σ.y 0) (qf (wkc ak af ac ad ae aa ab ao au aj))) h3 nx)))
theorem yAS:let s1:=σ.row (wkc ak af ac ad ae aa ab ao au aj) 6;∀ (h1:qm 16 [qf (wkc ak af ac ad ae aa ab ao au aj)] s1 (iV n1) s1) (h2:qm 52 [qf (wkc ak af ac ad ae aa ab ao au aj),.slice roster aG aN] s1 (.bool false) s1) (nx:Q (.bool false) s1) (u1:n1=0:=by omega),qg 35 [qf (wkc ak af ac ad ae aa ab ao au aj),.slice roster aG aN,iV eF] σ Q:=
 let s1:=σ.row (wkc ak af ac ad ae aa ab ao au aj) 6;fun h1 h2 nx u1=>zG [.g,.g,.l (qf (wkc ak af ac ad ae aa ab ao au aj)),.c (iV n1) s1,.b true,.g,.l (qf (wkc ak af ac ad ae aa ab ao au aj)),.g,.c (.bool false) s1,.g,.g,.g,.g,.g,.g] (kd (an5 ((zC _ _ _).rw.ldN xW xC (k:=0) rfl rfl (nle rfl):lz s1 34 (qe σ.y 0) (qf (wkc ak af ac ad ae aa ab ao au aj))) h1 (xL u1) ((zC _ _ _).rw.ldN xW xC (k:=0) rfl rfl (nle rfl):lz s1 34 (qe σ.y 0) (qf (wkc ak af ac ad ae aa ab ao au aj))) h2 nx))
theorem yAR:let s1:=σ.row (wkc ak af ac ad ae aa ab ao au aj) 6;∀ (h1:qm 16 [qf (wkc ak af ac ad ae aa ab ao au aj)] s1 (iV n1) s1) (nx:Q (.bool false) s1) (u1:¬ n1=0:=by omega),qg 35 [qf (wkc ak af ac ad ae aa ab ao au aj),.slice roster aG aN,iV eF] σ Q:=
 let s1:=σ.row (wkc ak af ac ad ae aa ab ao au aj) 6;fun h1 nx u1=>zG [.g,.g,.l (qf (wkc ak af ac ad ae aa ab ao au aj)),.c (iV n1) s1,.b false,.g,.g,.g,.g,.g,.g,.g] (kd (an3 ((zC _ _ _).rw.ldN xW xC (k:=0) rfl rfl (nle rfl):lz s1 34 (qe σ.y 0) (qf (wkc ak af ac ad ae aa ab ao au aj))) h1 (xG u1) nx))
theorem yIP (hb:∀ k aH bM σ,Inv k aH bM σ→zLL roster aG aN aH bM σ (NX2 Inv k) Q0):∀ k aH bM σ,Inv k aH bM σ→yFM roster aG aN aH bM σ Q0 :=
 zDP (ai (wA 0) trivial) hb
theorem yVI (h1:lz σ 3 (zL eL (Int.toNat bM*1)) (iV nE)) (nx:Nx (aH+1) (bM+1) σ) (u1:bM<(aG:Int):=by omega) (u2:Ix bM aG:=by omega) (u3:¬ nE=(-1):=by omega) (u4:I6 (aH+1):=by omega) (u5:I6 (bM+1):=by omega):zLL (some eL) aG aN aH bM σ Nx Q0 :=
 kO 0 (aH+1,bM+1) [.b true,.i,.l (iV nE),.g,.g,.b true,.g,.n (aH+1),.g,.n (bM+1),.g] (fun _ f=>an6 (zR u1) u2 h1 (zGQ u3) (w64 u4) (w64 u5) f) nx
theorem yVH (h1:lz σ 3 (zL eL (Int.toNat bM*1)) (iV nE)) (nx:Nx aH (bM+1) σ) (u1:bM<(aG:Int):=by omega) (u2:Ix bM aG:=by omega) (u3:nE=(-1):=by omega) (u4:I6 (bM+1):=by omega):zLL (some eL) aG aN aH bM σ Nx Q0 :=
 kO 0 (aH,bM+1) [.b true,.i,.l (iV nE),.g,.g,.b false,.n (bM+1),.g] (fun _ f=>an5 (zR u1) u2 h1 (zCQ u3) (w64 u4) f) nx
theorem yVG (nx:Q0 aH σ) (u1:¬ bM<(aG:Int):=by omega):zLL roster aG aN aH bM σ Nx Q0 :=
 kO 1 aH [.b false] (fun _ f=>ai (zU u1) f) nx
theorem xER (hL:yFM roster aG aN 0 0 σ P0) (k0:∀ i2_1' σ',P0 i2_1' σ'→zUD roster aG aN i2_1' σ' Q):qg 63 [.slice roster aG aN] σ Q :=
 zG [.g,.g,.g,.g,.lf 17 (zFS roster aG aN 0 0) [zJZ roster aG aN P0]] (kd (ai (ai tt (ai (arf (zFS roster aG aN 0 0)) hL)) (ai (kz1 k0) trivial)))
theorem yIO (nx:Q (iV aH) σ):zUD roster aG aN aH σ Q :=
 sK [.g,.g] nx
end
section
variable {σ:St}
theorem xVT {p:Option Addr} {len cap:Nat} {g:FuncId} {ga:List Value} {gc:List Value} {xs:List Dty} {f:Dty→Bool} (hs:SlV Pg σ 85 5 p len (xs.map zBM)) (hlen:len≤1073741824)
  (hc:∀ x∈xs,∀ τ,Le σ τ→zD Pg g (ga++(zBM x::gc)) τ (.bool (f x)) τ):∃ r:Int,zD Pg 87 [.slice p len cap,.func (.func g) ⟨ga⟩ ⟨gc⟩] σ (iV r) σ∧(0≤r↔xs.any f=true):=by
 have hl:xs.length=len:=by have:=hs.2.1;simpa using this
 have key:zP Pg 87 [.slice p len cap,.func (.func g) ⟨ga⟩ ⟨gc⟩] σ.re fun v s=>(∃ r:Int,v=iV r∧(0≤r↔xs.any f=true))∧s=σ.re:=by
  refine xRJ (yUS (Inv:=fun k i τ=>τ=σ.re∧∃ j:Nat,i=j∧j+k=len∧(xs.take j).any f=false) (Qr:=fun i τ=>τ=σ.re∧0≤i∧xs.any f=true) (Q0:=fun τ=>τ=σ.re∧xs.any f=false) ?_ len 0 σ.re ⟨rfl,0,rfl,by omega,by simp⟩) ?_ ?_
  ·rintro k i τ ⟨rfl,j,rfl,hk,ha⟩;by_cases hj:j<len
   ·obtain ⟨a,rfl,x,hx,ld⟩:=vB hs.re hj;have c:=hc x (List.mem_of_getElem? hx) σ.re (le0 σ);cases hf:f x with
    | true =>
     rw [hf] at c;exact xLN ld c ⟨rfl,by omega,List.any_eq_true.2 ⟨x,List.mem_of_getElem? hx,hf⟩⟩
    | false =>
     rw [hf] at c;exact xLM ld c ⟨k-1,by omega,rfl,j+1,by omega,by omega,by rw [wO hx,List.any_append,ha];simp [hf]⟩
   ·exact xLL ⟨rfl,by rwa [List.take_of_length_le (by omega)] at ha⟩
  ·rintro i τ ⟨rfl,h1,h2⟩;exact yUQ ⟨⟨i,rfl,by simp [h1,h2]⟩,rfl⟩
  ·rintro τ ⟨rfl,h⟩;exact yUR ⟨⟨-1,rfl,by simp [h]⟩,rfl⟩
 obtain ⟨v,s,h1,⟨r,rfl,h2⟩,rfl⟩:=key;exact ⟨r,zQY h1 (Nat.le_refl _) rfl,h2⟩
theorem xWB {p:Option Addr} {len cap:Nat} {g:FuncId} {ga:List Value} {gc:List Value} {xs:List Dty} {f:Dty→Bool} (hs:SlV Pg σ 85 5 p len (xs.map zBM)) (hlen:len≤1073741824)
  (hc:∀ x∈xs,∀ τ,Le σ τ→zD Pg g (ga++(zBM x::gc)) τ (.bool (f x)) τ):zD Pg 67 [.slice p len cap,.func (.func g) ⟨ga⟩ ⟨gc⟩] σ (.bool (xs.any f)) σ:=by
 obtain ⟨r,h1,h2⟩:=xVT (σ:=σ.re) (cap:=cap) hs.re hlen (fun x hx τ hτ=>hc x hx τ ((le0 σ).trans hτ));cases ha:xs.any f with
 | true=>exact (xSD h1 ⟨rfl,Nat.le_refl _⟩ (h2.2 ha)).pure
 | false=>exact (xSC h1 ⟨rfl,Nat.le_refl _⟩ (fun h=>by rw [h2.1 h] at ha;cases ha)).pure
theorem xTA {x:Dty} {a:Addr} {g:FuncId} {ga:List Value} {gc:List Value} {b:Bool} (hr:Row σ a [.func (.func g) ⟨ga⟩ ⟨gc⟩]) (hc:∀ τ,Le σ τ→zD Pg g (ga++(zBM x::gc)) τ (.bool b) τ) :
  zD Pg 68 [zBM x,.pointer (some a)] σ (.bool (!b)) σ:=by
 cases b with
 | true=>exact (xNV (hr.re.row.ld1 xTX) (hc _ ((le0 σ).trans (Le.row _ _ _))) ⟨rfl,Nat.le_refl _⟩).pure
 | false=>exact (xNU (hr.re.row.ld1 xTX) (hc _ ((le0 σ).trans (Le.row _ _ _))) ⟨rfl,Nat.le_refl _⟩).pure
theorem xWI {p:Option Addr} {len cap:Nat} {g:FuncId} {ga:List Value} {gc:List Value} {xs:List Dty} {f:Dty→Bool} (hs:SlV Pg σ 85 5 p len (xs.map zBM)) (hlen:len≤1073741824)
  (hc:∀ x∈xs,∀ τ,Le σ τ→zD Pg g (ga++(zBM x::gc)) τ (.bool (f x)) τ):zD Pg 48 [.slice p len cap,.func (.func g) ⟨ga⟩ ⟨gc⟩] σ (.bool (xs.all f)) σ:=by
 have c:=xWB (σ:=σ.re.row [.func (.func g) ⟨ga⟩ ⟨gc⟩] 1) (g:=68) (ga:=[]) (gc:=[.pointer (some ⟨σ.re.y,0,none⟩)]) (f:=fun x=>!f x) (cap:=cap) hs.re.row hlen
  (fun x hx τ hτ=>xTA ((xN _ _ _).le hτ) (fun τ' hτ'=>hc x hx τ' ((((le0 σ).trans (Le.row _ _ _)).trans hτ).trans hτ')))
 have e:(xs.any fun x=>!f x)=!xs.all f:=by rw [List.not_all_eq_any_not]
 rw [e] at c;cases ha:xs.all f with
 | true=>rw [ha] at c;exact (xSY c ⟨rfl,Nat.le_refl _⟩).pure
 | false=>rw [ha] at c;exact (xSZ c ⟨rfl,Nat.le_refl _⟩).pure
theorem xVS {p:Option Addr} {len cap:Nat} {g:FuncId} {gc:List Value} {xs:List Int} {f:Int→Bool} (hs:SlV Pg σ 3 1 p len (xs.map yA)) (hlen:len≤1073741824)
  (hc:∀ x∈xs,∀ τ,Le σ τ→zD Pg g (yA x::gc) τ (.bool (f x)) τ):∃ r:Int,zD Pg 105 [.slice p len cap,.func (.func g) ⟨[]⟩ ⟨gc⟩] σ (iV r) σ∧(0≤r↔xs.any f=true):=by
 have hl:xs.length=len:=by have:=hs.2.1;simpa using this
 have key:zP Pg 105 [.slice p len cap,.func (.func g) ⟨[]⟩ ⟨gc⟩] σ.re fun v s=>(∃ r:Int,v=iV r∧(0≤r↔xs.any f=true))∧s=σ.re:=by
  refine xRI (yUP (Inv:=fun k i τ=>τ=σ.re∧∃ j:Nat,i=j∧j+k=len∧(xs.take j).any f=false) (Qr:=fun i τ=>τ=σ.re∧0≤i∧xs.any f=true) (Q0:=fun τ=>τ=σ.re∧xs.any f=false) ?_ len 0 σ.re ⟨rfl,0,rfl,by omega,by simp⟩) ?_ ?_
  ·rintro k i τ ⟨rfl,j,rfl,hk,ha⟩;by_cases hj:j<len
   ·obtain ⟨a,rfl,x,hx,ld⟩:=vB hs.re hj;have c:=hc x (List.mem_of_getElem? hx) σ.re (le0 σ);cases hf:f x with
    | true =>
     rw [hf] at c;exact xLJ ld c ⟨rfl,by omega,List.any_eq_true.2 ⟨x,List.mem_of_getElem? hx,hf⟩⟩
    | false =>
     rw [hf] at c;exact xLI ld c ⟨k-1,by omega,rfl,j+1,by omega,by omega,by rw [wO hx,List.any_append,ha];simp [hf]⟩
   ·exact xLH ⟨rfl,by rwa [List.take_of_length_le (by omega)] at ha⟩
  ·rintro i τ ⟨rfl,h1,h2⟩;exact yUN ⟨⟨i,rfl,by simp [h1,h2]⟩,rfl⟩
  ·rintro τ ⟨rfl,h⟩;exact yUO ⟨⟨-1,rfl,by simp [h]⟩,rfl⟩
 obtain ⟨v,s,h1,⟨r,rfl,h2⟩,rfl⟩:=key;exact ⟨r,zQY h1 (Nat.le_refl _) rfl,h2⟩
theorem xWA {p:Option Addr} {len cap:Nat} {g:FuncId} {gc:List Value} {xs:List Int} {f:Int→Bool} (hs:SlV Pg σ 3 1 p len (xs.map yA)) (hlen:len≤1073741824)
  (hc:∀ x∈xs,∀ τ,Le σ τ→zD Pg g (yA x::gc) τ (.bool (f x)) τ):zD Pg 89 [.slice p len cap,.func (.func g) ⟨[]⟩ ⟨gc⟩] σ (.bool (xs.any f)) σ:=by
 obtain ⟨r,h1,h2⟩:=xVS (σ:=σ.re) (cap:=cap) hs.re hlen (fun x hx τ hτ=>hc x hx τ ((le0 σ).trans hτ));cases ha:xs.any f with
 | true=>exact (xRZ h1 ⟨rfl,Nat.le_refl _⟩ (h2.2 ha)).pure
 | false=>exact (xRY h1 ⟨rfl,Nat.le_refl _⟩ (fun h=>by rw [h2.1 h] at ha;cases ha)).pure
theorem xSX {x:Int} {a:Addr} {g:FuncId} {gc:List Value} {b:Bool} (hr:Row σ a [.func (.func g) ⟨[]⟩ ⟨gc⟩]) (hc:∀ τ,Le σ τ→zD Pg g (yA x::gc) τ (.bool b) τ) :
  zD Pg 90 [yA x,.pointer (some a)] σ (.bool (!b)) σ:=by
 cases b with
 | true=>exact (xNT (hr.re.ld1 xOA) (hc _ (le0 σ)) ⟨rfl,Nat.le_refl _⟩).pure
 | false=>exact (xNS (hr.re.ld1 xOA) (hc _ (le0 σ)) ⟨rfl,Nat.le_refl _⟩).pure
theorem xWH {p:Option Addr} {len cap:Nat} {g:FuncId} {gc:List Value} {xs:List Int} {f:Int→Bool} (hs:SlV Pg σ 3 1 p len (xs.map yA)) (hlen:len≤1073741824)
  (hc:∀ x∈xs,∀ τ,Le σ τ→zD Pg g (yA x::gc) τ (.bool (f x)) τ):zD Pg 72 [.slice p len cap,.func (.func g) ⟨[]⟩ ⟨gc⟩] σ (.bool (xs.all f)) σ:=by
 have c:=xWA (σ:=σ.re.row [.func (.func g) ⟨[]⟩ ⟨gc⟩] 1) (g:=90) (gc:=[.pointer (some ⟨σ.re.y,0,none⟩)]) (f:=fun x=>!f x) (cap:=cap) hs.re.row hlen
  (fun x hx τ hτ=>xSX ((xN _ _ _).le hτ) (fun τ' hτ'=>hc x hx τ' ((((le0 σ).trans (Le.row _ _ _)).trans hτ).trans hτ')))
 have e:(xs.any fun x=>!f x)=!xs.all f:=by rw [List.not_all_eq_any_not]
 rw [e] at c;cases ha:xs.all f with
 | true=>rw [ha] at c;exact (xSV c ⟨rfl,Nat.le_refl _⟩).pure
 | false=>rw [ha] at c;exact (xSW c ⟨rfl,Nat.le_refl _⟩).pure
theorem xVQ {p:Option Addr} {len cap:Nat} {g:FuncId} {ga:List Value} {gc:List Value} {xs:List Drv} {f:Drv→Bool} (hs:zUR σ 88 p len xs) (hlen:len≤1073741824)
  (hc:∀ x∈xs,∀ v τ,Le σ τ→zVA τ v x→zD Pg g (ga++(v::gc)) τ (.bool (f x)) τ):∃ r:Int,zD Pg 88 [.slice p len cap,.func (.func g) ⟨ga⟩ ⟨gc⟩] σ (iV r) σ∧(0≤r↔xs.any f=true):=by
 obtain ⟨vs,hv1,hl,hv3⟩:=hs.le (le0 σ);have key:zP Pg 88 [.slice p len cap,.func (.func g) ⟨ga⟩ ⟨gc⟩] σ.re fun v s=>(∃ r:Int,v=iV r∧(0≤r↔xs.any f=true))∧s=σ.re:=by
  refine xRH (yUK (Inv:=fun k i τ=>τ=σ.re∧∃ j:Nat,i=j∧j+k=len∧(xs.take j).any f=false) (Qr:=fun i τ=>τ=σ.re∧0≤i∧xs.any f=true) (Q0:=fun τ=>τ=σ.re∧xs.any f=false) ?_ len 0 σ.re ⟨rfl,0,rfl,by omega,by simp⟩) ?_ ?_
  ·rintro k i τ ⟨rfl,j,rfl,hk,ha⟩;by_cases hj:j<len
   ·obtain ⟨a,rfl,_⟩:=hv1.some hj;obtain ⟨x,hxe⟩:∃ x,x=xs[j]:=⟨_,rfl⟩;have hx:xs[j]?=some x:=by rw [hxe];simp
    obtain ⟨v,g1,hv⟩:=hv3 j x hx;have c:=hc x (List.mem_of_getElem? hx) v σ.re (le0 σ) hv;obtain ⟨p',l',c',r',n',d',s',j',e',rfl,_⟩:=hv;have ld:zB Pg σ.re 88 (zL a (Int.toNat (j:Int)*6))=some (.agg ⟨zO p' l' c' r' n' d' s' j' e' x.off x.row x.used⟩):=hv1.at rfl g1;cases hf:f x with
    | true =>
     rw [hf] at c;exact xLB ld c ⟨rfl,by omega,List.any_eq_true.2 ⟨x,List.mem_of_getElem? hx,hf⟩⟩
    | false =>
     rw [hf] at c;exact xLA ld c ⟨k-1,by omega,rfl,j+1,by omega,by omega,by rw [wO hx,List.any_append,ha];simp [hf]⟩
   ·exact xKZ ⟨rfl,by rwa [List.take_of_length_le (by omega)] at ha⟩
  ·rintro i τ ⟨rfl,h1,h2⟩;exact yUI ⟨⟨i,rfl,by simp [h1,h2]⟩,rfl⟩
  ·rintro τ ⟨rfl,h⟩;exact yUJ ⟨⟨-1,rfl,by simp [h]⟩,rfl⟩
 obtain ⟨v,s,h1,⟨r,rfl,h2⟩,rfl⟩:=key;exact ⟨r,zQY h1 (Nat.le_refl _) rfl,h2⟩
theorem xVY {p:Option Addr} {len cap:Nat} {g:FuncId} {ga:List Value} {gc:List Value} {xs:List Drv} {f:Drv→Bool} (hs:zUR σ 88 p len xs) (hlen:len≤1073741824)
  (hc:∀ x∈xs,∀ v τ,Le σ τ→zVA τ v x→zD Pg g (ga++(v::gc)) τ (.bool (f x)) τ):zD Pg 69 [.slice p len cap,.func (.func g) ⟨ga⟩ ⟨gc⟩] σ (.bool (xs.any f)) σ:=by
 obtain ⟨r,h1,h2⟩:=xVQ (σ:=σ.re) (cap:=cap) (hs.le (le0 σ)) hlen (fun x hx v τ hτ=>hc x hx v τ ((le0 σ).trans hτ));cases ha:xs.any f with
 | true=>exact (xRV h1 ⟨rfl,Nat.le_refl _⟩ (h2.2 ha)).pure
 | false=>exact (xRU h1 ⟨rfl,Nat.le_refl _⟩ (fun h=>by rw [h2.1 h] at ha;cases ha)).pure
theorem xSS {x:Drv} {v:Value} {a:Addr} {g:FuncId} {ga:List Value} {gc:List Value} {b:Bool} (hv:zVA σ v x) (hr:Row σ a [.func (.func g) ⟨ga⟩ ⟨gc⟩]) (hc:∀ τ,Le σ τ→zVA τ v x→zD Pg g (ga++(v::gc)) τ (.bool b) τ) :
  zD Pg 70 [v,.pointer (some a)] σ (.bool (!b)) σ:=by
 have hc2:=fun τ (hτ:Le σ τ)=>hc τ hτ (hv.le hτ)
 obtain ⟨p',l',c',r',n',d',s',j',e',rfl,_⟩:=hv;cases b with
 | true=>exact (xNP (hr.re.row.ld1 xTW) (hc2 _ ((le0 σ).trans (Le.row _ _ _))) ⟨rfl,Nat.le_refl _⟩).pure
 | false=>exact (xNO (hr.re.row.ld1 xTW) (hc2 _ ((le0 σ).trans (Le.row _ _ _))) ⟨rfl,Nat.le_refl _⟩).pure
theorem xWF {p:Option Addr} {len cap:Nat} {g:FuncId} {ga:List Value} {gc:List Value} {xs:List Drv} {f:Drv→Bool} (hs:zUR σ 88 p len xs) (hlen:len≤1073741824)
  (hc:∀ x∈xs,∀ v τ,Le σ τ→zVA τ v x→zD Pg g (ga++(v::gc)) τ (.bool (f x)) τ):zD Pg 50 [.slice p len cap,.func (.func g) ⟨ga⟩ ⟨gc⟩] σ (.bool (xs.all f)) σ:=by
 have c:=xVY (σ:=σ.re.row [.func (.func g) ⟨ga⟩ ⟨gc⟩] 1) (g:=70) (ga:=[]) (gc:=[.pointer (some ⟨σ.re.y,0,none⟩)]) (f:=fun x=>!f x) (cap:=cap) (hs.le ((le0 σ).trans (Le.row _ _ _))) hlen
  (fun x hx v τ hτ hv=>xSS hv ((xN _ _ _).le hτ) (fun τ' hτ'=>hc x hx v τ' ((((le0 σ).trans (Le.row _ _ _)).trans hτ).trans hτ')))
 have e:(xs.any fun x=>!f x)=!xs.all f:=by rw [List.not_all_eq_any_not]
 rw [e] at c;cases ha:xs.all f with
 | true=>rw [ha] at c;exact (xSQ c ⟨rfl,Nat.le_refl _⟩).pure
 | false=>rw [ha] at c;exact (xSR c ⟨rfl,Nat.le_refl _⟩).pure
section
variable {w:Wk} {p q:Option Addr} {l m c d:Nat}
theorem xOX {x:Dty} (hd:1≤w.days∧w.days≤7):zD Pg 49 [.agg ⟨wkc w.days p l c q m d w.rest w.run w.hours⟩,zBM x] σ (.bool (vT w x)) σ:=by
 have cin:∀ {τ:St} {n lo hi:Int} {b:Bool},inB n lo hi=b→zD Pg 47 [iV n,iV lo,iV hi] τ (.bool b) τ:=fun e=>e ▸ zIE
 unfold vT;cases c1:inB x.day 0 (w.days-1) with
 | false=>exact (xGI (cin c1) ⟨rfl,Nat.le_refl _⟩ (by omega)).pure
 | true =>
 cases c2:inB x.on 0 1439 with
 | false=>exact (xGJ (cin c1) (cin c2) ⟨rfl,Nat.le_refl _⟩ (by omega)).pure
 | true =>
 have hon:=zAQ.1 c2;by_cases h1:x.on≤x.lo;rotate_left
 ·have:inB x.lo x.on x.hi=false:=yEG.2 (fun h=>h1 h.1);rw [this];exact (xGK (cin c1) (cin c2) ⟨rfl,Nat.le_refl _⟩ (by omega) h1).pure
 by_cases h2:x.lo≤x.hi;rotate_left
 ·have:inB x.lo x.on x.hi=false:=yEG.2 (fun h=>h2 h.2);rw [this];exact (xGL (cin c1) (cin c2) ⟨rfl,Nat.le_refl _⟩ (by omega) h1 h2).pure
 have c3:inB x.lo x.on x.hi=true:=zAQ.2 ⟨h1,h2⟩;rw [c3];by_cases h3:x.hi≤x.on+1440
 ·rw [decide_eq_false (by omega:¬ x.on+1440<x.hi)];exact (xGN (cin c1) (cin c2) (cin rfl) ⟨by simp,Nat.le_refl _⟩ (by omega) h1 h2 (by omega) h3).pure
 ·rw [decide_eq_true (by omega:x.on+1440<x.hi)];exact (xGM (cin c1) (cin c2) ⟨rfl,Nat.le_refl _⟩ (by omega) h1 h2 (by omega) h3).pure
theorem xAM {x:Drv} {v:Value} (hv:zVA σ v x) (hl:x.knows.length≤1000∧x.leave.length≤1000∧x.wish.length≤1000) (hd:1≤w.days∧w.days≤7):zD Pg 51 [.agg ⟨wkc w.days p l c q m d w.rest w.run w.hours⟩,v] σ (.bool (zAI w x)) σ:=by
 have cin:∀ {τ:St} {n lo hi:Int} {b:Bool},inB n lo hi=b→zD Pg 47 [iV n,iV lo,iV hi] τ (.bool b) τ:=fun e=>e ▸ zIE
 obtain ⟨p',l',c',r',n',d',s',j',e',rfl,hkn,hlv,hws⟩:=hv;have L2:Le σ ((σ.re.row (wkc w.days p l c q m d w.rest w.run w.hours) 6).row (zO p' l' c' r' n' d' s' j' e' x.off x.row x.used) 6):=((le0 σ).trans (Le.row _ _ _)).trans (Le.row _ _ _);have k1:=yGR (c:=c') (lo:=0) (hi:=15) (SlV.le hkn L2) (by have:=hkn.len;omega);have k2:=yGR (c:=d') (lo:=0) (hi:=w.days-1) (SlV.le hlv L2) (by have:=hlv.len;omega);have k3:=yGR (c:=e') (lo:=0) (hi:=w.days-1) (SlV.le hws L2) (by have:=hws.len;omega);unfold zAI;cases c1:wU x.knows 0 15 with
 | false=>rw [c1] at k1;exact (yQI k1 ⟨rfl,Nat.le_refl _⟩).pure
 | true =>
 rw [c1] at k1;cases c2:wU x.leave 0 (w.days-1) with
 | false=>rw [c2] at k2;exact (yQJ k1 k2 ⟨rfl,Nat.le_refl _⟩ (by omega)).pure
 | true =>
 rw [c2] at k2;cases c3:wU x.wish 0 (w.days-1) with
 | false=>rw [c3] at k3;exact (yQK k1 k2 k3 ⟨rfl,Nat.le_refl _⟩ (by omega)).pure
 | true =>
 rw [c3] at k3;cases c4:inB x.off (-10080) 1440 with
 | false=>exact (yQL k1 k2 k3 (cin c4) ⟨rfl,Nat.le_refl _⟩ (by omega)).pure
 | true =>
 cases c5:inB x.row 0 14 with
 | false=>exact (yQM k1 k2 k3 (cin c4) (cin c5) ⟨rfl,Nat.le_refl _⟩ (by omega)).pure
 | true=>exact (yQN k1 k2 k3 (cin c4) (cin c5) (cin rfl) ⟨by simp,Nat.le_refl _⟩ (by omega)).pure
theorem zUS (h:WkP σ 85 88 w p l q m) (hsh:zCF w):zD Pg 16 [.agg ⟨wkc w.days p l c q m d w.rest w.run w.hours⟩] σ (iV (xH w)) σ:=by
 have hn:=h.len.1;have hm:=h.len.2;by_cases h12:12<l
 ·have:xH w=3:=by unfold xH;rw [if_pos (.inl (by omega))]
  rw [this];exact (yJS ⟨rfl,Nat.le_refl _⟩ (by omega)).pure
 by_cases h6:6<m
 ·have:xH w=3:=by unfold xH;rw [if_pos (.inr (by omega))]
  rw [this];exact (yJR ⟨rfl,Nat.le_refl _⟩ (by omega) (by omega)).pure
 have hf0:xH w=if vK w && (w.duties.all (vT w) && w.drivers.all (zAI w)) then 0 else 1:=by unfold xH;rw [if_neg (by omega)]
 have cin:∀ {τ:St} {n lo hi:Int} {b:Bool},inB n lo hi=b→zD Pg 47 [iV n,iV lo,iV hi] τ (.bool b) τ:=fun e=>e ▸ zIE
 have no:vK w=false→xH w=1:=fun e=>by rw [hf0,e];rfl
 cases b1:inB w.days 1 7 with
 | false=>rw [no (by unfold vK;rw [b1];rfl)];exact (yJK (cin b1) ⟨rfl,Nat.le_refl _⟩ (by omega) (by omega)).pure
 | true =>
 cases b2:inB w.rest 0 3000 with
 | false=>rw [no (by unfold vK;rw [b1,b2];rfl)];exact (yJL (cin b1) (cin b2) ⟨rfl,Nat.le_refl _⟩ (by omega) (by omega)).pure
 | true =>
 cases b3:inB w.run 1 14 with
 | false=>rw [no (by unfold vK;rw [b1,b2,b3];rfl)];exact (yJM (cin b1) (cin b2) (cin b3) ⟨rfl,Nat.le_refl _⟩ (by omega) (by omega)).pure
 | true =>
 cases b4:inB w.hours 0 20000 with
 | false=>rw [no (by unfold vK;rw [b1,b2,b3,b4];rfl)];exact (yJN (cin b1) (cin b2) (cin b3) (cin b4) ⟨rfl,Nat.le_refl _⟩ (by omega) (by omega)).pure
 | true =>
 have hh:vK w=true:=by unfold vK;rw [b1,b2,b3,b4];rfl
 have hd:=zAQ.1 b1;have L1:Le σ (σ.re.row (wkc w.days p l c q m d w.rest w.run w.hours) 6):=(le0 σ).trans (Le.row _ _ _);have cd:=xWI (cap:=c) (g:=49) (ga:=[.agg ⟨wkc w.days p l c q m d w.rest w.run w.hours⟩]) (gc:=[]) (f:=vT w) (SlV.le h.dty L1) (by omega) (fun x _ τ _=>xOX hd);have cv:=xWF (cap:=d) (g:=51) (ga:=[.agg ⟨wkc w.days p l c q m d w.rest w.run w.hours⟩]) (gc:=[]) (f:=zAI w) (h.drv.le L1) (by omega) (fun x hx v τ _ hv=>xAM hv (hsh x hx) hd);cases e1:w.duties.all (vT w) with
 | false=>rw [e1] at cd;rw [hf0,hh,e1];exact (yJO (cin b1) (cin b2) (cin b3) (cin b4) cd ⟨rfl,Nat.le_refl _⟩ (by omega) (by omega)).pure
 | true =>
 rw [e1] at cd;cases e2:w.drivers.all (zAI w) with
 | false=>rw [e2] at cv;rw [hf0,hh,e1,e2];exact (yJP (cin b1) (cin b2) (cin b3) (cin b4) cd cv ⟨rfl,Nat.le_refl _⟩ (by omega) (by omega)).pure
 | true=>rw [e2] at cv;rw [hf0,hh,e1,e2];exact (yJQ (cin b1) (cin b2) (cin b3) (cin b4) cd cv ⟨rfl,Nat.le_refl _⟩ (by omega) (by omega)).pure
end
end
def zY (rs:List Int) (i:Nat):Int:=rs.getD i 0
section
variable {w:Wk} {ros tru:Nat→Int} {k D i:Nat}
end
section
variable {σ:St} {w:Wk} {p q r t:Option Addr} {l m c d rc tc:Nat} {rs ts:List Int} {k D:Nat}
end
section
noncomputable section
variable (l:oAa) (l_l l_c BA:Nat) (dp:Int) (t4_1:Bool) (q0:Int→St→Prop) (q1:Bool→St→Prop) (q2:St→Prop) (σ:St) (Nx:Int→St→Prop) (Q:vPa) (Qr:Bool→St→Prop) (Q0:St→Prop)
def zOT:Code:=(Code.part [1,0,1,0,0] (qh 21))
def zAO:lNa:=[(1,.slice l l_l l_c),(2,pt BA 0),(5,iV dp)]
def yBO:Alt:=⟨Int,.normal,fun t=>zAO l l_l l_c BA t,fun t=>[],fun t σ=>q0 t σ⟩
def zIU (l:oAa) (l_l l_c BA:Nat) (t4_1:Bool):lNa:=[(4,.bool t4_1)]
def zDK:Alt:=⟨Bool,.ret,fun t=>zIU l l_l l_c BA t,fun t=>[],fun t σ=>q1 t σ⟩
def zIV:lNa:=[(1,.slice l l_l l_c),(2,pt BA 0)]
def zDL:Alt:=⟨Unit,(.exit 0),fun t=>zIV l l_l l_c BA,fun t=>[],fun t σ=>q2 σ⟩
def zCP:Prop:=qi qj none zOT 28 (zAO l l_l l_c BA dp) [] [yBO l l_l l_c BA Nx,zDK l l_l l_c BA Qr,zDL l l_l l_c BA Q0] σ
def zOU:Prop:=qk qj none zOT 28 (zAO l l_l l_c BA dp) [] [zDK l l_l l_c BA Qr,zDL l l_l l_c BA Q0] σ
def zIW:Prop:=kZ qj (qh 21) [1,0,1,0] (ql 21 Q) .ret 28 (zIU l l_l l_c BA t4_1) σ
def zDM:Prop:=kZ qj (qh 21) [1,0,1,0] (ql 21 Q) (.exit 0) 28 (zIV l l_l l_c BA) σ
end
variable {l qD af ae qL:oAa} {l_l l_c BA lG cE ac ad aa ab lN cM:Nat} {Inv:Nat→Int→St→Prop} {Qr Pr:Bool→St→Prop} {Q0 P0:St→Prop} {dp nE ak ao au aj:Int} {l_a:Addr} {σ:St} {Nx:Int→St→Prop} {Q:vPa} {t4_1:Bool}
theorem zUY (hb:∀ k dp σ,Inv k dp σ→zCP l l_l l_c BA dp σ (NX1 Inv k) Qr Q0):∀ k dp σ,Inv k dp σ→zOU l l_l l_c BA dp σ Qr Q0 :=
 xE (ai zAN (ai (wA 0) trivial)) hb
theorem yBN (h1:lz σ 3 (zL l_a (Int.toNat dp*1)) (iV nE)) (h2:lz σ 23 (qe BA 2) (.slice qD lG cE)) (h3:qm 33 [iV nE,iV (-1),iV ((lG:Int)-1)] σ (.bool true) σ) (nx:Nx (dp+1) σ) (u1:dp<(l_l:Int):=by omega) (u2:Ix dp l_l:=by omega) (u3:I6 ((lG:Int)-1):=by omega) (u4:I6 (dp+1):=by omega):zCP (some l_a) l_l l_c BA dp σ Nx Qr Q0 :=
 kO 0 (dp+1) [.g,.g,.g,.b true,.g,.g,.i,.l (iV nE),.g,.l (.slice qD lG cE),.g,.n ((lG:Int)-1),.c (.bool true) σ,.g,.g,.n (dp+1),.g] (fun _ f=>ai (zR u1) (an6 u2 h1 h2 (w64 u3) h3 (w64 u4) f)) nx
theorem yBM (h1:lz σ 3 (zL l_a (Int.toNat dp*1)) (iV nE)) (h2:lz σ 23 (qe BA 2) (.slice qD lG cE)) (h3:qm 33 [iV nE,iV (-1),iV ((lG:Int)-1)] σ (.bool false) σ) (nx:Qr false σ) (u1:dp<(l_l:Int):=by omega) (u2:Ix dp l_l:=by omega) (u3:I6 ((lG:Int)-1):=by omega):zCP (some l_a) l_l l_c BA dp σ Nx Qr Q0 :=
 kO 1 false [.g,.g,.g,.b true,.g,.g,.i,.l (iV nE),.g,.l (.slice qD lG cE),.g,.n ((lG:Int)-1),.c (.bool false) σ,.g,.g] (fun _ f=>an6 (zR u1) u2 h1 h2 (w64 u3) h3 f) nx
theorem yBL (nx:Q0 σ) (u1:¬ dp<(l_l:Int):=by omega):zCP l l_l l_c BA dp σ Nx Qr Q0 :=
 kO 2 () [.g,.g,.g,.b false] (fun _ f=>ai (zU u1) f) nx
theorem yGY:let y0:=wkc ak af ac ad ae aa ab ao au aj;∀ (hL:zOU l l_l l_c σ.y 0 (σ.row y0 6) Pr P0) (kr:∀ t4_1' σ',Pr t4_1' σ'→zIW l l_l l_c σ.y t4_1' σ' Q) (k0:∀ σ',P0 σ'→zDM l l_l l_c σ.y σ' Q),qg 21 [qf y0,.slice l l_l l_c] σ Q :=
 fun hL kr k0=>zG [.g,.g,.g,.lf 28 (zAO l l_l l_c σ.y 0) [zDK l l_l l_c σ.y Pr,zDL l l_l l_c σ.y P0]] (kd (ai (ai tt (ai (arf (zAO l l_l l_c σ.y 0)) hL)) (ai (kz1 kr) (ai (kz0 k0) trivial))))
theorem zUV (nx:Q (.bool t4_1) σ):zIW l l_l l_c BA t4_1 σ Q :=
 sK [] nx
theorem zUX (h1:lz σ 22 (qe BA 1) (.slice qL lN cM)) (nx:Q (.bool true) σ) (u1:(l_l:Int)=(lN:Int):=by omega):zDM l l_l l_c BA σ Q :=
 sK [.g,.g,.g,.l (.slice qL lN cM),.g,.b true,.g] (an2 h1 (xL u1) nx)
theorem zUW (h1:lz σ 22 (qe BA 1) (.slice qL lN cM)) (nx:Q (.bool false) σ) (u1:¬ (l_l:Int)=(lN:Int):=by omega):zDM l l_l l_c BA σ Q :=
 sK [.g,.g,.g,.l (.slice qL lN cM),.g,.b false,.g] (an2 h1 (xG u1) nx)
end
structure Sane (w:Wk) (l m:Nat):Prop where
 l12:l≤12
 m6:m≤6
 duty:∀ i,i<l→0≤(dty w i).day∧(dty w i).day≤6∧0≤(dty w i).on∧(dty w i).on≤1439∧(dty w i).on≤(dty w i).lo∧(dty w i).lo≤(dty w i).hi∧(dty w i).hi≤(dty w i).on+1440
 dr:∀ k,k<m→-10080≤(drv w k).off∧(drv w k).off≤1440∧0≤(drv w k).row∧(drv w k).row≤14∧0≤(drv w k).used∧(drv w k).used≤20000
 kn:∀ k,k<m→(drv w k).knows.length≤1000∧(drv w k).leave.length≤1000∧(drv w k).wish.length≤1000
 rest:0≤w.rest∧w.rest≤3000
 run:1≤w.run∧w.run≤14
 hours:0≤w.hours∧w.hours≤20000
theorem yWU {n:Nat} {p q r:Option Addr} {l c m d j e:Nat} {x y z:Int} (h1:∀ a,p=some a→a.block<n) (h2:∀ a,q=some a→a.block<n) (h3:∀ a,r=some a→a.block<n):yS RD n (.agg ⟨zO p l c q m d r j e x y z⟩)=true:=by
 have e1:∀ a b:Nat,a<b→Nat.blt a b=true:=fun a b h=>by rw [Nat.blt_eq];exact h
 show List.all (zO p l c q m d r j e x y z) (yS (RD-1) n)=true;rcases p with _ | p <;> rcases q with _ | q <;> rcases r with _ | r <;> simp [yS,RD] <;> simp_all
theorem zBP {n:Nat} {p q:Option Addr} {l c m d:Nat} {a x y z:Int} (h1:∀ a,p=some a→a.block<n) (h2:∀ a,q=some a→a.block<n):yS RD n (.agg ⟨wkc a p l c q m d x y z⟩)=true:=by
 have e1:∀ a b:Nat,a<b→Nat.blt a b=true:=fun a b h=>by rw [Nat.blt_eq];exact h
 show List.all (wkc a p l c q m d x y z) (yS (RD-1) n)=true;rcases p with _ | p <;> rcases q with _ | q <;> simp [yS,RD] <;> simp_all
section
variable {σ:St} {w:Wk} {p q r t:Option Addr} {l m c d rc tc:Nat} {rs ts:List Int} {k i:Nat}
end
abbrev yPM (b:Bch):Value:=.agg ⟨rcd b.kind b.drv b.dut⟩
section
variable {w:Wk} {ros tru:Nat→Int} {k q j:Nat}
end
section
variable {σ:St} {w:Wk} {p q r t:Option Addr} {l m c d rc tc:Nat} {rs ts:List Int} {k i:Nat}
end
def zDU (w:Wk) (rs:List Int):Bool:=rs.all (fun x=>inB x (-1) ((w.drivers.length:Int)-1)) && decide (rs.length=w.duties.length)
def zAY (w:Wk):List Int:=w.duties.map Dty.hi
section
variable {σ:St} {w:Wk} {p q r t:Option Addr} {l m c d rl rc tl tc:Nat} {rs ts:List Int} {td tv:Nat}
theorem yLE (h:WkP σ 92 76 w p l q m) (hr:yI σ r rl rs) (hl:rl≤1073741824) (hm:m≤1073741824):zD Tryz.prog 21 [.agg ⟨wkc w.days p l c q m d w.rest w.run w.hours⟩,.slice r rl rc] σ (.bool (zDU w rs)) σ:=by
 have hn:=h.len.1;have hmm:=h.len.2;have el:=hr.len;obtain ⟨σ1,hσ1⟩:∃ σ1,σ1=σ.re.row (wkc w.days p l c q m d w.rest w.run w.hours) 6:=⟨_,rfl⟩;have hk0:=xN σ.re (wkc w.days p l c q m d w.rest w.run w.hours) 6;rw [← hσ1] at hk0;have hr0:yI σ1 r rl rs:=by rw [hσ1];exact SlV.le hr ((le0 σ).trans (Le.row _ _ _))
 have lD:zB Tryz.prog σ1 22 ⟨σ.re.y,1,none⟩=some (.slice p l c):=hk0.ld zAW rfl;have lV:zB Tryz.prog σ1 23 ⟨σ.re.y,2,none⟩=some (.slice q m d):=hk0.ld zEO rfl;have low1:σ.y≤σ1.low:=by rw [hσ1];exact Nat.le_refl _
 refine (yGY (zUY (Inv:=fun k i τ=>τ=σ1∧∃ j:Nat,i=j∧j+k=rl∧(rs.take j).all (fun x=>inB x (-1) ((w.drivers.length:Int)-1))=true) (Qr:=fun b τ=>τ=σ1∧b=false∧zDU w rs=false)
  (Q0:=fun τ=>τ=σ1∧rs.all (fun x=>inB x (-1) ((w.drivers.length:Int)-1))=true) ?_ rl 0 _ ⟨hσ1.symm,0,rfl,by omega,rfl⟩) ?_ ?_).pure
 ·rintro k i τ ⟨rfl,j,rfl,hk,ha⟩;by_cases hj:j<rl;rotate_left
  ·exact yBL ⟨rfl,by rwa [List.take_of_length_le (by omega)] at ha⟩ (by omega)
  obtain ⟨a,rfl,x,hx,lx⟩:=vB hr0 hj;have cin:=xHS (σ:=τ) (n:=x) (lo:=-1) (hi:=(m:Int)-1);cases hb:inB x (-1) ((m:Int)-1) with
  | true=>rw [hb] at cin;exact yBN lx lV cin ⟨k-1,by omega,rfl,j+1,by omega,by omega,zQI hx ha (by rw [hmm];exact hb)⟩ (by omega) (by omega) (by omega) (by omega)
  | false=>rw [hb] at cin;exact yBM lx lV cin ⟨rfl,rfl,by unfold zDU;rw [yJE (f:=fun x=>inB x (-1) ((w.drivers.length:Int)-1)) (List.mem_of_getElem? hx) (by rw [hmm];exact hb)];rfl⟩ (by omega) (by omega) (by omega)
 ·rintro b τ ⟨rfl,rfl,e⟩;exact zUV ⟨by rw [e],low1⟩
 ·rintro τ ⟨rfl,e⟩;by_cases hh:rl=l
  ·exact zUX lD ⟨by unfold zDU;rw [e,decide_eq_true (by omega)];rfl,low1⟩ (by omega)
  ·exact zUW lD ⟨by unfold zDU;rw [e,decide_eq_false (by omega)];rfl,low1⟩ (by omega)
end
section
noncomputable section
variable (BA:Nat) (af vals ae:oAa) (f1:FuncId) (ac bL aa ad bP ab:Nat) (dT:lVa) (q0:(Option Addr)→Nat→Nat→Int→St→Prop) (q2:(Option Addr)→Nat→Nat→St→Prop) (fg:oAa) (aH:Int) (q6:St→Prop) (q5:Int→St→Prop) (ms:List Nat) (g:Nat→Value) (fi fo:Nat) (st:LoopState) (aE:Int) (pend:Option Code) (σ:St) (db:Nat) (Nx Qr:Int→St→Prop) (q3:(Option Addr)→Nat→Nat→Int→St→Prop) (Q:vPa) (Qn Q0:St→Prop) (q4:(Option Addr)→Nat→Nat→St→Prop)
def zHC:Code:=(Code.part [1,0,1,0,0] (qh 85))
def zHB:Code:=(Code.part [1,0,1,0,1] (qh 85))
def zFR:lNa:=[(4,pt BA 0),(8,.func (.func f1) ⟨[]⟩ ⟨dT⟩)]
def yFH:Blk:=.loop (Fm 16 (ov (zFR BA f1 dT) g)) [9,10] zHC zHB st pend db
def xEP:Prop:=zST Pg qj (.tmp 8) ⟨[9,10]⟩ zHC zHB 16 (zFR BA f1 dT) [(.normal,Qn)] σ
def zUA:Prop:=∀ g:Nat→Value,∃ an,Hid (kAt Pg qj none (qh 85) [1,0,1,0] (ql 85 Q) .normal ⟨Fm 16 (ov (zFR BA f1 dT) g),ms⟩ σ an)
def yZS:Code:=(Code.part [1,0,1,0,0] (qh 86))
def zPX:lNa:=[(2,.slice fg fi fo),(6,.slice af ac ad),(7,iV (ac:Int)),(8,iV aE)]
def xMM:Alt:=⟨(Option Addr) × Nat × Nat × Int,.normal,fun t=>zPX af ac ad t.1 t.2.1 t.2.2.1 t.2.2.2,fun t=>[],fun t σ=>q0 t.1 t.2.1 t.2.2.1 t.2.2.2 σ⟩
def yFF (af:oAa) (ac ad:Nat) (fg:oAa) (fi fo:Nat):lNa:=[(2,.slice fg fi fo)]
def zSA:Alt:=⟨(Option Addr) × Nat × Nat,(.exit 0),fun t=>yFF af ac ad t.1 t.2.1 t.2.2,fun t=>[],fun t σ=>q2 t.1 t.2.1 t.2.2 σ⟩
def yIJ:Prop:=qi qj none yZS 20 (zPX af ac ad fg fi fo aE) [] [xMM af ac ad q3,zSA af ac ad q4] σ
def yZT:Prop:=qk qj none yZS 20 (zPX af ac ad fg fi fo aE) [] [zSA af ac ad q4] σ
def yFG:Prop:=kZ qj (qh 86) [1,0,1,0] (ql 86 Q) (.exit 0) 20 (yFF af ac ad fg fi fo) σ
def zWF:Code:=(Code.part [1,0,1,0,0] (qh 74))
def zGE:lNa:=[(2,pt BA 0),(6,.slice ae aa ab),(7,iV (aa:Int)),(8,iV aE)]
def yJZ:Alt:=⟨Int,.normal,fun t=>zGE BA ae aa ab t,fun t=>[],fun t σ=>q5 t σ⟩
def zOG (BA:Nat) (ae:oAa) (aa ab:Nat):lNa:=[(2,pt BA 0)]
def zGF:Alt:=⟨Unit,(.exit 0),fun t=>zOG BA ae aa ab,fun t=>[],fun t σ=>q6 σ⟩
def zMS:Prop:=qi qj none zWF 24 (zGE BA ae aa ab aE) [] [yJZ BA ae aa ab Nx,zGF BA ae aa ab Q0] σ
def zWG:Prop:=qk qj none zWF 24 (zGE BA ae aa ab aE) [] [zGF BA ae aa ab Q0] σ
def zOH:Prop:=kZ qj (qh 74) [1,0,1,0] (ql 74 Q) (.exit 0) 24 (zOG BA ae aa ab) σ
def yPA:Code:=(Code.part [1,1,0,1,0,0] (qh 80))
def zKC:lNa:=[(3,iV 0),(6,.slice vals bL bP),(7,iV (bL:Int)),(8,iV aE)]
def xFB:Alt:=⟨Int,.normal,fun t=>zKC vals bL bP t,fun t=>[],fun t σ=>q5 t σ⟩
def yAD (vals:oAa) (bL bP:Nat) (aH:Int):lNa:=[(2,iV aH)]
def zNV:Alt:=⟨Int,.ret,fun t=>yAD vals bL bP t,fun t=>[],fun t σ=>q5 t σ⟩
def yAE (vals:oAa) (bL bP:Nat):lNa:=[(3,iV 0)]
def zNW:Alt:=⟨Unit,(.exit 0),fun t=>yAE vals bL bP,fun t=>[],fun t σ=>q6 σ⟩
def zQC:Prop:=qi qj none yPA 18 (zKC vals bL bP aE) [] [xFB vals bL bP Nx,zNV vals bL bP Qr,zNW vals bL bP Q0] σ
def yPB:Prop:=qk qj none yPA 18 (zKC vals bL bP aE) [] [zNV vals bL bP Qr,zNW vals bL bP Q0] σ
def yAF:Prop:=kZ qj (qh 80) [1,1,0,1,0] (ql 80 Q) .ret 18 (yAD vals bL bP aH) σ
def yAG:Prop:=kZ qj (qh 80) [1,1,0,1,0] (ql 80 Q) (.exit 0) 18 (yAE vals bL bP) σ
end
variable {ak ao au aj day y aA aO ax ay aC aE nE nG nD nB nA nF df dM ew dL eA x1 aT bk a7 aZ n1 n2 n3 n4 dW aH dS dw d9 eO dZ fe:Int} {af ae qJB qKB qO qBB fg qG qE qD qF q1 vals:oAa} {ac ad aa ab BA lo lNB cKB lOB cLB db lK cP lGB cBB fi fo lJ cH lF cF lG cE lH cG l1 c1 bL bP:Nat} {σ σEB σFB τ σ2 σG fy σL σT:St} {Q:vPa} {f1:FuncId} {dT cs1838 cs1840:lVa} {g:Nat→Value} {Qn Pn Q0 P0:St→Prop} {ms:List Nat} {Inv:Nat→Int→St→Prop} {w_Duties_a bi vals_a:Addr} {Nx Qr Pr:Int→St→Prop} {b2:Bool}
theorem xXB:let y0:=wkc ak af ac ad ae aa ab ao au aj;∀ (nx:Q (.func (.func 91) ⟨[]⟩ ⟨[pt σ.y 0,pt ((σ.y+1)) 0]⟩) ((σ.row y0 6).row [iV day] 1)),qg 75 [qf y0,iV day] σ Q :=
 fun nx=>zG [.g,.g,.g,.g,.g] (kd nx)
theorem yVD (hl:yH τ.heap lo=some (yFH BA f1 dT g .ready none db)) (hσ:σ=τ.re.put lo (yFH BA f1 dT g .busy none db)) (h1:lz σ 26 (qe BA 0) (.slice qJB lNB cKB)) (h2:yG Pg 26 26 (.slice qJB lNB cKB) (.slice (some (qe σ.y 0)) 1 1) (σ.row [iV y] 1)=some (.slice qKB lOB cLB,σEB)) (h3:qn (evL [pt BA 0,.slice qKB lOB cLB]) σEB (.store 26 (.tmp 0) (.tmp 1))=some (undef,σFB)) (nx:Qn σFB):zEZ Pg lo [iV y,qf (zF aA aO ax ay aC)] τ (Fm 16 (ov (zFR BA f1 dT) g)) [9,10] zHC zHB db [⟨Unit,.normal,fun _=>[],fun _=>[],fun _ σ=>Qn σ⟩] :=
 xHG hl rfl hσ [.g,.l (.slice qJB lNB cKB),.g,.g,.e (.slice qKB lOB cLB) σEB,.e undef σFB,.fin ⟨Unit,.normal,fun _=>[],fun _=>[],fun _ σ=>Qn σ⟩ ()] (kc (by kernel_rfl) (ai (ai (rfl:Exit.normal=Exit.normal) (rfl:τ.re=τ.re)) (an3 h1 h2 h3 (xVU (alts:=[⟨Unit,.normal,fun _=>[],fun _=>[],fun _ σ=>Qn σ⟩]) ⟨Unit,.normal,fun _=>[],fun _=>[],fun _ σ=>Qn σ⟩ () nx in0))))
theorem xEO:let y0:=wkc ak af ac ad ae aa ab ao au aj;∀ (h1:qm 75 [qf y0,iV day] ((σ.row y0 6).row [.slice none 0 0] 1) (.func (.func f1) ⟨[]⟩ ⟨dT⟩) σ2) (hL:xEP (σ.y+1) f1 dT σ2 Pn) (kn:∀ σ',Pn σ'→zUA (σ.y+1) f1 dT [σ2.y] σ' Q),qg 85 [qf y0,iV day] σ Q :=
 let s1:=zFR (σ.y+1) f1 dT;let y0:=wkc ak af ac ad ae aa ab ao au aj;fun h1 hL kn=>zG [.g,.g,.l (qf y0),.g,.c (.func (.func f1) ⟨[]⟩ ⟨dT⟩) σ2,.rf 16 s1 [(.normal,Pn)]] (kd (an2 ((zC _ _ _).row.rw.ldN xW xC (k:=0) rfl rfl (nle rfl):lz ((σ.row y0 6).row [.slice none 0 0] 1) 34 (qe σ.y 0) (qf y0)) h1 (ai (ai tt (ai (arf s1) hL)) (ai (kz kn) trivial))))
theorem yIL (h1:lz σ 26 (qe BA 0) (.slice qO lK cP)) (h2:qn (evL [pt BA 0,.slice qO lK cP]) σ (.store 26 (.tmp 0) (.tmp 1))=some (undef,σG)) (h3:xAH ms σG fy) (h4:lz fy 26 (qe BA 0) (.slice qBB lGB cBB)) (nx:Q (.slice qBB lGB cBB) fy):zUA BA f1 dT ms σ Q :=
 sK [.l (.slice qO lK cP),.e undef σG,.l (.slice qBB lGB cBB)] (an2 h1 h2 (zMR (K:=(fun fy=>lz fy 26 (qe BA 0) (.slice qBB lGB cBB)∧Q (.slice qBB lGB cBB) fy)) h3 (ai h4 nx)))
theorem yUZ {Inv:Nat→(Option Addr)→Nat→Nat→Int→St→Prop} {Q0:(Option Addr)→Nat→Nat→St→Prop} (hb:∀ k fg fi fo aE σ,Inv k fg fi fo aE σ→yIJ af ac ad fg fi fo aE σ (NX4 Inv k) Q0):∀ k fg fi fo aE σ,Inv k fg fi fo aE σ→yZT af ac ad fg fi fo aE σ Q0 :=
 yUA (ai (wA 0) trivial) hb
theorem xML {Nx:(Option Addr)→Nat→Nat→Int→St→Prop} {Q0:(Option Addr)→Nat→Nat→St→Prop}:let y0:=zF nE nG nD nB nA;∀ (h1:lz σ 85 (zL w_Duties_a (Int.toNat aE*5)) (qf y0)) (h2:yG Pg 26 26 (.slice fg fi fo) (.slice (some ⟨(σ.y+1),0,none⟩) 1 1) (((σ.row (zF 0 0 0 0 0) 5).own σ.y y0 5).row [iV nB] 1)=some (.slice qG lJ cH,σL)) (nx:Nx qG lJ cH (aE+1) σL) (u1:aE<(ac:Int):=by omega) (u2:Ix aE ac:=by omega) (u3:I6 (aE+1):=by omega),yIJ (some w_Duties_a) ac ad fg fi fo aE σ Nx Q0 :=
 let s1:=σ.row (zF 0 0 0 0 0) 5;let s2:=s1.own σ.y (zF nE nG nD nB nA) 5;let y0:=zF nE nG nD nB nA;fun h1 h2 nx u1 u2 u3=>kO 0 (qG,lJ,cH,aE+1) [.b true,.i,.l (qf y0),.g,.e undef s2,.g,.g,.g,.l (iV nB),.g,.e (.slice qG lJ cH) σL,.g,.n (aE+1),.g] (fun _ f=>ai (zR u1) (an6 u2 h1 ((zC _ _ _).store (vs:=y0) rfl vY rfl (nle rfl) rfl:qn (evL [pt σ.y 0,qf y0]) s1 (.store 85 (.tmp 0) (.tmp 1))=some (undef,s2)) ((zC _ _ _).put.rw.ld zT (k:=3) rfl:lz s2 3 (qe σ.y 3) (iV nB)) h2 (w64 u3) f)) nx
theorem xMK {Nx:(Option Addr)→Nat→Nat→Int→St→Prop} {Q0:(Option Addr)→Nat→Nat→St→Prop} (nx:Q0 fg fi fo σ) (u1:¬ aE<(ac:Int):=by omega):yIJ af ac ad fg fi fo aE σ Nx Q0 :=
 kO 1 (fg,fi,fo) [.b false] (fun _ f=>ai (zU u1) f) nx
theorem xRQ {P0:(Option Addr)→Nat→Nat→St→Prop} (hL:yZT af ac ad none 0 0 0 (σ.row (wkc ak af ac ad ae aa ab ao au aj) 6) P0) (k0:∀ p2_1' l2_1' c2_1' σ',P0 p2_1' l2_1' c2_1' σ'→yFG af ac ad p2_1' l2_1' c2_1' σ' Q):qg 86 [qf (wkc ak af ac ad ae aa ab ao au aj)] σ Q :=
 zG [.g,.g,.g,.l (.slice af ac ad),.g,.g,.lf 20 (zPX af ac ad none 0 0 0) [zSA af ac ad P0]] (kd (ai ((zC _ _ _).rw.ld zAV (k:=1) rfl:lz (σ.row (wkc ak af ac ad ae aa ab ao au aj) 6) 31 (qe σ.y 1) (.slice af ac ad)) (ai (ai tt (ai (arf (zPX af ac ad none 0 0 0)) hL)) (ai (kz3 k0) trivial))))
theorem yUY (nx:Q (.slice fg fi fo) σ):yFG af ac ad fg fi fo σ Q :=
 sK [.g,.g] nx
theorem yBF (hb:∀ k aE σ,Inv k aE σ→zMS BA ae aa ab aE σ (NX1 Inv k) Q0):∀ k aE σ,Inv k aE σ→zWG BA ae aa ab aE σ Q0 :=
 xE (ai (wA 0) trivial) hb
theorem yJY:let y0:=zO qE lF cF qD lG cE qF lH cG nB nA nF;∀ (h1:lz σ 88 (zL bi (Int.toNat aE*6)) (qf y0)) (h2:qn (evL [pt BA (0+Int.toNat aE*4),qf (zK nB nA nF (-1))]) ((σ.row (zO none 0 0 none 0 0 none 0 0 0 0 0) 6).own σ.y y0 6) (.store 107 (.tmp 0) (.tmp 1))=some (undef,σT)) (nx:Nx (aE+1) σT) (u1:aE<(aa:Int):=by omega) (u2:Ix aE aa:=by omega) (u3:Ix aE 6:=by omega) (u4:I6 (aE+1):=by omega),zMS BA (some bi) aa ab aE σ Nx Q0 :=
 let s1:=σ.row (zO none 0 0 none 0 0 none 0 0 0 0 0) 6;let s2:=s1.own σ.y (zO qE lF cF qD lG cE qF lH cG nB nA nF) 6;let y0:=zO qE lF cF qD lG cE qF lH cG nB nA nF;fun h1 h2 nx u1 u2 u3 u4=>kO 0 (aE+1) [.b true,.g,.i,.l (qf y0),.g,.g,.e undef s2,.g,.g,.l (iV nB),.g,.l (iV nA),.g,.l (iV nF),.g,.i,.e undef σT,.n (aE+1),.g] (fun _ f=>an4 (zR u1) u2 h1 ((zC _ _ _).store (vs:=y0) rfl zQS rfl (nle rfl) rfl:qn (evL [pt σ.y 0,qf y0]) s1 (.store 88 (.tmp 0) (.tmp 1))=some (undef,s2)) (an6 ((zC _ _ _).put.rw.ld zT (k:=3) rfl:lz s2 3 (qe σ.y 3) (iV nB)) ((zC _ _ _).put.rw.ld zT (k:=4) rfl:lz s2 3 (qe σ.y 4) (iV nA)) ((zC _ _ _).put.rw.ld zT (k:=5) rfl:lz s2 3 (qe σ.y 5) (iV nF)) u3 h2 (w64 u4) f)) nx
theorem yJX (nx:Q0 σ) (u1:¬ aE<(aa:Int):=by omega):zMS BA ae aa ab aE σ Nx Q0 :=
 kO 1 () [.b false] (fun _ f=>ai (zU u1) f) nx
theorem yQO (hL:zWG (σ.y+1) ae aa ab 0 ((σ.row (wkc ak af ac ad ae aa ab ao au aj) 6).row [iV 0,iV 0,iV 0,iV 0,iV 0,iV 0,iV 0,iV 0,iV 0,iV 0,iV 0,iV 0,iV 0,iV 0,iV 0,iV 0,iV 0,iV 0,iV 0,iV 0,iV 0,iV 0,iV 0,iV 0] 4) P0) (k0:∀ σ',P0 σ'→zOH (σ.y+1) ae aa ab σ' Q):qg 74 [qf (wkc ak af ac ad ae aa ab ao au aj)] σ Q :=
 let s1:=zGE (σ.y+1) ae aa ab 0;zG [.g,.g,.g,.l (.slice ae aa ab),.g,.g,.lf 24 s1 [zGF (σ.y+1) ae aa ab P0]] (kd (ai ((zC _ _ _).row.rw.ld zAU (k:=2) rfl:lz ((σ.row (wkc ak af ac ad ae aa ab ao au aj) 6).row [iV 0,iV 0,iV 0,iV 0,iV 0,iV 0,iV 0,iV 0,iV 0,iV 0,iV 0,iV 0,iV 0,iV 0,iV 0,iV 0,iV 0,iV 0,iV 0,iV 0,iV 0,iV 0,iV 0,iV 0] 4) 32 (qe σ.y 2) (.slice ae aa ab)) (ai (ai tt (ai (arf s1) hL)) (ai (kz0 k0) trivial))))
theorem yBE (h1:lz σ 109 (qe BA 0) (qf cs1838)) (h2:qn (evL [pt BA 0,qf cs1838]) σ (.store 109 (.tmp 0) (.tmp 1))=some (undef,σG)) (h3:lz σG 109 (qe BA 0) (qf cs1840)) (nx:Q (qf cs1840) σG):zOH BA ae aa ab σ Q :=
 sK [.l (qf cs1838),.e undef σG,.l (qf cs1840)] (an3 h1 h2 h3 nx)
theorem yHF (nx:Q (.slice (some (qe σ.y 0)) 5 5) (σ.row [.int .u8 0,.func (.func 92) ⟨[]⟩ ⟨[]⟩,.int .u8 1,.func (.func 93) ⟨[]⟩ ⟨[]⟩,.int .u8 2,.func (.func 94) ⟨[]⟩ ⟨[]⟩,.int .u8 3,.func (.func 95) ⟨[]⟩ ⟨[]⟩,.int .u8 4,.func (.func 96) ⟨[]⟩ ⟨[]⟩] 2)):qg 76 [] σ Q :=
 zG [.g,.g,.g,.g,.g,.g,.g,.g] (kd nx)
theorem xBT:let s1:=σ.row (wkc ak af ac ad (some bi) aa ab ao au aj) 6;let s2:=s1.row (zF aA aO ax ay aC) 5;let s3:=s2.row (zK dM ew dL eA) 4;∀ (h1:lz s3 26 (zL bi ((Int.toNat df*6)+0)) (.slice q1 l1 c1)) (h2:qm 58 [.slice q1 l1 c1,iV aC] s3 (.bool b2) s3) (nx:Q (.bool b2) s3) (u1:Ix df aa:=by omega),qg 92 [qf (wkc ak af ac ad (some bi) aa ab ao au aj),iV df,qf (zF aA aO ax ay aC),qf (zK dM ew dL eA)] σ Q:=
 let s1:=σ.row (wkc ak af ac ad (some bi) aa ab ao au aj) 6;let s2:=s1.row (zF aA aO ax ay aC) 5;let s3:=s2.row (zK dM ew dL eA) 4;fun h1 h2 nx u1=>zG [.g,.g,.g,.g,.g,.l (.slice (some bi) aa ab),.g,.i,.g,.l (.slice q1 l1 c1),.g,.l (iV aC),.c (.bool b2) s3,.g] (kd (an5 ((zC _ _ _).row.row.rw.ld zAU (k:=2) rfl:lz s3 32 (qe σ.y 2) (.slice (some bi) aa ab)) u1 h1 ((zC _ _ _).row.rw.ld zT (k:=4) rfl:lz s3 3 ⟨(σ.y+1),4,none⟩ (iV aC)) h2 nx))
theorem xHZ:let s1:=σ.row (wkc ak af ac ad (some bi) aa ab ao au aj) 6;let s2:=s1.row (zF aA aO ax ay aC) 5;let s3:=s2.row (zK dM ew dL eA) 4;∀ (h1:lz s3 26 (zL bi ((Int.toNat df*6)+1)) (.slice q1 l1 c1)) (h2:qm 58 [.slice q1 l1 c1,iV aA] s3 (.bool true) s3) (nx:Q (.bool false) s3) (u1:Ix df aa:=by omega),qg 93 [qf (wkc ak af ac ad (some bi) aa ab ao au aj),iV df,qf (zF aA aO ax ay aC),qf (zK dM ew dL eA)] σ Q:=
 let s1:=σ.row (wkc ak af ac ad (some bi) aa ab ao au aj) 6;let s2:=s1.row (zF aA aO ax ay aC) 5;let s3:=s2.row (zK dM ew dL eA) 4;fun h1 h2 nx u1=>zG [.g,.g,.g,.g,.g,.l (.slice (some bi) aa ab),.g,.i,.g,.l (.slice q1 l1 c1),.g,.l (iV aA),.c (.bool true) s3,.g,.g] (kd (an5 ((zC _ _ _).row.row.rw.ld zAU (k:=2) rfl:lz s3 32 (qe σ.y 2) (.slice (some bi) aa ab)) u1 h1 ((zC _ _ _).row.rw.ld zT (k:=0) rfl:lz s3 3 ⟨(σ.y+1),0,none⟩ (iV aA)) h2 nx))
theorem xHY:let s1:=σ.row (wkc ak af ac ad (some bi) aa ab ao au aj) 6;let s2:=s1.row (zF aA aO ax ay aC) 5;let s3:=s2.row (zK dM ew dL eA) 4;∀ (h1:lz s3 26 (zL bi ((Int.toNat df*6)+1)) (.slice q1 l1 c1)) (h2:qm 58 [.slice q1 l1 c1,iV aA] s3 (.bool false) s3) (nx:Q (.bool true) s3) (u1:Ix df aa:=by omega),qg 93 [qf (wkc ak af ac ad (some bi) aa ab ao au aj),iV df,qf (zF aA aO ax ay aC),qf (zK dM ew dL eA)] σ Q:=
 let s1:=σ.row (wkc ak af ac ad (some bi) aa ab ao au aj) 6;let s2:=s1.row (zF aA aO ax ay aC) 5;let s3:=s2.row (zK dM ew dL eA) 4;fun h1 h2 nx u1=>zG [.g,.g,.g,.g,.g,.l (.slice (some bi) aa ab),.g,.i,.g,.l (.slice q1 l1 c1),.g,.l (iV aA),.c (.bool false) s3,.g,.g] (kd (an5 ((zC _ _ _).row.row.rw.ld zAU (k:=2) rfl:lz s3 32 (qe σ.y 2) (.slice (some bi) aa ab)) u1 h1 ((zC _ _ _).row.rw.ld zT (k:=0) rfl:lz s3 3 ⟨(σ.y+1),0,none⟩ (iV aA)) h2 nx))
theorem ySP:let y0:=wkc ak af ac ad ae aa ab ao au aj;let y1:=zF aA aO ax ay aC;∀ (nx:Q (.bool true) (((σ.row y0 6).row y1 5).row (zK aT bk a7 aZ) 4)) (u1:¬ aZ=aA:=by omega),qg 94 [qf y0,iV x1,qf y1,qf (zK aT bk a7 aZ)] σ Q :=
 let s1:=σ.row (wkc ak af ac ad ae aa ab ao au aj) 6;let s2:=s1.row (zF aA aO ax ay aC) 5;let s3:=s2.row (zK aT bk a7 aZ) 4;fun nx u1=>zG [.g,.g,.g,.g,.g,.l (iV aZ),.g,.l (iV aA),.b true,.g] (kd (an3 ((zC _ _ _).rw.ld zT (k:=3) rfl:lz s3 3 ⟨(σ.y+2),3,none⟩ (iV aZ)) ((zC _ _ _).row.rw.ld zT (k:=0) rfl:lz s3 3 ⟨(σ.y+1),0,none⟩ (iV aA)) (zGQ u1) nx))
theorem ySO:let y0:=wkc ak af ac ad ae aa ab ao au aj;let y1:=zF aA aO ax ay aC;∀ (nx:Q (.bool false) (((σ.row y0 6).row y1 5).row (zK aT bk a7 aZ) 4)) (u1:aZ=aA:=by omega),qg 94 [qf y0,iV x1,qf y1,qf (zK aT bk a7 aZ)] σ Q :=
 let s1:=σ.row (wkc ak af ac ad ae aa ab ao au aj) 6;let s2:=s1.row (zF aA aO ax ay aC) 5;let s3:=s2.row (zK aT bk a7 aZ) 4;fun nx u1=>zG [.g,.g,.g,.g,.g,.l (iV aZ),.g,.l (iV aA),.b false,.g] (kd (an3 ((zC _ _ _).rw.ld zT (k:=3) rfl:lz s3 3 ⟨(σ.y+2),3,none⟩ (iV aZ)) ((zC _ _ _).row.rw.ld zT (k:=0) rfl:lz s3 3 ⟨(σ.y+1),0,none⟩ (iV aA)) (zCQ u1) nx))
theorem ySS:let y0:=wkc ak af ac ad ae aa ab ao au aj;let y1:=zF aA aO ax ay aC;∀ (nx:Q (.bool true) (((σ.row y0 6).row y1 5).row (zK aT bk a7 aZ) 4)) (u1:aZ=aA:=by omega),qg 95 [qf y0,iV x1,qf y1,qf (zK aT bk a7 aZ)] σ Q :=
 let s1:=σ.row (wkc ak af ac ad ae aa ab ao au aj) 6;let s2:=s1.row (zF aA aO ax ay aC) 5;let s3:=s2.row (zK aT bk a7 aZ) 4;fun nx u1=>zG [.g,.g,.g,.g,.g,.l (iV aZ),.g,.l (iV aA),.b true,.g,.g,.g] (kd (an3 ((zC _ _ _).rw.ld zT (k:=3) rfl:lz s3 3 ⟨(σ.y+2),3,none⟩ (iV aZ)) ((zC _ _ _).row.rw.ld zT (k:=0) rfl:lz s3 3 ⟨(σ.y+1),0,none⟩ (iV aA)) (xL u1) nx))
theorem ySR:let y0:=wkc ak af ac ad ae aa ab ao au aj;let y1:=(aA*1440)+aO;let y2:=zF aA aO ax ay aC;∀ (nx:Q (.bool true) (((σ.row y0 6).row y2 5).row (zK aT bk a7 aZ) 4)) (u1:¬ aZ=aA:=by omega) (u2:I6 (aA*1440):=by omega) (u3:I6 y1:=by omega) (u4:I6 (y1-aT):=by omega) (u5:ao≤(y1-aT):=by omega),qg 95 [qf y0,iV x1,qf y2,qf (zK aT bk a7 aZ)] σ Q :=
 let s1:=σ.row (wkc ak af ac ad ae aa ab ao au aj) 6;let s2:=s1.row (zF aA aO ax ay aC) 5;let s3:=s2.row (zK aT bk a7 aZ) 4;let s4:=aA*1440;let s5:=σ.y+1;fun nx u1 u2 u3 u4 u5=>zG [.g,.g,.g,.g,.g,.l (iV aZ),.g,.l (iV aA),.b false,.g,.g,.l (iV aA),.n s4,.g,.l (iV aO),.n (s4+aO),.g,.l (iV aT),.n ((s4+aO)-aT),.g,.l (iV ao),.b true,.g,.g] (kd (an5 ((zC _ _ _).rw.ld zT (k:=3) rfl:lz s3 3 ⟨(σ.y+2),3,none⟩ (iV aZ)) ((zC _ _ _).row.rw.ld zT (k:=0) rfl:lz s3 3 (qe s5 0) (iV aA)) (xG u1) ((zC _ _ _).row.rw.ld zT (k:=0) rfl:lz s3 3 (qe s5 0) (iV aA)) (w64 u2) (an6 ((zC _ _ _).row.rw.ld zT (k:=1) rfl:lz s3 3 (qe s5 1) (iV aO)) (w64 u3) ((zC _ _ _).rw.ld zT (k:=0) rfl:lz s3 3 ⟨(σ.y+2),0,none⟩ (iV aT)) (w64 u4) ((zC _ _ _).row.row.rw.ld zT (k:=3) rfl:lz s3 3 (qe σ.y 3) (iV ao)) (yD u5) nx)))
theorem ySQ:let y0:=wkc ak af ac ad ae aa ab ao au aj;let y1:=(aA*1440)+aO;let y2:=zF aA aO ax ay aC;∀ (nx:Q (.bool false) (((σ.row y0 6).row y2 5).row (zK aT bk a7 aZ) 4)) (u1:¬ aZ=aA:=by omega) (u2:I6 (aA*1440):=by omega) (u3:I6 y1:=by omega) (u4:I6 (y1-aT):=by omega) (u5:¬ ao≤(y1-aT):=by omega),qg 95 [qf y0,iV x1,qf y2,qf (zK aT bk a7 aZ)] σ Q :=
 let s1:=σ.row (wkc ak af ac ad ae aa ab ao au aj) 6;let s2:=s1.row (zF aA aO ax ay aC) 5;let s3:=s2.row (zK aT bk a7 aZ) 4;let s4:=aA*1440;let s5:=σ.y+1;fun nx u1 u2 u3 u4 u5=>zG [.g,.g,.g,.g,.g,.l (iV aZ),.g,.l (iV aA),.b false,.g,.g,.l (iV aA),.n s4,.g,.l (iV aO),.n (s4+aO),.g,.l (iV aT),.n ((s4+aO)-aT),.g,.l (iV ao),.b false,.g,.g] (kd (an5 ((zC _ _ _).rw.ld zT (k:=3) rfl:lz s3 3 ⟨(σ.y+2),3,none⟩ (iV aZ)) ((zC _ _ _).row.rw.ld zT (k:=0) rfl:lz s3 3 (qe s5 0) (iV aA)) (xG u1) ((zC _ _ _).row.rw.ld zT (k:=0) rfl:lz s3 3 (qe s5 0) (iV aA)) (w64 u2) (an6 ((zC _ _ _).row.rw.ld zT (k:=1) rfl:lz s3 3 (qe s5 1) (iV aO)) (w64 u3) ((zC _ _ _).rw.ld zT (k:=0) rfl:lz s3 3 ⟨(σ.y+2),0,none⟩ (iV aT)) (w64 u4) ((zC _ _ _).row.row.rw.ld zT (k:=3) rfl:lz s3 3 (qe σ.y 3) (iV ao)) (yF u5) nx)))
theorem xBW:let y0:=wkc ak af ac ad ae aa ab ao au aj;let y1:=zF aA aO ax ay aC;∀ (nx:Q (.bool true) (((σ.row y0 6).row y1 5).row (zK aT bk a7 aZ) 4)) (u1:aZ=aA:=by omega),qg 96 [qf y0,iV x1,qf y1,qf (zK aT bk a7 aZ)] σ Q :=
 let s1:=σ.row (wkc ak af ac ad ae aa ab ao au aj) 6;let s2:=s1.row (zF aA aO ax ay aC) 5;let s3:=s2.row (zK aT bk a7 aZ) 4;fun nx u1=>zG [.g,.g,.g,.g,.g,.l (iV aZ),.g,.l (iV aA),.b true,.g,.g,.g] (kd (an5 ((zC _ _ _).rw.ld zT (k:=3) rfl:lz s3 3 ⟨(σ.y+2),3,none⟩ (iV aZ)) ((zC _ _ _).row.rw.ld zT (k:=0) rfl:lz s3 3 ⟨(σ.y+1),0,none⟩ (iV aA)) (xL u1) ((zE (zN (nlt σ.y 2 3 rfl)) zH):zI s3.y [pt ((σ.y+2)) 3]) ((zE (zN (nlt σ.y 1 3 rfl)) zH):zI s3.y [pt ((σ.y+1)) 0]) nx))
theorem xBV:let s1:=σ.row (wkc ak af ac ad ae aa ab ao au aj) 6;let s2:=s1.row (zF aA aO ax ay aC) 5;let s3:=s2.row (zK aT bk a7 aZ) 4;∀ (h1:qm 77 [qf (zK aT bk a7 aZ),qf (zF aA aO ax ay aC),iV aO] s3 (qf (zK n1 n2 n3 n4)) s3) (nx:Q (.bool true) s3) (u1:¬ aZ=aA:=by omega) (u2:n2≤au:=by omega),qg 96 [qf (wkc ak af ac ad ae aa ab ao au aj),iV x1,qf (zF aA aO ax ay aC),qf (zK aT bk a7 aZ)] σ Q:=
 let s1:=σ.row (wkc ak af ac ad ae aa ab ao au aj) 6;let s2:=s1.row (zF aA aO ax ay aC) 5;let s3:=s2.row (zK aT bk a7 aZ) 4;let s4:=σ.y+1;let s5:=σ.y+2;fun h1 nx u1 u2=>zG [.g,.g,.g,.g,.g,.l (iV aZ),.g,.l (iV aA),.b false,.g,.l (qf (zK aT bk a7 aZ)),.l (qf (zF aA aO ax ay aC)),.g,.l (iV aO),.c (qf (zK n1 n2 n3 n4)) s3,.g,.g,.l (iV au),.b true,.g,.g] (kd (an6 ((zC _ _ _).rw.ld zT (k:=3) rfl:lz s3 3 (qe s5 3) (iV aZ)) ((zC _ _ _).row.rw.ld zT (k:=0) rfl:lz s3 3 (qe s4 0) (iV aA)) (xG u1) ((zC _ _ _).rw.ldN vM xA (k:=0) rfl rfl (nle rfl):lz s3 107 (qe s5 0) (qf (zK aT bk a7 aZ))) ((zC _ _ _).row.rw.ldN zMM vY (k:=0) rfl rfl (nle rfl):lz s3 85 (qe s4 0) (qf (zF aA aO ax ay aC))) ((zC _ _ _).row.rw.ld zT (k:=1) rfl:lz s3 3 (qe s4 1) (iV aO)) (an6 h1 ((zC _ _ _).row.row.rw.ld zT (k:=4) rfl:lz s3 3 (qe σ.y 4) (iV au)) (yD u2) ((zE (zN (nlt σ.y 2 3 rfl)) zH):zI s3.y [pt s5 3]) ((zE (zN (nlt σ.y 1 3 rfl)) zH):zI s3.y [pt s4 0]) ((zE (zN (nlt σ.y 2 3 rfl)) zH):zI s3.y [pt s5 0]) (an6 ((zE (zN (nlt σ.y 1 3 rfl)) zH):zI s3.y [pt s4 0]) ((zE (zN (nlt σ.y 1 3 rfl)) zH):zI s3.y [pt s4 1]) ((zE (yK rfl) (zE (yK rfl) (zE (yK rfl) zH))):zI s3.y [qf (zK aT bk a7 aZ),qf (zF aA aO ax ay aC),iV aO]) ((zE (zN (nlt σ.y 0 3 rfl)) zH):zI s3.y [pt σ.y 4]) (⟨⟨(nlt σ.y 0 3 rfl),rfl⟩,((zC _ _ _).row.row.rw.ld zT (k:=4) rfl)⟩:(zLq s3 3 (qe σ.y 4) (iV au))) (⟨⟨(nlt σ.y 0 3 rfl),rfl⟩,((zC _ _ _).row.row.rw.ld zT (k:=4) rfl)⟩:(zLq s3 3 (qe σ.y 4) (iV au))) nx))))
theorem xBU:let s1:=σ.row (wkc ak af ac ad ae aa ab ao au aj) 6;let s2:=s1.row (zF aA aO ax ay aC) 5;let s3:=s2.row (zK aT bk a7 aZ) 4;∀ (h1:qm 77 [qf (zK aT bk a7 aZ),qf (zF aA aO ax ay aC),iV aO] s3 (qf (zK n1 n2 n3 n4)) s3) (nx:Q (.bool false) s3) (u1:¬ aZ=aA:=by omega) (u2:¬ n2≤au:=by omega),qg 96 [qf (wkc ak af ac ad ae aa ab ao au aj),iV x1,qf (zF aA aO ax ay aC),qf (zK aT bk a7 aZ)] σ Q:=
 let s1:=σ.row (wkc ak af ac ad ae aa ab ao au aj) 6;let s2:=s1.row (zF aA aO ax ay aC) 5;let s3:=s2.row (zK aT bk a7 aZ) 4;let s4:=σ.y+1;let s5:=σ.y+2;fun h1 nx u1 u2=>zG [.g,.g,.g,.g,.g,.l (iV aZ),.g,.l (iV aA),.b false,.g,.l (qf (zK aT bk a7 aZ)),.l (qf (zF aA aO ax ay aC)),.g,.l (iV aO),.c (qf (zK n1 n2 n3 n4)) s3,.g,.g,.l (iV au),.b false,.g,.g] (kd (an6 ((zC _ _ _).rw.ld zT (k:=3) rfl:lz s3 3 (qe s5 3) (iV aZ)) ((zC _ _ _).row.rw.ld zT (k:=0) rfl:lz s3 3 (qe s4 0) (iV aA)) (xG u1) ((zC _ _ _).rw.ldN vM xA (k:=0) rfl rfl (nle rfl):lz s3 107 (qe s5 0) (qf (zK aT bk a7 aZ))) ((zC _ _ _).row.rw.ldN zMM vY (k:=0) rfl rfl (nle rfl):lz s3 85 (qe s4 0) (qf (zF aA aO ax ay aC))) ((zC _ _ _).row.rw.ld zT (k:=1) rfl:lz s3 3 (qe s4 1) (iV aO)) (an6 h1 ((zC _ _ _).row.row.rw.ld zT (k:=4) rfl:lz s3 3 (qe σ.y 4) (iV au)) (yF u2) ((zE (zN (nlt σ.y 2 3 rfl)) zH):zI s3.y [pt s5 3]) ((zE (zN (nlt σ.y 1 3 rfl)) zH):zI s3.y [pt s4 0]) ((zE (zN (nlt σ.y 2 3 rfl)) zH):zI s3.y [pt s5 0]) (an6 ((zE (zN (nlt σ.y 1 3 rfl)) zH):zI s3.y [pt s4 0]) ((zE (zN (nlt σ.y 1 3 rfl)) zH):zI s3.y [pt s4 1]) ((zE (yK rfl) (zE (yK rfl) (zE (yK rfl) zH))):zI s3.y [qf (zK aT bk a7 aZ),qf (zF aA aO ax ay aC),iV aO]) ((zE (zN (nlt σ.y 0 3 rfl)) zH):zI s3.y [pt σ.y 4]) (⟨⟨(nlt σ.y 0 3 rfl),rfl⟩,((zC _ _ _).row.row.rw.ld zT (k:=4) rfl)⟩:(zLq s3 3 (qe σ.y 4) (iV au))) (⟨⟨(nlt σ.y 0 3 rfl),rfl⟩,((zC _ _ _).row.row.rw.ld zT (k:=4) rfl)⟩:(zLq s3 3 (qe σ.y 4) (iV au))) nx))))
theorem xGT:let y0:=zK aT bk (a7+(dW-aO)) aZ;let y1:=zF aA aO ax ay aC;∀ (nx:Q (qf y0) (((((σ.row (zK aT bk a7 aZ) 4).row y1 5).row (zK 0 0 0 0) 4).own σ.y y0 4).own (σ.y+2) y0 4)) (u1:I6 (dW-aO):=by omega) (u2:I6 (a7+(dW-aO)):=by omega) (u3:aZ=aA:=by omega),qg 77 [qf (zK aT bk a7 aZ),qf y1,iV dW] σ Q :=
 let s1:=σ.row (zK aT bk a7 aZ) 4;let s2:=s1.row (zF aA aO ax ay aC) 5;let s3:=s2.row (zK 0 0 0 0) 4;let s6:=a7+(dW-aO);let s4:=s3.own σ.y (zK aT bk s6 aZ) 4;let s5:=s4.own (σ.y+2) (zK aT bk s6 aZ) 4;fun nx u1 u2 u3=>zG [.g,.g,.g,.g,.l (iV a7),.g,.g,.l (iV aO),.n (dW-aO),.n s6,.g,.e undef s4,.g,.l (iV aZ),.g,.l (iV aA),.b true,.l (qf (zK aT bk s6 aZ)),.e undef s5,.l (qf (zK aT bk s6 aZ))] (kd (an5 ((zC _ _ _).row.row.rw.ld zT (k:=2) rfl:lz s3 3 (qe σ.y 2) (iV a7)) ((zC _ _ _).row.rw.ld zT (k:=1) rfl:lz s3 3 ⟨(σ.y+1),1,none⟩ (iV aO)) (w64 u1) (w64 u2) ((zC _ _ _).row.row.store (vs:=[iV s6]) rfl vE rfl (nle rfl) rfl:qn (evL [pt σ.y 2,iV s6]) s3 (.store 3 (.tmp 0) (.tmp 1))=some (undef,s4)) (an6 ((zC _ _ _).row.row.put.rw.ld zT (k:=3) rfl:lz s4 3 (qe σ.y 3) (iV aZ)) (((zC _ _ _).row.own (nne σ.y 1 0 rfl)).rw.ld zT (k:=0) rfl:lz s4 3 ⟨(σ.y+1),0,none⟩ (iV aA)) (xL u3) ((zC _ _ _).row.row.put.rw.ldN vM xA (k:=0) rfl rfl (nle rfl):lz s4 107 (qe σ.y 0) (qf (zK aT bk s6 aZ))) (((zC _ _ _).own (nne σ.y 2 0 rfl)).store (vs:=(zK aT bk s6 aZ)) rfl xA rfl (nle rfl) rfl:qn (evL [pt ((σ.y+2)) 0,qf (zK aT bk s6 aZ)]) s4 (.store 107 (.tmp 0) (.tmp 1))=some (undef,s5)) (((zC _ _ _).own (nne σ.y 2 0 rfl)).put.rw.ldN vM xA (k:=0) rfl rfl (nle rfl):lz s5 107 ⟨(σ.y+2),0,none⟩ (qf (zK aT bk s6 aZ))) nx)))
theorem xGS:let y1:=a7+(dW-aO);let y0:=zK ((aA*1440)+dW) 1 y1 aA;let y2:=zF aA aO ax ay aC;∀ (nx:Q (qf y0) (((((((((σ.row (zK aT bk a7 aZ) 4).row y2 5).row (zK 0 0 0 0) 4).own σ.y (zK aT bk y1 aZ) 4).own σ.y (zK aT 0 y1 aZ) 4).own σ.y (zK aT 1 y1 aZ) 4).own σ.y (zK aT 1 y1 aA) 4).own σ.y y0 4).own (σ.y+2) y0 4)) (u1:I6 (dW-aO):=by omega) (u2:I6 y1:=by omega) (u3:¬ aZ=aA:=by omega) (u4:I6 (aA-1):=by omega) (u5:¬ aZ=(aA-1):=by omega) (u6:I6 (aA*1440):=by omega) (u7:I6 ((aA*1440)+dW):=by omega),qg 77 [qf (zK aT bk a7 aZ),qf y2,iV dW] σ Q :=
 let s1:=σ.row (zK aT bk a7 aZ) 4;let s2:=s1.row (zF aA aO ax ay aC) 5;let s3:=s2.row (zK 0 0 0 0) 4;let s10:=a7+(dW-aO);let s4:=s3.own σ.y (zK aT bk s10 aZ) 4;let s5:=s4.own σ.y (zK aT 0 s10 aZ) 4;let s6:=s5.own σ.y (zK aT 1 s10 aZ) 4;let s7:=s6.own σ.y (zK aT 1 s10 aA) 4;let s11:=(aA*1440)+dW;let s8:=s7.own σ.y (zK s11 1 s10 aA) 4;let s9:=s8.own (σ.y+2) (zK s11 1 s10 aA) 4;let s12:=σ.y+1;fun nx u1 u2 u3 u4 u5 u6 u7=>zG [.g,.g,.g,.g,.l (iV a7),.g,.g,.l (iV aO),.n (dW-aO),.n s10,.g,.e undef s4,.g,.l (iV aZ),.g,.l (iV aA),.b false,.g,.l (iV aZ),.g,.l (iV aA),.n (aA-1),.b true,.g,.e undef s5,.g,.l (iV 0),.g,.g,.e undef s6,.g,.l (iV aA),.g,.e undef s7,.g,.l (iV aA),.n (aA*1440),.g,.n s11,.g,.e undef s8,.l (qf (zK s11 1 s10 aA)),.e undef s9,.l (qf (zK s11 1 s10 aA))] (kd (an6 ((zC _ _ _).row.row.rw.ld zT (k:=2) rfl:lz s3 3 (qe σ.y 2) (iV a7)) ((zC _ _ _).row.rw.ld zT (k:=1) rfl:lz s3 3 (qe s12 1) (iV aO)) (w64 u1) (w64 u2) ((zC _ _ _).row.row.store (vs:=[iV s10]) rfl vE rfl (nle rfl) rfl:qn (evL [pt σ.y 2,iV s10]) s3 (.store 3 (.tmp 0) (.tmp 1))=some (undef,s4)) ((zC _ _ _).row.row.put.rw.ld zT (k:=3) rfl:lz s4 3 (qe σ.y 3) (iV aZ)) (an6 (((zC _ _ _).row.own (nne σ.y 1 0 rfl)).rw.ld zT (k:=0) rfl:lz s4 3 (qe s12 0) (iV aA)) (xG u3) ((zC _ _ _).row.row.put.rw.ld zT (k:=3) rfl:lz s4 3 (qe σ.y 3) (iV aZ)) (((zC _ _ _).row.own (nne σ.y 1 0 rfl)).rw.ld zT (k:=0) rfl:lz s4 3 (qe s12 0) (iV aA)) (w64 u4) (zGQ u5) (an6 ((zC _ _ _).row.row.put.store (vs:=[iV 0]) rfl vE rfl (nle rfl) rfl:qn (evL [pt σ.y 1,iV 0]) s4 (.store 3 (.tmp 0) (.tmp 1))=some (undef,s5)) ((zC _ _ _).row.row.put.put.rw.ld zT (k:=1) rfl:lz s5 3 (qe σ.y 1) (iV 0)) ((zC _ _ _).row.row.put.put.store (vs:=[iV 1]) rfl vE rfl (nle rfl) rfl:qn (evL [pt σ.y 1,iV 1]) s5 (.store 3 (.tmp 0) (.tmp 1))=some (undef,s6)) (((((zC _ _ _).row.own (nne σ.y 1 0 rfl)).own (nne σ.y 1 0 rfl)).own (nne σ.y 1 0 rfl)).rw.ld zT (k:=0) rfl:lz s6 3 (qe s12 0) (iV aA)) ((zC _ _ _).row.row.put.put.put.store (vs:=[iV aA]) rfl vE rfl (nle rfl) rfl:qn (evL [pt σ.y 3,iV aA]) s6 (.store 3 (.tmp 0) (.tmp 1))=some (undef,s7)) ((((((zC _ _ _).row.own (nne σ.y 1 0 rfl)).own (nne σ.y 1 0 rfl)).own (nne σ.y 1 0 rfl)).own (nne σ.y 1 0 rfl)).rw.ld zT (k:=0) rfl:lz s7 3 (qe s12 0) (iV aA)) (an6 (w64 u6) (w64 u7) ((zC _ _ _).row.row.put.put.put.put.store (vs:=[iV s11]) rfl vE rfl (nle rfl) rfl:qn (evL [pt σ.y 0,iV s11]) s7 (.store 3 (.tmp 0) (.tmp 1))=some (undef,s8)) ((zC _ _ _).row.row.put.put.put.put.put.rw.ldN vM xA (k:=0) rfl rfl (nle rfl):lz s8 107 (qe σ.y 0) (qf (zK s11 1 s10 aA))) (((((((zC _ _ _).own (nne σ.y 2 0 rfl)).own (nne σ.y 2 0 rfl)).own (nne σ.y 2 0 rfl)).own (nne σ.y 2 0 rfl)).own (nne σ.y 2 0 rfl)).store (vs:=(zK s11 1 s10 aA)) rfl xA rfl (nle rfl) rfl:qn (evL [pt ((σ.y+2)) 0,qf (zK s11 1 s10 aA)]) s8 (.store 107 (.tmp 0) (.tmp 1))=some (undef,s9)) (((((((zC _ _ _).own (nne σ.y 2 0 rfl)).own (nne σ.y 2 0 rfl)).own (nne σ.y 2 0 rfl)).own (nne σ.y 2 0 rfl)).own (nne σ.y 2 0 rfl)).put.rw.ldN vM xA (k:=0) rfl rfl (nle rfl):lz s9 107 ⟨(σ.y+2),0,none⟩ (qf (zK s11 1 s10 aA))) nx)))))
theorem xGR:let y1:=a7+(dW-aO);let y0:=zK ((aA*1440)+dW) (bk+1) y1 aA;let y2:=zF aA aO ax ay aC;∀ (nx:Q (qf y0) ((((((((σ.row (zK aT bk a7 aZ) 4).row y2 5).row (zK 0 0 0 0) 4).own σ.y (zK aT bk y1 aZ) 4).own σ.y (zK aT (bk+1) y1 aZ) 4).own σ.y (zK aT (bk+1) y1 aA) 4).own σ.y y0 4).own (σ.y+2) y0 4)) (u1:I6 (dW-aO):=by omega) (u2:I6 y1:=by omega) (u3:¬ aZ=aA:=by omega) (u4:I6 (aA-1):=by omega) (u5:aZ=(aA-1):=by omega) (u6:I6 (bk+1):=by omega) (u7:I6 (aA*1440):=by omega) (u8:I6 ((aA*1440)+dW):=by omega),qg 77 [qf (zK aT bk a7 aZ),qf y2,iV dW] σ Q :=
 let s1:=σ.row (zK aT bk a7 aZ) 4;let s2:=s1.row (zF aA aO ax ay aC) 5;let s3:=s2.row (zK 0 0 0 0) 4;let s9:=a7+(dW-aO);let s4:=s3.own σ.y (zK aT bk s9 aZ) 4;let s10:=(aA*1440)+dW;let s11:=bk+1;let s5:=s4.own σ.y (zK aT s11 s9 aZ) 4;let s6:=s5.own σ.y (zK aT s11 s9 aA) 4;let s7:=s6.own σ.y (zK s10 s11 s9 aA) 4;let s8:=s7.own (σ.y+2) (zK s10 s11 s9 aA) 4;let s12:=σ.y+1;fun nx u1 u2 u3 u4 u5 u6 u7 u8=>zG [.g,.g,.g,.g,.l (iV a7),.g,.g,.l (iV aO),.n (dW-aO),.n s9,.g,.e undef s4,.g,.l (iV aZ),.g,.l (iV aA),.b false,.g,.l (iV aZ),.g,.l (iV aA),.n (aA-1),.b false,.g,.l (iV bk),.n s11,.g,.e undef s5,.g,.l (iV aA),.g,.e undef s6,.g,.l (iV aA),.n (aA*1440),.g,.n s10,.g,.e undef s7,.l (qf (zK s10 s11 s9 aA)),.e undef s8,.l (qf (zK s10 s11 s9 aA))] (kd (an6 ((zC _ _ _).row.row.rw.ld zT (k:=2) rfl:lz s3 3 (qe σ.y 2) (iV a7)) ((zC _ _ _).row.rw.ld zT (k:=1) rfl:lz s3 3 (qe s12 1) (iV aO)) (w64 u1) (w64 u2) ((zC _ _ _).row.row.store (vs:=[iV s9]) rfl vE rfl (nle rfl) rfl:qn (evL [pt σ.y 2,iV s9]) s3 (.store 3 (.tmp 0) (.tmp 1))=some (undef,s4)) ((zC _ _ _).row.row.put.rw.ld zT (k:=3) rfl:lz s4 3 (qe σ.y 3) (iV aZ)) (an6 (((zC _ _ _).row.own (nne σ.y 1 0 rfl)).rw.ld zT (k:=0) rfl:lz s4 3 (qe s12 0) (iV aA)) (xG u3) ((zC _ _ _).row.row.put.rw.ld zT (k:=3) rfl:lz s4 3 (qe σ.y 3) (iV aZ)) (((zC _ _ _).row.own (nne σ.y 1 0 rfl)).rw.ld zT (k:=0) rfl:lz s4 3 (qe s12 0) (iV aA)) (w64 u4) (zCQ u5) (an6 ((zC _ _ _).row.row.put.rw.ld zT (k:=1) rfl:lz s4 3 (qe σ.y 1) (iV bk)) (w64 u6) ((zC _ _ _).row.row.put.store (vs:=[iV s11]) rfl vE rfl (nle rfl) rfl:qn (evL [pt σ.y 1,iV s11]) s4 (.store 3 (.tmp 0) (.tmp 1))=some (undef,s5)) ((((zC _ _ _).row.own (nne σ.y 1 0 rfl)).own (nne σ.y 1 0 rfl)).rw.ld zT (k:=0) rfl:lz s5 3 (qe s12 0) (iV aA)) ((zC _ _ _).row.row.put.put.store (vs:=[iV aA]) rfl vE rfl (nle rfl) rfl:qn (evL [pt σ.y 3,iV aA]) s5 (.store 3 (.tmp 0) (.tmp 1))=some (undef,s6)) (((((zC _ _ _).row.own (nne σ.y 1 0 rfl)).own (nne σ.y 1 0 rfl)).own (nne σ.y 1 0 rfl)).rw.ld zT (k:=0) rfl:lz s6 3 (qe s12 0) (iV aA)) (an6 (w64 u7) (w64 u8) ((zC _ _ _).row.row.put.put.put.store (vs:=[iV s10]) rfl vE rfl (nle rfl) rfl:qn (evL [pt σ.y 0,iV s10]) s6 (.store 3 (.tmp 0) (.tmp 1))=some (undef,s7)) ((zC _ _ _).row.row.put.put.put.put.rw.ldN vM xA (k:=0) rfl rfl (nle rfl):lz s7 107 (qe σ.y 0) (qf (zK s10 s11 s9 aA))) ((((((zC _ _ _).own (nne σ.y 2 0 rfl)).own (nne σ.y 2 0 rfl)).own (nne σ.y 2 0 rfl)).own (nne σ.y 2 0 rfl)).store (vs:=(zK s10 s11 s9 aA)) rfl xA rfl (nle rfl) rfl:qn (evL [pt ((σ.y+2)) 0,qf (zK s10 s11 s9 aA)]) s7 (.store 107 (.tmp 0) (.tmp 1))=some (undef,s8)) ((((((zC _ _ _).own (nne σ.y 2 0 rfl)).own (nne σ.y 2 0 rfl)).own (nne σ.y 2 0 rfl)).own (nne σ.y 2 0 rfl)).put.rw.ldN vM xA (k:=0) rfl rfl (nle rfl):lz s8 107 ⟨(σ.y+2),0,none⟩ (qf (zK s10 s11 s9 aA))) nx)))))
theorem yOZ (hb:∀ k aE σ,Inv k aE σ→zQC vals bL bP aE σ (NX1 Inv k) Qr Q0):∀ k aE σ,Inv k aE σ→yPB vals bL bP aE σ Qr Q0 :=
 xE (ai zAN (ai (wA 0) trivial)) hb
theorem zSE (h1:lz σ 3 (zL vals_a (Int.toNat aE*1)) (iV nE)) (nx:Qr nE σ) (u1:aE<(bL:Int):=by omega) (u2:Ix aE bL:=by omega) (u3:¬ nE=0:=by omega):zQC (some vals_a) bL bP aE σ Nx Qr Q0 :=
 kO 1 nE [.b true,.i,.l (iV nE),.g,.g,.g,.b true,.g,.g] (fun _ f=>an4 (zR u1) u2 h1 (zGQ u3) f) nx
theorem zSD (h1:lz σ 3 (zL vals_a (Int.toNat aE*1)) (iV nE)) (nx:Nx (aE+1) σ) (u1:aE<(bL:Int):=by omega) (u2:Ix aE bL:=by omega) (u3:nE=0:=by omega) (u4:I6 (aE+1):=by omega):zQC (some vals_a) bL bP aE σ Nx Qr Q0 :=
 kO 0 (aE+1) [.b true,.i,.l (iV nE),.g,.g,.g,.b false,.n (aE+1),.g] (fun _ f=>an5 (zR u1) u2 h1 (zCQ u3) (w64 u4) f) nx
theorem xFA (nx:Q0 σ) (u1:¬ aE<(bL:Int):=by omega):zQC vals bL bP aE σ Nx Qr Q0 :=
 kO 2 () [.b false] (fun _ f=>ai (zU u1) f) nx
theorem xMX (hL:yPB vals bL bP 0 σ Pr P0) (kr:∀ i2_1' σ',Pr i2_1' σ'→yAF vals bL bP i2_1' σ' Q) (k0:∀ σ',P0 σ'→yAG vals bL bP σ' Q):qg 80 [.slice vals bL bP] σ Q :=
 zG [.g,.g,.g,.g,.g,.lf 18 (zKC vals bL bP 0) [zNV vals bL bP Pr,zNW vals bL bP P0]] (kd (ai (ai tt (ai (arf (zKC vals bL bP 0)) hL)) (ai (kz1 kr) (ai (kz0 k0) trivial))))
theorem yOX (nx:Q (iV aH) σ):yAF vals bL bP aH σ Q :=
 sK [] nx
theorem yOY (nx:Q (iV 0) σ):yAG vals bL bP σ Q :=
 sK [.g,.g] nx
theorem xSI:let s1:=σ.row (rcd dS dw d9) 3;let s2:=s1.row (rcd eO dZ fe) 3;let s3:=dw-dZ;let s5:=dS-eO;let s6:=d9-fe;let Y1:=s2.row [iV s3,iV s5,iV s6] 1;∀ (h1:qm 80 [.slice (some ⟨(σ.y+2),0,none⟩) 3 3] Y1 (iV n1) Y1) (nx:Q (iV n1) Y1) (u1:I6 s3:=by omega) (u2:I6 dS:=by omega) (u3:I6 eO:=by omega) (u4:I6 s5:=by omega) (u5:I6 s6:=by omega),qg 79 [qf (rcd dS dw d9),qf (rcd eO dZ fe)] σ Q:=
 let s1:=σ.row (rcd dS dw d9) 3;let s2:=s1.row (rcd eO dZ fe) 3;let s3:=dw-dZ;let s4:=σ.y+1;let s5:=dS-eO;let s6:=d9-fe;fun h1 nx u1 u2 u3 u4 u5=>zG [.g,.g,.g,.g,.l (iV dw),.g,.l (iV dZ),.n s3,.g,.l (.int .u8 dS),.n dS,.g,.l (.int .u8 eO),.n eO,.n s5,.g,.l (iV d9),.g,.l (iV fe),.n s6,.g,.c (iV n1) (s2.row [iV s3,iV s5,iV s6] 1),.g] (kd (an6 ((zC _ _ _).row.rw.ld zT (k:=1) rfl:lz s2 3 (qe σ.y 1) (iV dw)) ((zC _ _ _).rw.ld zT (k:=1) rfl:lz s2 3 (qe s4 1) (iV dZ)) (w64 u1) ((zC _ _ _).row.rw.ld xTB (k:=0) rfl:lz s2 5 (qe σ.y 0) (.int .u8 dS)) (w64 u2) ((zC _ _ _).rw.ld xTB (k:=0) rfl:lz s2 5 (qe s4 0) (.int .u8 eO)) (an6 (w64 u3) (w64 u4) ((zC _ _ _).row.rw.ld zT (k:=2) rfl:lz s2 3 (qe σ.y 2) (iV d9)) ((zC _ _ _).rw.ld zT (k:=2) rfl:lz s2 3 (qe s4 2) (iV fe)) (w64 u5) h1 nx)))
end
theorem zAH (xs:List Int):∀ (_:IntKind),wY (xs.map yA)=xs.map yA:=by
 intro _;induction xs with
 | nil=>rfl
 | cons x xs ih=>simp only [wY,List.map_cons,List.flatMap_cons] at ih ⊢;rw [ih];rfl
section
variable {σ:St}
theorem zYM {p:Option Addr} {l c:Nat} {xs:List Int} (h:yI σ p l xs) (hl:l≤1073741824) :
  ∃ p' c' σ',zD Pg 19 [.slice p l c] σ (.slice p' l c') σ'∧New σ σ'∧yI σ' p' l xs∧∀ b,AtP p' b→σ.y≤b:=by
 have hc:(wY (xs.map yA)).all cellB=true:=by rw [zAH xs .i64];simp [List.all_eq_true];intro a _;rfl
 have N1:New σ.re (σ.re.row [] 1):=New.row _ _ _;obtain ⟨p6,c6,s5,ap1,A6,O6,b6⟩:=Ax.append (P:=Pg) (k:=c) (n0:=σ.re.y) zDB (Ax.lit (len:=0) (zC σ.re [] 1) rfl ((xB 0).2 vI) (Nat.le_refl _)) (SlV.le h ((le0 σ).trans N1.le)).1 (by omega) hc N1.nx;rw [Nat.zero_add] at ap1 A6;have N5:New σ.re s5:=N1.of_only O6 (by rintro b ⟨a,e,rfl⟩;cases e;exact Nat.le_refl _);exact zP.newSl (xRB ap1 ⟨N5,p6,c6,rfl,Ax.slv (by simpa using A6) (by simpa using h.2.1) h.2.2,fun b hb=>(A6.bd b hb).1⟩)
theorem xWU {p:Option Addr} {l c:Nat} {xs:List Int} (h:yI σ p l xs) (hl:l≤1073741824):zD Pg 27 [.slice p l c] σ (iV ((xs.filter fun x=>decide (0≤x)).length:Nat)) σ:=by
 have h1:=h.re;have e1:=h.len;refine (ySN (yBQ (Inv:=fun k i3 i4 τ=>τ=σ.re∧∃ j:Nat,i4=j∧j+k=l∧i3=(((xs.take j).filter fun x=>decide (0≤x)).length:Nat)∧((xs.take j).filter fun x=>decide (0≤x)).length≤j) (Q0:=fun i3 τ=>τ=σ.re∧i3=((xs.filter fun x=>decide (0≤x)).length:Nat)) ?_ l 0 0 σ.re ⟨rfl,0,rfl,by omega,rfl,Nat.le_refl _⟩) ?_).pure
 ·rintro k i3 i4 τ ⟨rfl,j,rfl,hk,rfl,hle⟩;by_cases hj:j<l
  ·obtain ⟨a,rfl,x,hx,l1⟩:=vB h1 hj;have es:(xs.take (j+1)).filter (fun x=>decide (0≤x))=(xs.take j).filter (fun x=>decide (0≤x))++if 0≤x then [x] else []:=by
    rw [wO hx,List.filter_append];by_cases e:0≤x <;> simp [e]
   by_cases e:0≤x
   ·rw [if_pos e] at es;exact yLH l1 ⟨k-1,by omega,rfl,j+1,by omega,by omega,by rw [es,List.length_append];simp,by rw [es,List.length_append];show _+1≤_;omega⟩ (by omega) (by omega) e (by omega) (by omega)
   ·rw [if_neg e,List.append_nil] at es;exact yLG l1 ⟨k-1,by omega,rfl,j+1,by omega,by omega,by rw [es],by rw [es];omega⟩ (by omega) (by omega) e (by omega)
  ·rw [List.take_of_length_le (by omega)];exact yLF ⟨rfl,rfl⟩ (by omega)
 ·rintro i3 τ ⟨rfl,rfl⟩;exact yBP ⟨rfl,Nat.le_refl _⟩
theorem yOL {p:Option Addr} {l c:Nat} {xs:List Int} (h:yI σ p l xs) (hl:l≤1073741824):zD Pg 63 [.slice p l c] σ (iV ((xs.filter fun x=>decide (x≠-1)).length:Nat)) σ:=by
 have h1:=h.re;have e1:=h.len;refine (xER (yIP (Inv:=fun k i3 i4 τ=>τ=σ.re∧∃ j:Nat,i4=j∧j+k=l∧i3=(((xs.take j).filter fun x=>decide (x≠-1)).length:Nat)∧((xs.take j).filter fun x=>decide (x≠-1)).length≤j) (Q0:=fun i3 τ=>τ=σ.re∧i3=((xs.filter fun x=>decide (x≠-1)).length:Nat)) ?_ l 0 0 σ.re ⟨rfl,0,rfl,by omega,rfl,Nat.le_refl _⟩) ?_).pure
 ·rintro k i3 i4 τ ⟨rfl,j,rfl,hk,rfl,hle⟩;by_cases hj:j<l
  ·obtain ⟨a,rfl,x,hx,l1⟩:=vB h1 hj;have es:(xs.take (j+1)).filter (fun x=>decide (x≠-1))=(xs.take j).filter (fun x=>decide (x≠-1))++if x≠-1 then [x] else []:=by
    rw [wO hx,List.filter_append];by_cases e:x≠-1 <;> simp [e]
   by_cases e:x≠-1
   ·rw [if_pos e] at es;exact yVI l1 ⟨k-1,by omega,rfl,j+1,by omega,by omega,by rw [es,List.length_append];simp,by rw [es,List.length_append];show _+1≤_;omega⟩ (by omega) (by omega) e (by omega) (by omega)
   ·rw [if_neg e,List.append_nil] at es;exact yVH l1 ⟨k-1,by omega,rfl,j+1,by omega,by omega,by rw [es],by rw [es];omega⟩ (by omega) (by omega) (Decidable.not_not.1 e) (by omega)
  ·rw [List.take_of_length_le (by omega)];exact yVG ⟨rfl,rfl⟩ (by omega)
 ·rintro i3 τ ⟨rfl,rfl⟩;exact yIO ⟨rfl,Nat.le_refl _⟩
section
variable {w:Wk} {p q r t:Option Addr} {l m c d rl rc tl tc:Nat} {rs ts:List Int}
theorem xVW (h:WkP σ 85 88 w p l q m) (hl:l≤1000):∃ p' c' σ',zD Pg 86 [.agg ⟨wkc w.days p l c q m d w.rest w.run w.hours⟩] σ (.slice p' l c') σ'∧New σ σ'∧yI σ' p' l (zAY w)∧∀ b,AtP p' b→σ.y≤b:=by
 have hn:=h.len.1;obtain ⟨σ1,hσ1⟩:∃ σ1,σ1=σ.re.row (wkc w.days p l c q m d w.rest w.run w.hours) 6:=⟨_,rfl⟩;have N1:New σ.re σ1:=by rw [hσ1];exact New.row _ _ _
 have L1:Le σ σ1:=(le0 σ).trans N1.le;refine zP.newSl (xRQ (yUZ (Inv:=fun k p' l' c' i τ=>New σ1 τ∧∃ j:Nat,i=j∧j+k=l∧l'=j∧Gr Pg τ σ1.y 3 1 p' l' c' (((zAY w).take j).map yA))
  (Q0:=fun p' l' c' τ=>New σ1 τ∧l'=l∧Gr Pg τ σ1.y 3 1 p' l' c' ((zAY w).map yA)) ?_ l none 0 0 0 _ ⟨by rw [← hσ1];exact New.refl _,0,rfl,by omega,rfl,Gr.nil⟩) ?_)
 ·rintro k p' l' c' i τ ⟨hN,j,rfl,hk,rfl,hg⟩;by_cases hj:l' < l
  ·obtain ⟨a,rfl,x,hx,lx⟩:=vB (SlV.le h.dty (L1.trans hN.le)) hj;have hN2:New τ ((τ.row (zF 0 0 0 0 0) 5).own τ.y (zF x.day x.on x.lo x.hi x.route) 5):=(New.row _ _ _).own (Nat.le_refl _);obtain ⟨q7,d7,τ',g1,g2,g3,_,_⟩:=xYT (yA x.hi) zDB hg hN hN2 (uV _) (by omega);have hx2:(zAY w)[l']?=some x.hi:=by unfold zAY;rw [List.getElem?_map,hx];rfl
   refine xML lx g1 ⟨k-1,by omega,g3,l'+1,by omega,by omega,rfl, ?_⟩ (by omega) (by omega) (by omega);rw [wO hx2,List.map_append];exact g2
  ·have:l'=l:=by omega
   subst this;refine xMK ⟨hN,rfl, ?_⟩ (by omega);rwa [List.take_of_length_le (by unfold zAY;rw [List.length_map];omega)] at hg
 ·rintro p' l' c' τ ⟨hN,rfl,hg⟩;refine yUY ⟨N1.trans hN,p',c',rfl,hg.slv,fun b hb=>?_⟩;have:=(hg.bd hb).1;have:=N1.nx;show σ.re.y≤b;omega
theorem xAI (h:WkP σ 85 88 w p l q m) (hr:yI σ r rl rs) (hl:rl≤1073741824) (hm:m≤1073741824):zD Pg 52 [.agg ⟨wkc w.days p l c q m d w.rest w.run w.hours⟩,.slice r rl rc] σ (.bool (zDU w rs)) σ:=by
 have hn:=h.len.1;have hmm:=h.len.2;have el:=hr.len;by_cases hh:rl=l;rotate_left
 ·have:zDU w rs=false:=by unfold zDU;rw [decide_eq_false (by omega),Bool.and_false]
  rw [this];exact (yQF ⟨rfl,Nat.le_refl _⟩ (by omega)).pure
 have L1:Le σ (σ.re.row (wkc w.days p l c q m d w.rest w.run w.hours) 6):=(le0 σ).trans (Le.row _ _ _);have hk0:=xN σ.re (wkc w.days p l c q m d w.rest w.run w.hours) 6;have ca:=xWH (cap:=rc) (g:=73) (gc:=[.pointer (some ⟨σ.re.y,0,none⟩)]) (f:=fun x=>inB x (-1) ((w.drivers.length:Int)-1)) (SlV.le hr L1) hl (fun x _ τ hτ=>by
  have ld:zB Pg τ.re 32 (zL ⟨σ.re.y,0,none⟩ 2)=some (.slice q m d):=((hk0.le hτ).re).load1 zAU rfl;rw [hmm];exact (yRF ld zIE ⟨rfl,Nat.le_refl _⟩ (by omega)).pure)
 have:zDU w rs=rs.all (fun x=>inB x (-1) ((w.drivers.length:Int)-1)):=by unfold zDU;rw [decide_eq_true (by omega),Bool.and_true]
 rw [this];exact (yQG ca ⟨rfl,Nat.le_refl _⟩ (by omega)).pure
end
end
section
open Go.Sort (swp)
def zAR (d:Array Rec):List Value:=d.toList.flatMap zAX
theorem zQV:∀ l:List Rec,(l.flatMap zAX).length=l.length*3
 | []=>rfl
 | x::l=>by rw [List.flatMap_cons,List.length_append,zQV l];simp;omega
theorem yAI (d:Array Rec):(zAR d).length=d.size*3:=by unfold zAR;rw [zQV];simp
def Dt (σ:St) (b:Nat) (s:Option Nat) (d:Array Rec):Prop:=b<σ.y∧∃ log nx,yH σ.heap b=some (.cells (zAR d) 3 ((s.getD 0,d.size*3)::log) nx false)
section
variable {σ τ:St} {b:Nat} {s:Option Nat} {d d0:Array Rec}
theorem Dt.le (h:Dt σ b s d) (k:Le σ τ):Dt τ b s d:=by
 obtain ⟨h1,log,nx,h2⟩:=h;exact ⟨Nat.lt_of_lt_of_le h1 k.y,log,nx,by rw [k.get b h1];exact h2⟩
theorem Dt.only {S:Nat→Prop} (h:Dt σ b s d) (k:Only S σ τ) (hs:¬ S b):Dt τ b s d:=by
 obtain ⟨h1,log,nx,h2⟩:=h;exact ⟨Nat.lt_of_lt_of_le h1 k.y,log,nx,by rw [k.get b h1 hs];exact h2⟩
theorem yCN:∀ (l:List Rec) (i:Nat) (x:Rec),l[i]?=some x→((l.flatMap zAX).drop (i*3)).take 3=zAX x
 | [],i,x,h=>by simp at h
 | y::l,0,x,h=>by
  cases h
  rw [List.flatMap_cons,Nat.zero_mul,List.drop_zero];exact List.take_left' rfl
 | y::l,i+1,x,h=>by
  rw [List.flatMap_cons,Nat.add_mul,Nat.one_mul,Nat.add_comm (i*3),← List.drop_drop,show List.drop 3 (zAX y++l.flatMap zAX)=l.flatMap zAX from rfl];exact yCN l i x (by simpa using h)
theorem yLD:∀ (l:List Rec) (i:Nat) (x:Rec),i<l.length→(l.flatMap zAX).take (i*3)++(zAX x++(l.flatMap zAX).drop (i*3+3))=(l.set i x).flatMap zAX
 | [],i,x,h=>by simp at h
 | y::l,0,x,h=>by
  rw [List.set_cons_zero,List.flatMap_cons,List.flatMap_cons,Nat.zero_mul,List.take_zero,List.nil_append,Nat.zero_add,show List.drop 3 (zAX y++l.flatMap zAX)=l.flatMap zAX from rfl]
 | y::l,i+1,x,h=>by
  rw [List.set_cons_succ,List.flatMap_cons,List.flatMap_cons,← yLD l i x (by simpa using h),show (i+1)*3=3+i*3 by omega,List.take_append,List.drop_append,show 3+i*3+3-(zAX y).length=i*3+3 by simp;omega,show 3+i*3-(zAX y).length=i*3 by simp];rw [List.take_of_length_le (by simp),List.drop_of_length_le (by simp),List.nil_append,List.append_assoc]
theorem xRM {i:Nat} (h:i<d.size):d.toList[i]?=some d[i]! := by
 rw [Array.getElem?_toList,getElem!_pos d i h,Array.getElem?_eq_getElem h]
theorem Dt.ld (h:Dt σ b s d) {i:Int} (h0:0≤i) (hi:i<(d.size:Int)):zB Tryz.prog σ 45 (zL ⟨b,0,s⟩ (Int.toNat i*3))=some (zEG d[i.toNat]!):=by
 obtain ⟨h1,log,nx,h2⟩:=h;have hlt:i.toNat<d.size:=by omega
 have hr:yM σ ⟨b,0+i.toNat*3,s⟩ 3=some (zAX d[i.toNat]!):=by
  have hle:Nat.ble (0+i.toNat*3+3) (d.size*3)=true:=(zV _ _).2 (by omega);unfold yM;simp only [h2,yB,wS,Nat.beq_refl,cond_true,hle];rw [Nat.zero_add];unfold zAR;rw [yCN _ _ _ (xRM hlt)]
 have hR:Row σ ⟨b,0+i.toNat*3,s⟩ (zAX d[i.toNat]!):=⟨hr,h1⟩;exact hR.loadN (P:=Tryz.prog) (t:=45) (k:=0) xNX yGN rfl rfl (by simp)
theorem Dt.st (h:Dt σ b s d) {i:Int} (x:Rec) (h0:0≤i) (hi:i<(d.size:Int)) :
  ∃ σ',zQ Tryz.prog (evL [.pointer (some (zL ⟨b,0,s⟩ (Int.toNat i*3))),zEG x]) σ (.store 45 (.tmp 0) (.tmp 1))=some (undef,σ')∧Dt σ' b s (d.setIfInBounds i.toNat x)∧Only (·=b) σ σ'∧σ'.low≤b:=by
 obtain ⟨h1,log,nx,h2⟩:=h;have hlt:i.toNat<d.size:=by omega
 have hw:xY σ ⟨b,0+i.toNat*3,s⟩ (zAX x)=some (σ.put b (.cells (zAR (d.setIfInBounds i.toNat x)) 3 [(s.getD 0,d.size*3)] nx false)):=by
  have e6:(zAX x).length=3:=rfl;have hc:(Nat.beq (s.getD 0) (s.getD 0) && Nat.ble (0+i.toNat*3+3) (d.size*3) && !false && (zAX x).all cellB)=true:=by
   rw [Nat.beq_refl,(zV _ _).2 (show 0+i.toNat*3+3≤d.size*3 by omega)];rfl
  unfold xY;simp only [h2,yB,e6,hc,cond_true,zCK,St.write_eq];have e:(zAR d).take (0+i.toNat*3)++(zAX x++(zAR d).drop (0+i.toNat*3+3))=zAR (d.setIfInBounds i.toNat x):=by
   rw [Nat.zero_add];unfold zAR;rw [Array.toList_setIfInBounds];exact yLD d.toList i.toNat x (by simpa using hlt)
  rw [e]
 refine ⟨σ.put b (.cells (zAR (d.setIfInBounds i.toNat x)) 3 [(s.getD 0,d.size*3)] nx false), ?_,⟨h1,[],nx, ?_⟩,Only.put (.inr rfl),by simp;omega⟩
 ·have e0:zQ Tryz.prog (evL [.pointer (some (zL ⟨b,0,s⟩ (Int.toNat i*3))),zEG x]) σ (.store 45 (.tmp 0) (.tmp 1))=(xY σ ⟨b,0+i.toNat*3,s⟩ (zAX x)).map fun σ'=>(undef,σ'):=by
   have e1:∀ l:List Value,evL l (.tmp 0)=l.getD 0 undef:=fun _=>rfl
   have e2:∀ l:List Value,evL l (.tmp 1)=l.getD 1 undef:=fun _=>rfl
   have e3:yT Tryz.prog 45=some 3:=yGN;unfold zQ;simp only [e1,e2,List.getD_cons_zero,List.getD_cons_succ,zCH,e3];rfl
  rw [e0,hw];rfl
 ·rw [St.put_get,if_pos rfl,Array.size_setIfInBounds]
end
end
section
noncomputable section
variable (data:oAa) (ar:Addr) (ag ah:Nat) (hi a_1 first b:Int) (az:FuncId) (am:lVa) (q4:Int→Int→St→Prop) (bU aE kB aF aB aM aR bb bT bK aD a9 bV:Int) (t8_1:Bool) (q7:Bool→St→Prop) (q0:St→Prop) (Q:Int→St→Prop) (σ:St) (Nx Q8 Q2 Q6:Int→St→Prop) (q5:Int→Int→St→Prop) (q2:vPa) (q1 Q0 q3:St→Prop) (Q4 q6:Int→St→Prop) (Qr:Bool→St→Prop)
def yIC:Code:=(Code.part [1,0,0] (qh 106))
def zVQ:lNa:=[(0,.slice data ag ah),(1,iV a_1),(2,iV b),(3,.func (.func az) ⟨[]⟩ ⟨am⟩),(8,iV aE)]
def yND:Alt:=⟨Int,.normal,fun t=>zVQ data ag ah a_1 b az am t,fun t=>[],fun t σ=>Q t σ⟩
def yED (data:oAa) (ag ah:Nat) (a_1 b:Int) (az:FuncId) (am:lVa):lNa:=[]
def zLG:Alt:=⟨Unit,(.exit 0),fun t=>yED data ag ah a_1 b az am,fun t=>[],fun t σ=>q0 σ⟩
def yID:Prop:=qi qj none yIC 53 (zVQ data ag ah a_1 b az am aE) [] [yND data ag ah a_1 b az am Nx,zLG data ag ah a_1 b az am Q0] σ
def yZF:Prop:=qk qj none yIC 53 (zVQ data ag ah a_1 b az am aE) [] [zLG data ag ah a_1 b az am Q0] σ
def yZD:Code:=(Code.part [1,0,0,1,0,0,1,0,0] (qh 106))
def zPL:lNa:=[(0,.slice data ag ah),(1,iV a_1),(2,iV b),(3,.func (.func az) ⟨[]⟩ ⟨am⟩),(8,iV aE),(9,iV aR)]
def xKW:Alt:=⟨Int,.normal,fun t=>zPL data ag ah a_1 b az am aE t,fun t=>[],fun t σ=>Q t σ⟩
def yEC:lNa:=[(0,.slice data ag ah),(1,iV a_1),(2,iV b),(3,.func (.func az) ⟨[]⟩ ⟨am⟩),(8,iV aE)]
def zRL:Alt:=⟨Unit,(.exit 2),fun t=>yEC data ag ah a_1 b az am aE,fun t=>[],fun t σ=>q0 σ⟩
def zVR:Prop:=qi qj none yZD 53 (zPL data ag ah a_1 b az am aE aR) [] [xKW data ag ah a_1 b az am aE Nx,zRL data ag ah a_1 b az am aE q1] σ
def yZE:Prop:=qk qj none yZD 53 (zPL data ag ah a_1 b az am aE aR) [] [zRL data ag ah a_1 b az am aE q1] σ
def yEE:Prop:=kZ qj yIC [1,0,0,1,0] (zFY 53 [yND data ag ah a_1 b az am Nx,zLG data ag ah a_1 b az am Q0]) (.exit 2) 53 (yEC data ag ah a_1 b az am aE) σ
def yEF:Prop:=kZ qj (qh 106) [1,0] (ql 106 q2) (.exit 0) 53 (yED data ag ah a_1 b az am) σ
def yKM:Code:=(Code.part [1,0,0] (qh 121))
def zIK:lNa:=[(0,.slice data ag ah),(2,iV hi),(3,iV first),(4,.func (.func az) ⟨[]⟩ ⟨am⟩),(10,iV aB)]
def xAY:Alt:=⟨Int,.normal,fun t=>zIK data ag ah hi first az am t,fun t=>[],fun t σ=>Q t σ⟩
def zWP (data:oAa) (ag ah:Nat) (hi first:Int) (az:FuncId) (am:lVa):lNa:=[]
def zMV:Alt:=⟨Unit,(.exit 0),fun t=>zWP data ag ah hi first az am,fun t=>[],fun t σ=>q0 σ⟩
def zWO (data:oAa) (ag ah:Nat) (hi first:Int) (az:FuncId) (am:lVa):lNa:=[]
def zMU:Alt:=⟨Unit,.ret,fun t=>zWO data ag ah hi first az am,fun t=>[],fun t σ=>q0 σ⟩
def zBZ:Prop:=qi qj none yKM 82 (zIK data ag ah hi first az am aB) [] [xAY data ag ah hi first az am Nx,zMV data ag ah hi first az am Q0,zMU data ag ah hi first az am q3] σ
def yKN:Prop:=qk qj none yKM 82 (zIK data ag ah hi first az am aB) [] [zMV data ag ah hi first az am Q0,zMU data ag ah hi first az am q3] σ
def zWR:Prop:=kZ qj (qh 121) [1,0] (ql 121 q2) (.exit 0) 82 (zWP data ag ah hi first az am) σ
def zWQ:Prop:=kZ qj (qh 121) [1,0] (ql 121 q2) .ret 82 (zWO data ag ah hi first az am) σ
def yNP:Code:=(Code.part [1,1,1,0,1,0,0] (qh 107))
def zPT (data:oAa) (ag ah:Nat) (az:FuncId) (am:lVa) (a_1 kB aF:Int):lNa:=[(0,.slice data ag ah),(3,.func (.func az) ⟨[]⟩ ⟨am⟩),(8,iV a_1),(9,iV 0),(10,iV kB),(11,iV aF)]
def xEE (data:oAa) (ag ah:Nat) (az:FuncId) (am:lVa) (a_1 kB:Int) (Q:Int→St→Prop):Alt:=⟨Int,.normal,fun t=>zPT data ag ah az am a_1 kB t,fun t=>[],fun t σ=>Q t σ⟩
def zZC (data:oAa) (ag ah:Nat) (az:FuncId) (am:lVa) (a_1 kB:Int):lNa:=[(0,.slice data ag ah),(3,.func (.func az) ⟨[]⟩ ⟨am⟩),(8,iV a_1),(9,iV 0),(10,iV kB)]
def zNP (data:oAa) (ag ah:Nat) (az:FuncId) (am:lVa) (a_1 kB:Int) (Q:St→Prop):Alt:=⟨Unit,(.exit 0),fun t=>zZC data ag ah az am a_1 kB,fun t=>[],fun t σ=>Q σ⟩
def zZG (data:oAa) (ag ah:Nat) (az:FuncId) (am:lVa) (a_1 kB aF:Int) (σ:St) (Nx:Int→St→Prop) (Q0:St→Prop):Prop:=qi qj none yNP 60 (zPT data ag ah az am a_1 kB aF) [] [xEE data ag ah az am a_1 kB Nx,zNP data ag ah az am a_1 kB Q0] σ
def yNR (data:oAa) (ag ah:Nat) (az:FuncId) (am:lVa) (a_1 kB aF:Int) (σ:St) (Q0:St→Prop):Prop:=qk qj none yNP 60 (zPT data ag ah az am a_1 kB aF) [] [zNP data ag ah az am a_1 kB Q0] σ
def zZE (data:oAa) (ag ah:Nat) (az:FuncId) (am:lVa) (a_1 kB:Int) (σ:St) (Q:vPa):Prop:=kZ qj (qh 107) [1,1,1,0,1,0] (ql 107 Q) (.exit 0) 60 (zZC data ag ah az am a_1 kB) σ
def yNO:Code:=(Code.part [1,1,1,1,1,0,0] (qh 107))
def zPS (data:oAa) (ag ah:Nat) (az:FuncId) (am:lVa) (a_1 dV:Int):lNa:=[(0,.slice data ag ah),(3,.func (.func az) ⟨[]⟩ ⟨am⟩),(8,iV a_1),(9,iV 0),(12,iV dV)]
def xED (data:oAa) (ag ah:Nat) (az:FuncId) (am:lVa) (a_1:Int) (Q:Int→St→Prop):Alt:=⟨Int,.normal,fun t=>zPS data ag ah az am a_1 t,fun t=>[],fun t σ=>Q t σ⟩
def zZB (data:oAa) (ag ah:Nat) (az:FuncId) (am:lVa) (a_1:Int):lNa:=[]
def zNO (data:oAa) (ag ah:Nat) (az:FuncId) (am:lVa) (a_1:Int) (Q:St→Prop):Alt:=⟨Unit,(.exit 2),fun t=>zZB data ag ah az am a_1,fun t=>[],fun t σ=>Q σ⟩
def zZF (data:oAa) (ag ah:Nat) (az:FuncId) (am:lVa) (a_1 dV:Int) (σ:St) (Nx:Int→St→Prop) (Q2:St→Prop):Prop:=qi qj none yNO 60 (zPS data ag ah az am a_1 dV) [] [xED data ag ah az am a_1 Nx,zNO data ag ah az am a_1 Q2] σ
def yNQ (data:oAa) (ag ah:Nat) (az:FuncId) (am:lVa) (a_1 dV:Int) (σ:St) (Q2:St→Prop):Prop:=qk qj none yNO 60 (zPS data ag ah az am a_1 dV) [] [zNO data ag ah az am a_1 Q2] σ
def zZD (data:oAa) (ag ah:Nat) (az:FuncId) (am:lVa) (a_1:Int) (σ:St) (Q:vPa):Prop:=kZ qj (qh 107) [1,1,1,1,1,0] (ql 107 Q) (.exit 2) 60 (zZB data ag ah az am a_1) σ
def zLA:Code:=(Code.part [1,1,1,0,0,0] (qh 112))
def zKZ:lNa:=[(0,.slice (some ar) ag ah),(1,iV a_1),(4,.func (.func az) ⟨[]⟩ ⟨am⟩),(11,iV aF),(12,iV aM)]
def zNF:Alt:=⟨Int × Int,.normal,fun t=>zKZ ar ag ah a_1 az am t.1 t.2,fun t=>[],fun t σ=>q4 t.1 t.2 σ⟩
def zTS (ar:Addr) (ag ah:Nat) (a_1:Int) (az:FuncId) (am:lVa) (aF:Int):lNa:=[(11,iV aF)]
def zCC:Alt:=⟨Int,(.exit 0),fun t=>zTS ar ag ah a_1 az am t,fun t=>[],fun t σ=>Q t σ⟩
def yDU:Prop:=qi qj none zLA 90 (zKZ ar ag ah a_1 az am aF aM) [] [zNF ar ag ah a_1 az am q5,zCC ar ag ah a_1 az am q6] σ
def yDT:Prop:=qk qj none zLA 90 (zKZ ar ag ah a_1 az am aF aM) [] [zCC ar ag ah a_1 az am q6] σ
def yDQ:Code:=(Code.part [1,1,1,0,0,0,0,0,0,0] (qh 112))
def zFL:lNa:=[(0,.slice (some ar) ag ah),(1,iV a_1),(4,.func (.func az) ⟨[]⟩ ⟨am⟩),(11,iV bb),(12,iV aM)]
def yTT:Alt:=⟨Int,.normal,fun t=>zFL ar ag ah a_1 az am aM t,fun t=>[],fun t σ=>Q t σ⟩
def zTR:lNa:=[(0,.slice (some ar) ag ah),(1,iV a_1),(4,.func (.func az) ⟨[]⟩ ⟨am⟩),(11,iV bb),(12,iV aM)]
def zJI:Alt:=⟨Int,(.exit 2),fun t=>zTR ar ag ah a_1 az am aM t,fun t=>[],fun t σ=>Q t σ⟩
def zLC:Prop:=qi qj none yDQ 90 (zFL ar ag ah a_1 az am aM bb) [] [yTT ar ag ah a_1 az am aM Nx,zJI ar ag ah a_1 az am aM Q2] σ
def yDS:Prop:=qk qj none yDQ 90 (zFL ar ag ah a_1 az am aM bb) [] [zJI ar ag ah a_1 az am aM Q2] σ
def zTT:Prop:=kZ qj zLA [0,0,0] (zFY 90 [zNF ar ag ah a_1 az am q5,zCC ar ag ah a_1 az am q6]) (.exit 2) 90 (zTR ar ag ah a_1 az am aM bb) σ
def yDP:Code:=(Code.part [1,1,1,0,0,0,0,1,0,0,0] (qh 112))
def zFK:lNa:=[(0,.slice (some ar) ag ah),(1,iV a_1),(4,.func (.func az) ⟨[]⟩ ⟨am⟩),(11,iV bb),(12,iV bK)]
def yTS:Alt:=⟨Int,.normal,fun t=>zFK ar ag ah a_1 az am bb t,fun t=>[],fun t σ=>Q t σ⟩
def zTQ:lNa:=[(0,.slice (some ar) ag ah),(1,iV a_1),(4,.func (.func az) ⟨[]⟩ ⟨am⟩),(11,iV bb),(12,iV bK)]
def zJH:Alt:=⟨Int,(.exit 4),fun t=>zTQ ar ag ah a_1 az am bb t,fun t=>[],fun t σ=>Q t σ⟩
def zLB:Prop:=qi qj none yDP 90 (zFK ar ag ah a_1 az am bb bK) [] [yTS ar ag ah a_1 az am bb Nx,zJH ar ag ah a_1 az am bb Q4] σ
def yDR:Prop:=qk qj none yDP 90 (zFK ar ag ah a_1 az am bb bK) [] [zJH ar ag ah a_1 az am bb Q4] σ
def zJJ:Prop:=kZ qj zLA [0,1,0,0] (zFY 90 [zNF ar ag ah a_1 az am q5,zCC ar ag ah a_1 az am q6]) (.exit 4) 90 (zTQ ar ag ah a_1 az am bb bK) σ
def zTU:Prop:=kZ qj (qh 112) [1,1,1,0,0] (ql 112 q2) (.exit 0) 90 (zTS ar ag ah a_1 az am aF) σ
def yYM:Code:=(Code.part [1,1,1,0,0,0] (qh 113))
def zVK:lNa:=[(0,.slice (some ar) ag ah),(1,iV a_1),(4,.func (.func az) ⟨[]⟩ ⟨am⟩),(12,iV aM),(13,iV kB)]
def xJE:Alt:=⟨Int,.normal,fun t=>zVK ar ag ah a_1 az am kB t,fun t=>[],fun t σ=>Q t σ⟩
def yDL:lNa:=[(0,.slice (some ar) ag ah),(1,iV a_1),(4,.func (.func az) ⟨[]⟩ ⟨am⟩),(12,iV aM),(13,iV kB)]
def zRF:Alt:=⟨Int,(.exit 0),fun t=>yDL ar ag ah a_1 az am kB t,fun t=>[],fun t σ=>Q t σ⟩
def zVP:Prop:=qi qj none yYM 178 (zVK ar ag ah a_1 az am kB aM) [] [xJE ar ag ah a_1 az am kB Nx,zRF ar ag ah a_1 az am kB q6] σ
def yYR:Prop:=qk qj none yYM 178 (zVK ar ag ah a_1 az am kB aM) [] [zRF ar ag ah a_1 az am kB q6] σ
def yDO:Prop:=kZ qj (qh 113) [1,1,1,0,0] (ql 113 q2) (.exit 0) 178 (yDL ar ag ah a_1 az am kB aM) σ
def yYL:Code:=(Code.part [1,1,1,1,0,0,0] (qh 113))
def zPC:lNa:=[(0,.slice (some ar) ag ah),(1,iV a_1),(4,.func (.func az) ⟨[]⟩ ⟨am⟩),(12,iV aM),(13,iV bT)]
def xJD:Alt:=⟨Int,.normal,fun t=>zPC ar ag ah a_1 az am aM t,fun t=>[],fun t σ=>Q t σ⟩
def yDK:lNa:=[(0,.slice (some ar) ag ah),(1,iV a_1),(4,.func (.func az) ⟨[]⟩ ⟨am⟩),(12,iV aM),(13,iV bT)]
def zRE:Alt:=⟨Int,(.exit 2),fun t=>yDK ar ag ah a_1 az am aM t,fun t=>[],fun t σ=>Q t σ⟩
def zVO:Prop:=qi qj none yYL 178 (zPC ar ag ah a_1 az am aM bT) [] [xJD ar ag ah a_1 az am aM Nx,zRE ar ag ah a_1 az am aM Q2] σ
def yYQ:Prop:=qk qj none yYL 178 (zPC ar ag ah a_1 az am aM bT) [] [zRE ar ag ah a_1 az am aM Q2] σ
def zRH:Prop:=kZ qj (qh 113) [1,1,1,1,0,0] (ql 113 q2) (.exit 2) 178 (yDK ar ag ah a_1 az am aM bT) σ
def zVL:Code:=(Code.part [1,1,1,1,1,1,1,1,1,0,0,0] (qh 113))
def zVJ:lNa:=[(0,.slice (some ar) ag ah),(1,iV a_1),(4,.func (.func az) ⟨[]⟩ ⟨am⟩),(12,iV bK),(13,iV aD)]
def zXR:Alt:=⟨Int × Int,.normal,fun t=>zVJ ar ag ah a_1 az am t.1 t.2,fun t=>[],fun t σ=>q4 t.1 t.2 σ⟩
def yDJ (ar:Addr) (ag ah:Nat) (a_1:Int) (az:FuncId) (am:lVa) (aD:Int):lNa:=[(0,.slice (some ar) ag ah),(1,iV a_1),(13,iV aD)]
def zFJ:Alt:=⟨Int,(.exit 4),fun t=>yDJ ar ag ah a_1 az am t,fun t=>[],fun t σ=>Q t σ⟩
def yYS:Prop:=qi qj none zVL 178 (zVJ ar ag ah a_1 az am bK aD) [] [zXR ar ag ah a_1 az am q5,zFJ ar ag ah a_1 az am Q4] σ
def yYP:Prop:=qk qj none zVL 178 (zVJ ar ag ah a_1 az am bK aD) [] [zFJ ar ag ah a_1 az am Q4] σ
def yYK:Code:=(Code.part [1,1,1,1,1,1,1,1,1,0,0,0,0,0,0,0] (qh 113))
def zPB:lNa:=[(0,.slice (some ar) ag ah),(1,iV a_1),(4,.func (.func az) ⟨[]⟩ ⟨am⟩),(12,iV a9),(13,iV aD)]
def xJC:Alt:=⟨Int,.normal,fun t=>zPB ar ag ah a_1 az am aD t,fun t=>[],fun t σ=>Q t σ⟩
def yDI:lNa:=[(0,.slice (some ar) ag ah),(1,iV a_1),(4,.func (.func az) ⟨[]⟩ ⟨am⟩),(12,iV a9),(13,iV aD)]
def zRD:Alt:=⟨Int,(.exit 6),fun t=>yDI ar ag ah a_1 az am aD t,fun t=>[],fun t σ=>Q t σ⟩
def zVN:Prop:=qi qj none yYK 178 (zPB ar ag ah a_1 az am aD a9) [] [xJC ar ag ah a_1 az am aD Nx,zRD ar ag ah a_1 az am aD Q6] σ
def yYO:Prop:=qk qj none yYK 178 (zPB ar ag ah a_1 az am aD a9) [] [zRD ar ag ah a_1 az am aD Q6] σ
def yDM:Prop:=kZ qj zVL [0,0,0] (zFY 178 [zXR ar ag ah a_1 az am q5,zFJ ar ag ah a_1 az am Q4]) (.exit 6) 178 (yDI ar ag ah a_1 az am aD a9) σ
def yYJ:Code:=(Code.part [1,1,1,1,1,1,1,1,1,0,0,0,0,1,0,0,0] (qh 113))
def zPA:lNa:=[(0,.slice (some ar) ag ah),(1,iV a_1),(4,.func (.func az) ⟨[]⟩ ⟨am⟩),(12,iV a9),(13,iV bV)]
def xJB:Alt:=⟨Int,.normal,fun t=>zPA ar ag ah a_1 az am a9 t,fun t=>[],fun t σ=>Q t σ⟩
def yDH:lNa:=[(0,.slice (some ar) ag ah),(1,iV a_1),(4,.func (.func az) ⟨[]⟩ ⟨am⟩),(12,iV a9),(13,iV bV)]
def zRC:Alt:=⟨Int,(.exit 8),fun t=>yDH ar ag ah a_1 az am a9 t,fun t=>[],fun t σ=>Q t σ⟩
def zVM:Prop:=qi qj none yYJ 178 (zPA ar ag ah a_1 az am a9 bV) [] [xJB ar ag ah a_1 az am a9 Nx,zRC ar ag ah a_1 az am a9 Q8] σ
def yYN:Prop:=qk qj none yYJ 178 (zPA ar ag ah a_1 az am a9 bV) [] [zRC ar ag ah a_1 az am a9 Q8] σ
def zRG:Prop:=kZ qj zVL [0,1,0,0] (zFY 178 [zXR ar ag ah a_1 az am q5,zFJ ar ag ah a_1 az am Q4]) (.exit 8) 178 (yDH ar ag ah a_1 az am a9 bV) σ
def yDN:Prop:=kZ qj (qh 113) [1,1,1,1,1,1,1,1,1,0,0] (ql 113 q2) (.exit 4) 178 (yDJ ar ag ah a_1 az am aD) σ
def zJF:Code:=(Code.part [1,1,0,1,0,0] (qh 111))
def zPE:lNa:=[(0,.slice data ag ah),(1,iV a_1),(2,iV b),(3,.func (.func az) ⟨[]⟩ ⟨am⟩),(9,iV bU),(10,iV aB)]
def zKY:Alt:=⟨Int × Int,.normal,fun t=>zPE data ag ah a_1 b az am t.1 t.2,fun t=>[],fun t σ=>q4 t.1 t.2 σ⟩
def zXW (data:oAa) (ag ah:Nat) (a_1 b:Int) (az:FuncId) (am:lVa):lNa:=[]
def zBF:Alt:=⟨Unit,(.exit 0),fun t=>zXW data ag ah a_1 b az am,fun t=>[],fun t σ=>q0 σ⟩
def zXV (data:oAa) (ag ah:Nat) (a_1 b:Int) (az:FuncId) (am:lVa) (t8_1:Bool):lNa:=[(8,.bool t8_1)]
def zBE:Alt:=⟨Bool,.ret,fun t=>zXV data ag ah a_1 b az am t,fun t=>[],fun t σ=>q7 t σ⟩
def zYA:Prop:=qi qj none zJF 141 (zPE data ag ah a_1 b az am bU aB) [] [zKY data ag ah a_1 b az am q5,zBF data ag ah a_1 b az am Q0,zBE data ag ah a_1 b az am Qr] σ
def yML:Prop:=qk qj none zJF 141 (zPE data ag ah a_1 b az am bU aB) [] [zBF data ag ah a_1 b az am Q0,zBE data ag ah a_1 b az am Qr] σ
def yMJ:Code:=(Code.part [1,1,0,1,0,0,1,0,0,0,0,0] (qh 111))
def zJE:lNa:=[(0,.slice data ag ah),(1,iV a_1),(2,iV b),(3,.func (.func az) ⟨[]⟩ ⟨am⟩),(9,iV aR),(10,iV aB)]
def xDG:Alt:=⟨Int,.normal,fun t=>zJE data ag ah a_1 b az am aB t,fun t=>[],fun t σ=>Q t σ⟩
def zXU:lNa:=[(0,.slice data ag ah),(1,iV a_1),(2,iV b),(3,.func (.func az) ⟨[]⟩ ⟨am⟩),(9,iV aR),(10,iV aB)]
def zNC:Alt:=⟨Int,(.exit 2),fun t=>zXU data ag ah a_1 b az am aB t,fun t=>[],fun t σ=>Q t σ⟩
def zPH:Prop:=qi qj none yMJ 141 (zJE data ag ah a_1 b az am aB aR) [] [xDG data ag ah a_1 b az am aB Nx,zNC data ag ah a_1 b az am aB Q2] σ
def yMK:Prop:=qk qj none yMJ 141 (zJE data ag ah a_1 b az am aB aR) [] [zNC data ag ah a_1 b az am aB Q2] σ
def zBG:Prop:=kZ qj zJF [1,0,0,0,0] (zFY 141 [zKY data ag ah a_1 b az am q5,zBF data ag ah a_1 b az am Q0,zBE data ag ah a_1 b az am Qr]) (.exit 2) 141 (zXU data ag ah a_1 b az am aB aR) σ
def yMI:Code:=(Code.part [1,1,0,1,0,0,1,0,0,1,1,1,1,0,1,0,1,0,0] (qh 111))
def zPD (ar:Addr) (ag ah:Nat) (a_1 b:Int) (az:FuncId) (am:lVa) (aR aB dz:Int):lNa:=[(0,.slice (some ar) ag ah),(1,iV a_1),(2,iV b),(3,.func (.func az) ⟨[]⟩ ⟨am⟩),(9,iV aR),(10,iV aB),(11,iV dz)]
def xDF (ar:Addr) (ag ah:Nat) (a_1 b:Int) (az:FuncId) (am:lVa) (aR aB:Int) (Q:Int→St→Prop):Alt:=⟨Int,.normal,fun t=>zPD ar ag ah a_1 b az am aR aB t,fun t=>[],fun t σ=>Q t σ⟩
def zXT (ar:Addr) (ag ah:Nat) (a_1 b:Int) (az:FuncId) (am:lVa) (aR aB:Int):lNa:=[(0,.slice (some ar) ag ah),(1,iV a_1),(2,iV b),(3,.func (.func az) ⟨[]⟩ ⟨am⟩),(9,iV aR),(10,iV aB)]
def zNB (ar:Addr) (ag ah:Nat) (a_1 b:Int) (az:FuncId) (am:lVa) (aR aB:Int) (Q:St→Prop):Alt:=⟨Unit,(.exit 4),fun t=>zXT ar ag ah a_1 b az am aR aB,fun t=>[],fun t σ=>Q σ⟩
def zPG (ar:Addr) (ag ah:Nat) (a_1 b:Int) (az:FuncId) (am:lVa) (aR aB dz:Int) (σ:St) (Nx:Int→St→Prop) (Q4:St→Prop):Prop:=qi qj none yMI 141 (zPD ar ag ah a_1 b az am aR aB dz) [] [xDF ar ag ah a_1 b az am aR aB Nx,zNB ar ag ah a_1 b az am aR aB Q4] σ
def zXX (ar:Addr) (ag ah:Nat) (a_1 b:Int) (az:FuncId) (am:lVa) (aR aB dz:Int) (σ:St) (Q4:St→Prop):Prop:=qk qj none yMI 141 (zPD ar ag ah a_1 b az am aR aB dz) [] [zNB ar ag ah a_1 b az am aR aB Q4] σ
def zNE (data:oAa) (ar:Addr) (ag ah:Nat) (a_1 b:Int) (az:FuncId) (am:lVa) (aR aB:Int) (σ:St) (Nx:Int→Int→St→Prop) (Q0:St→Prop) (Qr:Bool→St→Prop):Prop:=kZ qj zJF [1,0,0,1,1,1,1,0,1,0,1,0] (zFY 141 [zKY data ag ah a_1 b az am Nx,zBF data ag ah a_1 b az am Q0,zBE data ag ah a_1 b az am Qr]) (.exit 4) 141 (zXT ar ag ah a_1 b az am aR aB) σ
def yMH:Code:=(Code.part [1,1,0,1,0,0,1,0,0,1,1,1,1,1,1,0,1,0,0] (qh 111))
def zJD (ar:Addr) (ag ah:Nat) (a_1 b:Int) (az:FuncId) (am:lVa) (aR aB a9:Int):lNa:=[(0,.slice (some ar) ag ah),(1,iV a_1),(2,iV b),(3,.func (.func az) ⟨[]⟩ ⟨am⟩),(9,iV aR),(10,iV aB),(12,iV a9)]
def xDE (ar:Addr) (ag ah:Nat) (a_1 b:Int) (az:FuncId) (am:lVa) (aR aB:Int) (Q:Int→St→Prop):Alt:=⟨Int,.normal,fun t=>zJD ar ag ah a_1 b az am aR aB t,fun t=>[],fun t σ=>Q t σ⟩
def zXS (ar:Addr) (ag ah:Nat) (a_1 b:Int) (az:FuncId) (am:lVa) (aR aB:Int):lNa:=[(0,.slice (some ar) ag ah),(1,iV a_1),(2,iV b),(3,.func (.func az) ⟨[]⟩ ⟨am⟩),(9,iV aR),(10,iV aB)]
def zGO (ar:Addr) (ag ah:Nat) (a_1 b:Int) (az:FuncId) (am:lVa) (aR aB:Int) (Q:St→Prop):Alt:=⟨Unit,(.exit 6),fun t=>zXS ar ag ah a_1 b az am aR aB,fun t=>[],fun t σ=>Q σ⟩
def zPF (ar:Addr) (ag ah:Nat) (a_1 b:Int) (az:FuncId) (am:lVa) (aR aB a9:Int) (σ:St) (Nx:Int→St→Prop) (Q6:St→Prop):Prop:=qi qj none yMH 141 (zJD ar ag ah a_1 b az am aR aB a9) [] [xDE ar ag ah a_1 b az am aR aB Nx,zGO ar ag ah a_1 b az am aR aB Q6] σ
def zJG (ar:Addr) (ag ah:Nat) (a_1 b:Int) (az:FuncId) (am:lVa) (aR aB a9:Int) (σ:St) (Q6:St→Prop):Prop:=qk qj none yMH 141 (zJD ar ag ah a_1 b az am aR aB a9) [] [zGO ar ag ah a_1 b az am aR aB Q6] σ
def zND (data:oAa) (ar:Addr) (ag ah:Nat) (a_1 b:Int) (az:FuncId) (am:lVa) (aR aB:Int) (σ:St) (Nx:Int→Int→St→Prop) (Q0:St→Prop) (Qr:Bool→St→Prop):Prop:=kZ qj zJF [1,0,0,1,1,1,1,1,1,0,1,0] (zFY 141 [zKY data ag ah a_1 b az am Nx,zBF data ag ah a_1 b az am Q0,zBE data ag ah a_1 b az am Qr]) (.exit 6) 141 (zXS ar ag ah a_1 b az am aR aB) σ
def zXZ:Prop:=kZ qj (qh 111) [1,1,0,1,0] (ql 111 q2) (.exit 0) 141 (zXW data ag ah a_1 b az am) σ
def zXY:Prop:=kZ qj (qh 111) [1,1,0,1,0] (ql 111 q2) .ret 141 (zXV data ag ah a_1 b az am t8_1) σ
end
variable {data:oAa} {ag ah:Nat} {a_1 b aE aR nS nV nW nU nH nI nJ hi first aB nE nG nD nB nA nF nK nP nQ nM nR nLB nFC nHC lo_1 kB aF dV aM bb bK nT nMB nFB nNB nOB nGB nJB nDB nEB nX nY nZ nAB dA n1 n2 n3 n4 n5 n6 bT nXB nIC nJC nYB nZB nAC aD a9 nCB nHB nPB nQB nRB nSB nWB bV nBA nBD nBE nBF nBG nBH nBI nBj nBk nBl nBm nBn nBo nBp nBq nBr nBs nBt nBu bU dz nKB nIB nBC nCC nDC nEC:Int} {az:FuncId} {am:lVa} {Inv:Nat→Int→St→Prop} {Q0 P0 Pr P6:St→Prop} {Q2 Nx P2 Q4 P4 Q6 Q8 P8:Int→St→Prop} {ar:Addr} {σU σV σ σR σB σM σA σE σGB σN σHB σIB σJB σ7 σ8 σK σW σKB σLB σMB σNB σOB σPB σO σP σQB σRB:St} {Q:vPa} {Qr:Bool→St→Prop} {t8_1:Bool}
theorem zYT (hb:∀ k aE σ,Inv k aE σ→yID data ag ah a_1 b az am aE σ (NX1 Inv k) Q0):∀ k aE σ,Inv k aE σ→yZF data ag ah a_1 b az am aE σ Q0 :=
 xE (ai (wA 0) trivial) hb
theorem yUG {Q2:St→Prop} (hb:∀ k aR σ,Inv k aR σ→zVR data ag ah a_1 b az am aE aR σ (NX1 Inv k) Q2):∀ k aR σ,Inv k aR σ→yZE data ag ah a_1 b az am aE aR σ Q2 :=
 xE (ai (wA 2) trivial) hb
theorem xKT {Q2:St→Prop}:let y0:=rcd nS nV nW;let y1:=rcd nU nH nI;let y2:=zL ar (Int.toNat (aR-1)*3);let y3:=zL ar (Int.toNat aR*3);∀ (h1:lz σ 45 y3 (qf y0)) (h2:lz σ 45 y2 (qf y1)) (h3:qm az (qf y0::(qf y1)::am) σ (iV nJ) σ) (h4:qn (evL [pz y3,qf y1]) σ (.store 45 (.tmp 0) (.tmp 1))=some (undef,σU)) (h5:qn (evL [pz y2,qf y0]) σU (.store 45 (.tmp 0) (.tmp 1))=some (undef,σV)) (nx:Nx (aR-1) σV) (u1:a_1<aR:=by omega) (u2:Ix aR ag:=by omega) (u3:I6 (aR-1):=by omega) (u4:Ix (aR-1) ag:=by omega) (u5:nJ<0:=by omega),zVR (some ar) ag ah a_1 b az am aE aR σ Nx Q2 :=
 let y0:=rcd nS nV nW;let y1:=rcd nU nH nI;fun h1 h2 h3 h4 h5 nx u1 u2 u3 u4 u5=>kO 0 (aR-1) [.g,.g,.b true,.g,.g,.g,.g,.i,.l (qf y0),.g,.g,.n (aR-1),.i,.l (qf y1),.c (iV nJ) σ,.b true,.g,.g,.g,.g,.g,.n (aR-1),.g,.g,.n (aR-1),.i,.l (qf y1),.g,.g,.i,.l (qf y0),.i,.e undef σU,.i,.e undef σV,.g,.n (aR-1),.g] (fun _ f=>ai (zR u1) (an6 u2 h1 (w64 u3) u4 h2 h3 (an6 (zR u5) (w64 u3) (w64 u3) u4 h2 u2 (an6 h1 u2 h4 u4 h5 (w64 u3) f)))) nx
theorem xKS {Q2:St→Prop} (h1:lz σ 45 (zL ar (Int.toNat aR*3)) (qf (rcd nS nV nW))) (h2:lz σ 45 (zL ar (Int.toNat (aR-1)*3)) (qf (rcd nU nH nI))) (h3:qm az (qf (rcd nS nV nW)::(qf (rcd nU nH nI))::am) σ (iV nJ) σ) (nx:Q2 σ) (u1:a_1<aR:=by omega) (u2:Ix aR ag:=by omega) (u3:I6 (aR-1):=by omega) (u4:Ix (aR-1) ag:=by omega) (u5:¬ nJ<0:=by omega):zVR (some ar) ag ah a_1 b az am aE aR σ Nx Q2 :=
 kO 1 () [.g,.g,.b true,.g,.g,.g,.g,.i,.l (qf (rcd nS nV nW)),.g,.g,.n (aR-1),.i,.l (qf (rcd nU nH nI)),.c (iV nJ) σ,.b false,.g] (fun _ f=>an2 (zR u1) u2 (an6 h1 (w64 u3) u4 h2 h3 (zU u5) f)) nx
theorem xKR {Q2:St→Prop} (nx:Q2 σ) (u1:¬ a_1<aR:=by omega):zVR data ag ah a_1 b az am aE aR σ Nx Q2 :=
 kO 1 () [.g,.g,.b false,.g,.g] (fun _ f=>ai (zU u1) f) nx
theorem xKU {P2:St→Prop} (hL:yZE data ag ah a_1 b az am aE aE σ P2) (k2:∀ σ',P2 σ'→yEE data ag ah a_1 b az am aE σ' Nx Q0) (u1:aE<b:=by omega):yID data ag ah a_1 b az am aE σ Nx Q0 :=
 zCT [.g,.g,.b true,.g,.g,.lf 53 (zPL data ag ah a_1 b az am aE aE) [zRL data ag ah a_1 b az am aE P2]] (fun g=>kd (ai (zR u1) (ai (ai tt (ai (arf (zPL data ag ah a_1 b az am aE aE)) hL)) (ai (kz0 k2) trivial))))
theorem yNC (nx:Q0 σ) (u1:¬ aE<b:=by omega):yID data ag ah a_1 b az am aE σ Nx Q0 :=
 kO 1 () [.g,.g,.b false] (fun _ f=>ai (zU u1) f) nx
theorem yUF (nx:Nx (aE+1) σ) (u1:I6 (aE+1):=by omega):yEE data ag ah a_1 b az am aE σ Nx Q0 :=
 sF 0 (aE+1) [.g,.n (aE+1),.g] (fun _ f=>ai (w64 u1) f) nx
theorem yZC (hL:yZF data ag ah a_1 b az am (a_1+1) σ P0) (k0:∀ σ',P0 σ'→yEF data ag ah a_1 b az am σ' Q) (u1:I6 (a_1+1):=by omega):qg 106 [.slice data ag ah,iV a_1,iV b,.func (.func az) ⟨[]⟩ ⟨am⟩] σ Q :=
 let s1:=zVQ data ag ah a_1 b az am (a_1+1);zG [.g,.n (a_1+1),.g,.lf 53 s1 [zLG data ag ah a_1 b az am P0]] (kd (ai (w64 u1) (ai (ai tt (ai (arf s1) hL)) (ai (kz0 k0) trivial))))
theorem zYS (nx:Q (.tuple ⟨[]⟩) σ):yEF data ag ah a_1 b az am σ Q :=
 sK [] nx
theorem yKL {Qr:St→Prop} (hb:∀ k aB σ,Inv k aB σ→zBZ data ag ah hi first az am aB σ (NX1 Inv k) Q0 Qr):∀ k aB σ,Inv k aB σ→yKN data ag ah hi first az am aB σ Q0 Qr :=
 xE (ai (wA 0) (ai zAN trivial)) hb
theorem xAX {Qr:St→Prop} (nx:Q0 σ) (u1:I6 (2*aB):=by omega) (u2:I6 ((2*aB)+1):=by omega) (u3:hi≤((2*aB)+1):=by omega):zBZ data ag ah hi first az am aB σ Nx Q0 Qr :=
 kO 1 () [.g,.n (2*aB),.n ((2*aB)+1),.g,.g,.g,.b true] (fun _ f=>an3 (w64 u1) (w64 u2) (yD u3) f) nx
theorem xAW {Qr:St→Prop}:let s1:=(2*aB)+1;let s2:=first+(s1+1);let s3:=first+aB;let s4:=first+s1;let y0:=rcd nR nLB nFC;let y1:=rcd nP nQ nM;let y2:=zL ar (Int.toNat s3*3);let y3:=zL ar (Int.toNat s2*3);∀ (h1:lz σ 45 (zL ar (Int.toNat s4*3)) (qf (rcd nE nG nD))) (h2:lz σ 45 (zL ar (Int.toNat (s4+1)*3)) (qf (rcd nB nA nF))) (h3:qm az (qf (rcd nE nG nD)::(qf (rcd nB nA nF))::am) σ (iV nK) σ) (h4:lz σ 45 y2 (qf y1)) (h5:lz σ 45 y3 (qf y0)) (h6:qm az (qf y1::(qf y0)::am) σ (iV nHC) σ) (h7:qn (evL [pz y2,qf y0]) σ (.store 45 (.tmp 0) (.tmp 1))=some (undef,σR)) (h8:qn (evL [pz y3,qf y1]) σR (.store 45 (.tmp 0) (.tmp 1))=some (undef,σB)) (nx:Nx (s1+1) σB) (u1:I6 (2*aB):=by omega) (u2:I6 s1:=by omega) (u3:¬ hi≤s1:=by omega) (u4:I6 (s1+1):=by omega) (u5:(s1+1)<hi:=by omega) (u6:I6 s4:=by omega) (u7:Ix s4 ag:=by omega) (u8:I6 (s4+1):=by omega) (u9:Ix (s4+1) ag:=by omega) (u10:nK<0:=by omega) (u11:I6 s3:=by omega) (u12:Ix s3 ag:=by omega) (u13:I6 s2:=by omega) (u14:Ix s2 ag:=by omega) (u15:nHC<0:=by omega),zBZ (some ar) ag ah hi first az am aB σ Nx Q0 Qr:=
 let s1:=(2*aB)+1;let s2:=first+(s1+1);let s3:=first+aB;let s4:=first+s1;let y0:=rcd nR nLB nFC;let y1:=rcd nP nQ nM;fun h1 h2 h3 h4 h5 h6 h7 h8 nx u1 u2 u3 u4 u5 u6 u7 u8 u9 u10 u11 u12 u13 u14 u15=>kO 0 (s1+1) [.g,.n (2*aB),.n s1,.g,.g,.g,.b false,.g,.n (s1+1),.g,.b true,.g,.g,.g,.g,.g,.n s4,.i,.l (qf (rcd nE nG nD)),.g,.g,.g,.n s4,.n (s4+1),.i,.l (qf (rcd nB nA nF)),.c (iV nK) σ,.b true,.g,.g,.n (s1+1),.g,.g,.g,.g,.g,.n s3,.i,.l (qf y1),.g,.g,.g,.n s2,.i,.l (qf y0),.c (iV nHC) σ,.b true,.g,.g,.g,.g,.n s3,.g,.g,.g,.n s2,.g,.g,.g,.n s2,.i,.l (qf y0),.g,.g,.g,.n s3,.i,.l (qf y1),.i,.e undef σR,.i,.e undef σB,.g,.g] (fun _ f=>an5 (w64 u1) (w64 u2) (yF u3) (w64 u4) (zR u5) (an6 (w64 u6) u7 h1 (w64 u6) (w64 u8) u9 (an6 h2 h3 (zR u10) (w64 u4) (w64 u11) u12 (an6 h4 (w64 u13) u14 h5 h6 (zR u15) (an6 (w64 u11) (w64 u13) (w64 u13) u14 h5 (w64 u11) (an6 u12 h4 u12 h7 u14 h8 f)))))) nx
theorem xAV {Qr:St→Prop}:let s1:=(2*aB)+1;let s2:=first+s1;∀ (h1:lz σ 45 (zL ar (Int.toNat s2*3)) (qf (rcd nE nG nD))) (h2:lz σ 45 (zL ar (Int.toNat (s2+1)*3)) (qf (rcd nB nA nF))) (h3:qm az (qf (rcd nE nG nD)::(qf (rcd nB nA nF))::am) σ (iV nK) σ) (h4:lz σ 45 (zL ar (Int.toNat (first+aB)*3)) (qf (rcd nP nQ nM))) (h5:lz σ 45 (zL ar (Int.toNat (first+(s1+1))*3)) (qf (rcd nR nLB nFC))) (h6:qm az (qf (rcd nP nQ nM)::(qf (rcd nR nLB nFC))::am) σ (iV nHC) σ) (nx:Qr σ) (u1:I6 (2*aB):=by omega) (u2:I6 s1:=by omega) (u3:¬ hi≤s1:=by omega) (u4:I6 (s1+1):=by omega) (u5:(s1+1)<hi:=by omega) (u6:I6 s2:=by omega) (u7:Ix s2 ag:=by omega) (u8:I6 (s2+1):=by omega) (u9:Ix (s2+1) ag:=by omega) (u10:nK<0:=by omega) (u11:I6 (first+aB):=by omega) (u12:Ix (first+aB) ag:=by omega) (u13:I6 (first+(s1+1)):=by omega) (u14:Ix (first+(s1+1)) ag:=by omega) (u15:¬ nHC<0:=by omega),zBZ (some ar) ag ah hi first az am aB σ Nx Q0 Qr:=
 let s1:=(2*aB)+1;let s2:=first+s1;fun h1 h2 h3 h4 h5 h6 nx u1 u2 u3 u4 u5 u6 u7 u8 u9 u10 u11 u12 u13 u14 u15=>kO 2 () [.g,.n (2*aB),.n s1,.g,.g,.g,.b false,.g,.n (s1+1),.g,.b true,.g,.g,.g,.g,.g,.n s2,.i,.l (qf (rcd nE nG nD)),.g,.g,.g,.n s2,.n (s2+1),.i,.l (qf (rcd nB nA nF)),.c (iV nK) σ,.b true,.g,.g,.n (s1+1),.g,.g,.g,.g,.g,.n (first+aB),.i,.l (qf (rcd nP nQ nM)),.g,.g,.g,.n (first+(s1+1)),.i,.l (qf (rcd nR nLB nFC)),.c (iV nHC) σ,.b false,.g] (fun _ f=>an5 (w64 u1) (w64 u2) (yF u3) (w64 u4) (zR u5) (an6 (w64 u6) u7 h1 (w64 u6) (w64 u8) u9 (an6 h2 h3 (zR u10) (w64 u4) (w64 u11) u12 (an6 h4 (w64 u13) u14 h5 h6 (zU u15) f)))) nx
theorem xAU {Qr:St→Prop}:let s2:=(2*aB)+1;let s1:=first+s2;let s3:=first+aB;let y0:=rcd nE nG nD;let y1:=rcd nP nQ nM;let y2:=zL ar (Int.toNat s1*3);let y3:=zL ar (Int.toNat s3*3);∀ (h1:lz σ 45 y2 (qf y0)) (h2:lz σ 45 (zL ar (Int.toNat (s1+1)*3)) (qf (rcd nB nA nF))) (h3:qm az (qf y0::(qf (rcd nB nA nF))::am) σ (iV nK) σ) (h4:lz σ 45 y3 (qf y1)) (h5:qm az (qf y1::(qf y0)::am) σ (iV nR) σ) (h6:qn (evL [pz y3,qf y0]) σ (.store 45 (.tmp 0) (.tmp 1))=some (undef,σM)) (h7:qn (evL [pz y2,qf y1]) σM (.store 45 (.tmp 0) (.tmp 1))=some (undef,σA)) (nx:Nx s2 σA) (u1:I6 (2*aB):=by omega) (u2:I6 s2:=by omega) (u3:¬ hi≤s2:=by omega) (u4:I6 (s2+1):=by omega) (u5:(s2+1)<hi:=by omega) (u6:I6 s1:=by omega) (u7:Ix s1 ag:=by omega) (u8:I6 (s1+1):=by omega) (u9:Ix (s1+1) ag:=by omega) (u10:¬ nK<0:=by omega) (u11:I6 s3:=by omega) (u12:Ix s3 ag:=by omega) (u13:nR<0:=by omega),zBZ (some ar) ag ah hi first az am aB σ Nx Q0 Qr:=
 let s2:=(2*aB)+1;let s1:=first+s2;let s3:=first+aB;let y0:=rcd nE nG nD;let y1:=rcd nP nQ nM;fun h1 h2 h3 h4 h5 h6 h7 nx u1 u2 u3 u4 u5 u6 u7 u8 u9 u10 u11 u12 u13=>kO 0 s2 [.g,.n (2*aB),.n s2,.g,.g,.g,.b false,.g,.n (s2+1),.g,.b true,.g,.g,.g,.g,.g,.n s1,.i,.l (qf y0),.g,.g,.g,.n s1,.n (s1+1),.i,.l (qf (rcd nB nA nF)),.c (iV nK) σ,.b false,.g,.g,.g,.g,.g,.n s3,.i,.l (qf y1),.g,.g,.g,.n s1,.i,.l (qf y0),.c (iV nR) σ,.b true,.g,.g,.g,.g,.n s3,.g,.g,.g,.n s1,.g,.g,.g,.n s1,.i,.l (qf y0),.g,.g,.g,.n s3,.i,.l (qf y1),.i,.e undef σM,.i,.e undef σA,.g,.g] (fun _ f=>an4 (w64 u1) (w64 u2) (yF u3) (w64 u4) (an6 (zR u5) (w64 u6) u7 h1 (w64 u6) (w64 u8) (an6 u9 h2 h3 (zU u10) (w64 u11) u12 (an6 h4 (w64 u6) u7 h1 h5 (zR u13) (an6 (w64 u11) (w64 u6) (w64 u6) u7 h1 (w64 u11) (an6 u12 h4 u12 h6 u7 h7 f)))))) nx
theorem xAT {Qr:St→Prop}:let s2:=2*aB;let s1:=first+(s2+1);let y0:=rcd nE nG nD;∀ (h1:lz σ 45 (zL ar (Int.toNat s1*3)) (qf y0)) (h2:lz σ 45 (zL ar (Int.toNat (s1+1)*3)) (qf (rcd nB nA nF))) (h3:qm az (qf y0::(qf (rcd nB nA nF))::am) σ (iV nK) σ) (h4:lz σ 45 (zL ar (Int.toNat (first+aB)*3)) (qf (rcd nP nQ nM))) (h5:qm az (qf (rcd nP nQ nM)::(qf y0)::am) σ (iV nR) σ) (nx:Qr σ) (u1:I6 s2:=by omega) (u2:I6 (s2+1):=by omega) (u3:¬ hi≤(s2+1):=by omega) (u4:I6 ((s2+1)+1):=by omega) (u5:((s2+1)+1)<hi:=by omega) (u6:I6 s1:=by omega) (u7:Ix s1 ag:=by omega) (u8:I6 (s1+1):=by omega) (u9:Ix (s1+1) ag:=by omega) (u10:¬ nK<0:=by omega) (u11:I6 (first+aB):=by omega) (u12:Ix (first+aB) ag:=by omega) (u13:¬ nR<0:=by omega),zBZ (some ar) ag ah hi first az am aB σ Nx Q0 Qr:=
 let s2:=2*aB;let s1:=first+(s2+1);let y0:=rcd nE nG nD;fun h1 h2 h3 h4 h5 nx u1 u2 u3 u4 u5 u6 u7 u8 u9 u10 u11 u12 u13=>kO 2 () [.g,.n s2,.n (s2+1),.g,.g,.g,.b false,.g,.n ((s2+1)+1),.g,.b true,.g,.g,.g,.g,.g,.n s1,.i,.l (qf y0),.g,.g,.g,.n s1,.n (s1+1),.i,.l (qf (rcd nB nA nF)),.c (iV nK) σ,.b false,.g,.g,.g,.g,.g,.n (first+aB),.i,.l (qf (rcd nP nQ nM)),.g,.g,.g,.n s1,.i,.l (qf y0),.c (iV nR) σ,.b false,.g] (fun _ f=>an4 (w64 u1) (w64 u2) (yF u3) (w64 u4) (an6 (zR u5) (w64 u6) u7 h1 (w64 u6) (w64 u8) (an6 u9 h2 h3 (zU u10) (w64 u11) u12 (an6 h4 (w64 u6) u7 h1 h5 (zU u13) f)))) nx
theorem xAS {Qr:St→Prop}:let s1:=(2*aB)+1;let s2:=first+aB;let s3:=first+s1;let y0:=rcd nE nG nD;let y1:=rcd nB nA nF;let y2:=zL ar (Int.toNat s2*3);let y3:=zL ar (Int.toNat s3*3);∀ (h1:lz σ 45 y2 (qf y0)) (h2:lz σ 45 y3 (qf y1)) (h3:qm az (qf y0::(qf y1)::am) σ (iV nK) σ) (h4:qn (evL [pz y2,qf y1]) σ (.store 45 (.tmp 0) (.tmp 1))=some (undef,σE)) (h5:qn (evL [pz y3,qf y0]) σE (.store 45 (.tmp 0) (.tmp 1))=some (undef,σGB)) (nx:Nx s1 σGB) (u1:I6 (2*aB):=by omega) (u2:I6 s1:=by omega) (u3:¬ hi≤s1:=by omega) (u4:I6 (s1+1):=by omega) (u5:¬ (s1+1)<hi:=by omega) (u6:I6 s2:=by omega) (u7:Ix s2 ag:=by omega) (u8:I6 s3:=by omega) (u9:Ix s3 ag:=by omega) (u10:nK<0:=by omega),zBZ (some ar) ag ah hi first az am aB σ Nx Q0 Qr:=
 let s1:=(2*aB)+1;let s2:=first+aB;let s3:=first+s1;let y0:=rcd nE nG nD;let y1:=rcd nB nA nF;fun h1 h2 h3 h4 h5 nx u1 u2 u3 u4 u5 u6 u7 u8 u9 u10=>kO 0 s1 [.g,.n (2*aB),.n s1,.g,.g,.g,.b false,.g,.n (s1+1),.g,.b false,.g,.g,.g,.g,.g,.g,.n s2,.i,.l (qf y0),.g,.g,.g,.n s3,.i,.l (qf y1),.c (iV nK) σ,.b true,.g,.g,.g,.g,.n s2,.g,.g,.g,.n s3,.g,.g,.g,.n s3,.i,.l (qf y1),.g,.g,.g,.n s2,.i,.l (qf y0),.i,.e undef σE,.i,.e undef σGB,.g,.g] (fun _ f=>ai (w64 u1) (an6 (w64 u2) (yF u3) (w64 u4) (zU u5) (w64 u6) u7 (an6 h1 (w64 u8) u9 h2 h3 (zR u10) (an6 (w64 u6) (w64 u8) (w64 u8) u9 h2 (w64 u6) (an6 u7 h1 u7 h4 u9 h5 f))))) nx
theorem xAR {Qr:St→Prop} (h1:lz σ 45 (zL ar (Int.toNat (first+aB)*3)) (qf (rcd nE nG nD))) (h2:lz σ 45 (zL ar (Int.toNat (first+((2*aB)+1))*3)) (qf (rcd nB nA nF))) (h3:qm az (qf (rcd nE nG nD)::(qf (rcd nB nA nF))::am) σ (iV nK) σ) (nx:Qr σ) (u1:I6 (2*aB):=by omega) (u2:I6 ((2*aB)+1):=by omega) (u3:¬ hi≤((2*aB)+1):=by omega) (u4:I6 (((2*aB)+1)+1):=by omega) (u5:¬ (((2*aB)+1)+1)<hi:=by omega) (u6:I6 (first+aB):=by omega) (u7:Ix (first+aB) ag:=by omega) (u8:I6 (first+((2*aB)+1)):=by omega) (u9:Ix (first+((2*aB)+1)) ag:=by omega) (u10:¬ nK<0:=by omega):zBZ (some ar) ag ah hi first az am aB σ Nx Q0 Qr :=
 let s1:=(2*aB)+1;kO 2 () [.g,.n (2*aB),.n s1,.g,.g,.g,.b false,.g,.n (s1+1),.g,.b false,.g,.g,.g,.g,.g,.g,.n (first+aB),.i,.l (qf (rcd nE nG nD)),.g,.g,.g,.n (first+s1),.i,.l (qf (rcd nB nA nF)),.c (iV nK) σ,.b false,.g] (fun _ f=>ai (w64 u1) (an6 (w64 u2) (yF u3) (w64 u4) (zU u5) (w64 u6) u7 (an6 h1 (w64 u8) u9 h2 h3 (zU u10) f))) nx
theorem xHD (hL:yKN data ag ah hi first az am lo_1 σ P0 Pr) (k0:∀ σ',P0 σ'→zWR data ag ah hi first az am σ' Q) (kr:∀ σ',Pr σ'→zWQ data ag ah hi first az am σ' Q):qg 121 [.slice data ag ah,iV lo_1,iV hi,iV first,.func (.func az) ⟨[]⟩ ⟨am⟩] σ Q :=
 zG [.g,.g,.lf 82 (zIK data ag ah hi first az am lo_1) [zMV data ag ah hi first az am P0,zMU data ag ah hi first az am Pr]] (kd (ai (ai tt (ai (arf (zIK data ag ah hi first az am lo_1)) hL)) (ai (kz0 k0) (ai (kz0 kr) trivial))))
theorem yKK (nx:Q (.tuple ⟨[]⟩) σ):zWR data ag ah hi first az am σ Q :=
 sK [] nx
theorem yKJ (nx:Q (.tuple ⟨[]⟩) σ):zWQ data ag ah hi first az am σ Q :=
 sK [] nx
theorem yNN (hb:∀ k aF σ,Inv k aF σ→zZG data ag ah az am a_1 kB aF σ (NX1 Inv k) Q0):∀ k aF σ,Inv k aF σ→yNR data ag ah az am a_1 kB aF σ Q0 :=
 xE (ai (wA 0) trivial) hb
theorem xEC (h1:qm 121 [.slice data ag ah,iV aF,iV kB,iV a_1,.func (.func az) ⟨[]⟩ ⟨am⟩] σ (.tuple ⟨[]⟩) σN) (nx:Nx (aF-1) σN) (u1:0≤aF:=by omega) (u2:I6 (aF-1):=by omega):zZG data ag ah az am a_1 kB aF σ Nx Q0 :=
 kO 0 (aF-1) [.g,.b true,.g,.g,.g,.g,.g,.c (.tuple ⟨[]⟩) σN,.g,.n (aF-1),.g] (fun _ f=>an3 (yD u1) h1 (w64 u2) f) nx
theorem xEB (nx:Q0 σ) (u1:¬ 0≤aF:=by omega):zZG data ag ah az am a_1 kB aF σ Nx Q0 :=
 kO 1 () [.g,.b false] (fun _ f=>ai (yF u1) f) nx
theorem xLP (h1:IntKind.wrap .i64 (Int.tdiv ((b-a_1)-1) 2)=Int.tdiv ((b-a_1)-1) 2) (hL:yNR data ag ah az am a_1 (b-a_1) (Int.tdiv ((b-a_1)-1) 2) σ P0) (k0:∀ σ',P0 σ'→zZE data ag ah az am a_1 (b-a_1) σ' Q) (u1:I6 (b-a_1):=by omega) (u2:I6 ((b-a_1)-1):=by omega):qg 107 [.slice data ag ah,iV a_1,iV b,.func (.func az) ⟨[]⟩ ⟨am⟩] σ Q :=
 let s1:=zPT data ag ah az am a_1 (b-a_1) (Int.tdiv ((b-a_1)-1) 2);zG [.g,.g,.g,.g,.g,.n (b-a_1),.g,.g,.n ((b-a_1)-1),.n (Int.tdiv ((b-a_1)-1) 2),.g,.lf 60 s1 [zNP data ag ah az am a_1 (b-a_1) P0]] (kd (an3 (w64 u1) (w64 u2) h1 (ai (ai tt (ai (arf s1) hL)) (ai (kz0 k0) trivial))))
theorem yNM {Q2:St→Prop} (hb:∀ k dV σ,Inv k dV σ→zZF data ag ah az am a_1 dV σ (NX1 Inv k) Q2):∀ k dV σ,Inv k dV σ→yNQ data ag ah az am a_1 dV σ Q2 :=
 xE (ai (wA 2) trivial) hb
theorem xEA {Q2:St→Prop} (h1:lz σ 45 (zL ar (Int.toNat (a_1+dV)*3)) (qf (rcd nS nV nW))) (h2:lz σ 45 (zL ar (Int.toNat a_1*3)) (qf (rcd nU nH nI))) (h3:qn (evL [pz (zL ar (Int.toNat a_1*3)),qf (rcd nS nV nW)]) σ (.store 45 (.tmp 0) (.tmp 1))=some (undef,σHB)) (h4:qn (evL [pz (zL ar (Int.toNat (a_1+dV)*3)),qf (rcd nU nH nI)]) σHB (.store 45 (.tmp 0) (.tmp 1))=some (undef,σU)) (h5:qm 121 [.slice (some ar) ag ah,iV 0,iV dV,iV a_1,.func (.func az) ⟨[]⟩ ⟨am⟩] σU (.tuple ⟨[]⟩) σV) (nx:Nx (dV-1) σV) (u1:0≤dV:=by omega) (u2:I6 (a_1+dV):=by omega) (u3:Ix (a_1+dV) ag:=by omega) (u4:Ix a_1 ag:=by omega) (u5:I6 (dV-1):=by omega):zZF (some ar) ag ah az am a_1 dV σ Nx Q2 :=
 kO 0 (dV-1) [.g,.b true,.g,.g,.g,.g,.g,.n (a_1+dV),.g,.g,.g,.n (a_1+dV),.i,.l (qf (rcd nS nV nW)),.g,.g,.i,.l (qf (rcd nU nH nI)),.i,.e undef σHB,.i,.e undef σU,.g,.g,.g,.g,.g,.c (.tuple ⟨[]⟩) σV,.g,.n (dV-1),.g] (fun _ f=>ai (yD u1) (an6 (w64 u2) (w64 u2) u3 h1 u4 h2 (an6 u4 h3 u3 h4 h5 (w64 u5) f))) nx
theorem xDZ {Q2:St→Prop} (nx:Q2 σ) (u1:¬ 0≤dV:=by omega):zZF data ag ah az am a_1 dV σ Nx Q2 :=
 kO 1 () [.g,.b false] (fun _ f=>ai (yF u1) f) nx
theorem yNL {P2:St→Prop} (hL:yNQ data ag ah az am a_1 (kB-1) σ P2) (k2:∀ σ',P2 σ'→zZD data ag ah az am a_1 σ' Q) (u1:I6 (kB-1):=by omega):zZE data ag ah az am a_1 kB σ Q :=
 let s1:=zPS data ag ah az am a_1 (kB-1);sK [.g,.n (kB-1),.g,.lf 60 s1 [zNO data ag ah az am a_1 P2]] (ai (w64 u1) (ai (ai tt (ai (arf s1) hL)) (ai (kz0 k2) trivial)))
theorem yNK (nx:Q (.tuple ⟨[]⟩) σ):zZD data ag ah az am a_1 σ Q :=
 sK [] nx
theorem yHR {Inv:Nat→Int→Int→St→Prop} {Q0:Int→St→Prop} (hb:∀ k aF aM σ,Inv k aF aM σ→yDU ar ag ah a_1 az am aF aM σ (NX2 Inv k) Q0):∀ k aF aM σ,Inv k aF aM σ→yDT ar ag ah a_1 az am aF aM σ Q0 :=
 zDP (ai (wA 0) trivial) hb
theorem yHQ (hb:∀ k bb σ,Inv k bb σ→zLC ar ag ah a_1 az am aM bb σ (NX1 Inv k) Q2):∀ k bb σ,Inv k bb σ→yDS ar ag ah a_1 az am aM bb σ Q2 :=
 xE (ai (wA 2) trivial) hb
theorem yTQ (h1:lz σ 45 (zL ar (Int.toNat a_1*3)) (qf (rcd nS nV nW))) (h2:lz σ 45 (zL ar (Int.toNat bb*3)) (qf (rcd nU nH nI))) (h3:qm az (qf (rcd nS nV nW)::(qf (rcd nU nH nI))::am) σ (iV nJ) σ) (nx:Q2 bb σ) (u1:bb≤aM:=by omega) (u2:Ix a_1 ag:=by omega) (u3:Ix bb ag:=by omega) (u4:nJ<0:=by omega):zLC ar ag ah a_1 az am aM bb σ Nx Q2 :=
 kO 1 bb [.g,.g,.b true,.g,.g,.g,.g,.i,.l (qf (rcd nS nV nW)),.g,.g,.i,.l (qf (rcd nU nH nI)),.c (iV nJ) σ,.b true,.g,.g] (fun _ f=>ai (yD u1) (an6 u2 h1 u3 h2 h3 (zR u4) f)) nx
theorem yTP (h1:lz σ 45 (zL ar (Int.toNat a_1*3)) (qf (rcd nS nV nW))) (h2:lz σ 45 (zL ar (Int.toNat bb*3)) (qf (rcd nU nH nI))) (h3:qm az (qf (rcd nS nV nW)::(qf (rcd nU nH nI))::am) σ (iV nJ) σ) (nx:Nx (bb+1) σ) (u1:bb≤aM:=by omega) (u2:Ix a_1 ag:=by omega) (u3:Ix bb ag:=by omega) (u4:¬ nJ<0:=by omega) (u5:I6 (bb+1):=by omega):zLC ar ag ah a_1 az am aM bb σ Nx Q2 :=
 kO 0 (bb+1) [.g,.g,.b true,.g,.g,.g,.g,.i,.l (qf (rcd nS nV nW)),.g,.g,.i,.l (qf (rcd nU nH nI)),.c (iV nJ) σ,.b false,.g,.g,.g,.n (bb+1),.g] (fun _ f=>an2 (yD u1) u2 (an6 h1 u3 h2 h3 (zU u4) (w64 u5) f)) nx
theorem yTO (nx:Q2 bb σ) (u1:¬ bb≤aM:=by omega):zLC ar ag ah a_1 az am aM bb σ Nx Q2 :=
 kO 1 bb [.g,.g,.b false,.g,.g] (fun _ f=>ai (yF u1) f) nx
theorem yTR {Nx:Int→Int→St→Prop} {Q0:Int→St→Prop} (hL:yDS ar ag ah a_1 az am aM aF σ P2) (k2:∀ i11_2' σ',P2 i11_2' σ'→zTT ar ag ah a_1 az am aM i11_2' σ' Nx Q0):yDU ar ag ah a_1 az am aF aM σ Nx Q0 :=
 zCT [.lf 90 (zFL ar ag ah a_1 az am aM aF) [zJI ar ag ah a_1 az am aM P2]] (fun g=>kd (ai (ai tt (ai (arf (zFL ar ag ah a_1 az am aM aF)) hL)) (ai (kz1 k2) trivial)))
theorem yHP (hb:∀ k bK σ,Inv k bK σ→zLB ar ag ah a_1 az am bb bK σ (NX1 Inv k) Q4):∀ k bK σ,Inv k bK σ→yDR ar ag ah a_1 az am bb bK σ Q4 :=
 xE (ai (wA 4) trivial) hb
theorem yTN (h1:lz σ 45 (zL ar (Int.toNat a_1*3)) (qf (rcd nT nMB nFB))) (h2:lz σ 45 (zL ar (Int.toNat bK*3)) (qf (rcd nNB nOB nGB))) (h3:qm az (qf (rcd nT nMB nFB)::(qf (rcd nNB nOB nGB))::am) σ (iV nJB) σ) (nx:Nx (bK-1) σ) (u1:bb≤bK:=by omega) (u2:Ix a_1 ag:=by omega) (u3:Ix bK ag:=by omega) (u4:nJB<0:=by omega) (u5:I6 (bK-1):=by omega):zLB ar ag ah a_1 az am bb bK σ Nx Q4 :=
 kO 0 (bK-1) [.g,.g,.b true,.g,.g,.g,.g,.i,.l (qf (rcd nT nMB nFB)),.g,.g,.i,.l (qf (rcd nNB nOB nGB)),.c (iV nJB) σ,.b true,.g,.g,.n (bK-1),.g] (fun _ f=>an2 (yD u1) u2 (an6 h1 u3 h2 h3 (zR u4) (w64 u5) f)) nx
theorem yTM (h1:lz σ 45 (zL ar (Int.toNat a_1*3)) (qf (rcd nT nMB nFB))) (h2:lz σ 45 (zL ar (Int.toNat bK*3)) (qf (rcd nNB nOB nGB))) (h3:qm az (qf (rcd nT nMB nFB)::(qf (rcd nNB nOB nGB))::am) σ (iV nJB) σ) (nx:Q4 bK σ) (u1:bb≤bK:=by omega) (u2:Ix a_1 ag:=by omega) (u3:Ix bK ag:=by omega) (u4:¬ nJB<0:=by omega):zLB ar ag ah a_1 az am bb bK σ Nx Q4 :=
 kO 1 bK [.g,.g,.b true,.g,.g,.g,.g,.i,.l (qf (rcd nT nMB nFB)),.g,.g,.i,.l (qf (rcd nNB nOB nGB)),.c (iV nJB) σ,.b false,.g] (fun _ f=>ai (yD u1) (an6 u2 h1 u3 h2 h3 (zU u4) f)) nx
theorem yTL (nx:Q4 bK σ) (u1:¬ bb≤bK:=by omega):zLB ar ag ah a_1 az am bb bK σ Nx Q4 :=
 kO 1 bK [.g,.g,.b false,.g,.g] (fun _ f=>ai (yF u1) f) nx
theorem yHN {Nx:Int→Int→St→Prop} {Q0:Int→St→Prop} (hL:yDR ar ag ah a_1 az am bb aM σ P4) (k4:∀ i12_3' σ',P4 i12_3' σ'→zJJ ar ag ah a_1 az am bb i12_3' σ' Nx Q0):zTT ar ag ah a_1 az am aM bb σ Nx Q0 :=
 sK [.lf 90 (zFK ar ag ah a_1 az am bb aM) [zJH ar ag ah a_1 az am bb P4]] (ai (ai tt (ai (arf (zFK ar ag ah a_1 az am bb aM)) hL)) (ai (kz1 k4) trivial))
theorem yHM {Nx:Int→Int→St→Prop} {Q0:Int→St→Prop} (nx:Q0 bb σ) (u1:bK<bb:=by omega):zJJ ar ag ah a_1 az am bb bK σ Nx Q0 :=
 sF 1 bb [.g,.g,.b true] (fun _ f=>ai (zR u1) f) nx
theorem yHL {Nx:Int→Int→St→Prop} {Q0:Int→St→Prop} (h1:lz σ 45 (zL ar (Int.toNat bK*3)) (qf (rcd nDB nEB nX))) (h2:lz σ 45 (zL ar (Int.toNat bb*3)) (qf (rcd nY nZ nAB))) (h3:qn (evL [pz (zL ar (Int.toNat bb*3)),qf (rcd nDB nEB nX)]) σ (.store 45 (.tmp 0) (.tmp 1))=some (undef,σIB)) (h4:qn (evL [pz (zL ar (Int.toNat bK*3)),qf (rcd nY nZ nAB)]) σIB (.store 45 (.tmp 0) (.tmp 1))=some (undef,σJB)) (nx:Nx (bb+1) (bK-1) σJB) (u1:¬ bK<bb:=by omega) (u2:Ix bK ag:=by omega) (u3:Ix bb ag:=by omega) (u4:I6 (bb+1):=by omega) (u5:I6 (bK-1):=by omega):zJJ ar ag ah a_1 az am bb bK σ Nx Q0 :=
 sF 0 (bb+1,bK-1) [.g,.g,.b false,.g,.g,.g,.g,.g,.g,.i,.l (qf (rcd nDB nEB nX)),.g,.g,.i,.l (qf (rcd nY nZ nAB)),.i,.e undef σIB,.i,.e undef σJB,.g,.n (bb+1),.g,.g,.n (bK-1),.g] (fun _ f=>an5 (zU u1) u2 h1 u3 h2 (an6 u3 h3 u2 h4 (w64 u4) (w64 u5) f)) nx
theorem xDH {P0:Int→St→Prop} (h1:lz σ 45 (zL ar (Int.toNat dA*3)) (qf (rcd n1 n2 n3))) (h2:lz σ 45 (zL ar (Int.toNat a_1*3)) (qf (rcd n4 n5 n6))) (h3:qn (evL [pz (zL ar (Int.toNat a_1*3)),qf (rcd n1 n2 n3)]) σ (.store 45 (.tmp 0) (.tmp 1))=some (undef,σ7)) (h4:qn (evL [pz (zL ar (Int.toNat dA*3)),qf (rcd n4 n5 n6)]) σ7 (.store 45 (.tmp 0) (.tmp 1))=some (undef,σ8)) (hL:yDT ar ag ah a_1 az am (a_1+1) (b-1) σ8 P0) (k0:∀ i11_1' σ',P0 i11_1' σ'→zTU ar ag ah a_1 az am i11_1' σ' Q) (u1:Ix dA ag:=by omega) (u2:Ix a_1 ag:=by omega) (u3:I6 (a_1+1):=by omega) (u4:I6 (b-1):=by omega):qg 112 [.slice (some ar) ag ah,iV a_1,iV b,iV dA,.func (.func az) ⟨[]⟩ ⟨am⟩] σ Q :=
 let s1:=zKZ ar ag ah a_1 az am (a_1+1) (b-1);zG [.g,.g,.g,.g,.g,.g,.g,.i,.l (qf (rcd n1 n2 n3)),.g,.g,.i,.l (qf (rcd n4 n5 n6)),.i,.e undef σ7,.i,.e undef σ8,.g,.n (a_1+1),.g,.n (b-1),.g,.g,.lf 90 s1 [zCC ar ag ah a_1 az am P0]] (kd (an4 u1 h1 u2 h2 (an6 u2 h3 u1 h4 (w64 u3) (w64 u4) (ai (ai tt (ai (arf s1) hL)) (ai (kz1 k0) trivial)))))
theorem yHO (nx:Q (iV aF) σ):zTU ar ag ah a_1 az am aF σ Q :=
 sK [.g,.g] nx
theorem yTJ {Q0:Int→St→Prop} (hb:∀ k aM σ,Inv k aM σ→zVP ar ag ah a_1 az am kB aM σ (NX1 Inv k) Q0):∀ k aM σ,Inv k aM σ→yYR ar ag ah a_1 az am kB aM σ Q0 :=
 xE (ai (wA 0) trivial) hb
theorem xJA {Q0:Int→St→Prop} (h1:lz σ 45 (zL ar (Int.toNat aM*3)) (qf (rcd nE nG nD))) (h2:lz σ 45 (zL ar (Int.toNat a_1*3)) (qf (rcd nB nA nF))) (h3:qm az (qf (rcd nE nG nD)::(qf (rcd nB nA nF))::am) σ (iV nK) σ) (nx:Nx (aM+1) σ) (u1:aM≤kB:=by omega) (u2:Ix aM ag:=by omega) (u3:Ix a_1 ag:=by omega) (u4:nK<0:=by omega) (u5:I6 (aM+1):=by omega):zVP ar ag ah a_1 az am kB aM σ Nx Q0 :=
 kO 0 (aM+1) [.g,.g,.b true,.g,.g,.g,.g,.i,.l (qf (rcd nE nG nD)),.g,.g,.i,.l (qf (rcd nB nA nF)),.c (iV nK) σ,.b true,.g,.g,.n (aM+1),.g] (fun _ f=>an2 (yD u1) u2 (an6 h1 u3 h2 h3 (zR u4) (w64 u5) f)) nx
theorem xIZ {Q0:Int→St→Prop} (h1:lz σ 45 (zL ar (Int.toNat aM*3)) (qf (rcd nE nG nD))) (h2:lz σ 45 (zL ar (Int.toNat a_1*3)) (qf (rcd nB nA nF))) (h3:qm az (qf (rcd nE nG nD)::(qf (rcd nB nA nF))::am) σ (iV nK) σ) (nx:Q0 aM σ) (u1:aM≤kB:=by omega) (u2:Ix aM ag:=by omega) (u3:Ix a_1 ag:=by omega) (u4:¬ nK<0:=by omega):zVP ar ag ah a_1 az am kB aM σ Nx Q0 :=
 kO 1 aM [.g,.g,.b true,.g,.g,.g,.g,.i,.l (qf (rcd nE nG nD)),.g,.g,.i,.l (qf (rcd nB nA nF)),.c (iV nK) σ,.b false,.g] (fun _ f=>ai (yD u1) (an6 u2 h1 u3 h2 h3 (zU u4) f)) nx
theorem xIY {Q0:Int→St→Prop} (nx:Q0 aM σ) (u1:¬ aM≤kB:=by omega):zVP ar ag ah a_1 az am kB aM σ Nx Q0 :=
 kO 1 aM [.g,.g,.b false,.g,.g] (fun _ f=>ai (yF u1) f) nx
theorem xQM {P0:Int→St→Prop} (h1:lz σ 45 (zL ar (Int.toNat dA*3)) (qf (rcd n1 n2 n3))) (h2:lz σ 45 (zL ar (Int.toNat a_1*3)) (qf (rcd n4 n5 n6))) (h3:qn (evL [pz (zL ar (Int.toNat a_1*3)),qf (rcd n1 n2 n3)]) σ (.store 45 (.tmp 0) (.tmp 1))=some (undef,σ7)) (h4:qn (evL [pz (zL ar (Int.toNat dA*3)),qf (rcd n4 n5 n6)]) σ7 (.store 45 (.tmp 0) (.tmp 1))=some (undef,σ8)) (hL:yYR ar ag ah a_1 az am (b-1) (a_1+1) σ8 P0) (k0:∀ i12_1' σ',P0 i12_1' σ'→yDO ar ag ah a_1 az am (b-1) i12_1' σ' Q) (u1:Ix dA ag:=by omega) (u2:Ix a_1 ag:=by omega) (u3:I6 (a_1+1):=by omega) (u4:I6 (b-1):=by omega):qg 113 [.slice (some ar) ag ah,iV a_1,iV b,iV dA,.func (.func az) ⟨[]⟩ ⟨am⟩] σ Q :=
 let s1:=zVK ar ag ah a_1 az am (b-1) (a_1+1);zG [.g,.g,.g,.g,.g,.g,.g,.g,.i,.l (qf (rcd n1 n2 n3)),.g,.g,.i,.l (qf (rcd n4 n5 n6)),.i,.e undef σ7,.i,.e undef σ8,.g,.n (a_1+1),.g,.n (b-1),.g,.g,.lf 178 s1 [zRF ar ag ah a_1 az am (b-1) P0]] (kd (an4 u1 h1 u2 h2 (an6 u2 h3 u1 h4 (w64 u3) (w64 u4) (ai (ai tt (ai (arf s1) hL)) (ai (kz1 k0) trivial)))))
theorem yTI (hb:∀ k bT σ,Inv k bT σ→zVO ar ag ah a_1 az am aM bT σ (NX1 Inv k) Q2):∀ k bT σ,Inv k bT σ→yYQ ar ag ah a_1 az am aM bT σ Q2 :=
 xE (ai (wA 2) trivial) hb
theorem xIX (h1:lz σ 45 (zL ar (Int.toNat bT*3)) (qf (rcd nS nV nW))) (h2:lz σ 45 (zL ar (Int.toNat a_1*3)) (qf (rcd nU nH nI))) (h3:qm az (qf (rcd nS nV nW)::(qf (rcd nU nH nI))::am) σ (iV nJ) σ) (nx:Q2 bT σ) (u1:aM≤bT:=by omega) (u2:Ix bT ag:=by omega) (u3:Ix a_1 ag:=by omega) (u4:nJ<0:=by omega):zVO ar ag ah a_1 az am aM bT σ Nx Q2 :=
 kO 1 bT [.g,.g,.b true,.g,.g,.g,.g,.i,.l (qf (rcd nS nV nW)),.g,.g,.i,.l (qf (rcd nU nH nI)),.c (iV nJ) σ,.b true,.g,.g] (fun _ f=>ai (yD u1) (an6 u2 h1 u3 h2 h3 (zR u4) f)) nx
theorem xIW (h1:lz σ 45 (zL ar (Int.toNat bT*3)) (qf (rcd nS nV nW))) (h2:lz σ 45 (zL ar (Int.toNat a_1*3)) (qf (rcd nU nH nI))) (h3:qm az (qf (rcd nS nV nW)::(qf (rcd nU nH nI))::am) σ (iV nJ) σ) (nx:Nx (bT-1) σ) (u1:aM≤bT:=by omega) (u2:Ix bT ag:=by omega) (u3:Ix a_1 ag:=by omega) (u4:¬ nJ<0:=by omega) (u5:I6 (bT-1):=by omega):zVO ar ag ah a_1 az am aM bT σ Nx Q2 :=
 kO 0 (bT-1) [.g,.g,.b true,.g,.g,.g,.g,.i,.l (qf (rcd nS nV nW)),.g,.g,.i,.l (qf (rcd nU nH nI)),.c (iV nJ) σ,.b false,.g,.g,.g,.n (bT-1),.g] (fun _ f=>an2 (yD u1) u2 (an6 h1 u3 h2 h3 (zU u4) (w64 u5) f)) nx
theorem xIV (nx:Q2 bT σ) (u1:¬ aM≤bT:=by omega):zVO ar ag ah a_1 az am aM bT σ Nx Q2 :=
 kO 1 bT [.g,.g,.b false,.g,.g] (fun _ f=>ai (yF u1) f) nx
theorem yTE (hL:yYQ ar ag ah a_1 az am aM kB σ P2) (k2:∀ i13_2' σ',P2 i13_2' σ'→zRH ar ag ah a_1 az am aM i13_2' σ' Q):yDO ar ag ah a_1 az am kB aM σ Q :=
 sK [.lf 178 (zPC ar ag ah a_1 az am aM kB) [zRE ar ag ah a_1 az am aM P2]] (ai (ai tt (ai (arf (zPC ar ag ah a_1 az am aM kB)) hL)) (ai (kz1 k2) trivial))
theorem yTD (h1:lz σ 45 (zL ar (Int.toNat a_1*3)) (qf (rcd nXB nIC nJC))) (h2:lz σ 45 (zL ar (Int.toNat bT*3)) (qf (rcd nYB nZB nAC))) (h3:qn (evL [pz (zL ar (Int.toNat bT*3)),qf (rcd nXB nIC nJC)]) σ (.store 45 (.tmp 0) (.tmp 1))=some (undef,σK)) (h4:qn (evL [pz (zL ar (Int.toNat a_1*3)),qf (rcd nYB nZB nAC)]) σK (.store 45 (.tmp 0) (.tmp 1))=some (undef,σW)) (nx:Q (.tuple ⟨[iV bT,.bool true]⟩) σW) (u1:bT<aM:=by omega) (u2:Ix a_1 ag:=by omega) (u3:Ix bT ag:=by omega):zRH ar ag ah a_1 az am aM bT σ Q :=
 sK [.g,.g,.b true,.g,.g,.g,.g,.g,.g,.i,.l (qf (rcd nXB nIC nJC)),.g,.g,.i,.l (qf (rcd nYB nZB nAC)),.i,.e undef σK,.i,.e undef σW,.g,.g,.g] (an3 (zR u1) u2 h1 (an6 u3 h2 u3 h3 u2 h4 nx))
theorem yTH {Inv:Nat→Int→Int→St→Prop} (hb:∀ k bK aD σ,Inv k bK aD σ→yYS ar ag ah a_1 az am bK aD σ (NX2 Inv k) Q4):∀ k bK aD σ,Inv k bK aD σ→yYP ar ag ah a_1 az am bK aD σ Q4 :=
 zDP (ai (wA 4) trivial) hb
theorem yTG (hb:∀ k a9 σ,Inv k a9 σ→zVN ar ag ah a_1 az am aD a9 σ (NX1 Inv k) Q6):∀ k a9 σ,Inv k a9 σ→yYO ar ag ah a_1 az am aD a9 σ Q6 :=
 xE (ai (wA 6) trivial) hb
theorem xIT (h1:lz σ 45 (zL ar (Int.toNat a9*3)) (qf (rcd nCB nHB nPB))) (h2:lz σ 45 (zL ar (Int.toNat a_1*3)) (qf (rcd nQB nRB nSB))) (h3:qm az (qf (rcd nCB nHB nPB)::(qf (rcd nQB nRB nSB))::am) σ (iV nWB) σ) (nx:Nx (a9+1) σ) (u1:a9≤aD:=by omega) (u2:Ix a9 ag:=by omega) (u3:Ix a_1 ag:=by omega) (u4:nWB<0:=by omega) (u5:I6 (a9+1):=by omega):zVN ar ag ah a_1 az am aD a9 σ Nx Q6 :=
 kO 0 (a9+1) [.g,.g,.b true,.g,.g,.g,.g,.i,.l (qf (rcd nCB nHB nPB)),.g,.g,.i,.l (qf (rcd nQB nRB nSB)),.c (iV nWB) σ,.b true,.g,.g,.n (a9+1),.g] (fun _ f=>an2 (yD u1) u2 (an6 h1 u3 h2 h3 (zR u4) (w64 u5) f)) nx
theorem xIS (h1:lz σ 45 (zL ar (Int.toNat a9*3)) (qf (rcd nCB nHB nPB))) (h2:lz σ 45 (zL ar (Int.toNat a_1*3)) (qf (rcd nQB nRB nSB))) (h3:qm az (qf (rcd nCB nHB nPB)::(qf (rcd nQB nRB nSB))::am) σ (iV nWB) σ) (nx:Q6 a9 σ) (u1:a9≤aD:=by omega) (u2:Ix a9 ag:=by omega) (u3:Ix a_1 ag:=by omega) (u4:¬ nWB<0:=by omega):zVN ar ag ah a_1 az am aD a9 σ Nx Q6 :=
 kO 1 a9 [.g,.g,.b true,.g,.g,.g,.g,.i,.l (qf (rcd nCB nHB nPB)),.g,.g,.i,.l (qf (rcd nQB nRB nSB)),.c (iV nWB) σ,.b false,.g] (fun _ f=>ai (yD u1) (an6 u2 h1 u3 h2 h3 (zU u4) f)) nx
theorem xIR (nx:Q6 a9 σ) (u1:¬ a9≤aD:=by omega):zVN ar ag ah a_1 az am aD a9 σ Nx Q6 :=
 kO 1 a9 [.g,.g,.b false,.g,.g] (fun _ f=>ai (yF u1) f) nx
theorem xIU {Nx:Int→Int→St→Prop} {P6:Int→St→Prop} (hL:yYO ar ag ah a_1 az am aD bK σ P6) (k6:∀ i12_4' σ',P6 i12_4' σ'→yDM ar ag ah a_1 az am aD i12_4' σ' Nx Q4):yYS ar ag ah a_1 az am bK aD σ Nx Q4 :=
 zCT [.lf 178 (zPB ar ag ah a_1 az am aD bK) [zRD ar ag ah a_1 az am aD P6]] (fun g=>kd (ai (ai tt (ai (arf (zPB ar ag ah a_1 az am aD bK)) hL)) (ai (kz1 k6) trivial)))
theorem yTF (hb:∀ k bV σ,Inv k bV σ→zVM ar ag ah a_1 az am a9 bV σ (NX1 Inv k) Q8):∀ k bV σ,Inv k bV σ→yYN ar ag ah a_1 az am a9 bV σ Q8 :=
 xE (ai (wA 8) trivial) hb
theorem xIQ (h1:lz σ 45 (zL ar (Int.toNat bV*3)) (qf (rcd nBA nBD nBE))) (h2:lz σ 45 (zL ar (Int.toNat a_1*3)) (qf (rcd nBF nBG nBH))) (h3:qm az (qf (rcd nBA nBD nBE)::(qf (rcd nBF nBG nBH))::am) σ (iV nBI) σ) (nx:Q8 bV σ) (u1:a9≤bV:=by omega) (u2:Ix bV ag:=by omega) (u3:Ix a_1 ag:=by omega) (u4:nBI<0:=by omega):zVM ar ag ah a_1 az am a9 bV σ Nx Q8 :=
 kO 1 bV [.g,.g,.b true,.g,.g,.g,.g,.i,.l (qf (rcd nBA nBD nBE)),.g,.g,.i,.l (qf (rcd nBF nBG nBH)),.c (iV nBI) σ,.b true,.g,.g] (fun _ f=>ai (yD u1) (an6 u2 h1 u3 h2 h3 (zR u4) f)) nx
theorem xIP (h1:lz σ 45 (zL ar (Int.toNat bV*3)) (qf (rcd nBA nBD nBE))) (h2:lz σ 45 (zL ar (Int.toNat a_1*3)) (qf (rcd nBF nBG nBH))) (h3:qm az (qf (rcd nBA nBD nBE)::(qf (rcd nBF nBG nBH))::am) σ (iV nBI) σ) (nx:Nx (bV-1) σ) (u1:a9≤bV:=by omega) (u2:Ix bV ag:=by omega) (u3:Ix a_1 ag:=by omega) (u4:¬ nBI<0:=by omega) (u5:I6 (bV-1):=by omega):zVM ar ag ah a_1 az am a9 bV σ Nx Q8 :=
 kO 0 (bV-1) [.g,.g,.b true,.g,.g,.g,.g,.i,.l (qf (rcd nBA nBD nBE)),.g,.g,.i,.l (qf (rcd nBF nBG nBH)),.c (iV nBI) σ,.b false,.g,.g,.g,.n (bV-1),.g] (fun _ f=>an2 (yD u1) u2 (an6 h1 u3 h2 h3 (zU u4) (w64 u5) f)) nx
theorem xIO (nx:Q8 bV σ) (u1:¬ a9≤bV:=by omega):zVM ar ag ah a_1 az am a9 bV σ Nx Q8 :=
 kO 1 bV [.g,.g,.b false,.g,.g] (fun _ f=>ai (yF u1) f) nx
theorem yTA {Nx:Int→Int→St→Prop} (hL:yYN ar ag ah a_1 az am a9 aD σ P8) (k8:∀ i13_5' σ',P8 i13_5' σ'→zRG ar ag ah a_1 az am a9 i13_5' σ' Nx Q4):yDM ar ag ah a_1 az am aD a9 σ Nx Q4 :=
 sK [.lf 178 (zPA ar ag ah a_1 az am a9 aD) [zRC ar ag ah a_1 az am a9 P8]] (ai (ai tt (ai (arf (zPA ar ag ah a_1 az am a9 aD)) hL)) (ai (kz1 k8) trivial))
theorem ySZ {Nx:Int→Int→St→Prop} (nx:Q4 bV σ) (u1:bV<a9:=by omega):zRG ar ag ah a_1 az am a9 bV σ Nx Q4 :=
 sF 1 bV [.g,.g,.b true] (fun _ f=>ai (zR u1) f) nx
theorem ySY {Nx:Int→Int→St→Prop} (h1:lz σ 45 (zL ar (Int.toNat bV*3)) (qf (rcd nBj nBk nBl))) (h2:lz σ 45 (zL ar (Int.toNat a9*3)) (qf (rcd nBm nBn nBo))) (h3:qn (evL [pz (zL ar (Int.toNat a9*3)),qf (rcd nBj nBk nBl)]) σ (.store 45 (.tmp 0) (.tmp 1))=some (undef,σKB)) (h4:qn (evL [pz (zL ar (Int.toNat bV*3)),qf (rcd nBm nBn nBo)]) σKB (.store 45 (.tmp 0) (.tmp 1))=some (undef,σLB)) (nx:Nx (a9+1) (bV-1) σLB) (u1:¬ bV<a9:=by omega) (u2:Ix bV ag:=by omega) (u3:Ix a9 ag:=by omega) (u4:I6 (a9+1):=by omega) (u5:I6 (bV-1):=by omega):zRG ar ag ah a_1 az am a9 bV σ Nx Q4 :=
 sF 0 (a9+1,bV-1) [.g,.g,.b false,.g,.g,.g,.g,.g,.g,.i,.l (qf (rcd nBj nBk nBl)),.g,.g,.i,.l (qf (rcd nBm nBn nBo)),.i,.e undef σKB,.i,.e undef σLB,.g,.n (a9+1),.g,.g,.n (bV-1),.g] (fun _ f=>an5 (zU u1) u2 h1 u3 h2 (an6 u3 h3 u2 h4 (w64 u4) (w64 u5) f)) nx
theorem yTC (h1:lz σ 45 (zL ar (Int.toNat bT*3)) (qf (rcd nXB nIC nJC))) (h2:lz σ 45 (zL ar (Int.toNat aM*3)) (qf (rcd nYB nZB nAC))) (h3:qn (evL [pz (zL ar (Int.toNat aM*3)),qf (rcd nXB nIC nJC)]) σ (.store 45 (.tmp 0) (.tmp 1))=some (undef,σK)) (h4:qn (evL [pz (zL ar (Int.toNat bT*3)),qf (rcd nYB nZB nAC)]) σK (.store 45 (.tmp 0) (.tmp 1))=some (undef,σW)) (hL:yYP ar ag ah a_1 az am (aM+1) (bT-1) σW P4) (k4:∀ i13_3' σ',P4 i13_3' σ'→yDN ar ag ah a_1 az am i13_3' σ' Q) (u1:¬ bT<aM:=by omega) (u2:Ix bT ag:=by omega) (u3:Ix aM ag:=by omega) (u4:I6 (aM+1):=by omega) (u5:I6 (bT-1):=by omega):zRH ar ag ah a_1 az am aM bT σ Q :=
 let s1:=zVJ ar ag ah a_1 az am (aM+1) (bT-1);sK [.g,.g,.b false,.g,.g,.g,.g,.g,.g,.i,.l (qf (rcd nXB nIC nJC)),.g,.g,.i,.l (qf (rcd nYB nZB nAC)),.i,.e undef σK,.i,.e undef σW,.g,.n (aM+1),.g,.g,.n (bT-1),.g,.lf 178 s1 [zFJ ar ag ah a_1 az am P4]] (an5 (zU u1) u2 h1 u3 h2 (an6 u3 h3 u2 h4 (w64 u4) (w64 u5) (ai (ai tt (ai (arf s1) hL)) (ai (kz1 k4) trivial))))
theorem yTB (h1:lz σ 45 (zL ar (Int.toNat a_1*3)) (qf (rcd nBp nBq nBr))) (h2:lz σ 45 (zL ar (Int.toNat aD*3)) (qf (rcd nBs nBt nBu))) (h3:qn (evL [pz (zL ar (Int.toNat aD*3)),qf (rcd nBp nBq nBr)]) σ (.store 45 (.tmp 0) (.tmp 1))=some (undef,σMB)) (h4:qn (evL [pz (zL ar (Int.toNat a_1*3)),qf (rcd nBs nBt nBu)]) σMB (.store 45 (.tmp 0) (.tmp 1))=some (undef,σNB)) (nx:Q (.tuple ⟨[iV aD,.bool false]⟩) σNB) (u1:Ix a_1 ag:=by omega) (u2:Ix aD ag:=by omega):yDN ar ag ah a_1 az am aD σ Q :=
 sK [.g,.g,.g,.g,.g,.g,.i,.l (qf (rcd nBp nBq nBr)),.g,.g,.i,.l (qf (rcd nBs nBt nBu)),.i,.e undef σMB,.i,.e undef σNB,.g,.g,.g] (an2 u1 h1 (an6 u2 h2 u2 h3 u1 h4 nx))
theorem yMG {Inv:Nat→Int→Int→St→Prop} (hb:∀ k bU aB σ,Inv k bU aB σ→zYA data ag ah a_1 b az am bU aB σ (NX2 Inv k) Q0 Qr):∀ k bU aB σ,Inv k bU aB σ→yML data ag ah a_1 b az am bU aB σ Q0 Qr :=
 zDP (ai (wA 0) (ai zAN trivial)) hb
theorem yMF (hb:∀ k aR σ,Inv k aR σ→zPH data ag ah a_1 b az am aB aR σ (NX1 Inv k) Q2):∀ k aR σ,Inv k aR σ→yMK data ag ah a_1 b az am aB aR σ Q2 :=
 xE (ai (wA 2) trivial) hb
theorem xDB (h1:lz σ 45 (zL ar (Int.toNat aR*3)) (qf (rcd nS nV nW))) (h2:lz σ 45 (zL ar (Int.toNat (aR-1)*3)) (qf (rcd nU nH nI))) (h3:qm az (qf (rcd nS nV nW)::(qf (rcd nU nH nI))::am) σ (iV nJ) σ) (nx:Q2 aR σ) (u1:aR<b:=by omega) (u2:Ix aR ag:=by omega) (u3:I6 (aR-1):=by omega) (u4:Ix (aR-1) ag:=by omega) (u5:nJ<0:=by omega):zPH (some ar) ag ah a_1 b az am aB aR σ Nx Q2 :=
 kO 1 aR [.g,.g,.b true,.g,.g,.g,.g,.i,.l (qf (rcd nS nV nW)),.g,.g,.n (aR-1),.i,.l (qf (rcd nU nH nI)),.c (iV nJ) σ,.b true,.g,.g] (fun _ f=>an2 (zR u1) u2 (an6 h1 (w64 u3) u4 h2 h3 (zR u5) f)) nx
theorem xDA (h1:lz σ 45 (zL ar (Int.toNat aR*3)) (qf (rcd nS nV nW))) (h2:lz σ 45 (zL ar (Int.toNat (aR-1)*3)) (qf (rcd nU nH nI))) (h3:qm az (qf (rcd nS nV nW)::(qf (rcd nU nH nI))::am) σ (iV nJ) σ) (nx:Nx (aR+1) σ) (u1:aR<b:=by omega) (u2:Ix aR ag:=by omega) (u3:I6 (aR-1):=by omega) (u4:Ix (aR-1) ag:=by omega) (u5:¬ nJ<0:=by omega) (u6:I6 (aR+1):=by omega):zPH (some ar) ag ah a_1 b az am aB aR σ Nx Q2 :=
 kO 0 (aR+1) [.g,.g,.b true,.g,.g,.g,.g,.i,.l (qf (rcd nS nV nW)),.g,.g,.n (aR-1),.i,.l (qf (rcd nU nH nI)),.c (iV nJ) σ,.b false,.g,.g,.g,.n (aR+1),.g] (fun _ f=>an3 (zR u1) u2 h1 (an6 (w64 u3) u4 h2 h3 (zU u5) (w64 u6) f)) nx
theorem xCZ (nx:Q2 aR σ) (u1:¬ aR<b:=by omega):zPH data ag ah a_1 b az am aB aR σ Nx Q2 :=
 kO 1 aR [.g,.g,.b false,.g,.g] (fun _ f=>ai (zU u1) f) nx
theorem xDD {Nx:Int→Int→St→Prop} (hL:yMK data ag ah a_1 b az am aB bU σ P2) (k2:∀ i9_2' σ',P2 i9_2' σ'→zBG data ag ah a_1 b az am aB i9_2' σ' Nx Q0 Qr) (u1:aB<5:=by omega):zYA data ag ah a_1 b az am bU aB σ Nx Q0 Qr :=
 zCT [.g,.b true,.lf 141 (zJE data ag ah a_1 b az am aB bU) [zNC data ag ah a_1 b az am aB P2]] (fun g=>kd (ai (zR u1) (ai (ai tt (ai (arf (zJE data ag ah a_1 b az am aB bU)) hL)) (ai (kz1 k2) trivial))))
theorem xDC {Nx:Int→Int→St→Prop} (nx:Q0 σ) (u1:¬ aB<5:=by omega):zYA data ag ah a_1 b az am bU aB σ Nx Q0 Qr :=
 kO 1 () [.g,.b false] (fun _ f=>ai (zU u1) f) nx
theorem yLZ {Nx:Int→Int→St→Prop} (nx:Qr true σ) (u1:aR=b:=by omega):zBG data ag ah a_1 b az am aB aR σ Nx Q0 Qr :=
 sF 2 true [.g,.g,.b true,.g] (fun _ f=>ai (xL u1) f) nx
theorem yLY {Nx:Int→Int→St→Prop} (nx:Qr false σ) (u1:¬ aR=b:=by omega) (u2:I6 (b-a_1):=by omega) (u3:(b-a_1)<50:=by omega):zBG data ag ah a_1 b az am aB aR σ Nx Q0 Qr :=
 sF 2 false [.g,.g,.b false,.g,.g,.n (b-a_1),.b true,.g] (fun _ f=>an3 (xG u1) (w64 u2) (zR u3) f) nx
theorem yME {Q4:St→Prop} (hb:∀ k dz σ,Inv k dz σ→zPG ar ag ah a_1 b az am aR aB dz σ (NX1 Inv k) Q4):∀ k dz σ,Inv k dz σ→zXX ar ag ah a_1 b az am aR aB dz σ Q4 :=
 xE (ai (wA 4) trivial) hb
theorem xCY {Q4:St→Prop}:let y0:=rcd nNB nOB nGB;let y1:=rcd nT nMB nFB;let y2:=zL ar (Int.toNat (dz-1)*3);let y3:=zL ar (Int.toNat dz*3);∀ (h1:lz σ 45 y3 (qf y1)) (h2:lz σ 45 y2 (qf y0)) (h3:qm az (qf y1::(qf y0)::am) σ (iV nJB) σ) (h4:qn (evL [pz y3,qf y0]) σ (.store 45 (.tmp 0) (.tmp 1))=some (undef,σOB)) (h5:qn (evL [pz y2,qf y1]) σOB (.store 45 (.tmp 0) (.tmp 1))=some (undef,σPB)) (nx:Nx (dz-1) σPB) (u1:1≤dz:=by omega) (u2:Ix dz ag:=by omega) (u3:I6 (dz-1):=by omega) (u4:Ix (dz-1) ag:=by omega) (u5:nJB<0:=by omega),zPG ar ag ah a_1 b az am aR aB dz σ Nx Q4 :=
 let s1:=dz-1;let y0:=rcd nNB nOB nGB;let y1:=rcd nT nMB nFB;fun h1 h2 h3 h4 h5 nx u1 u2 u3 u4 u5=>kO 0 s1 [.g,.b true,.g,.g,.g,.i,.l (qf y1),.g,.g,.n s1,.i,.l (qf y0),.c (iV nJB) σ,.b true,.g,.g,.g,.g,.g,.n s1,.g,.g,.n s1,.i,.l (qf y0),.g,.g,.i,.l (qf y1),.i,.e undef σOB,.i,.e undef σPB,.g,.n s1,.g] (fun _ f=>ai (yD u1) (an6 u2 h1 (w64 u3) u4 h2 h3 (an6 (zR u5) (w64 u3) (w64 u3) u4 h2 u2 (an6 h1 u2 h4 u4 h5 (w64 u3) f)))) nx
theorem xCX {Q4:St→Prop} (h1:lz σ 45 (zL ar (Int.toNat dz*3)) (qf (rcd nT nMB nFB))) (h2:lz σ 45 (zL ar (Int.toNat (dz-1)*3)) (qf (rcd nNB nOB nGB))) (h3:qm az (qf (rcd nT nMB nFB)::(qf (rcd nNB nOB nGB))::am) σ (iV nJB) σ) (nx:Q4 σ) (u1:1≤dz:=by omega) (u2:Ix dz ag:=by omega) (u3:I6 (dz-1):=by omega) (u4:Ix (dz-1) ag:=by omega) (u5:¬ nJB<0:=by omega):zPG ar ag ah a_1 b az am aR aB dz σ Nx Q4 :=
 kO 1 () [.g,.b true,.g,.g,.g,.i,.l (qf (rcd nT nMB nFB)),.g,.g,.n (dz-1),.i,.l (qf (rcd nNB nOB nGB)),.c (iV nJB) σ,.b false,.g] (fun _ f=>an2 (yD u1) u2 (an6 h1 (w64 u3) u4 h2 h3 (zU u5) f)) nx
theorem xCW {Q4:St→Prop} (nx:Q4 σ) (u1:¬ 1≤dz:=by omega):zPG ar ag ah a_1 b az am aR aB dz σ Nx Q4 :=
 kO 1 () [.g,.b false] (fun _ f=>ai (yF u1) f) nx
theorem yLX {Nx:Int→Int→St→Prop} {P4:St→Prop} (h1:lz σ 45 (zL ar (Int.toNat (aR-1)*3)) (qf (rcd nKB nIB nBC))) (h2:lz σ 45 (zL ar (Int.toNat aR*3)) (qf (rcd nCC nDC nEC))) (h3:qn (evL [pz (zL ar (Int.toNat aR*3)),qf (rcd nKB nIB nBC)]) σ (.store 45 (.tmp 0) (.tmp 1))=some (undef,σO)) (h4:qn (evL [pz (zL ar (Int.toNat (aR-1)*3)),qf (rcd nCC nDC nEC)]) σO (.store 45 (.tmp 0) (.tmp 1))=some (undef,σP)) (hL:zXX ar ag ah a_1 b az am aR aB (aR-1) σP P4) (k4:∀ σ',P4 σ'→zNE (some ar) ar ag ah a_1 b az am aR aB σ' Nx Q0 Qr) (u1:¬ aR=b:=by omega) (u2:I6 (b-a_1):=by omega) (u3:¬ (b-a_1)<50:=by omega) (u4:I6 (aR-1):=by omega) (u5:Ix (aR-1) ag:=by omega) (u6:Ix aR ag:=by omega) (u7:I6 (aR-a_1):=by omega) (u8:2≤(aR-a_1):=by omega):zBG (some ar) ag ah a_1 b az am aB aR σ Nx Q0 Qr :=
 let s1:=zPD ar ag ah a_1 b az am aR aB (aR-1);sK [.g,.g,.b false,.g,.g,.n (b-a_1),.b false,.g,.g,.g,.g,.n (aR-1),.g,.g,.n (aR-1),.i,.l (qf (rcd nKB nIB nBC)),.g,.g,.i,.l (qf (rcd nCC nDC nEC)),.i,.e undef σO,.i,.e undef σP,.g,.g,.n (aR-a_1),.b true,.g,.n (aR-1),.g,.lf 141 s1 [zNB ar ag ah a_1 b az am aR aB P4]] (an4 (xG u1) (w64 u2) (zU u3) (w64 u4) (an6 (w64 u4) u5 h1 u6 h2 u6 (an6 h3 u5 h4 (w64 u7) (yD u8) (w64 u4) (ai (ai tt (ai (arf s1) hL)) (ai (kz0 k4) trivial)))))
theorem yMD {Q6:St→Prop} (hb:∀ k a9 σ,Inv k a9 σ→zPF ar ag ah a_1 b az am aR aB a9 σ (NX1 Inv k) Q6):∀ k a9 σ,Inv k a9 σ→zJG ar ag ah a_1 b az am aR aB a9 σ Q6 :=
 xE (ai (wA 6) trivial) hb
theorem xCV {Q6:St→Prop}:let y0:=rcd nCB nHB nPB;let y1:=rcd nQB nRB nSB;let y2:=zL ar (Int.toNat (a9-1)*3);let y3:=zL ar (Int.toNat a9*3);∀ (h1:lz σ 45 y3 (qf y0)) (h2:lz σ 45 y2 (qf y1)) (h3:qm az (qf y0::(qf y1)::am) σ (iV nWB) σ) (h4:qn (evL [pz y3,qf y1]) σ (.store 45 (.tmp 0) (.tmp 1))=some (undef,σQB)) (h5:qn (evL [pz y2,qf y0]) σQB (.store 45 (.tmp 0) (.tmp 1))=some (undef,σRB)) (nx:Nx (a9+1) σRB) (u1:a9<b:=by omega) (u2:Ix a9 ag:=by omega) (u3:I6 (a9-1):=by omega) (u4:Ix (a9-1) ag:=by omega) (u5:nWB<0:=by omega) (u6:I6 (a9+1):=by omega),zPF ar ag ah a_1 b az am aR aB a9 σ Nx Q6 :=
 let s1:=a9-1;let y0:=rcd nCB nHB nPB;let y1:=rcd nQB nRB nSB;fun h1 h2 h3 h4 h5 nx u1 u2 u3 u4 u5 u6=>kO 0 (a9+1) [.g,.g,.b true,.g,.g,.g,.i,.l (qf y0),.g,.g,.n s1,.i,.l (qf y1),.c (iV nWB) σ,.b true,.g,.g,.g,.g,.g,.n s1,.g,.g,.n s1,.i,.l (qf y1),.g,.g,.i,.l (qf y0),.i,.e undef σQB,.i,.e undef σRB,.g,.n (a9+1),.g] (fun _ f=>ai (zR u1) (an6 u2 h1 (w64 u3) u4 h2 h3 (an6 (zR u5) (w64 u3) (w64 u3) u4 h2 u2 (an6 h1 u2 h4 u4 h5 (w64 u6) f)))) nx
theorem xCU {Q6:St→Prop} (h1:lz σ 45 (zL ar (Int.toNat a9*3)) (qf (rcd nCB nHB nPB))) (h2:lz σ 45 (zL ar (Int.toNat (a9-1)*3)) (qf (rcd nQB nRB nSB))) (h3:qm az (qf (rcd nCB nHB nPB)::(qf (rcd nQB nRB nSB))::am) σ (iV nWB) σ) (nx:Q6 σ) (u1:a9<b:=by omega) (u2:Ix a9 ag:=by omega) (u3:I6 (a9-1):=by omega) (u4:Ix (a9-1) ag:=by omega) (u5:¬ nWB<0:=by omega):zPF ar ag ah a_1 b az am aR aB a9 σ Nx Q6 :=
 kO 1 () [.g,.g,.b true,.g,.g,.g,.i,.l (qf (rcd nCB nHB nPB)),.g,.g,.n (a9-1),.i,.l (qf (rcd nQB nRB nSB)),.c (iV nWB) σ,.b false,.g] (fun _ f=>an2 (zR u1) u2 (an6 h1 (w64 u3) u4 h2 h3 (zU u5) f)) nx
theorem xCT {Q6:St→Prop} (nx:Q6 σ) (u1:¬ a9<b:=by omega):zPF ar ag ah a_1 b az am aR aB a9 σ Nx Q6 :=
 kO 1 () [.g,.g,.b false] (fun _ f=>ai (zU u1) f) nx
theorem yLW {Nx:Int→Int→St→Prop} (h1:lz σ 45 (zL ar (Int.toNat (aR-1)*3)) (qf (rcd nKB nIB nBC))) (h2:lz σ 45 (zL ar (Int.toNat aR*3)) (qf (rcd nCC nDC nEC))) (h3:qn (evL [pz (zL ar (Int.toNat aR*3)),qf (rcd nKB nIB nBC)]) σ (.store 45 (.tmp 0) (.tmp 1))=some (undef,σO)) (h4:qn (evL [pz (zL ar (Int.toNat (aR-1)*3)),qf (rcd nCC nDC nEC)]) σO (.store 45 (.tmp 0) (.tmp 1))=some (undef,σP)) (hL:zJG ar ag ah a_1 b az am aR aB (aR+1) σP P6) (k6:∀ σ',P6 σ'→zND (some ar) ar ag ah a_1 b az am aR aB σ' Nx Q0 Qr) (u1:¬ aR=b:=by omega) (u2:I6 (b-a_1):=by omega) (u3:¬ (b-a_1)<50:=by omega) (u4:I6 (aR-1):=by omega) (u5:Ix (aR-1) ag:=by omega) (u6:Ix aR ag:=by omega) (u7:I6 (aR-a_1):=by omega) (u8:¬ 2≤(aR-a_1):=by omega) (u9:I6 (b-aR):=by omega) (u10:2≤(b-aR):=by omega) (u11:I6 (aR+1):=by omega):zBG (some ar) ag ah a_1 b az am aB aR σ Nx Q0 Qr :=
 let s1:=zJD ar ag ah a_1 b az am aR aB (aR+1);sK [.g,.g,.b false,.g,.g,.n (b-a_1),.b false,.g,.g,.g,.g,.n (aR-1),.g,.g,.n (aR-1),.i,.l (qf (rcd nKB nIB nBC)),.g,.g,.i,.l (qf (rcd nCC nDC nEC)),.i,.e undef σO,.i,.e undef σP,.g,.g,.n (aR-a_1),.b false,.g,.g,.n (b-aR),.b true,.g,.n (aR+1),.g,.lf 141 s1 [zGO ar ag ah a_1 b az am aR aB P6]] (an6 (xG u1) (w64 u2) (zU u3) (w64 u4) (w64 u4) u5 (an6 h1 u6 h2 u6 h3 u5 (an6 h4 (w64 u7) (yF u8) (w64 u9) (yD u10) (w64 u11) (ai (ai tt (ai (arf s1) hL)) (ai (kz0 k6) trivial)))))
theorem yLV {Nx:Int→Int→St→Prop} (h1:lz σ 45 (zL ar (Int.toNat (aR-1)*3)) (qf (rcd nKB nIB nBC))) (h2:lz σ 45 (zL ar (Int.toNat aR*3)) (qf (rcd nCC nDC nEC))) (h3:qn (evL [pz (zL ar (Int.toNat aR*3)),qf (rcd nKB nIB nBC)]) σ (.store 45 (.tmp 0) (.tmp 1))=some (undef,σO)) (h4:qn (evL [pz (zL ar (Int.toNat (aR-1)*3)),qf (rcd nCC nDC nEC)]) σO (.store 45 (.tmp 0) (.tmp 1))=some (undef,σP)) (nx:Nx aR (aB+1) σP) (u1:¬ aR=b:=by omega) (u2:I6 (b-a_1):=by omega) (u3:¬ (b-a_1)<50:=by omega) (u4:I6 (aR-1):=by omega) (u5:Ix (aR-1) ag:=by omega) (u6:Ix aR ag:=by omega) (u7:I6 (aR-a_1):=by omega) (u8:¬ 2≤(aR-a_1):=by omega) (u9:I6 (b-aR):=by omega) (u10:¬ 2≤(b-aR):=by omega) (u11:I6 (aB+1):=by omega):zBG (some ar) ag ah a_1 b az am aB aR σ Nx Q0 Qr :=
 sF 0 (aR,aB+1) [.g,.g,.b false,.g,.g,.n (b-a_1),.b false,.g,.g,.g,.g,.n (aR-1),.g,.g,.n (aR-1),.i,.l (qf (rcd nKB nIB nBC)),.g,.g,.i,.l (qf (rcd nCC nDC nEC)),.i,.e undef σO,.i,.e undef σP,.g,.g,.n (aR-a_1),.b false,.g,.g,.n (b-aR),.b false,.g,.n (aB+1),.g] (fun _ f=>an6 (xG u1) (w64 u2) (zU u3) (w64 u4) (w64 u4) u5 (an6 h1 u6 h2 u6 h3 u5 (an6 h4 (w64 u7) (yF u8) (w64 u9) (yF u10) (w64 u11) f))) nx
theorem yLU {Nx:Int→Int→St→Prop} (hL:zJG ar ag ah a_1 b az am aR aB (aR+1) σ P6) (k6:∀ σ',P6 σ'→zND data ar ag ah a_1 b az am aR aB σ' Nx Q0 Qr) (u1:I6 (b-aR):=by omega) (u2:2≤(b-aR):=by omega) (u3:I6 (aR+1):=by omega):zNE data ar ag ah a_1 b az am aR aB σ Nx Q0 Qr :=
 let s1:=zJD ar ag ah a_1 b az am aR aB (aR+1);sK [.g,.g,.n (b-aR),.b true,.g,.n (aR+1),.g,.lf 141 s1 [zGO ar ag ah a_1 b az am aR aB P6]] (an3 (w64 u1) (yD u2) (w64 u3) (ai (ai tt (ai (arf s1) hL)) (ai (kz0 k6) trivial)))
theorem yLT {Nx:Int→Int→St→Prop} (nx:Nx aR (aB+1) σ) (u1:I6 (b-aR):=by omega) (u2:¬ 2≤(b-aR):=by omega) (u3:I6 (aB+1):=by omega):zNE (some ar) ar ag ah a_1 b az am aR aB σ Nx Q0 Qr :=
 sF 0 (aR,aB+1) [.g,.g,.n (b-aR),.b false,.g,.n (aB+1),.g] (fun _ f=>an3 (w64 u1) (yF u2) (w64 u3) f) nx
theorem zTP {Nx:Int→Int→St→Prop} (nx:Nx aR (aB+1) σ) (u1:I6 (aB+1):=by omega):zND (some ar) ar ag ah a_1 b az am aR aB σ Nx Q0 Qr :=
 sF 0 (aR,aB+1) [.g,.n (aB+1),.g] (fun _ f=>ai (w64 u1) f) nx
theorem xJF {Pr:Bool→St→Prop} (hL:yML data ag ah a_1 b az am (a_1+1) 0 σ P0 Pr) (k0:∀ σ',P0 σ'→zXZ data ag ah a_1 b az am σ' Q) (kr:∀ t8_1' σ',Pr t8_1' σ'→zXY data ag ah a_1 b az am t8_1' σ' Q) (u1:I6 (a_1+1):=by omega):qg 111 [.slice data ag ah,iV a_1,iV b,.func (.func az) ⟨[]⟩ ⟨am⟩] σ Q :=
 let s1:=zPE data ag ah a_1 b az am (a_1+1) 0;zG [.g,.g,.n (a_1+1),.g,.g,.lf 141 s1 [zBF data ag ah a_1 b az am P0,zBE data ag ah a_1 b az am Pr]] (kd (ai (w64 u1) (ai (ai tt (ai (arf s1) hL)) (ai (kz0 k0) (ai (kz1 kr) trivial)))))
theorem yMB (nx:Q (.bool false) σ):zXZ data ag ah a_1 b az am σ Q :=
 sK [.g] nx
theorem yMA (nx:Q (.bool t8_1) σ):zXY data ag ah a_1 b az am t8_1 σ Q :=
 sK [] nx
end
end Go.Proofs.YtgfiniccfpfplaaGreat
