import Derived.Test.YtgfiniccfpfplaaGreatXA
import Derived.Test.YtgfiniccfpfplaaGreatPF
import Derived.Test.YtgfiniccfpfplaaGreatTy
import Derived.Sort.AssemblyPlain
set_option linter.unusedVariables false
set_option linter.unusedSimpArgs false
set_option maxRecDepth 20000
namespace Go.Proofs.YtgfiniccfpfplaaGreat
open Go Go.Lay
open Tryz renaming prog -> Pg
section
variable {Z:St} {p:Option Addr} {xs:List Int} {n lo hi:Int} {i:Nat}
theorem zAU:AppT Pg 26 26 3 1:=zMV (by kernel_rfl)
theorem vY (x:Int):zFL Pg 3 1 (yA x):=.inl ⟨zU,rfl,rfl⟩
abbrev yC (Z:St) (p:Option Addr) (l:Nat) (xs:List Int):Prop:=SlV Pg Z 3 1 p l (xs.map yA)
theorem yC.len {l:Nat} (h:yC Z p l xs):xs.length=l:=by have:=h.2.1;simpa using this
theorem xZ {α:Type} {t n len:Nat} {xs:List α} {f:α->Value} (h:SlV Pg Z t n p len (xs.map f)) (hi:i<len):∃ a,p=some a/\∃ x,xs[i]?=some x/\zB Pg Z t (zJ a (Int.toNat (i:Int)*n))=some (f x):=by
 obtain ⟨a,rfl,_⟩:=h.some hi;have hl:i<xs.length:=by have:=h.2.1;simp at this;omega
 exact ⟨a,rfl,xs[i],by simp,h.at rfl (by simp [hl])⟩
abbrev uK (d:Dty):Value:=.agg ⟨zG d.day d.on d.lo d.hi d.route⟩
abbrev yDO (Z:St) (t:Nat) (p:Option Addr) (l:Nat) (xs:List Dty):Prop:=SlV Pg Z t 5 p l (xs.map uK)
def zWY (Z:St) (v:Value) (x:Drv):Prop:=∃ p l c q m d r n e,v=.agg ⟨zN p l c q m d r n e x.off x.row x.used⟩/\yC Z p l x.J/\yC Z q m x.qa/\yC Z r n x.qb
def zWQ (Z:St) (t:Nat) (p:Option Addr) (l:Nat) (xs:List Drv):Prop:=∃ vs:List Value,SlV Pg Z t 6 p l vs/\xs.length=l/\∀ (i:Nat) (x:Drv),xs[i]?=some x->∃ v,vs[i]?=some v/\zWY Z v x
section
variable {Z Z':St} {td tv:Nat} {p q:Option Addr} {l m c d:Nat} {w:Wk}
theorem zWY.le {v:Value} {x:Drv} (h:zWY Z v x) (k:Le Z Z'):zWY Z' v x:=by
 obtain ⟨p,l,c,q,m,d,r,n,e,h1,h2,h3,h4⟩:=h;exact ⟨p,l,c,q,m,d,r,n,e,h1,h2.le k,h3.le k,h4.le k⟩
theorem zWQ.le {xs:List Drv} (h:zWQ Z tv p l xs) (k:Le Z Z'):zWQ Z' tv p l xs:=by
 obtain ⟨vs,h1,h2,h3⟩:=h;exact ⟨vs,h1.le k,h2,fun i x hi=>by obtain ⟨v,g1,g2⟩:=h3 i x hi;exact ⟨v,g1,g2.le k⟩⟩
structure WkP (Z:St) (td tv:Nat) (w:Wk) (p:Option Addr) (l:Nat) (q:Option Addr) (m:Nat):Prop where
 dty:yDO Z td p l w.N
 drv:zWQ Z tv q m w.L
theorem WkP.le (h:WkP Z td tv w p l q m) (k:Le Z Z'):WkP Z' td tv w p l q m:=⟨h.dty.le k,h.drv.le k⟩
theorem WkP.len (h:WkP Z td tv w p l q m):w.N.length=l/\w.L.length=m:=by
 have h1:=h.dty.2.1;exact ⟨by simpa using h1,h.drv.choose_spec.2.1⟩
theorem yRK {α:Type} {F:α->Value} {n k:Nat} {x:α} {v:Value} (hn:∀ y,(F y).cells.toList.length=n) (hk:k<n) (hv:(F x).cells.toList[k]?=some v):∀ {xs:List α} {i:Nat},xs[i]?=some x->(wD (xs.map F))[i*n+k]?=some v
 | [],i,h=>by simp at h
 | y::ys,0,h=>by
  have:y=x:=by simpa using h
  subst this;have hl:=hn y;simp only [wD,List.map_cons,List.flatMap_cons,Nat.zero_mul,Nat.zero_add];rw [List.getElem?_append_left (by omega)];exact hv
 | y::ys,i+1,h=>by
  have ih:=yRK hn hk hv (xs:=ys) (i:=i) (by simpa using h);have hl:=hn y;have e:(i+1)*n+k=(F y).cells.toList.length+(i*n+k):=by rw [hl,Nat.add_mul,Nat.one_mul];omega
  simp only [wD,List.map_cons,List.flatMap_cons] at ih ⊢;rw [e,List.getElem?_append_right (by omega),Nat.add_sub_cancel_left];exact ih
theorem yHX {n k:Nat} {x v:Value} (hk:k<n) (hv:x.cells.toList[k]?=some v):∀ {vs:List Value} {i:Nat},(∀ y∈vs,y.cells.toList.length=n)->vs[i]?=some x->(wD vs)[i*n+k]?=some v
 | [],i,_,h=>by simp at h
 | y::ys,0,hn,h=>by
  have:y=x:=by simpa using h
  subst this;have hl:=hn y List.mem_cons_self;simp only [wD,List.flatMap_cons,Nat.zero_mul,Nat.zero_add];rw [List.getElem?_append_left (by omega)];exact hv
 | y::ys,i+1,hn,h=>by
  have ih:=yHX hk hv (vs:=ys) (i:=i) (fun z hz=>hn z (List.mem_cons_of_mem _ hz)) (by simpa using h);have hl:=hn y List.mem_cons_self;have e:(i+1)*n+k=y.cells.toList.length+(i*n+k):=by rw [hl,Nat.add_mul,Nat.one_mul];omega
  simp only [wD,List.flatMap_cons] at ih ⊢;rw [e,List.getElem?_append_right (by omega),Nat.add_sub_cancel_left];exact ih
theorem WkP.dld (h:WkP Z td tv w p l q m) {i k:Nat} {n:Int} (hi:i<l) (hk:k<5) (hv:[(dtQ w i).day,(dtQ w i).on,(dtQ w i).lo,(dtQ w i).hi,(dtQ w i).route][k]?=some n):∃ a,p=some a/\zB Pg Z 3 (zJ a (Int.toNat (i:Int)*5+k))=some (yA n):=by
 obtain ⟨a,rfl,hr⟩:=h.dty.some hi;have hl:=h.len.1;have hx:w.N[i]?=some (dtQ w i):=by
  unfold dtQ;rw [List.getD_eq_getElem?_getD,List.getElem?_eq_getElem (by omega)];rfl
 refine ⟨a,rfl, ?_⟩
 rw [Int.toNat_natCast];refine hr.load1 zU ?_
 refine yRK (F:=uK) (fun _=>rfl) hk ?_ hx;match k,hk with
 | 0,_=>exact congrArg (Option.map yA) hv
 | 1,_=>exact congrArg (Option.map yA) hv
 | 2,_=>exact congrArg (Option.map yA) hv
 | 3,_=>exact congrArg (Option.map yA) hv
 | 4,_=>exact congrArg (Option.map yA) hv
theorem WkP.vld (h:WkP Z td tv w p l q m) (ht:wE Pg tv=some true) (hs:yS Pg tv=some 6) {i:Nat} (hi:i<m):∃ a,q=some a/\∃ p l c r n d s j e,zB Pg Z tv (zJ a (Int.toNat (i:Int)*6))=some (.agg ⟨zN p l c r n d s j e (drQ w i).off (drQ w i).row (drQ w i).used⟩) /\
  yC Z p l (drQ w i).J/\yC Z r n (drQ w i).qa/\yC Z s j (drQ w i).qb /\
  ∀ (k:Nat) (v:Value),(zN p l c r n d s j e (drQ w i).off (drQ w i).row (drQ w i).used)[k]?=some v->∀ t,wE Pg t=some false->zB Pg Z t (zJ a (Int.toNat (i:Int)*6+k))=some v:=by
 obtain ⟨vs,h1,h2,h3⟩:=h.drv;obtain ⟨a,rfl,hr⟩:=h1.some hi;have hx:w.L[i]?=some (drQ w i):=by
  unfold drQ;rw [List.getD_eq_getElem?_getD,List.getElem?_eq_getElem (by omega)];rfl
 obtain ⟨v,g1,p,l,c,r,n,d,s,j,e,rfl,g2,g3,g4⟩:=h3 i _ hx;refine ⟨a,rfl,p,l,c,r,n,d,s,j,e,h1.at rfl g1,g2,g3,g4, ?_⟩
 intro k v hk t htt;rw [Int.toNat_natCast];refine hr.load1 htt ?_
 have hk6:k<6:=by
  rcases Nat.lt_or_ge k 6 with h | h
  ·exact h
  ·rw [List.getElem?_eq_none (by simpa using h)] at hk;cases hk
 exact yHX hk6 (by exact hk) (fun y hy=>(h1.2.2 y hy).len) g1
theorem zFS:zD Pg 47 [iV n,iV lo,iV hi] Z (.bool (inB n lo hi)) Z:=by
 by_cases h1:lo<=n <;> by_cases h2:n<=hi
 ·exact (xES ⟨by simp [inB,h1,h2],Nat.le_refl _⟩).pure
 ·exact (xER ⟨by simp [inB,h1,h2],Nat.le_refl _⟩).pure
 ·exact (yEY ⟨by simp [inB,h1],Nat.le_refl _⟩).pure
 ·exact (yEY ⟨by simp [inB,h1],Nat.le_refl _⟩).pure
theorem xMZ:zD Pg 33 [iV n,iV lo,iV hi] Z (.bool (inB n lo hi)) Z:=by
 by_cases h1:lo<=n <;> by_cases h2:n<=hi
 ·exact (xZZ ⟨by simp [inB,h1,h2],Nat.le_refl _⟩).pure
 ·exact (xZY ⟨by simp [inB,h1,h2],Nat.le_refl _⟩).pure
 ·exact (xMY ⟨by simp [inB,h1],Nat.le_refl _⟩).pure
 ·exact (xMY ⟨by simp [inB,h1],Nat.le_refl _⟩).pure
theorem wDT (h:yC Z p l xs) (hl:l<=1073741824):zD Pg 43 [.slice p l c,iV n] Z (.bool (xs.contains n)) Z:=by
 have h1:=h.re;have e1:=h.len;refine (xVA (yVY (Inv:=fun k i τ=>τ=Z.re/\∃ j:Nat,i=j/\j+k=l/\n ∉ xs.take j) (Qr:=fun b τ=>τ=Z.re/\b=true/\n∈xs) (Q0:=fun τ=>τ=Z.re/\n ∉ xs) ?_ l 0 Z.re ⟨rfl,0,rfl,by omega,by simp⟩) ?_ ?_).pure
 ·rintro k i τ ⟨rfl,j,rfl,hk,he⟩;by_cases hi:j<l
  ·obtain ⟨a,rfl,x,hx,l1⟩:=xZ h1 hi;by_cases hxy:x=n
   ·exact xNC l1 ⟨rfl,rfl,hxy ▸ List.mem_of_getElem? hx⟩
   ·exact xNB l1 ⟨k-1,by omega,rfl,j+1,by omega,by omega,by rw [wF hx,List.mem_append];simp;exact ⟨he,fun e=>hxy e.symm⟩⟩
  ·rw [List.take_of_length_le (by omega)] at he;exact xNA ⟨rfl,he⟩
 ·rintro b τ ⟨rfl,rfl,hn⟩;exact yVW ⟨by simp [hn],Nat.le_refl _⟩
 ·rintro τ ⟨rfl,hn⟩;exact yVX ⟨by simp [hn],Nat.le_refl _⟩
def wM (xs:List Int) (lo hi:Int):Bool:=(List.range xs.length).all fun i=>inB (xs.getD i 0) lo hi && (i == 0 || decide (xs.getD (i-1) 0<xs.getD i 0))
theorem yN {x:Int} (h:xs[i]?=some x):xs.getD i 0=x:=by rw [List.getD_eq_getElem?_getD,h];rfl
theorem zBL {f:Nat->Bool} {n:Nat}:(List.range n).all f=true↔∀ i,i<n->f i=true:=by simp
theorem zZK (h:yC Z p l xs) (hl:l<=1073741824):zD Pg 42 [.slice p l c,iV lo,iV hi] Z (.bool (wM xs lo hi)) Z:=by
 have h1:=h.re;have e1:=h.len;have no:∀ j,j<l->(inB (xs.getD j 0) lo hi && (j == 0 || decide (xs.getD (j-1) 0<xs.getD j 0)))=false->wM xs lo hi=false:=by
  intro j hj hf;cases hr:wM xs lo hi with
  | false=>rfl
  | true=>rw [zBL.1 hr j (by omega)] at hf;cases hf
 refine (xFT (yKA (Inv:=fun k i τ=>τ=Z.re/\∃ j:Nat,i=j/\j+k=l/\∀ i,i<j->(inB (xs.getD i 0) lo hi && (i == 0 || decide (xs.getD (i-1) 0<xs.getD i 0)))=true) (Qr:=fun b τ=>τ=Z.re/\b=false/\wM xs lo hi=false) (Q0:=fun τ=>τ=Z.re/\wM xs lo hi=true) ?_ l 0 Z.re ⟨rfl,0,rfl,by omega,fun i h=>by omega⟩) ?_ ?_).pure
 ·rintro k i τ ⟨rfl,j,rfl,hk,he⟩;by_cases hj:j<l
  ·obtain ⟨a,rfl,x,hx,l1⟩:=xZ h1 hj;have cin:=xMZ (Z:=Z.re) (n:=x) (lo:=lo) (hi:=hi);have gx:=yN hx;cases hb:inB x lo hi with
   | false =>
    rw [hb] at cin
    exact yVQ l1 cin ⟨rfl,rfl,no j hj (by rw [gx,hb];rfl)⟩
   | true =>
    rw [hb] at cin
    by_cases h0:0<j
    ·obtain ⟨a',ea,y,hy,l2⟩:=xZ h1 (show j-1<l by omega);cases ea
     have gy:=yN hy;have e:((j:Int)-1)=((j-1:Nat):Int):=by omega
     rw [<- e] at l2;by_cases hxy:x<=y
     ·exact yVT l1 cin l2 ⟨rfl,rfl,no j hj (by rw [gx,gy,hb];simp;omega)⟩
     ·refine yVS l1 cin l2 ⟨k-1,by omega,rfl,j+1,by omega,by omega, ?_⟩;intro i hi2;by_cases e2:i=j
      ·subst e2;rw [gx,gy,hb];simp;omega
      ·exact he i (by omega)
    ·refine yVR l1 cin ⟨k-1,by omega,rfl,j+1,by omega,by omega, ?_⟩
     intro i hi2;have e2:i=j:=by omega
     subst e2;have:i=0:=by omega
     rw [gx,hb,this];rfl
  ·exact yVP ⟨rfl,zBL.2 fun i hi2=>he i (by omega)⟩
 ·rintro b τ ⟨rfl,rfl,hn⟩;exact yJY ⟨by rw [hn],Nat.le_refl _⟩
 ·rintro τ ⟨rfl,hn⟩;exact yJZ ⟨by rw [hn],Nat.le_refl _⟩
theorem yJT (h:yC Z p l xs) (hl:l<=1073741824):zD Pg 71 [.slice p l c,iV lo,iV hi] Z (.bool (wM xs lo hi)) Z:=by
 have h1:=h.re;have e1:=h.len;have no:∀ j,j<l->(inB (xs.getD j 0) lo hi && (j == 0 || decide (xs.getD (j-1) 0<xs.getD j 0)))=false->wM xs lo hi=false:=by
  intro j hj hf;cases hr:wM xs lo hi with
  | false=>rfl
  | true=>rw [zBL.1 hr j (by omega)] at hf;cases hf
 refine (xMM (yOG (Inv:=fun k i τ=>τ=Z.re/\∃ j:Nat,i=j/\j+k=l/\∀ i,i<j->(inB (xs.getD i 0) lo hi && (i == 0 || decide (xs.getD (i-1) 0<xs.getD i 0)))=true) (Qr:=fun b τ=>τ=Z.re/\b=false/\wM xs lo hi=false) (Q0:=fun τ=>τ=Z.re/\wM xs lo hi=true) ?_ l 0 Z.re ⟨rfl,0,rfl,by omega,fun i h=>by omega⟩) ?_ ?_).pure
 ·rintro k i τ ⟨rfl,j,rfl,hk,he⟩;by_cases hj:j<l
  ·obtain ⟨a,rfl,x,hx,l1⟩:=xZ h1 hj;have cin:=zFS (Z:=Z.re) (n:=x) (lo:=lo) (hi:=hi);have gx:=yN hx;cases hb:inB x lo hi with
   | false =>
    rw [hb] at cin
    exact xFN l1 cin ⟨rfl,rfl,no j hj (by rw [gx,hb];rfl)⟩
   | true =>
    rw [hb] at cin
    by_cases h0:0<j
    ·obtain ⟨a',ea,y,hy,l2⟩:=xZ h1 (show j-1<l by omega);cases ea
     have gy:=yN hy;have e:((j:Int)-1)=((j-1:Nat):Int):=by omega
     rw [<- e] at l2;by_cases hxy:x<=y
     ·exact xFQ l1 cin l2 ⟨rfl,rfl,no j hj (by rw [gx,gy,hb];simp;omega)⟩
     ·refine xFP l1 cin l2 ⟨k-1,by omega,rfl,j+1,by omega,by omega, ?_⟩;intro i hi2;by_cases e2:i=j
      ·subst e2;rw [gx,gy,hb];simp;omega
      ·exact he i (by omega)
    ·refine xFO l1 cin ⟨k-1,by omega,rfl,j+1,by omega,by omega, ?_⟩
     intro i hi2;have e2:i=j:=by omega
     subst e2;have:i=0:=by omega
     rw [gx,hb,this];rfl
  ·exact xFM ⟨rfl,zBL.2 fun i hi2=>he i (by omega)⟩
 ·rintro b τ ⟨rfl,rfl,hn⟩;exact yOE ⟨by rw [hn],Nat.le_refl _⟩
 ·rintro τ ⟨rfl,hn⟩;exact yOF ⟨by rw [hn],Nat.le_refl _⟩
end
end
section
noncomputable section
variable (BA:Nat) (q0:St->Prop) (aH i2_2 dY aY:Int) (Q:Int->St->Prop) (Z:St) (Nx Qr:Int->St->Prop) (q1:vPa) (Q0 Q2:St->Prop)
def yFS:Code:=(Code.part [1,1,1,0,1,0,0] (qh 55))
def zFY:lNa:=[(1,pt BA 0),(3,iV aY)]
def yWP:Alt:=⟨Int,.normal,fun t=>zFY BA t,fun t=>[],fun t Z=>Q t Z⟩
def zVC (BA:Nat) (aH:Int):lNa:=[(2,iV aH)]
def zJT:Alt:=⟨Int,.ret,fun t=>zVC BA t,fun t=>[],fun t Z=>Q t Z⟩
def zVD:lNa:=[(1,pt BA 0)]
def zJU:Alt:=⟨Unit,(.exit 0),fun t=>zVD BA,fun t=>[],fun t Z=>q0 Z⟩
def zAP:Prop:=qi qj none yFS 145 (zFY BA aY) [] [yWP BA Nx,zJT BA Qr,zJU BA Q0] Z
def yFU:Prop:=qk qj none yFS 145 (zFY BA aY) [] [zJT BA Qr,zJU BA Q0] Z
def zVG:Prop:=kZ qj (qh 55) [1,1,1,0,1,0] (ql 55 q1) .ret 145 (zVC BA aH) Z
def zVH:Prop:=kZ qj (qh 55) [1,1,1,0,1,0] (ql 55 q1) (.exit 0) 145 (zVD BA) Z
def yFR:Code:=(Code.part [1,1,1,1,0,1,0,0] (qh 55))
def zFX:lNa:=[(1,pt BA 0),(5,iV dY)]
def yWO:Alt:=⟨Int,.normal,fun t=>zFX BA t,fun t=>[],fun t Z=>Q t Z⟩
def zVA (BA:Nat) (i2_2:Int):lNa:=[(2,iV i2_2)]
def zJR:Alt:=⟨Int,.ret,fun t=>zVA BA t,fun t=>[],fun t Z=>Q t Z⟩
def zVB (BA:Nat):lNa:=[]
def zJS:Alt:=⟨Unit,(.exit 2),fun t=>zVB BA,fun t=>[],fun t Z=>q0 Z⟩
def uR:Prop:=qi qj none yFR 145 (zFX BA dY) [] [yWO BA Nx,zJR BA Qr,zJS BA Q2] Z
def yFT:Prop:=qk qj none yFR 145 (zFX BA dY) [] [zJR BA Qr,zJS BA Q2] Z
def zVE:Prop:=kZ qj (qh 55) [1,1,1,1,0,1,0] (ql 55 q1) .ret 145 (zVA BA i2_2) Z
def zVF:Prop:=kZ qj (qh 55) [1,1,1,1,0,1,0] (ql 55 q1) (.exit 2) 145 (zVB BA) Z
end
variable {ak am au aj aY nF nA nB nD nE nK aH dY nH nI nJ nN nBH i2_2:Int} {af ae qD qC qB qA qI:oAa} {ac ad aa ab BA lA cE lI cJ lF cD lE cB lB cA:Nat} {Z:St} {Q:vPa} {Inv:Nat->Int->St->Prop} {Qr Nx Pr:Int->St->Prop} {Q0 P0 Q2 P2:St->Prop} {dw eV:Addr}
theorem xGB (nx:Q (iV 3) (Z.row (wkc ak af ac ad ae aa ab am au aj) 6)) (u1:12<(ac:Int):=by omega):qg 55 [qf (wkc ak af ac ad ae aa ab am au aj)] Z Q :=
 zH [.g,.g,.g,.l (.slice af ac ad),.g,.b true,.g,.g,.g] (kd (an2 ((zC _ _ _).rw.ld zBF (k:=1) rfl:lz (Z.row (wkc ak af ac ad ae aa ab am au aj) 6) 22 (qe Z.y 1) (.slice af ac ad)) (zR u1) nx))
theorem xGA:let y0:=wkc ak af ac ad ae aa ab am au aj;∀ (nx:Q (iV 3) (Z.row y0 6)) (u1:¬ 12<(ac:Int):=by omega) (u2:6<(aa:Int):=by omega),qg 55 [qf y0] Z Q :=
 let s1:=Z.row (wkc ak af ac ad ae aa ab am au aj) 6;fun nx u1 u2=>zH [.g,.g,.g,.l (.slice af ac ad),.g,.b false,.g,.g,.l (.slice ae aa ab),.g,.b true,.g,.g] (kd (an4 ((zC _ _ _).rw.ld zBF (k:=1) rfl:lz s1 22 (qe Z.y 1) (.slice af ac ad)) (zT u1) ((zC _ _ _).rw.ld zEZ (k:=2) rfl:lz s1 23 (qe Z.y 2) (.slice ae aa ab)) (zR u2) nx))
theorem yKH (hb:∀ k aY Z,Inv k aY Z->zAP BA aY Z (NX1 Inv k) Qr Q0):∀ k aY Z,Inv k aY Z->yFU BA aY Z Qr Q0 :=
 xE (ai uZ (ai (xV 0) trivial)) hb
@[reducible] def Ha0 (Z:St) (BA lA cE:Nat) (dw:Addr) (aY nF nA nB nD nE nK:Int):Prop:=qn Z 22 ⟨BA,1,none⟩=some (.slice (some dw) lA cE)/\qn Z 92 (zJ dw (Int.toNat aY*5))=some (.agg ⟨zG nF nA nB nD nE⟩)/\qn ((Z.row (zG 0 0 0 0 0) 5).own Z.y (zG nF nA nB nD nE) 5) 3 ⟨BA,0,none⟩=some (iV nK)/\(qm 33 [iV nF,iV 0,iV (nK-1)] ((Z.row (zG 0 0 0 0 0) 5).own Z.y (zG nF nA nB nD nE) 5) (.bool true) ((Z.row (zG 0 0 0 0 0) 5).own Z.y (zG nF nA nB nD nE) 5))/\qm 33 [iV nA,iV 0,iV 1439] ((Z.row (zG 0 0 0 0 0) 5).own Z.y (zG nF nA nB nD nE) 5) (.bool true) ((Z.row (zG 0 0 0 0 0) 5).own Z.y (zG nF nA nB nD nE) 5)
theorem yWN:let Y1:=Z.row (zG 0 0 0 0 0) 5;let Y2:=Y1.own Z.y (zG nF nA nB nD nE) 5;∀ (H:Ha0 Z BA lA cE dw aY nF nA nB nD nE nK) (h6:qm 33 [iV nB,iV nA,iV nD] Y2 (.bool true) Y2) (nx:Qr (1:Int) Y2) (u1:aY<(lA:Int):=by omega) (u2:Ix aY lA:=by omega) (u3:I6 (nK-1):=by omega) (u4:I6 (nA+1440):=by omega) (u5:(nA+1440)<nD:=by omega),zAP BA aY Z Nx Qr Q0:=
 fun H h6 nx u1 u2 u3 u4 u5=>match H with|⟨h1,h2,h3,h4,h5⟩=>let s1:=Z.row (zG 0 0 0 0 0) 5;let s2:=s1.own Z.y (zG nF nA nB nD nE) 5;kO 1 (1:Int) [.g,.g,.l (.slice (some dw) lA cE),.g,.b true,.g,.l (.slice (some dw) lA cE),.g,.i,.l (qf (zG nF nA nB nD nE)),.g,.e undef s2,.g,.l (iV nF),.g,.l (iV nK),.n (nK-1),.c (.bool true) s2,.g,.g,.g,.l (iV nA),.c (.bool true) s2,.g,.g,.g,.g,.g,.l (iV nB),.g,.l (iV nA),.g,.g,.l (iV nD),.c (.bool true) s2,.g,.g,.g,.g,.g,.l (iV nD),.g,.l (iV nA),.n (nA+1440),.b true,.g,.g,.g,.g] (fun _ f=>an2 h1 (zR u1) (an6 h1 u2 h2 ((zC _ _ _).store (vs:=(zG nF nA nB nD nE)) rfl zJC rfl (nle rfl) rfl:qo (evL [pt Z.y 0,qf (zG nF nA nB nD nE)]) s1 (.store 92 (.tmp 0) (.tmp 1))=some (undef,s2)) ((zC _ _ _).put.rw.ld zU (k:=0) rfl:lz s2 3 (qe Z.y 0) (iV nF)) h3 (an6 (w64 u3) h4 ((zC _ _ _).put.rw.ld zU (k:=1) rfl:lz s2 3 (qe Z.y 1) (iV nA)) h5 ((zC _ _ _).put.rw.ld zU (k:=2) rfl:lz s2 3 (qe Z.y 2) (iV nB)) ((zC _ _ _).put.rw.ld zU (k:=1) rfl:lz s2 3 (qe Z.y 1) (iV nA)) (an6 ((zC _ _ _).put.rw.ld zU (k:=3) rfl:lz s2 3 (qe Z.y 3) (iV nD)) h6 ((zC _ _ _).put.rw.ld zU (k:=3) rfl:lz s2 3 (qe Z.y 3) (iV nD)) ((zC _ _ _).put.rw.ld zU (k:=1) rfl:lz s2 3 (qe Z.y 1) (iV nA)) (w64 u4) (zR u5) f)))) nx
theorem yWM:let Y1:=Z.row (zG 0 0 0 0 0) 5;let Y2:=Y1.own Z.y (zG nF nA nB nD nE) 5;∀ (H:Ha0 Z BA lA cE dw aY nF nA nB nD nE nK) (h6:qm 33 [iV nB,iV nA,iV nD] Y2 (.bool true) Y2) (h7:qm 33 [iV nE,iV 0,iV 15] Y2 (.bool true) Y2) (nx:Nx (aY+1) Y2) (u1:aY<(lA:Int):=by omega) (u2:Ix aY lA:=by omega) (u3:I6 (nK-1):=by omega) (u4:I6 (nA+1440):=by omega) (u5:¬ (nA+1440)<nD:=by omega) (u6:I6 (aY+1):=by omega),zAP BA aY Z Nx Qr Q0:=
 fun H h6 h7 nx u1 u2 u3 u4 u5 u6=>match H with|⟨h1,h2,h3,h4,h5⟩=>let s1:=Z.row (zG 0 0 0 0 0) 5;let s2:=s1.own Z.y (zG nF nA nB nD nE) 5;kO 0 (aY+1) [.g,.g,.l (.slice (some dw) lA cE),.g,.b true,.g,.l (.slice (some dw) lA cE),.g,.i,.l (qf (zG nF nA nB nD nE)),.g,.e undef s2,.g,.l (iV nF),.g,.l (iV nK),.n (nK-1),.c (.bool true) s2,.g,.g,.g,.l (iV nA),.c (.bool true) s2,.g,.g,.g,.g,.g,.l (iV nB),.g,.l (iV nA),.g,.g,.l (iV nD),.c (.bool true) s2,.g,.g,.g,.g,.g,.l (iV nD),.g,.l (iV nA),.n (nA+1440),.b false,.g,.g,.g,.l (iV nE),.c (.bool true) s2,.g,.g,.g,.n (aY+1),.g] (fun _ f=>an5 h1 (zR u1) h1 u2 h2 (an6 ((zC _ _ _).store (vs:=(zG nF nA nB nD nE)) rfl zJC rfl (nle rfl) rfl:qo (evL [pt Z.y 0,qf (zG nF nA nB nD nE)]) s1 (.store 92 (.tmp 0) (.tmp 1))=some (undef,s2)) ((zC _ _ _).put.rw.ld zU (k:=0) rfl:lz s2 3 (qe Z.y 0) (iV nF)) h3 (w64 u3) h4 ((zC _ _ _).put.rw.ld zU (k:=1) rfl:lz s2 3 (qe Z.y 1) (iV nA)) (an6 h5 ((zC _ _ _).put.rw.ld zU (k:=2) rfl:lz s2 3 (qe Z.y 2) (iV nB)) ((zC _ _ _).put.rw.ld zU (k:=1) rfl:lz s2 3 (qe Z.y 1) (iV nA)) ((zC _ _ _).put.rw.ld zU (k:=3) rfl:lz s2 3 (qe Z.y 3) (iV nD)) h6 ((zC _ _ _).put.rw.ld zU (k:=3) rfl:lz s2 3 (qe Z.y 3) (iV nD)) (an6 ((zC _ _ _).put.rw.ld zU (k:=1) rfl:lz s2 3 (qe Z.y 1) (iV nA)) (w64 u4) (zT u5) ((zC _ _ _).put.rw.ld zU (k:=4) rfl:lz s2 3 (qe Z.y 4) (iV nE)) h7 (w64 u6) f)))) nx
theorem yWL:let Y1:=Z.row (zG 0 0 0 0 0) 5;let Y2:=Y1.own Z.y (zG nF nA nB nD nE) 5;∀ (H:Ha0 Z BA lA cE dw aY nF nA nB nD nE nK) (h6:qm 33 [iV nB,iV nA,iV nD] Y2 (.bool true) Y2) (h7:qm 33 [iV nE,iV 0,iV 15] Y2 (.bool false) Y2) (nx:Qr (1:Int) Y2) (u1:aY<(lA:Int):=by omega) (u2:Ix aY lA:=by omega) (u3:I6 (nK-1):=by omega) (u4:I6 (nA+1440):=by omega) (u5:¬ (nA+1440)<nD:=by omega),zAP BA aY Z Nx Qr Q0:=
 fun H h6 h7 nx u1 u2 u3 u4 u5=>match H with|⟨h1,h2,h3,h4,h5⟩=>let s1:=Z.row (zG 0 0 0 0 0) 5;let s2:=s1.own Z.y (zG nF nA nB nD nE) 5;kO 1 (1:Int) [.g,.g,.l (.slice (some dw) lA cE),.g,.b true,.g,.l (.slice (some dw) lA cE),.g,.i,.l (qf (zG nF nA nB nD nE)),.g,.e undef s2,.g,.l (iV nF),.g,.l (iV nK),.n (nK-1),.c (.bool true) s2,.g,.g,.g,.l (iV nA),.c (.bool true) s2,.g,.g,.g,.g,.g,.l (iV nB),.g,.l (iV nA),.g,.g,.l (iV nD),.c (.bool true) s2,.g,.g,.g,.g,.g,.l (iV nD),.g,.l (iV nA),.n (nA+1440),.b false,.g,.g,.g,.l (iV nE),.c (.bool false) s2,.g,.g,.g] (fun _ f=>an4 h1 (zR u1) h1 u2 (an6 h2 ((zC _ _ _).store (vs:=(zG nF nA nB nD nE)) rfl zJC rfl (nle rfl) rfl:qo (evL [pt Z.y 0,qf (zG nF nA nB nD nE)]) s1 (.store 92 (.tmp 0) (.tmp 1))=some (undef,s2)) ((zC _ _ _).put.rw.ld zU (k:=0) rfl:lz s2 3 (qe Z.y 0) (iV nF)) h3 (w64 u3) h4 (an6 ((zC _ _ _).put.rw.ld zU (k:=1) rfl:lz s2 3 (qe Z.y 1) (iV nA)) h5 ((zC _ _ _).put.rw.ld zU (k:=2) rfl:lz s2 3 (qe Z.y 2) (iV nB)) ((zC _ _ _).put.rw.ld zU (k:=1) rfl:lz s2 3 (qe Z.y 1) (iV nA)) ((zC _ _ _).put.rw.ld zU (k:=3) rfl:lz s2 3 (qe Z.y 3) (iV nD)) h6 (an6 ((zC _ _ _).put.rw.ld zU (k:=3) rfl:lz s2 3 (qe Z.y 3) (iV nD)) ((zC _ _ _).put.rw.ld zU (k:=1) rfl:lz s2 3 (qe Z.y 1) (iV nA)) (w64 u4) (zT u5) ((zC _ _ _).put.rw.ld zU (k:=4) rfl:lz s2 3 (qe Z.y 4) (iV nE)) h7 f)))) nx
theorem yWK:let Y1:=Z.row (zG 0 0 0 0 0) 5;let Y2:=Y1.own Z.y (zG nF nA nB nD nE) 5;∀ (H:Ha0 Z BA lA cE dw aY nF nA nB nD nE nK) (h6:qm 33 [iV nB,iV nA,iV nD] Y2 (.bool false) Y2) (nx:Qr (1:Int) Y2) (u1:aY<(lA:Int):=by omega) (u2:Ix aY lA:=by omega) (u3:I6 (nK-1):=by omega),zAP BA aY Z Nx Qr Q0:=
 fun H h6 nx u1 u2 u3=>match H with|⟨h1,h2,h3,h4,h5⟩=>let s1:=Z.row (zG 0 0 0 0 0) 5;let s2:=s1.own Z.y (zG nF nA nB nD nE) 5;kO 1 (1:Int) [.g,.g,.l (.slice (some dw) lA cE),.g,.b true,.g,.l (.slice (some dw) lA cE),.g,.i,.l (qf (zG nF nA nB nD nE)),.g,.e undef s2,.g,.l (iV nF),.g,.l (iV nK),.n (nK-1),.c (.bool true) s2,.g,.g,.g,.l (iV nA),.c (.bool true) s2,.g,.g,.g,.g,.g,.l (iV nB),.g,.l (iV nA),.g,.g,.l (iV nD),.c (.bool false) s2,.g,.g,.g,.g,.g,.g,.g] (fun _ f=>an4 h1 (zR u1) h1 u2 (an6 h2 ((zC _ _ _).store (vs:=(zG nF nA nB nD nE)) rfl zJC rfl (nle rfl) rfl:qo (evL [pt Z.y 0,qf (zG nF nA nB nD nE)]) s1 (.store 92 (.tmp 0) (.tmp 1))=some (undef,s2)) ((zC _ _ _).put.rw.ld zU (k:=0) rfl:lz s2 3 (qe Z.y 0) (iV nF)) h3 (w64 u3) h4 (an6 ((zC _ _ _).put.rw.ld zU (k:=1) rfl:lz s2 3 (qe Z.y 1) (iV nA)) h5 ((zC _ _ _).put.rw.ld zU (k:=2) rfl:lz s2 3 (qe Z.y 2) (iV nB)) ((zC _ _ _).put.rw.ld zU (k:=1) rfl:lz s2 3 (qe Z.y 1) (iV nA)) ((zC _ _ _).put.rw.ld zU (k:=3) rfl:lz s2 3 (qe Z.y 3) (iV nD)) h6 f))) nx
theorem yWJ:let s1:=Z.row (zG 0 0 0 0 0) 5;let s2:=s1.own Z.y (zG nF nA nB nD nE) 5;∀ (h1:lz Z 22 (qe BA 1) (.slice (some dw) lA cE)) (h2:lz Z 92 (zJ dw (Int.toNat aY*5)) (qf (zG nF nA nB nD nE))) (h3:lz s2 3 (qe BA 0) (iV nK)) (h4:qm 33 [iV nF,iV 0,iV (nK-1)] s2 (.bool true) s2) (h5:qm 33 [iV nA,iV 0,iV 1439] s2 (.bool false) s2) (nx:Qr (1:Int) s2) (u1:aY<(lA:Int):=by omega) (u2:Ix aY lA:=by omega) (u3:I6 (nK-1):=by omega),zAP BA aY Z Nx Qr Q0:=
 let s1:=Z.row (zG 0 0 0 0 0) 5;let s2:=s1.own Z.y (zG nF nA nB nD nE) 5;fun h1 h2 h3 h4 h5 nx u1 u2 u3=>kO 1 (1:Int) [.g,.g,.l (.slice (some dw) lA cE),.g,.b true,.g,.l (.slice (some dw) lA cE),.g,.i,.l (qf (zG nF nA nB nD nE)),.g,.e undef s2,.g,.l (iV nF),.g,.l (iV nK),.n (nK-1),.c (.bool true) s2,.g,.g,.g,.l (iV nA),.c (.bool false) s2,.g,.g,.g,.g,.g,.g,.g,.g,.g] (fun _ f=>an6 h1 (zR u1) h1 u2 h2 ((zC _ _ _).store (vs:=(zG nF nA nB nD nE)) rfl zJC rfl (nle rfl) rfl:qo (evL [pt Z.y 0,qf (zG nF nA nB nD nE)]) s1 (.store 92 (.tmp 0) (.tmp 1))=some (undef,s2)) (an6 ((zC _ _ _).put.rw.ld zU (k:=0) rfl:lz s2 3 (qe Z.y 0) (iV nF)) h3 (w64 u3) h4 ((zC _ _ _).put.rw.ld zU (k:=1) rfl:lz s2 3 (qe Z.y 1) (iV nA)) h5 f)) nx
theorem yWI:let s1:=Z.row (zG 0 0 0 0 0) 5;let s2:=s1.own Z.y (zG nF nA nB nD nE) 5;∀ (h1:lz Z 22 (qe BA 1) (.slice (some dw) lA cE)) (h2:lz Z 92 (zJ dw (Int.toNat aY*5)) (qf (zG nF nA nB nD nE))) (h3:lz s2 3 (qe BA 0) (iV nK)) (h4:qm 33 [iV nF,iV 0,iV (nK-1)] s2 (.bool false) s2) (nx:Qr (1:Int) s2) (u1:aY<(lA:Int):=by omega) (u2:Ix aY lA:=by omega) (u3:I6 (nK-1):=by omega),zAP BA aY Z Nx Qr Q0:=
 let s1:=Z.row (zG 0 0 0 0 0) 5;let s2:=s1.own Z.y (zG nF nA nB nD nE) 5;fun h1 h2 h3 h4 nx u1 u2 u3=>kO 1 (1:Int) [.g,.g,.l (.slice (some dw) lA cE),.g,.b true,.g,.l (.slice (some dw) lA cE),.g,.i,.l (qf (zG nF nA nB nD nE)),.g,.e undef s2,.g,.l (iV nF),.g,.l (iV nK),.n (nK-1),.c (.bool false) s2,.g,.g,.g,.g,.g,.g,.g,.g,.g,.g] (fun _ f=>an4 h1 (zR u1) h1 u2 (an6 h2 ((zC _ _ _).store (vs:=(zG nF nA nB nD nE)) rfl zJC rfl (nle rfl) rfl:qo (evL [pt Z.y 0,qf (zG nF nA nB nD nE)]) s1 (.store 92 (.tmp 0) (.tmp 1))=some (undef,s2)) ((zC _ _ _).put.rw.ld zU (k:=0) rfl:lz s2 3 (qe Z.y 0) (iV nF)) h3 (w64 u3) h4 f)) nx
theorem yWH (h1:lz Z 22 (qe BA 1) (.slice qD lA cE)) (nx:Q0 Z) (u1:¬ aY<(lA:Int):=by omega):zAP BA aY Z Nx Qr Q0 :=
 kO 2 () [.g,.g,.l (.slice qD lA cE),.g,.b false] (fun _ f=>an2 h1 (zT u1) f) nx
theorem xFZ:let s1:=Z.row (wkc ak af ac ad ae aa ab am au aj) 6;∀ (h1:qm 33 [iV ak,iV 1,iV 7] s1 (.bool true) s1) (h2:qm 33 [iV am,iV 0,iV 3000] s1 (.bool true) s1) (h3:qm 33 [iV au,iV 1,iV 14] s1 (.bool true) s1) (h4:qm 33 [iV aj,iV 0,iV 20000] s1 (.bool true) s1) (hL:yFU Z.y 0 s1 Pr P0) (kr:∀ i2_1' Z',Pr i2_1' Z'->zVG Z.y i2_1' Z' Q) (k0:∀ Z',P0 Z'->zVH Z.y Z' Q) (u1:¬ 12<(ac:Int):=by omega) (u2:¬ 6<(aa:Int):=by omega),qg 55 [qf (wkc ak af ac ad ae aa ab am au aj)] Z Q:=
 let s1:=Z.row (wkc ak af ac ad ae aa ab am au aj) 6;fun h1 h2 h3 h4 hL kr k0 u1 u2=>zH [.g,.g,.g,.l (.slice af ac ad),.g,.b false,.g,.g,.l (.slice ae aa ab),.g,.b false,.g,.g,.l (iV ak),.c (.bool true) s1,.g,.g,.g,.l (iV am),.c (.bool true) s1,.g,.g,.g,.g,.l (iV au),.c (.bool true) s1,.g,.g,.g,.g,.l (iV aj),.c (.bool true) s1,.g,.g,.g,.lf 145 (zFY Z.y 0) [zJT Z.y Pr,zJU Z.y P0]] (kd (an6 ((zC _ _ _).rw.ld zBF (k:=1) rfl:lz s1 22 (qe Z.y 1) (.slice af ac ad)) (zT u1) ((zC _ _ _).rw.ld zEZ (k:=2) rfl:lz s1 23 (qe Z.y 2) (.slice ae aa ab)) (zT u2) ((zC _ _ _).rw.ld zU (k:=0) rfl:lz s1 3 (qe Z.y 0) (iV ak)) h1 (an6 ((zC _ _ _).rw.ld zU (k:=3) rfl:lz s1 3 (qe Z.y 3) (iV am)) h2 ((zC _ _ _).rw.ld zU (k:=4) rfl:lz s1 3 (qe Z.y 4) (iV au)) h3 ((zC _ _ _).rw.ld zU (k:=5) rfl:lz s1 3 (qe Z.y 5) (iV aj)) h4 (ai (ai tt (ai (arf (zFY Z.y 0)) hL)) (ai (kz1 kr) (ai (kz0 k0) trivial))))))
theorem xFY:let s1:=Z.row (wkc ak af ac ad ae aa ab am au aj) 6;∀ (h1:qm 33 [iV ak,iV 1,iV 7] s1 (.bool true) s1) (h2:qm 33 [iV am,iV 0,iV 3000] s1 (.bool true) s1) (h3:qm 33 [iV au,iV 1,iV 14] s1 (.bool true) s1) (h4:qm 33 [iV aj,iV 0,iV 20000] s1 (.bool false) s1) (nx:Q (iV 1) s1) (u1:¬ 12<(ac:Int):=by omega) (u2:¬ 6<(aa:Int):=by omega),qg 55 [qf (wkc ak af ac ad ae aa ab am au aj)] Z Q:=
 let s1:=Z.row (wkc ak af ac ad ae aa ab am au aj) 6;fun h1 h2 h3 h4 nx u1 u2=>zH [.g,.g,.g,.l (.slice af ac ad),.g,.b false,.g,.g,.l (.slice ae aa ab),.g,.b false,.g,.g,.l (iV ak),.c (.bool true) s1,.g,.g,.g,.l (iV am),.c (.bool true) s1,.g,.g,.g,.g,.l (iV au),.c (.bool true) s1,.g,.g,.g,.g,.l (iV aj),.c (.bool false) s1,.g,.g,.g] (kd (an6 ((zC _ _ _).rw.ld zBF (k:=1) rfl:lz s1 22 (qe Z.y 1) (.slice af ac ad)) (zT u1) ((zC _ _ _).rw.ld zEZ (k:=2) rfl:lz s1 23 (qe Z.y 2) (.slice ae aa ab)) (zT u2) ((zC _ _ _).rw.ld zU (k:=0) rfl:lz s1 3 (qe Z.y 0) (iV ak)) h1 (an6 ((zC _ _ _).rw.ld zU (k:=3) rfl:lz s1 3 (qe Z.y 3) (iV am)) h2 ((zC _ _ _).rw.ld zU (k:=4) rfl:lz s1 3 (qe Z.y 4) (iV au)) h3 ((zC _ _ _).rw.ld zU (k:=5) rfl:lz s1 3 (qe Z.y 5) (iV aj)) h4 nx)))
theorem xFX:let s1:=Z.row (wkc ak af ac ad ae aa ab am au aj) 6;∀ (h1:qm 33 [iV ak,iV 1,iV 7] s1 (.bool true) s1) (h2:qm 33 [iV am,iV 0,iV 3000] s1 (.bool true) s1) (h3:qm 33 [iV au,iV 1,iV 14] s1 (.bool false) s1) (nx:Q (iV 1) s1) (u1:¬ 12<(ac:Int):=by omega) (u2:¬ 6<(aa:Int):=by omega),qg 55 [qf (wkc ak af ac ad ae aa ab am au aj)] Z Q:=
 let s1:=Z.row (wkc ak af ac ad ae aa ab am au aj) 6;fun h1 h2 h3 nx u1 u2=>zH [.g,.g,.g,.l (.slice af ac ad),.g,.b false,.g,.g,.l (.slice ae aa ab),.g,.b false,.g,.g,.l (iV ak),.c (.bool true) s1,.g,.g,.g,.l (iV am),.c (.bool true) s1,.g,.g,.g,.g,.l (iV au),.c (.bool false) s1,.g,.g,.g,.g,.g] (kd (an4 ((zC _ _ _).rw.ld zBF (k:=1) rfl:lz s1 22 (qe Z.y 1) (.slice af ac ad)) (zT u1) ((zC _ _ _).rw.ld zEZ (k:=2) rfl:lz s1 23 (qe Z.y 2) (.slice ae aa ab)) (zT u2) (an6 ((zC _ _ _).rw.ld zU (k:=0) rfl:lz s1 3 (qe Z.y 0) (iV ak)) h1 ((zC _ _ _).rw.ld zU (k:=3) rfl:lz s1 3 (qe Z.y 3) (iV am)) h2 ((zC _ _ _).rw.ld zU (k:=4) rfl:lz s1 3 (qe Z.y 4) (iV au)) h3 nx)))
theorem xFW:let s1:=Z.row (wkc ak af ac ad ae aa ab am au aj) 6;∀ (h1:qm 33 [iV ak,iV 1,iV 7] s1 (.bool true) s1) (h2:qm 33 [iV am,iV 0,iV 3000] s1 (.bool false) s1) (nx:Q (iV 1) s1) (u1:¬ 12<(ac:Int):=by omega) (u2:¬ 6<(aa:Int):=by omega),qg 55 [qf (wkc ak af ac ad ae aa ab am au aj)] Z Q:=
 let s1:=Z.row (wkc ak af ac ad ae aa ab am au aj) 6;fun h1 h2 nx u1 u2=>zH [.g,.g,.g,.l (.slice af ac ad),.g,.b false,.g,.g,.l (.slice ae aa ab),.g,.b false,.g,.g,.l (iV ak),.c (.bool true) s1,.g,.g,.g,.l (iV am),.c (.bool false) s1,.g,.g,.g,.g,.g,.g,.g] (kd (an2 ((zC _ _ _).rw.ld zBF (k:=1) rfl:lz s1 22 (qe Z.y 1) (.slice af ac ad)) (zT u1) (an6 ((zC _ _ _).rw.ld zEZ (k:=2) rfl:lz s1 23 (qe Z.y 2) (.slice ae aa ab)) (zT u2) ((zC _ _ _).rw.ld zU (k:=0) rfl:lz s1 3 (qe Z.y 0) (iV ak)) h1 ((zC _ _ _).rw.ld zU (k:=3) rfl:lz s1 3 (qe Z.y 3) (iV am)) h2 nx)))
theorem xFV:let s1:=Z.row (wkc ak af ac ad ae aa ab am au aj) 6;∀ (h1:qm 33 [iV ak,iV 1,iV 7] s1 (.bool false) s1) (nx:Q (iV 1) s1) (u1:¬ 12<(ac:Int):=by omega) (u2:¬ 6<(aa:Int):=by omega),qg 55 [qf (wkc ak af ac ad ae aa ab am au aj)] Z Q:=
 let s1:=Z.row (wkc ak af ac ad ae aa ab am au aj) 6;fun h1 nx u1 u2=>zH [.g,.g,.g,.l (.slice af ac ad),.g,.b false,.g,.g,.l (.slice ae aa ab),.g,.b false,.g,.g,.l (iV ak),.c (.bool false) s1,.g,.g,.g,.g,.g,.g,.g,.g] (kd (an6 ((zC _ _ _).rw.ld zBF (k:=1) rfl:lz s1 22 (qe Z.y 1) (.slice af ac ad)) (zT u1) ((zC _ _ _).rw.ld zEZ (k:=2) rfl:lz s1 23 (qe Z.y 2) (.slice ae aa ab)) (zT u2) ((zC _ _ _).rw.ld zU (k:=0) rfl:lz s1 3 (qe Z.y 0) (iV ak)) h1 nx))
theorem yKE (nx:Q (iV aH) Z):zVG BA aH Z Q :=
 sK [] nx
theorem yKG (hb:∀ k dY Z,Inv k dY Z->uR BA dY Z (NX1 Inv k) Qr Q2):∀ k dY Z,Inv k dY Z->yFT BA dY Z Qr Q2 :=
 xE (ai uZ (ai (xV 2) trivial)) hb
@[reducible] def Ha1 (Z:St) (BA lI cJ lF cD lE cB lB cA:Nat) (eV:Addr) (dY nH nI nJ nN:Int) (qC qB qA:oAa):Prop:=qn Z 23 ⟨BA,2,none⟩=some (.slice (some eV) lI cJ)/\qn Z 76 (zJ eV (Int.toNat dY*6))=some (.agg ⟨zN qC lF cD qB lE cB qA lB cA nH nI nJ⟩)/\qm 42 [.slice qC lF cD,iV 0,iV 15] ((Z.row (zN none 0 0 none 0 0 none 0 0 0 0 0) 6).own Z.y (zN qC lF cD qB lE cB qA lB cA nH nI nJ) 6) (.bool true) ((Z.row (zN none 0 0 none 0 0 none 0 0 0 0 0) 6).own Z.y (zN qC lF cD qB lE cB qA lB cA nH nI nJ) 6)/\qn ((Z.row (zN none 0 0 none 0 0 none 0 0 0 0 0) 6).own Z.y (zN qC lF cD qB lE cB qA lB cA nH nI nJ) 6) 3 ⟨BA,0,none⟩=some (iV nN)/\(qm 42 [.slice qB lE cB,iV 0,iV (nN-1)] ((Z.row (zN none 0 0 none 0 0 none 0 0 0 0 0) 6).own Z.y (zN qC lF cD qB lE cB qA lB cA nH nI nJ) 6) (.bool true) ((Z.row (zN none 0 0 none 0 0 none 0 0 0 0 0) 6).own Z.y (zN qC lF cD qB lE cB qA lB cA nH nI nJ) 6))
theorem yWG:let Y1:=Z.row (zN none 0 0 none 0 0 none 0 0 0 0 0) 6;let Y2:=Y1.own Z.y (zN qC lF cD qB lE cB qA lB cA nH nI nJ) 6;∀ (H:Ha1 Z BA lI cJ lF cD lE cB lB cA eV dY nH nI nJ nN qC qB qA) (h6:qm 42 [.slice qA lB cA,iV 0,iV (nN-1)] Y2 (.bool true) Y2) (h7:qm 33 [iV nH,iV (-10080),iV 1440] Y2 (.bool true) Y2) (h8:qm 33 [iV nI,iV 0,iV 14] Y2 (.bool true) Y2) (h9:lz Y2 3 (qe BA 5) (iV nBH)) (h10:qm 33 [iV nJ,iV 0,iV nBH] Y2 (.bool true) Y2) (nx:Nx (dY+1) Y2) (u1:dY<(lI:Int):=by omega) (u2:Ix dY lI:=by omega) (u3:I6 (nN-1):=by omega) (u4:I6 (dY+1):=by omega),uR BA dY Z Nx Qr Q2:=
 fun H h6 h7 h8 h9 h10 nx u1 u2 u3 u4=>match H with|⟨h1,h2,h3,h4,h5⟩=>let s1:=Z.row (zN none 0 0 none 0 0 none 0 0 0 0 0) 6;let s2:=s1.own Z.y (zN qC lF cD qB lE cB qA lB cA nH nI nJ) 6;kO 0 (dY+1) [.g,.g,.l (.slice (some eV) lI cJ),.g,.b true,.g,.l (.slice (some eV) lI cJ),.g,.i,.l (qf (zN qC lF cD qB lE cB qA lB cA nH nI nJ)),.g,.e undef s2,.g,.l (.slice qC lF cD),.c (.bool true) s2,.g,.g,.g,.l (.slice qB lE cB),.g,.l (iV nN),.n (nN-1),.c (.bool true) s2,.g,.g,.g,.g,.l (.slice qA lB cA),.g,.l (iV nN),.n (nN-1),.c (.bool true) s2,.g,.g,.g,.g,.l (iV nH),.c (.bool true) s2,.g,.g,.g,.g,.l (iV nI),.c (.bool true) s2,.g,.g,.g,.g,.l (iV nJ),.g,.l (iV nBH),.c (.bool true) s2,.g,.g,.g,.n (dY+1),.g] (fun _ f=>an6 h1 (zR u1) h1 u2 h2 ((zC _ _ _).store (vs:=(zN qC lF cD qB lE cB qA lB cA nH nI nJ)) rfl zAF rfl (nle rfl) rfl:qo (evL [pt Z.y 0,qf (zN qC lF cD qB lE cB qA lB cA nH nI nJ)]) s1 (.store 76 (.tmp 0) (.tmp 1))=some (undef,s2)) (an6 ((zC _ _ _).put.rw.ld yT (k:=0) rfl:lz s2 26 (qe Z.y 0) (.slice qC lF cD)) h3 ((zC _ _ _).put.rw.ld yT (k:=1) rfl:lz s2 26 (qe Z.y 1) (.slice qB lE cB)) h4 (w64 u3) h5 (an6 ((zC _ _ _).put.rw.ld yT (k:=2) rfl:lz s2 26 (qe Z.y 2) (.slice qA lB cA)) h4 (w64 u3) h6 ((zC _ _ _).put.rw.ld zU (k:=3) rfl:lz s2 3 (qe Z.y 3) (iV nH)) h7 (an6 ((zC _ _ _).put.rw.ld zU (k:=4) rfl:lz s2 3 (qe Z.y 4) (iV nI)) h8 ((zC _ _ _).put.rw.ld zU (k:=5) rfl:lz s2 3 (qe Z.y 5) (iV nJ)) h9 h10 (w64 u4) f)))) nx
theorem yWF:let Y1:=Z.row (zN none 0 0 none 0 0 none 0 0 0 0 0) 6;let Y2:=Y1.own Z.y (zN qC lF cD qB lE cB qA lB cA nH nI nJ) 6;∀ (H:Ha1 Z BA lI cJ lF cD lE cB lB cA eV dY nH nI nJ nN qC qB qA) (h6:qm 42 [.slice qA lB cA,iV 0,iV (nN-1)] Y2 (.bool true) Y2) (h7:qm 33 [iV nH,iV (-10080),iV 1440] Y2 (.bool true) Y2) (h8:qm 33 [iV nI,iV 0,iV 14] Y2 (.bool true) Y2) (h9:lz Y2 3 (qe BA 5) (iV nBH)) (h10:qm 33 [iV nJ,iV 0,iV nBH] Y2 (.bool false) Y2) (nx:Qr (1:Int) Y2) (u1:dY<(lI:Int):=by omega) (u2:Ix dY lI:=by omega) (u3:I6 (nN-1):=by omega),uR BA dY Z Nx Qr Q2:=
 fun H h6 h7 h8 h9 h10 nx u1 u2 u3=>match H with|⟨h1,h2,h3,h4,h5⟩=>let s1:=Z.row (zN none 0 0 none 0 0 none 0 0 0 0 0) 6;let s2:=s1.own Z.y (zN qC lF cD qB lE cB qA lB cA nH nI nJ) 6;kO 1 (1:Int) [.g,.g,.l (.slice (some eV) lI cJ),.g,.b true,.g,.l (.slice (some eV) lI cJ),.g,.i,.l (qf (zN qC lF cD qB lE cB qA lB cA nH nI nJ)),.g,.e undef s2,.g,.l (.slice qC lF cD),.c (.bool true) s2,.g,.g,.g,.l (.slice qB lE cB),.g,.l (iV nN),.n (nN-1),.c (.bool true) s2,.g,.g,.g,.g,.l (.slice qA lB cA),.g,.l (iV nN),.n (nN-1),.c (.bool true) s2,.g,.g,.g,.g,.l (iV nH),.c (.bool true) s2,.g,.g,.g,.g,.l (iV nI),.c (.bool true) s2,.g,.g,.g,.g,.l (iV nJ),.g,.l (iV nBH),.c (.bool false) s2,.g,.g,.g] (fun _ f=>an5 h1 (zR u1) h1 u2 h2 (an6 ((zC _ _ _).store (vs:=(zN qC lF cD qB lE cB qA lB cA nH nI nJ)) rfl zAF rfl (nle rfl) rfl:qo (evL [pt Z.y 0,qf (zN qC lF cD qB lE cB qA lB cA nH nI nJ)]) s1 (.store 76 (.tmp 0) (.tmp 1))=some (undef,s2)) ((zC _ _ _).put.rw.ld yT (k:=0) rfl:lz s2 26 (qe Z.y 0) (.slice qC lF cD)) h3 ((zC _ _ _).put.rw.ld yT (k:=1) rfl:lz s2 26 (qe Z.y 1) (.slice qB lE cB)) h4 (w64 u3) (an6 h5 ((zC _ _ _).put.rw.ld yT (k:=2) rfl:lz s2 26 (qe Z.y 2) (.slice qA lB cA)) h4 (w64 u3) h6 ((zC _ _ _).put.rw.ld zU (k:=3) rfl:lz s2 3 (qe Z.y 3) (iV nH)) (an6 h7 ((zC _ _ _).put.rw.ld zU (k:=4) rfl:lz s2 3 (qe Z.y 4) (iV nI)) h8 ((zC _ _ _).put.rw.ld zU (k:=5) rfl:lz s2 3 (qe Z.y 5) (iV nJ)) h9 h10 f)))) nx
theorem yWE:let Y1:=Z.row (zN none 0 0 none 0 0 none 0 0 0 0 0) 6;let Y2:=Y1.own Z.y (zN qC lF cD qB lE cB qA lB cA nH nI nJ) 6;∀ (H:Ha1 Z BA lI cJ lF cD lE cB lB cA eV dY nH nI nJ nN qC qB qA) (h6:qm 42 [.slice qA lB cA,iV 0,iV (nN-1)] Y2 (.bool true) Y2) (h7:qm 33 [iV nH,iV (-10080),iV 1440] Y2 (.bool true) Y2) (h8:qm 33 [iV nI,iV 0,iV 14] Y2 (.bool false) Y2) (nx:Qr (1:Int) Y2) (u1:dY<(lI:Int):=by omega) (u2:Ix dY lI:=by omega) (u3:I6 (nN-1):=by omega),uR BA dY Z Nx Qr Q2:=
 fun H h6 h7 h8 nx u1 u2 u3=>match H with|⟨h1,h2,h3,h4,h5⟩=>let s1:=Z.row (zN none 0 0 none 0 0 none 0 0 0 0 0) 6;let s2:=s1.own Z.y (zN qC lF cD qB lE cB qA lB cA nH nI nJ) 6;kO 1 (1:Int) [.g,.g,.l (.slice (some eV) lI cJ),.g,.b true,.g,.l (.slice (some eV) lI cJ),.g,.i,.l (qf (zN qC lF cD qB lE cB qA lB cA nH nI nJ)),.g,.e undef s2,.g,.l (.slice qC lF cD),.c (.bool true) s2,.g,.g,.g,.l (.slice qB lE cB),.g,.l (iV nN),.n (nN-1),.c (.bool true) s2,.g,.g,.g,.g,.l (.slice qA lB cA),.g,.l (iV nN),.n (nN-1),.c (.bool true) s2,.g,.g,.g,.g,.l (iV nH),.c (.bool true) s2,.g,.g,.g,.g,.l (iV nI),.c (.bool false) s2,.g,.g,.g,.g,.g] (fun _ f=>an2 h1 (zR u1) (an6 h1 u2 h2 ((zC _ _ _).store (vs:=(zN qC lF cD qB lE cB qA lB cA nH nI nJ)) rfl zAF rfl (nle rfl) rfl:qo (evL [pt Z.y 0,qf (zN qC lF cD qB lE cB qA lB cA nH nI nJ)]) s1 (.store 76 (.tmp 0) (.tmp 1))=some (undef,s2)) ((zC _ _ _).put.rw.ld yT (k:=0) rfl:lz s2 26 (qe Z.y 0) (.slice qC lF cD)) h3 (an6 ((zC _ _ _).put.rw.ld yT (k:=1) rfl:lz s2 26 (qe Z.y 1) (.slice qB lE cB)) h4 (w64 u3) h5 ((zC _ _ _).put.rw.ld yT (k:=2) rfl:lz s2 26 (qe Z.y 2) (.slice qA lB cA)) h4 (an6 (w64 u3) h6 ((zC _ _ _).put.rw.ld zU (k:=3) rfl:lz s2 3 (qe Z.y 3) (iV nH)) h7 ((zC _ _ _).put.rw.ld zU (k:=4) rfl:lz s2 3 (qe Z.y 4) (iV nI)) h8 f)))) nx
theorem yWD:let Y1:=Z.row (zN none 0 0 none 0 0 none 0 0 0 0 0) 6;let Y2:=Y1.own Z.y (zN qC lF cD qB lE cB qA lB cA nH nI nJ) 6;∀ (H:Ha1 Z BA lI cJ lF cD lE cB lB cA eV dY nH nI nJ nN qC qB qA) (h6:qm 42 [.slice qA lB cA,iV 0,iV (nN-1)] Y2 (.bool true) Y2) (h7:qm 33 [iV nH,iV (-10080),iV 1440] Y2 (.bool false) Y2) (nx:Qr (1:Int) Y2) (u1:dY<(lI:Int):=by omega) (u2:Ix dY lI:=by omega) (u3:I6 (nN-1):=by omega),uR BA dY Z Nx Qr Q2:=
 fun H h6 h7 nx u1 u2 u3=>match H with|⟨h1,h2,h3,h4,h5⟩=>let s1:=Z.row (zN none 0 0 none 0 0 none 0 0 0 0 0) 6;let s2:=s1.own Z.y (zN qC lF cD qB lE cB qA lB cA nH nI nJ) 6;kO 1 (1:Int) [.g,.g,.l (.slice (some eV) lI cJ),.g,.b true,.g,.l (.slice (some eV) lI cJ),.g,.i,.l (qf (zN qC lF cD qB lE cB qA lB cA nH nI nJ)),.g,.e undef s2,.g,.l (.slice qC lF cD),.c (.bool true) s2,.g,.g,.g,.l (.slice qB lE cB),.g,.l (iV nN),.n (nN-1),.c (.bool true) s2,.g,.g,.g,.g,.l (.slice qA lB cA),.g,.l (iV nN),.n (nN-1),.c (.bool true) s2,.g,.g,.g,.g,.l (iV nH),.c (.bool false) s2,.g,.g,.g,.g,.g,.g,.g] (fun _ f=>an6 h1 (zR u1) h1 u2 h2 ((zC _ _ _).store (vs:=(zN qC lF cD qB lE cB qA lB cA nH nI nJ)) rfl zAF rfl (nle rfl) rfl:qo (evL [pt Z.y 0,qf (zN qC lF cD qB lE cB qA lB cA nH nI nJ)]) s1 (.store 76 (.tmp 0) (.tmp 1))=some (undef,s2)) (an6 ((zC _ _ _).put.rw.ld yT (k:=0) rfl:lz s2 26 (qe Z.y 0) (.slice qC lF cD)) h3 ((zC _ _ _).put.rw.ld yT (k:=1) rfl:lz s2 26 (qe Z.y 1) (.slice qB lE cB)) h4 (w64 u3) h5 (an6 ((zC _ _ _).put.rw.ld yT (k:=2) rfl:lz s2 26 (qe Z.y 2) (.slice qA lB cA)) h4 (w64 u3) h6 ((zC _ _ _).put.rw.ld zU (k:=3) rfl:lz s2 3 (qe Z.y 3) (iV nH)) h7 f))) nx
theorem yWC:let Y1:=Z.row (zN none 0 0 none 0 0 none 0 0 0 0 0) 6;let Y2:=Y1.own Z.y (zN qC lF cD qB lE cB qA lB cA nH nI nJ) 6;∀ (H:Ha1 Z BA lI cJ lF cD lE cB lB cA eV dY nH nI nJ nN qC qB qA) (h6:qm 42 [.slice qA lB cA,iV 0,iV (nN-1)] Y2 (.bool false) Y2) (nx:Qr (1:Int) Y2) (u1:dY<(lI:Int):=by omega) (u2:Ix dY lI:=by omega) (u3:I6 (nN-1):=by omega),uR BA dY Z Nx Qr Q2:=
 fun H h6 nx u1 u2 u3=>match H with|⟨h1,h2,h3,h4,h5⟩=>let s1:=Z.row (zN none 0 0 none 0 0 none 0 0 0 0 0) 6;let s2:=s1.own Z.y (zN qC lF cD qB lE cB qA lB cA nH nI nJ) 6;kO 1 (1:Int) [.g,.g,.l (.slice (some eV) lI cJ),.g,.b true,.g,.l (.slice (some eV) lI cJ),.g,.i,.l (qf (zN qC lF cD qB lE cB qA lB cA nH nI nJ)),.g,.e undef s2,.g,.l (.slice qC lF cD),.c (.bool true) s2,.g,.g,.g,.l (.slice qB lE cB),.g,.l (iV nN),.n (nN-1),.c (.bool true) s2,.g,.g,.g,.g,.l (.slice qA lB cA),.g,.l (iV nN),.n (nN-1),.c (.bool false) s2,.g,.g,.g,.g,.g,.g,.g,.g,.g] (fun _ f=>an4 h1 (zR u1) h1 u2 (an6 h2 ((zC _ _ _).store (vs:=(zN qC lF cD qB lE cB qA lB cA nH nI nJ)) rfl zAF rfl (nle rfl) rfl:qo (evL [pt Z.y 0,qf (zN qC lF cD qB lE cB qA lB cA nH nI nJ)]) s1 (.store 76 (.tmp 0) (.tmp 1))=some (undef,s2)) ((zC _ _ _).put.rw.ld yT (k:=0) rfl:lz s2 26 (qe Z.y 0) (.slice qC lF cD)) h3 ((zC _ _ _).put.rw.ld yT (k:=1) rfl:lz s2 26 (qe Z.y 1) (.slice qB lE cB)) h4 (an6 (w64 u3) h5 ((zC _ _ _).put.rw.ld yT (k:=2) rfl:lz s2 26 (qe Z.y 2) (.slice qA lB cA)) h4 (w64 u3) h6 f))) nx
theorem yWB:let s1:=Z.row (zN none 0 0 none 0 0 none 0 0 0 0 0) 6;let s2:=s1.own Z.y (zN qC lF cD qB lE cB qA lB cA nH nI nJ) 6;∀ (h1:lz Z 23 (qe BA 2) (.slice (some eV) lI cJ)) (h2:lz Z 76 (zJ eV (Int.toNat dY*6)) (qf (zN qC lF cD qB lE cB qA lB cA nH nI nJ))) (h3:qm 42 [.slice qC lF cD,iV 0,iV 15] s2 (.bool true) s2) (h4:lz s2 3 (qe BA 0) (iV nN)) (h5:qm 42 [.slice qB lE cB,iV 0,iV (nN-1)] s2 (.bool false) s2) (nx:Qr (1:Int) s2) (u1:dY<(lI:Int):=by omega) (u2:Ix dY lI:=by omega) (u3:I6 (nN-1):=by omega),uR BA dY Z Nx Qr Q2:=
 let s1:=Z.row (zN none 0 0 none 0 0 none 0 0 0 0 0) 6;let s2:=s1.own Z.y (zN qC lF cD qB lE cB qA lB cA nH nI nJ) 6;fun h1 h2 h3 h4 h5 nx u1 u2 u3=>kO 1 (1:Int) [.g,.g,.l (.slice (some eV) lI cJ),.g,.b true,.g,.l (.slice (some eV) lI cJ),.g,.i,.l (qf (zN qC lF cD qB lE cB qA lB cA nH nI nJ)),.g,.e undef s2,.g,.l (.slice qC lF cD),.c (.bool true) s2,.g,.g,.g,.l (.slice qB lE cB),.g,.l (iV nN),.n (nN-1),.c (.bool false) s2,.g,.g,.g,.g,.g,.g,.g,.g,.g,.g,.g] (fun _ f=>an6 h1 (zR u1) h1 u2 h2 ((zC _ _ _).store (vs:=(zN qC lF cD qB lE cB qA lB cA nH nI nJ)) rfl zAF rfl (nle rfl) rfl:qo (evL [pt Z.y 0,qf (zN qC lF cD qB lE cB qA lB cA nH nI nJ)]) s1 (.store 76 (.tmp 0) (.tmp 1))=some (undef,s2)) (an6 ((zC _ _ _).put.rw.ld yT (k:=0) rfl:lz s2 26 (qe Z.y 0) (.slice qC lF cD)) h3 ((zC _ _ _).put.rw.ld yT (k:=1) rfl:lz s2 26 (qe Z.y 1) (.slice qB lE cB)) h4 (w64 u3) h5 f)) nx
theorem yWA:let s1:=Z.row (zN none 0 0 none 0 0 none 0 0 0 0 0) 6;let s2:=s1.own Z.y (zN qC lF cD qB lE cB qA lB cA nH nI nJ) 6;∀ (h1:lz Z 23 (qe BA 2) (.slice (some eV) lI cJ)) (h2:lz Z 76 (zJ eV (Int.toNat dY*6)) (qf (zN qC lF cD qB lE cB qA lB cA nH nI nJ))) (h3:qm 42 [.slice qC lF cD,iV 0,iV 15] s2 (.bool false) s2) (nx:Qr (1:Int) s2) (u1:dY<(lI:Int):=by omega) (u2:Ix dY lI:=by omega),uR BA dY Z Nx Qr Q2:=
 let s1:=Z.row (zN none 0 0 none 0 0 none 0 0 0 0 0) 6;let s2:=s1.own Z.y (zN qC lF cD qB lE cB qA lB cA nH nI nJ) 6;fun h1 h2 h3 nx u1 u2=>kO 1 (1:Int) [.g,.g,.l (.slice (some eV) lI cJ),.g,.b true,.g,.l (.slice (some eV) lI cJ),.g,.i,.l (qf (zN qC lF cD qB lE cB qA lB cA nH nI nJ)),.g,.e undef s2,.g,.l (.slice qC lF cD),.c (.bool false) s2,.g,.g,.g,.g,.g,.g,.g,.g,.g,.g,.g,.g] (fun _ f=>an2 h1 (zR u1) (an6 h1 u2 h2 ((zC _ _ _).store (vs:=(zN qC lF cD qB lE cB qA lB cA nH nI nJ)) rfl zAF rfl (nle rfl) rfl:qo (evL [pt Z.y 0,qf (zN qC lF cD qB lE cB qA lB cA nH nI nJ)]) s1 (.store 76 (.tmp 0) (.tmp 1))=some (undef,s2)) ((zC _ _ _).put.rw.ld yT (k:=0) rfl:lz s2 26 (qe Z.y 0) (.slice qC lF cD)) h3 f)) nx
theorem yVZ (h1:lz Z 23 (qe BA 2) (.slice qI lI cJ)) (nx:Q2 Z) (u1:¬ dY<(lI:Int):=by omega):uR BA dY Z Nx Qr Q2 :=
 kO 2 () [.g,.g,.l (.slice qI lI cJ),.g,.b false] (fun _ f=>an2 h1 (zT u1) f) nx
theorem yKF (hL:yFT BA 0 Z Pr P2) (kr:∀ i2_2' Z',Pr i2_2' Z'->zVE BA i2_2' Z' Q) (k2:∀ Z',P2 Z'->zVF BA Z' Q):zVH BA Z Q :=
 sK [.g,.lf 145 (zFX BA 0) [zJR BA Pr,zJS BA P2]] (ai (ai tt (ai (arf (zFX BA 0)) hL)) (ai (kz1 kr) (ai (kz0 k2) trivial)))
theorem yKC (nx:Q (iV i2_2) Z):zVE BA i2_2 Z Q :=
 sK [] nx
theorem yKD (nx:Q (iV 0) Z):zVF BA Z Q :=
 sK [.g] nx
end
section
variable {α:Type} {xs:List α} {f:α->Bool} {x:α}
def vU (w:Wk) (d:Dty):Bool:=inB d.day 0 (w.M-1) && (inB d.on 0 1439 && (inB d.lo d.on d.hi && (!decide (d.on+1440<d.hi) && inB d.route 0 15)))
def zAR (w:Wk) (x:Drv):Bool:=wM x.J 0 15 && (wM x.qa 0 (w.M-1) && (wM x.qb 0 (w.M-1) && (inB x.off (-10080) 1440 && (inB x.row 0 14 && inB x.used 0 w.j))))
def vM (w:Wk):Bool:=inB w.M 1 7 && (inB w.rest 0 3000 && (inB w.run 1 14 && inB w.j 0 20000))
def yX (w:Wk):Int:=if 12<w.N.length\/6<w.L.length then 3 else if vM w && (w.N.all (vU w) && w.L.all (zAR w)) then 0 else 1
theorem zRS {i:Nat} (h:xs[i]?=some x) (ha:(xs.take i).all f=true) (hf:f x=true):(xs.take (i+1)).all f=true:=by
 rw [wF h,List.all_append,ha];simp [hf]
theorem yDA (h:x∈xs) (hf:f x=false):xs.all f=false:=by
 cases ha:xs.all f with
 | false=>rfl
 | true=>rw [List.all_eq_true.1 ha x h] at hf;cases hf
def zAD (w:Wk):Prop:=∀ x∈w.L,x.J.length<=1000/\x.qa.length<=1000/\x.qb.length<=1000
section
variable {Z:St} {w:Wk} {p q:Option Addr} {l m c d:Nat}
theorem xNE (h:WkP Z 92 76 w p l q m) (hsh:zAD w):zD Tryz.prog 55 [.agg ⟨wkc w.M p l c q m d w.rest w.run w.j⟩] Z (iV (yX w)) Z:=by
 have hwp:=h;have hn:=h.len.1;have hm:=h.len.2;by_cases h12:12<l
 ·have:yX w=3:=by unfold yX;rw [if_pos (.inl (by omega))]
  rw [this];exact (xGB ⟨rfl,Nat.le_refl _⟩ (by omega)).pure
 by_cases h6:6<m
 ·have:yX w=3:=by unfold yX;rw [if_pos (.inr (by omega))]
  rw [this];exact (xGA ⟨rfl,Nat.le_refl _⟩ (by omega) (by omega)).pure
 have hf0:yX w=if vM w && (w.N.all (vU w) && w.L.all (zAR w)) then 0 else 1:=by unfold yX;rw [if_neg (by omega)]
 obtain ⟨Z1,hZ1⟩:∃ Z1,Z1=Z.re.row (wkc w.M p l c q m d w.rest w.run w.j) 6:=⟨_,rfl⟩;have cin:∀ {τ:St} {n lo hi:Int} {b:Bool},inB n lo hi=b->zD Tryz.prog 33 [iV n,iV lo,iV hi] τ (.bool b) τ:=fun e=>e ▸ xMZ
 have no:vM w=false->yX w=1:=fun e=>by rw [hf0,e];rfl
 cases b1:inB w.M 1 7 with
 | false=>rw [no (by unfold vM;rw [b1];rfl)];exact (xFV (cin b1) ⟨rfl,Nat.le_refl _⟩ (by omega) (by omega)).pure
 | true =>
 cases b2:inB w.rest 0 3000 with
 | false=>rw [no (by unfold vM;rw [b1,b2];rfl)];exact (xFW (cin b1) (cin b2) ⟨rfl,Nat.le_refl _⟩ (by omega) (by omega)).pure
 | true =>
 cases b3:inB w.run 1 14 with
 | false=>rw [no (by unfold vM;rw [b1,b2,b3];rfl)];exact (xFX (cin b1) (cin b2) (cin b3) ⟨rfl,Nat.le_refl _⟩ (by omega) (by omega)).pure
 | true =>
 cases b4:inB w.j 0 20000 with
 | false=>rw [no (by unfold vM;rw [b1,b2,b3,b4];rfl)];exact (xFY (cin b1) (cin b2) (cin b3) (cin b4) ⟨rfl,Nat.le_refl _⟩ (by omega) (by omega)).pure
 | true =>
 have hh:vM w=true:=by unfold vM;rw [b1,b2,b3,b4];rfl
 have hd:=uF.1 b1;have N1:New Z.re Z1:=by rw [hZ1];exact New.row _ _ _
 have L1:Le Z Z1:=(le0 Z).trans N1.le;have hW:∀ {τ},Le Z1 τ->Row τ ⟨Z.re.y,0,none⟩ (wkc w.M p l c q m d w.rest w.run w.j):=fun {τ} hN=>by
  have:=xH Z.re (wkc w.M p l c q m d w.rest w.run w.j) 6;rw [<- hZ1] at this;exact this.le hN
 have nod:∀ x∈w.N,vU w x=false->yX w=1:=fun x hx e=>by rw [hf0,yDA hx e];simp
 have nov:∀ x∈w.L,zAR w x=false->yX w=1:=fun x hx e=>by rw [hf0,yDA hx e];simp
 have lw1:∀ {τ:St},New Z1 τ->Z.y<=τ.low:=fun hN=>(N1.trans hN).lw
 refine zO.pure (xFZ (Pr:=fun n τ=>New Z1 τ/\n=yX w) (P0:=fun τ=>New Z1 τ/\w.N.all (vU w)=true) (cin b1) (cin b2) (cin b3) (cin b4)
  (yKH (Inv:=fun k i τ=>New Z1 τ/\∃ j:Nat,i=j/\j+k=l/\(w.N.take j).all (vU w)=true) ?_ l 0 _ ⟨by rw [<- hZ1];exact New.refl _,0,rfl,by omega,rfl⟩)
  (fun n τ h=>yKE ⟨by rw [h.2],lw1 h.1⟩) (fun τ h=>?_) (by omega) (by omega))
 ·rintro k i τ ⟨hN,j,rfl,hk,ha⟩;have ldD:zB Tryz.prog τ 22 ⟨Z.re.y,1,none⟩=some (.slice p l c):=(hW hN.le).ld zBF rfl;by_cases hj:j<l;rotate_left
  ·exact yWH ldD ⟨hN,by rwa [List.take_of_length_le (by omega)] at ha⟩ (by omega)
  obtain ⟨a,rfl,x,hx,lx⟩:=xZ (SlV.le h.dty (L1.trans hN.le)) hj;have hmem:=List.mem_of_getElem? hx;have hN2:New Z1 ((τ.row (zG 0 0 0 0 0) 5).own τ.y (zG x.day x.on x.lo x.hi x.route) 5):=hN.row'.own hN.le.y;have ld0:zB Tryz.prog ((τ.row (zG 0 0 0 0 0) 5).own τ.y (zG x.day x.on x.lo x.hi x.route) 5) 3 ⟨Z.re.y,0,none⟩=some (iV w.M):=(hW hN2.le).ld zU rfl;cases c1:inB x.day 0 (w.M-1) with
  | false=>exact yWI ldD lx ld0 (cin c1) ⟨hN2,(nod x hmem (by unfold vU;rw [c1];rfl)).symm⟩ (by omega) (by omega) (by omega)
  | true =>
  cases c2:inB x.on 0 1439 with
  | false=>exact yWJ ldD lx ld0 (cin c1) (cin c2) ⟨hN2,(nod x hmem (by unfold vU;rw [c1,c2];rfl)).symm⟩ (by omega) (by omega) (by omega)
  | true =>
  have hon:=uF.1 c2;cases c3:inB x.lo x.on x.hi with
  | false=>exact yWK ⟨ldD,lx,ld0,(cin c1),(cin c2)⟩ (cin c3) ⟨hN2,(nod x hmem (by unfold vU;rw [c1,c2,c3];rfl)).symm⟩ (by omega) (by omega) (by omega)
  | true =>
  by_cases c4:x.on+1440<x.hi
  ·exact yWN ⟨ldD,lx,ld0,(cin c1),(cin c2)⟩ (cin c3) ⟨hN2,(nod x hmem (by unfold vU;rw [c1,c2,c3,decide_eq_true c4];rfl)).symm⟩ (by omega) (by omega) (by omega) (by omega) c4
  cases c5:inB x.route 0 15 with
  | false=>exact yWL ⟨ldD,lx,ld0,(cin c1),(cin c2)⟩ (cin c3) (cin c5) ⟨hN2,(nod x hmem (by unfold vU;rw [c1,c2,c3,decide_eq_false c4,c5];rfl)).symm⟩ (by omega) (by omega) (by omega) (by omega) c4
  | true=>exact yWM ⟨ldD,lx,ld0,(cin c1),(cin c2)⟩ (cin c3) (cin c5) ⟨k-1,by omega,hN2,j+1,by omega,by omega,zRS hx ha (by unfold vU;rw [c1,c2,c3,decide_eq_false c4,c5];rfl)⟩ (by omega) (by omega) (by omega) (by omega) c4 (by omega)
 ·obtain ⟨hN1,hdu⟩:=h;refine yKF (Pr:=fun n τ=>New Z1 τ/\n=yX w) (P2:=fun τ=>New Z1 τ/\w.L.all (zAR w)=true)
   (yKG (Inv:=fun k i τ=>New Z1 τ/\∃ j:Nat,i=j/\j+k=m/\(w.L.take j).all (zAR w)=true) ?_ m 0 _ ⟨hN1,0,rfl,by omega,rfl⟩)
   (fun n τ h=>yKC ⟨by rw [h.2],lw1 h.1⟩) (fun τ h=>yKD ⟨by rw [hf0,hh,hdu,h.2];rfl,lw1 h.1⟩)
  rintro k i τ ⟨hN,j,rfl,hk,ha⟩;have ldV:zB Tryz.prog τ 23 ⟨Z.re.y,2,none⟩=some (.slice q m d):=(hW hN.le).ld zEZ rfl;by_cases hj:j<m;rotate_left
  ·exact yVZ ldV ⟨hN,by rwa [List.take_of_length_le (by omega)] at ha⟩ (by omega)
  have LL:=L1.trans hN.le;obtain ⟨vs,hv1,hv2,hv3⟩:=hwp.drv;obtain ⟨qa,rfl,_⟩:=hv1.some hj;have hx:w.L[j]?=some w.L[j]:=by simp
  obtain ⟨x,hxe⟩:∃ x,x=w.L[j]:=⟨_,rfl⟩;rw [<- hxe] at hx;obtain ⟨v,g1,p',l',c',r',n',d',s',j',e',rfl,hkn,hlv,hws⟩:=hv3 j _ hx;have lx:zB Tryz.prog τ 76 (zJ qa (Int.toNat (j:Int)*6))=some (.agg ⟨zN p' l' c' r' n' d' s' j' e' x.off x.row x.used⟩):=(hv1.le LL).at rfl g1;have hmem:=List.mem_of_getElem? hx;have hsx:=hsh x hmem;have hN2:New Z1 ((τ.row (zN none 0 0 none 0 0 none 0 0 0 0 0) 6).own τ.y (zN p' l' c' r' n' d' s' j' e' x.off x.row x.used) 6):=hN.row'.own hN.le.y;have L2:=L1.trans hN2.le;have ld0:zB Tryz.prog ((τ.row (zN none 0 0 none 0 0 none 0 0 0 0 0) 6).own τ.y (zN p' l' c' r' n' d' s' j' e' x.off x.row x.used) 6) 3 ⟨Z.re.y,0,none⟩=some (iV w.M):=(hW hN2.le).ld zU rfl;have ld5:zB Tryz.prog ((τ.row (zN none 0 0 none 0 0 none 0 0 0 0 0) 6).own τ.y (zN p' l' c' r' n' d' s' j' e' x.off x.row x.used) 6) 3 ⟨Z.re.y,5,none⟩=some (iV w.j):=(hW hN2.le).ld zU rfl;have k1:=zZK (c:=c') (lo:=0) (hi:=15) (SlV.le hkn L2) (by have:=hkn.len;omega);have k2:=zZK (c:=d') (lo:=0) (hi:=w.M-1) (SlV.le hlv L2) (by have:=hlv.len;omega);have k3:=zZK (c:=e') (lo:=0) (hi:=w.M-1) (SlV.le hws L2) (by have:=hws.len;omega);cases c1:wM x.J 0 15 with
  | false=>rw [c1] at k1;exact yWA ldV lx k1 ⟨hN2,(nov x hmem (by unfold zAR;rw [c1];rfl)).symm⟩ (by omega) (by omega)
  | true =>
  cases c2:wM x.qa 0 (w.M-1) with
  | false=>rw [c1] at k1;rw [c2] at k2;exact yWB ldV lx k1 ld0 k2 ⟨hN2,(nov x hmem (by unfold zAR;rw [c1,c2];rfl)).symm⟩ (by omega) (by omega) (by omega)
  | true =>
  cases c3:wM x.qb 0 (w.M-1) with
  | false=>rw [c1] at k1;rw [c2] at k2;rw [c3] at k3;exact yWC ⟨ldV,lx,k1,ld0,k2⟩ k3 ⟨hN2,(nov x hmem (by unfold zAR;rw [c1,c2,c3];rfl)).symm⟩ (by omega) (by omega) (by omega)
  | true =>
  rw [c1] at k1;rw [c2] at k2;rw [c3] at k3;cases c4:inB x.off (-10080) 1440 with
  | false=>exact yWD ⟨ldV,lx,k1,ld0,k2⟩ k3 (cin c4) ⟨hN2,(nov x hmem (by unfold zAR;rw [c1,c2,c3,c4];rfl)).symm⟩ (by omega) (by omega) (by omega)
  | true =>
  cases c5:inB x.row 0 14 with
  | false=>exact yWE ⟨ldV,lx,k1,ld0,k2⟩ k3 (cin c4) (cin c5) ⟨hN2,(nov x hmem (by unfold zAR;rw [c1,c2,c3,c4,c5];rfl)).symm⟩ (by omega) (by omega) (by omega)
  | true =>
  cases c6:inB x.used 0 w.j with
  | false=>exact yWF ⟨ldV,lx,k1,ld0,k2⟩ k3 (cin c4) (cin c5) ld5 (cin c6) ⟨hN2,(nov x hmem (by unfold zAR;rw [c1,c2,c3,c4,c5,c6];rfl)).symm⟩ (by omega) (by omega) (by omega)
  | true=>exact yWG ⟨ldV,lx,k1,ld0,k2⟩ k3 (cin c4) (cin c5) ld5 (cin c6) ⟨k-1,by omega,hN2,j+1,by omega,by omega,zRS hx ha (by unfold zAR;rw [c1,c2,c3,c4,c5,c6];rfl)⟩ (by omega) (by omega) (by omega) (by omega)
end
end
section
noncomputable section
variable (s:oAa) (BA s_l s_c:Nat) (l:oAa) (v:Int) (f:FuncId) (l_l l_c:Nat) (f_a f_c:lVa) (d9 bu aF:Int) (q3:Bool->St->Prop) (fy:Bool) (q0:Int->St->Prop) (q2:St->Prop) (Z:St) (Nx Qr:Int->St->Prop) (Q:vPa) (q4:Bool->St->Prop) (Q0:St->Prop)
def xDV:Code:=(Code.part [1,0,1,0,0] (qh 87))
def zQZ:lNa:=[(0,.slice s s_l s_c),(1,.func (.func f) ⟨f_a⟩ ⟨f_c⟩),(7,iV (s_l:Int)),(8,iV aF)]
def xQT:Alt:=⟨Int,.normal,fun t=>zQZ s s_l s_c f f_a f_c t,fun t=>[],fun t Z=>q0 t Z⟩
def yHQ (s:oAa) (s_l s_c:Nat) (f:FuncId) (f_a f_c:lVa) (bu:Int):lNa:=[(4,iV bu)]
def zTH:Alt:=⟨Int,.ret,fun t=>yHQ s s_l s_c f f_a f_c t,fun t=>[],fun t Z=>q0 t Z⟩
def yHR (s:oAa) (s_l s_c:Nat) (f:FuncId) (f_a f_c:lVa):lNa:=[]
def zTI:Alt:=⟨Unit,(.exit 0),fun t=>yHR s s_l s_c f f_a f_c,fun t=>[],fun t Z=>q2 Z⟩
def zXV:Prop:=qi qj none xDV 19 (zQZ s s_l s_c f f_a f_c aF) [] [xQT s s_l s_c f f_a f_c Nx,zTH s s_l s_c f f_a f_c Qr,zTI s s_l s_c f f_a f_c Q0] Z
def xDW:Prop:=qk qj none xDV 19 (zQZ s s_l s_c f f_a f_c aF) [] [zTH s s_l s_c f f_a f_c Qr,zTI s s_l s_c f f_a f_c Q0] Z
def yHS:Prop:=kZ qj (qh 87) [1,0,1,0] (ql 87 Q) .ret 19 (yHQ s s_l s_c f f_a f_c bu) Z
def yHT:Prop:=kZ qj (qh 87) [1,0,1,0] (ql 87 Q) (.exit 0) 19 (yHR s s_l s_c f f_a f_c) Z
def xDO:Code:=(Code.part [1,0,1,0,0] (qh 88))
def zQW:lNa:=[(0,.slice s s_l s_c),(1,.func (.func f) ⟨f_a⟩ ⟨f_c⟩),(7,iV (s_l:Int)),(8,iV aF)]
def xQH:Alt:=⟨Int,.normal,fun t=>zQW s s_l s_c f f_a f_c t,fun t=>[],fun t Z=>q0 t Z⟩
def yHE (s:oAa) (s_l s_c:Nat) (f:FuncId) (f_a f_c:lVa) (bu:Int):lNa:=[(4,iV bu)]
def zTA:Alt:=⟨Int,.ret,fun t=>yHE s s_l s_c f f_a f_c t,fun t=>[],fun t Z=>q0 t Z⟩
def yHF (s:oAa) (s_l s_c:Nat) (f:FuncId) (f_a f_c:lVa):lNa:=[]
def zTB:Alt:=⟨Unit,(.exit 0),fun t=>yHF s s_l s_c f f_a f_c,fun t=>[],fun t Z=>q2 Z⟩
def zXS:Prop:=qi qj none xDO 19 (zQW s s_l s_c f f_a f_c aF) [] [xQH s s_l s_c f f_a f_c Nx,zTA s s_l s_c f f_a f_c Qr,zTB s s_l s_c f f_a f_c Q0] Z
def xDP:Prop:=qk qj none xDO 19 (zQW s s_l s_c f f_a f_c aF) [] [zTA s s_l s_c f f_a f_c Qr,zTB s s_l s_c f f_a f_c Q0] Z
def yHG:Prop:=kZ qj (qh 88) [1,0,1,0] (ql 88 Q) .ret 19 (yHE s s_l s_c f f_a f_c bu) Z
def yHH:Prop:=kZ qj (qh 88) [1,0,1,0] (ql 88 Q) (.exit 0) 19 (yHF s s_l s_c f f_a f_c) Z
def xDT:Code:=(Code.part [1,0,1,0,0] (qh 105))
def zQY:lNa:=[(0,.slice s s_l s_c),(1,.func (.func f) ⟨[]⟩ ⟨f_c⟩),(7,iV (s_l:Int)),(8,iV aF)]
def xQP:Alt:=⟨Int,.normal,fun t=>zQY s s_l s_c f f_c t,fun t=>[],fun t Z=>q0 t Z⟩
def yHM (s:oAa) (s_l s_c:Nat) (f:FuncId) (f_c:lVa) (bu:Int):lNa:=[(4,iV bu)]
def zTF:Alt:=⟨Int,.ret,fun t=>yHM s s_l s_c f f_c t,fun t=>[],fun t Z=>q0 t Z⟩
def yHN (s:oAa) (s_l s_c:Nat) (f:FuncId) (f_c:lVa):lNa:=[]
def zTG:Alt:=⟨Unit,(.exit 0),fun t=>yHN s s_l s_c f f_c,fun t=>[],fun t Z=>q2 Z⟩
def zXU:Prop:=qi qj none xDT 19 (zQY s s_l s_c f f_c aF) [] [xQP s s_l s_c f f_c Nx,zTF s s_l s_c f f_c Qr,zTG s s_l s_c f f_c Q0] Z
def xDU:Prop:=qk qj none xDT 19 (zQY s s_l s_c f f_c aF) [] [zTF s s_l s_c f f_c Qr,zTG s s_l s_c f f_c Q0] Z
def yHO:Prop:=kZ qj (qh 105) [1,0,1,0] (ql 105 Q) .ret 19 (yHM s s_l s_c f f_c bu) Z
def yHP:Prop:=kZ qj (qh 105) [1,0,1,0] (ql 105 Q) (.exit 0) 19 (yHN s s_l s_c f f_c) Z
def yEU:Code:=(Code.part [1,1,0,1,0,0] (qh 53))
def zFQ:lNa:=[(2,pt BA 0),(14,.slice l l_l l_c),(15,iV (l_l:Int)),(16,iV d9)]
def yUB:Alt:=⟨Int,.normal,fun t=>zFQ BA l l_l l_c t,fun t=>[],fun t Z=>q0 t Z⟩
def zUM (BA:Nat) (l:oAa) (l_l l_c:Nat) (fy:Bool):lNa:=[(4,.bool fy)]
def zIT:Alt:=⟨Bool,.ret,fun t=>zUM BA l l_l l_c t,fun t=>[],fun t Z=>q3 t Z⟩
def zUN (BA:Nat) (l:oAa) (l_l l_c:Nat):lNa:=[]
def zIU:Alt:=⟨Unit,(.exit 0),fun t=>zUN BA l l_l l_c,fun t=>[],fun t Z=>q2 Z⟩
def zLQ:Prop:=qi qj none yEU 35 (zFQ BA l l_l l_c d9) [] [yUB BA l l_l l_c Nx,zIT BA l l_l l_c q4,zIU BA l l_l l_c Q0] Z
def yEV:Prop:=qk qj none yEU 35 (zFQ BA l l_l l_c d9) [] [zIT BA l l_l l_c q4,zIU BA l l_l l_c Q0] Z
def zUO:Prop:=kZ qj (qh 53) [1,1,0,1,0] (ql 53 Q) .ret 35 (zUM BA l l_l l_c fy) Z
def zUP:Prop:=kZ qj (qh 53) [1,1,0,1,0] (ql 53 Q) (.exit 0) 35 (zUN BA l l_l l_c) Z
def yQP:Code:=(Code.part [1,0,1,0,0] (qh 83))
def zKJ:lNa:=[(0,.slice s s_l s_c),(1,iV v),(7,iV (s_l:Int)),(8,iV aF)]
def xIE:Alt:=⟨Int,.normal,fun t=>zKJ s s_l s_c v t,fun t=>[],fun t Z=>q0 t Z⟩
def yAW (s:oAa) (s_l s_c:Nat) (v bu:Int):lNa:=[(4,iV bu)]
def zOR:Alt:=⟨Int,.ret,fun t=>yAW s s_l s_c v t,fun t=>[],fun t Z=>q0 t Z⟩
def yAX (s:oAa) (s_l s_c:Nat) (v:Int):lNa:=[]
def zOS:Alt:=⟨Unit,(.exit 0),fun t=>yAX s s_l s_c v,fun t=>[],fun t Z=>q2 Z⟩
def zQV:Prop:=qi qj none yQP 19 (zKJ s s_l s_c v aF) [] [xIE s s_l s_c v Nx,zOR s s_l s_c v Qr,zOS s s_l s_c v Q0] Z
def yQQ:Prop:=qk qj none yQP 19 (zKJ s s_l s_c v aF) [] [zOR s s_l s_c v Qr,zOS s s_l s_c v Q0] Z
def yAY:Prop:=kZ qj (qh 83) [1,0,1,0] (ql 83 Q) .ret 19 (yAW s s_l s_c v bu) Z
def yAZ:Prop:=kZ qj (qh 83) [1,0,1,0] (ql 83 Q) (.exit 0) 19 (yAX s s_l s_c v) Z
end
variable {s dV dU eJ l qD qE qG af ae aU a7 bt q1:oAa} {s_l s_c dh di dd df dz dA l_l l_c lA cE lG cF lH cG ac ad aa ab aI aJ aK aL aQ aR l1 c1 BA:Nat} {f f1 right:FuncId} {f_c f_a eh f1_a bK dG:lVa} {n1 fo gn dB dC dT fm fk eK aF nG nF nA nB nD bu nE ak am au aj aB aP ax ay aD bL bN bH x n d9 v:Int} {Z:St} {Q:vPa} {v0 s_a l_a eW:Addr} {Inv:Nat->Int->St->Prop} {Qr Nx Pr:Int->St->Prop} {Q0 P0:St->Prop} {b3 b6 b2 b1 fy:Bool}
theorem xXG (h1:qm 87 [.slice s s_l s_c,.func (.func f) ⟨f_a⟩ ⟨f_c⟩] Z (iV n1) Z) (nx:Q (.bool true) Z) (u1:0<=n1:=by omega):qg 67 [.slice s s_l s_c,.func (.func f) ⟨f_a⟩ ⟨f_c⟩] Z Q :=
 zH [.g,.g,.g,.c (iV n1) Z,.b true,.g] (kd (an2 h1 (yE u1) nx))
theorem xXF (h1:qm 87 [.slice s s_l s_c,.func (.func f) ⟨f_a⟩ ⟨f_c⟩] Z (iV n1) Z) (nx:Q (.bool false) Z) (u1:¬ 0<=n1:=by omega):qg 67 [.slice s s_l s_c,.func (.func f) ⟨f_a⟩ ⟨f_c⟩] Z Q :=
 zH [.g,.g,.g,.c (iV n1) Z,.b false,.g] (kd (an2 h1 (yH u1) nx))
theorem xTA:let s1:=Z.row (zG fo gn dB dC dT) 5;∀ (h1:lz s1 86 v0 (.func (.func f1) ⟨f1_a⟩ ⟨eh⟩)) (h2:qm f1 (f1_a ++ (qf (zG fo gn dB dC dT)::eh)) s1 (.bool true) s1) (nx:Q (.bool false) s1),qg 68 [qf (zG fo gn dB dC dT),pz v0] Z Q:=
 let s1:=Z.row (zG fo gn dB dC dT) 5;fun h1 h2 nx=>zH [.g,.g,.l (.func (.func f1) ⟨f1_a⟩ ⟨eh⟩),.l (qf (zG fo gn dB dC dT)),.c (.bool true) s1,.g,.g] (kd (an3 h1 ((zC _ _ _).rw.ldN zNU uD (k:=0) rfl rfl (nle rfl):lz s1 85 (qe Z.y 0) (qf (zG fo gn dB dC dT))) h2 nx))
theorem xSZ:let s1:=Z.row (zG fo gn dB dC dT) 5;∀ (h1:lz s1 86 v0 (.func (.func f1) ⟨f1_a⟩ ⟨eh⟩)) (h2:qm f1 (f1_a ++ (qf (zG fo gn dB dC dT)::eh)) s1 (.bool false) s1) (nx:Q (.bool true) s1),qg 68 [qf (zG fo gn dB dC dT),pz v0] Z Q:=
 let s1:=Z.row (zG fo gn dB dC dT) 5;fun h1 h2 nx=>zH [.g,.g,.l (.func (.func f1) ⟨f1_a⟩ ⟨eh⟩),.l (qf (zG fo gn dB dC dT)),.c (.bool false) s1,.g,.g] (kd (an3 h1 ((zC _ _ _).rw.ldN zNU uD (k:=0) rfl rfl (nle rfl):lz s1 85 (qe Z.y 0) (qf (zG fo gn dB dC dT))) h2 nx))
theorem xWY (h1:qm 88 [.slice s s_l s_c,.func (.func f) ⟨f_a⟩ ⟨f_c⟩] Z (iV n1) Z) (nx:Q (.bool true) Z) (u1:0<=n1:=by omega):qg 69 [.slice s s_l s_c,.func (.func f) ⟨f_a⟩ ⟨f_c⟩] Z Q :=
 zH [.g,.g,.g,.c (iV n1) Z,.b true,.g] (kd (an2 h1 (yE u1) nx))
theorem xWX (h1:qm 88 [.slice s s_l s_c,.func (.func f) ⟨f_a⟩ ⟨f_c⟩] Z (iV n1) Z) (nx:Q (.bool false) Z) (u1:¬ 0<=n1:=by omega):qg 69 [.slice s s_l s_c,.func (.func f) ⟨f_a⟩ ⟨f_c⟩] Z Q :=
 zH [.g,.g,.g,.c (iV n1) Z,.b false,.g] (kd (an2 h1 (yH u1) nx))
theorem xSU:let s1:=Z.row (zN dV dh di dU dd df eJ dz dA fm fk eK) 6;∀ (h1:lz s1 89 v0 (.func (.func f1) ⟨f1_a⟩ ⟨eh⟩)) (h2:qm f1 (f1_a ++ (qf (zN dV dh di dU dd df eJ dz dA fm fk eK)::eh)) s1 (.bool true) s1) (nx:Q (.bool false) s1),qg 70 [qf (zN dV dh di dU dd df eJ dz dA fm fk eK),pz v0] Z Q:=
 let s1:=Z.row (zN dV dh di dU dd df eJ dz dA fm fk eK) 6;fun h1 h2 nx=>zH [.g,.g,.l (.func (.func f1) ⟨f1_a⟩ ⟨eh⟩),.l (qf (zN dV dh di dU dd df eJ dz dA fm fk eK)),.c (.bool true) s1,.g,.g] (kd (an3 h1 ((zC _ _ _).rw.ldN yIT zFF (k:=0) rfl rfl (nle rfl):lz s1 88 (qe Z.y 0) (qf (zN dV dh di dU dd df eJ dz dA fm fk eK))) h2 nx))
theorem xST:let s1:=Z.row (zN dV dh di dU dd df eJ dz dA fm fk eK) 6;∀ (h1:lz s1 89 v0 (.func (.func f1) ⟨f1_a⟩ ⟨eh⟩)) (h2:qm f1 (f1_a ++ (qf (zN dV dh di dU dd df eJ dz dA fm fk eK)::eh)) s1 (.bool false) s1) (nx:Q (.bool true) s1),qg 70 [qf (zN dV dh di dU dd df eJ dz dA fm fk eK),pz v0] Z Q:=
 let s1:=Z.row (zN dV dh di dU dd df eJ dz dA fm fk eK) 6;fun h1 h2 nx=>zH [.g,.g,.l (.func (.func f1) ⟨f1_a⟩ ⟨eh⟩),.l (qf (zN dV dh di dU dd df eJ dz dA fm fk eK)),.c (.bool false) s1,.g,.g] (kd (an3 h1 ((zC _ _ _).rw.ldN yIT zFF (k:=0) rfl rfl (nle rfl):lz s1 88 (qe Z.y 0) (qf (zN dV dh di dU dd df eJ dz dA fm fk eK))) h2 nx))
theorem xYD:let Y1:=Z.row [.func (.func right) ⟨dG⟩ ⟨bK⟩] 1;∀ (h1:qm 67 [.slice l l_l l_c,.func (.func 68) ⟨[]⟩ ⟨[pt Z.y 0]⟩] Y1 (.bool true) Y1) (nx:Q (.bool false) Y1),qg 48 [.slice l l_l l_c,.func (.func right) ⟨dG⟩ ⟨bK⟩] Z Q:=
 fun h1 nx=>zH [.g,.g,.g,.g,.c (.bool true) (Z.row [.func (.func right) ⟨dG⟩ ⟨bK⟩] 1),.g,.g] (kd (ai h1 nx))
theorem xYC:let Y1:=Z.row [.func (.func right) ⟨dG⟩ ⟨bK⟩] 1;∀ (h1:qm 67 [.slice l l_l l_c,.func (.func 68) ⟨[]⟩ ⟨[pt Z.y 0]⟩] Y1 (.bool false) Y1) (nx:Q (.bool true) Y1),qg 48 [.slice l l_l l_c,.func (.func right) ⟨dG⟩ ⟨bK⟩] Z Q:=
 fun h1 nx=>zH [.g,.g,.g,.g,.c (.bool false) (Z.row [.func (.func right) ⟨dG⟩ ⟨bK⟩] 1),.g,.g] (kd (ai h1 nx))
theorem xXV:let Y1:=Z.row [.func (.func right) ⟨dG⟩ ⟨bK⟩] 1;∀ (h1:qm 69 [.slice l l_l l_c,.func (.func 70) ⟨[]⟩ ⟨[pt Z.y 0]⟩] Y1 (.bool true) Y1) (nx:Q (.bool false) Y1),qg 50 [.slice l l_l l_c,.func (.func right) ⟨dG⟩ ⟨bK⟩] Z Q:=
 fun h1 nx=>zH [.g,.g,.g,.g,.c (.bool true) (Z.row [.func (.func right) ⟨dG⟩ ⟨bK⟩] 1),.g,.g] (kd (ai h1 nx))
theorem xXU:let Y1:=Z.row [.func (.func right) ⟨dG⟩ ⟨bK⟩] 1;∀ (h1:qm 69 [.slice l l_l l_c,.func (.func 70) ⟨[]⟩ ⟨[pt Z.y 0]⟩] Y1 (.bool false) Y1) (nx:Q (.bool true) Y1),qg 50 [.slice l l_l l_c,.func (.func right) ⟨dG⟩ ⟨bK⟩] Z Q:=
 fun h1 nx=>zH [.g,.g,.g,.g,.c (.bool false) (Z.row [.func (.func right) ⟨dG⟩ ⟨bK⟩] 1),.g,.g] (kd (ai h1 nx))
theorem yZB (hb:∀ k aF Z,Inv k aF Z->zXV s s_l s_c f f_a f_c aF Z (NX1 Inv k) Qr Q0):∀ k aF Z,Inv k aF Z->xDW s s_l s_c f f_a f_c aF Z Qr Q0 :=
 xE (ai uZ (ai (xV 0) trivial)) hb
theorem xQS (h1:lz Z 85 (zJ s_a (Int.toNat aF*5)) (qf (zG nG nF nA nB nD))) (h2:qm f (f_a ++ (qf (zG nG nF nA nB nD)::f_c)) Z (.bool true) Z) (nx:Qr aF Z) (u1:aF<(s_l:Int):=by omega) (u2:Ix aF s_l:=by omega):zXV (some s_a) s_l s_c f f_a f_c aF Z Nx Qr Q0 :=
 kO 1 aF [.b true,.g,.g,.g,.g,.g,.i,.l (qf (zG nG nF nA nB nD)),.c (.bool true) Z,.g,.g] (fun _ f=>an4 (zR u1) u2 h1 h2 f) nx
theorem xQR (h1:lz Z 85 (zJ s_a (Int.toNat aF*5)) (qf (zG nG nF nA nB nD))) (h2:qm f (f_a ++ (qf (zG nG nF nA nB nD)::f_c)) Z (.bool false) Z) (nx:Nx (aF+1) Z) (u1:aF<(s_l:Int):=by omega) (u2:Ix aF s_l:=by omega) (u3:I6 (aF+1):=by omega):zXV (some s_a) s_l s_c f f_a f_c aF Z Nx Qr Q0 :=
 kO 0 (aF+1) [.b true,.g,.g,.g,.g,.g,.i,.l (qf (zG nG nF nA nB nD)),.c (.bool false) Z,.n (aF+1),.g] (fun _ f=>an5 (zR u1) u2 h1 h2 (w64 u3) f) nx
theorem xQQ (nx:Q0 Z) (u1:¬ aF<(s_l:Int):=by omega):zXV s s_l s_c f f_a f_c aF Z Nx Qr Q0 :=
 kO 2 () [.b false] (fun _ f=>ai (zT u1) f) nx
theorem xWL (hL:xDW s s_l s_c f f_a f_c 0 Z Pr P0) (kr:∀ i4_1' Z',Pr i4_1' Z'->yHS s s_l s_c f f_a f_c i4_1' Z' Q) (k0:∀ Z',P0 Z'->yHT s s_l s_c f f_a f_c Z' Q):qg 87 [.slice s s_l s_c,.func (.func f) ⟨f_a⟩ ⟨f_c⟩] Z Q :=
 zH [.g,.g,.g,.g,.lf 19 (zQZ s s_l s_c f f_a f_c 0) [zTH s s_l s_c f f_a f_c Pr,zTI s s_l s_c f f_a f_c P0]] (kd (ai (ai tt (ai (arf (zQZ s s_l s_c f f_a f_c 0)) hL)) (ai (kz1 kr) (ai (kz0 k0) trivial))))
theorem yYZ (nx:Q (iV bu) Z):yHS s s_l s_c f f_a f_c bu Z Q :=
 sK [] nx
theorem yZA (nx:Q (iV (-1)) Z):yHT s s_l s_c f f_a f_c Z Q :=
 sK [.g] nx
theorem yYT (hb:∀ k aF Z,Inv k aF Z->zXS s s_l s_c f f_a f_c aF Z (NX1 Inv k) Qr Q0):∀ k aF Z,Inv k aF Z->xDP s s_l s_c f f_a f_c aF Z Qr Q0 :=
 xE (ai uZ (ai (xV 0) trivial)) hb
theorem xQG (h1:lz Z 88 (zJ s_a (Int.toNat aF*6)) (qf (zN qD lA cE qE lG cF qG lH cG nB nD nE))) (h2:qm f (f_a ++ (qf (zN qD lA cE qE lG cF qG lH cG nB nD nE)::f_c)) Z (.bool true) Z) (nx:Qr aF Z) (u1:aF<(s_l:Int):=by omega) (u2:Ix aF s_l:=by omega):zXS (some s_a) s_l s_c f f_a f_c aF Z Nx Qr Q0 :=
 kO 1 aF [.b true,.g,.g,.g,.g,.g,.i,.l (qf (zN qD lA cE qE lG cF qG lH cG nB nD nE)),.c (.bool true) Z,.g,.g] (fun _ f=>an4 (zR u1) u2 h1 h2 f) nx
theorem xQF (h1:lz Z 88 (zJ s_a (Int.toNat aF*6)) (qf (zN qD lA cE qE lG cF qG lH cG nB nD nE))) (h2:qm f (f_a ++ (qf (zN qD lA cE qE lG cF qG lH cG nB nD nE)::f_c)) Z (.bool false) Z) (nx:Nx (aF+1) Z) (u1:aF<(s_l:Int):=by omega) (u2:Ix aF s_l:=by omega) (u3:I6 (aF+1):=by omega):zXS (some s_a) s_l s_c f f_a f_c aF Z Nx Qr Q0 :=
 kO 0 (aF+1) [.b true,.g,.g,.g,.g,.g,.i,.l (qf (zN qD lA cE qE lG cF qG lH cG nB nD nE)),.c (.bool false) Z,.n (aF+1),.g] (fun _ f=>an5 (zR u1) u2 h1 h2 (w64 u3) f) nx
theorem xQE (nx:Q0 Z) (u1:¬ aF<(s_l:Int):=by omega):zXS s s_l s_c f f_a f_c aF Z Nx Qr Q0 :=
 kO 2 () [.b false] (fun _ f=>ai (zT u1) f) nx
theorem xWJ (hL:xDP s s_l s_c f f_a f_c 0 Z Pr P0) (kr:∀ i4_1' Z',Pr i4_1' Z'->yHG s s_l s_c f f_a f_c i4_1' Z' Q) (k0:∀ Z',P0 Z'->yHH s s_l s_c f f_a f_c Z' Q):qg 88 [.slice s s_l s_c,.func (.func f) ⟨f_a⟩ ⟨f_c⟩] Z Q :=
 zH [.g,.g,.g,.g,.lf 19 (zQW s s_l s_c f f_a f_c 0) [zTA s s_l s_c f f_a f_c Pr,zTB s s_l s_c f f_a f_c P0]] (kd (ai (ai tt (ai (arf (zQW s s_l s_c f f_a f_c 0)) hL)) (ai (kz1 kr) (ai (kz0 k0) trivial))))
theorem yYR (nx:Q (iV bu) Z):yHG s s_l s_c f f_a f_c bu Z Q :=
 sK [] nx
theorem yYS (nx:Q (iV (-1)) Z):yHH s s_l s_c f f_a f_c Z Q :=
 sK [.g] nx
theorem xLN:let s1:=Z.row (wkc ak af ac ad ae aa ab am au aj) 6;let s2:=s1.row (zG aB aP ax ay aD) 5;∀ (h1:qm 47 [iV aB,iV 0,iV (ak-1)] s2 (.bool true) s2) (h2:qm 47 [iV aP,iV 0,iV 1439] s2 (.bool true) s2) (h3:qm 47 [iV aD,iV 0,iV 15] s2 (.bool b3) s2) (nx:Q (.bool b3) s2) (u1:I6 (ak-1):=by omega) (u2:aP<=ax:=by omega) (u3:ax<=ay:=by omega) (u4:I6 (aP+1440):=by omega) (u5:ay<=(aP+1440):=by omega),qg 49 [qf (wkc ak af ac ad ae aa ab am au aj),qf (zG aB aP ax ay aD)] Z Q:=
 let s1:=Z.row (wkc ak af ac ad ae aa ab am au aj) 6;let s2:=s1.row (zG aB aP ax ay aD) 5;let s3:=Z.y+1;fun h1 h2 h3 nx u1 u2 u3 u4 u5=>zH [.g,.g,.g,.g,.l (iV aB),.g,.l (iV ak),.n (ak-1),.c (.bool true) s2,.g,.g,.l (iV aP),.c (.bool true) s2,.g,.g,.g,.l (iV aP),.g,.g,.l (iV ax),.b true,.g,.g,.g,.g,.l (iV ax),.g,.g,.l (iV ay),.b true,.g,.g,.g,.g,.l (iV ay),.g,.l (iV aP),.n (aP+1440),.b true,.g,.g,.g,.l (iV aD),.c (.bool b3) s2,.g,.g] (kd (an6 ((zC _ _ _).rw.ld zU (k:=0) rfl:lz s2 3 (qe s3 0) (iV aB)) ((zC _ _ _).row.rw.ld zU (k:=0) rfl:lz s2 3 (qe Z.y 0) (iV ak)) (w64 u1) h1 ((zC _ _ _).rw.ld zU (k:=1) rfl:lz s2 3 (qe s3 1) (iV aP)) h2 (an6 ((zC _ _ _).rw.ld zU (k:=1) rfl:lz s2 3 (qe s3 1) (iV aP)) ((zC _ _ _).rw.ld zU (k:=2) rfl:lz s2 3 (qe s3 2) (iV ax)) (yE u2) ((zC _ _ _).rw.ld zU (k:=2) rfl:lz s2 3 (qe s3 2) (iV ax)) ((zC _ _ _).rw.ld zU (k:=3) rfl:lz s2 3 (qe s3 3) (iV ay)) (yE u3) (an6 ((zC _ _ _).rw.ld zU (k:=3) rfl:lz s2 3 (qe s3 3) (iV ay)) ((zC _ _ _).rw.ld zU (k:=1) rfl:lz s2 3 (qe s3 1) (iV aP)) (w64 u4) (yE u5) ((zC _ _ _).rw.ld zU (k:=4) rfl:lz s2 3 (qe s3 4) (iV aD)) h3 nx))))
theorem xLM:let s1:=Z.row (wkc ak af ac ad ae aa ab am au aj) 6;let s2:=s1.row (zG aB aP ax ay aD) 5;∀ (h1:qm 47 [iV aB,iV 0,iV (ak-1)] s2 (.bool true) s2) (h2:qm 47 [iV aP,iV 0,iV 1439] s2 (.bool true) s2) (nx:Q (.bool false) s2) (u1:I6 (ak-1):=by omega) (u2:aP<=ax:=by omega) (u3:ax<=ay:=by omega) (u4:I6 (aP+1440):=by omega) (u5:¬ ay<=(aP+1440):=by omega),qg 49 [qf (wkc ak af ac ad ae aa ab am au aj),qf (zG aB aP ax ay aD)] Z Q:=
 let s1:=Z.row (wkc ak af ac ad ae aa ab am au aj) 6;let s2:=s1.row (zG aB aP ax ay aD) 5;let s3:=Z.y+1;fun h1 h2 nx u1 u2 u3 u4 u5=>zH [.g,.g,.g,.g,.l (iV aB),.g,.l (iV ak),.n (ak-1),.c (.bool true) s2,.g,.g,.l (iV aP),.c (.bool true) s2,.g,.g,.g,.l (iV aP),.g,.g,.l (iV ax),.b true,.g,.g,.g,.g,.l (iV ax),.g,.g,.l (iV ay),.b true,.g,.g,.g,.g,.l (iV ay),.g,.l (iV aP),.n (aP+1440),.b false,.g,.g,.g,.g] (kd (an4 ((zC _ _ _).rw.ld zU (k:=0) rfl:lz s2 3 (qe s3 0) (iV aB)) ((zC _ _ _).row.rw.ld zU (k:=0) rfl:lz s2 3 (qe Z.y 0) (iV ak)) (w64 u1) h1 (an6 ((zC _ _ _).rw.ld zU (k:=1) rfl:lz s2 3 (qe s3 1) (iV aP)) h2 ((zC _ _ _).rw.ld zU (k:=1) rfl:lz s2 3 (qe s3 1) (iV aP)) ((zC _ _ _).rw.ld zU (k:=2) rfl:lz s2 3 (qe s3 2) (iV ax)) (yE u2) ((zC _ _ _).rw.ld zU (k:=2) rfl:lz s2 3 (qe s3 2) (iV ax)) (an6 ((zC _ _ _).rw.ld zU (k:=3) rfl:lz s2 3 (qe s3 3) (iV ay)) (yE u3) ((zC _ _ _).rw.ld zU (k:=3) rfl:lz s2 3 (qe s3 3) (iV ay)) ((zC _ _ _).rw.ld zU (k:=1) rfl:lz s2 3 (qe s3 1) (iV aP)) (w64 u4) (yH u5) nx))))
theorem xLL:let s1:=Z.row (wkc ak af ac ad ae aa ab am au aj) 6;let s2:=s1.row (zG aB aP ax ay aD) 5;∀ (h1:qm 47 [iV aB,iV 0,iV (ak-1)] s2 (.bool true) s2) (h2:qm 47 [iV aP,iV 0,iV 1439] s2 (.bool true) s2) (nx:Q (.bool false) s2) (u1:I6 (ak-1):=by omega) (u2:aP<=ax:=by omega) (u3:¬ ax<=ay:=by omega),qg 49 [qf (wkc ak af ac ad ae aa ab am au aj),qf (zG aB aP ax ay aD)] Z Q:=
 let s1:=Z.row (wkc ak af ac ad ae aa ab am au aj) 6;let s2:=s1.row (zG aB aP ax ay aD) 5;let s3:=Z.y+1;fun h1 h2 nx u1 u2 u3=>zH [.g,.g,.g,.g,.l (iV aB),.g,.l (iV ak),.n (ak-1),.c (.bool true) s2,.g,.g,.l (iV aP),.c (.bool true) s2,.g,.g,.g,.l (iV aP),.g,.g,.l (iV ax),.b true,.g,.g,.g,.g,.l (iV ax),.g,.g,.l (iV ay),.b false,.g,.g,.g,.g,.g,.g] (kd (an6 ((zC _ _ _).rw.ld zU (k:=0) rfl:lz s2 3 (qe s3 0) (iV aB)) ((zC _ _ _).row.rw.ld zU (k:=0) rfl:lz s2 3 (qe Z.y 0) (iV ak)) (w64 u1) h1 ((zC _ _ _).rw.ld zU (k:=1) rfl:lz s2 3 (qe s3 1) (iV aP)) h2 (an6 ((zC _ _ _).rw.ld zU (k:=1) rfl:lz s2 3 (qe s3 1) (iV aP)) ((zC _ _ _).rw.ld zU (k:=2) rfl:lz s2 3 (qe s3 2) (iV ax)) (yE u2) ((zC _ _ _).rw.ld zU (k:=2) rfl:lz s2 3 (qe s3 2) (iV ax)) ((zC _ _ _).rw.ld zU (k:=3) rfl:lz s2 3 (qe s3 3) (iV ay)) (yH u3) nx)))
theorem xLK:let s1:=Z.row (wkc ak af ac ad ae aa ab am au aj) 6;let s2:=s1.row (zG aB aP ax ay aD) 5;∀ (h1:qm 47 [iV aB,iV 0,iV (ak-1)] s2 (.bool true) s2) (h2:qm 47 [iV aP,iV 0,iV 1439] s2 (.bool true) s2) (nx:Q (.bool false) s2) (u1:I6 (ak-1):=by omega) (u2:¬ aP<=ax:=by omega),qg 49 [qf (wkc ak af ac ad ae aa ab am au aj),qf (zG aB aP ax ay aD)] Z Q:=
 let s1:=Z.row (wkc ak af ac ad ae aa ab am au aj) 6;let s2:=s1.row (zG aB aP ax ay aD) 5;let s3:=Z.y+1;fun h1 h2 nx u1 u2=>zH [.g,.g,.g,.g,.l (iV aB),.g,.l (iV ak),.n (ak-1),.c (.bool true) s2,.g,.g,.l (iV aP),.c (.bool true) s2,.g,.g,.g,.l (iV aP),.g,.g,.l (iV ax),.b false,.g,.g,.g,.g,.g,.g,.g,.g] (kd (an3 ((zC _ _ _).rw.ld zU (k:=0) rfl:lz s2 3 (qe s3 0) (iV aB)) ((zC _ _ _).row.rw.ld zU (k:=0) rfl:lz s2 3 (qe Z.y 0) (iV ak)) (w64 u1) (an6 h1 ((zC _ _ _).rw.ld zU (k:=1) rfl:lz s2 3 (qe s3 1) (iV aP)) h2 ((zC _ _ _).rw.ld zU (k:=1) rfl:lz s2 3 (qe s3 1) (iV aP)) ((zC _ _ _).rw.ld zU (k:=2) rfl:lz s2 3 (qe s3 2) (iV ax)) (yH u2) nx)))
theorem xLJ:let s1:=Z.row (wkc ak af ac ad ae aa ab am au aj) 6;let s2:=s1.row (zG aB aP ax ay aD) 5;∀ (h1:qm 47 [iV aB,iV 0,iV (ak-1)] s2 (.bool true) s2) (h2:qm 47 [iV aP,iV 0,iV 1439] s2 (.bool false) s2) (nx:Q (.bool false) s2) (u1:I6 (ak-1):=by omega),qg 49 [qf (wkc ak af ac ad ae aa ab am au aj),qf (zG aB aP ax ay aD)] Z Q:=
 let s1:=Z.row (wkc ak af ac ad ae aa ab am au aj) 6;let s2:=s1.row (zG aB aP ax ay aD) 5;fun h1 h2 nx u1=>zH [.g,.g,.g,.g,.l (iV aB),.g,.l (iV ak),.n (ak-1),.c (.bool true) s2,.g,.g,.l (iV aP),.c (.bool false) s2,.g,.g,.g,.g,.g,.g,.g,.g,.g,.g] (kd (an6 ((zC _ _ _).rw.ld zU (k:=0) rfl:lz s2 3 ⟨(Z.y+1),0,none⟩ (iV aB)) ((zC _ _ _).row.rw.ld zU (k:=0) rfl:lz s2 3 (qe Z.y 0) (iV ak)) (w64 u1) h1 ((zC _ _ _).rw.ld zU (k:=1) rfl:lz s2 3 ⟨(Z.y+1),1,none⟩ (iV aP)) h2 nx))
theorem xLI:let s1:=Z.row (wkc ak af ac ad ae aa ab am au aj) 6;let s2:=s1.row (zG aB aP ax ay aD) 5;∀ (h1:qm 47 [iV aB,iV 0,iV (ak-1)] s2 (.bool false) s2) (nx:Q (.bool false) s2) (u1:I6 (ak-1):=by omega),qg 49 [qf (wkc ak af ac ad ae aa ab am au aj),qf (zG aB aP ax ay aD)] Z Q:=
 let s1:=Z.row (wkc ak af ac ad ae aa ab am au aj) 6;let s2:=s1.row (zG aB aP ax ay aD) 5;fun h1 nx u1=>zH [.g,.g,.g,.g,.l (iV aB),.g,.l (iV ak),.n (ak-1),.c (.bool false) s2,.g,.g,.g,.g,.g,.g,.g,.g,.g,.g,.g] (kd (an4 ((zC _ _ _).rw.ld zU (k:=0) rfl:lz s2 3 ⟨(Z.y+1),0,none⟩ (iV aB)) ((zC _ _ _).row.rw.ld zU (k:=0) rfl:lz s2 3 (qe Z.y 0) (iV ak)) (w64 u1) h1 nx))
theorem yUM:let s1:=Z.row (wkc ak af ac ad ae aa ab am au aj) 6;let s2:=s1.row (zN aU aI aJ a7 aK aL bt aQ aR bL bN bH) 6;∀ (h1:qm 71 [.slice aU aI aJ,iV 0,iV 15] s2 (.bool true) s2) (h2:qm 71 [.slice a7 aK aL,iV 0,iV (ak-1)] s2 (.bool true) s2) (h3:qm 71 [.slice bt aQ aR,iV 0,iV (ak-1)] s2 (.bool true) s2) (h4:qm 47 [iV bL,iV (-10080),iV 1440] s2 (.bool true) s2) (h5:qm 47 [iV bN,iV 0,iV 14] s2 (.bool true) s2) (h6:qm 47 [iV bH,iV 0,iV aj] s2 (.bool b6) s2) (nx:Q (.bool b6) s2) (u1:I6 (ak-1):=by omega),qg 51 [qf (wkc ak af ac ad ae aa ab am au aj),qf (zN aU aI aJ a7 aK aL bt aQ aR bL bN bH)] Z Q:=
 let s1:=Z.row (wkc ak af ac ad ae aa ab am au aj) 6;let s2:=s1.row (zN aU aI aJ a7 aK aL bt aQ aR bL bN bH) 6;let s3:=Z.y+1;fun h1 h2 h3 h4 h5 h6 nx u1=>zH [.g,.g,.g,.g,.l (.slice aU aI aJ),.c (.bool true) s2,.g,.g,.l (.slice a7 aK aL),.g,.l (iV ak),.n (ak-1),.c (.bool true) s2,.g,.g,.g,.l (.slice bt aQ aR),.g,.l (iV ak),.n (ak-1),.c (.bool true) s2,.g,.g,.g,.l (iV bL),.c (.bool true) s2,.g,.g,.g,.l (iV bN),.c (.bool true) s2,.g,.g,.g,.l (iV bH),.g,.l (iV aj),.c (.bool b6) s2,.g,.g] (kd (an5 ((zC _ _ _).rw.ld yT (k:=0) rfl:lz s2 26 (qe s3 0) (.slice aU aI aJ)) h1 ((zC _ _ _).rw.ld yT (k:=1) rfl:lz s2 26 (qe s3 1) (.slice a7 aK aL)) ((zC _ _ _).row.rw.ld zU (k:=0) rfl:lz s2 3 (qe Z.y 0) (iV ak)) (w64 u1) (an6 h2 ((zC _ _ _).rw.ld yT (k:=2) rfl:lz s2 26 (qe s3 2) (.slice bt aQ aR)) ((zC _ _ _).row.rw.ld zU (k:=0) rfl:lz s2 3 (qe Z.y 0) (iV ak)) (w64 u1) h3 ((zC _ _ _).rw.ld zU (k:=3) rfl:lz s2 3 (qe s3 3) (iV bL)) (an6 h4 ((zC _ _ _).rw.ld zU (k:=4) rfl:lz s2 3 (qe s3 4) (iV bN)) h5 ((zC _ _ _).rw.ld zU (k:=5) rfl:lz s2 3 (qe s3 5) (iV bH)) ((zC _ _ _).row.rw.ld zU (k:=5) rfl:lz s2 3 (qe Z.y 5) (iV aj)) h6 nx))))
theorem yUL:let s1:=Z.row (wkc ak af ac ad ae aa ab am au aj) 6;let s2:=s1.row (zN aU aI aJ a7 aK aL bt aQ aR bL bN bH) 6;∀ (h1:qm 71 [.slice aU aI aJ,iV 0,iV 15] s2 (.bool true) s2) (h2:qm 71 [.slice a7 aK aL,iV 0,iV (ak-1)] s2 (.bool true) s2) (h3:qm 71 [.slice bt aQ aR,iV 0,iV (ak-1)] s2 (.bool true) s2) (h4:qm 47 [iV bL,iV (-10080),iV 1440] s2 (.bool true) s2) (h5:qm 47 [iV bN,iV 0,iV 14] s2 (.bool false) s2) (nx:Q (.bool false) s2) (u1:I6 (ak-1):=by omega),qg 51 [qf (wkc ak af ac ad ae aa ab am au aj),qf (zN aU aI aJ a7 aK aL bt aQ aR bL bN bH)] Z Q:=
 let s1:=Z.row (wkc ak af ac ad ae aa ab am au aj) 6;let s2:=s1.row (zN aU aI aJ a7 aK aL bt aQ aR bL bN bH) 6;let s3:=Z.y+1;fun h1 h2 h3 h4 h5 nx u1=>zH [.g,.g,.g,.g,.l (.slice aU aI aJ),.c (.bool true) s2,.g,.g,.l (.slice a7 aK aL),.g,.l (iV ak),.n (ak-1),.c (.bool true) s2,.g,.g,.g,.l (.slice bt aQ aR),.g,.l (iV ak),.n (ak-1),.c (.bool true) s2,.g,.g,.g,.l (iV bL),.c (.bool true) s2,.g,.g,.g,.l (iV bN),.c (.bool false) s2,.g,.g,.g,.g] (kd (an2 ((zC _ _ _).rw.ld yT (k:=0) rfl:lz s2 26 (qe s3 0) (.slice aU aI aJ)) h1 (an6 ((zC _ _ _).rw.ld yT (k:=1) rfl:lz s2 26 (qe s3 1) (.slice a7 aK aL)) ((zC _ _ _).row.rw.ld zU (k:=0) rfl:lz s2 3 (qe Z.y 0) (iV ak)) (w64 u1) h2 ((zC _ _ _).rw.ld yT (k:=2) rfl:lz s2 26 (qe s3 2) (.slice bt aQ aR)) ((zC _ _ _).row.rw.ld zU (k:=0) rfl:lz s2 3 (qe Z.y 0) (iV ak)) (an6 (w64 u1) h3 ((zC _ _ _).rw.ld zU (k:=3) rfl:lz s2 3 (qe s3 3) (iV bL)) h4 ((zC _ _ _).rw.ld zU (k:=4) rfl:lz s2 3 (qe s3 4) (iV bN)) h5 nx))))
theorem yUK:let s1:=Z.row (wkc ak af ac ad ae aa ab am au aj) 6;let s2:=s1.row (zN aU aI aJ a7 aK aL bt aQ aR bL bN bH) 6;∀ (h1:qm 71 [.slice aU aI aJ,iV 0,iV 15] s2 (.bool true) s2) (h2:qm 71 [.slice a7 aK aL,iV 0,iV (ak-1)] s2 (.bool true) s2) (h3:qm 71 [.slice bt aQ aR,iV 0,iV (ak-1)] s2 (.bool true) s2) (h4:qm 47 [iV bL,iV (-10080),iV 1440] s2 (.bool false) s2) (nx:Q (.bool false) s2) (u1:I6 (ak-1):=by omega),qg 51 [qf (wkc ak af ac ad ae aa ab am au aj),qf (zN aU aI aJ a7 aK aL bt aQ aR bL bN bH)] Z Q:=
 let s1:=Z.row (wkc ak af ac ad ae aa ab am au aj) 6;let s2:=s1.row (zN aU aI aJ a7 aK aL bt aQ aR bL bN bH) 6;let s3:=Z.y+1;fun h1 h2 h3 h4 nx u1=>zH [.g,.g,.g,.g,.l (.slice aU aI aJ),.c (.bool true) s2,.g,.g,.l (.slice a7 aK aL),.g,.l (iV ak),.n (ak-1),.c (.bool true) s2,.g,.g,.g,.l (.slice bt aQ aR),.g,.l (iV ak),.n (ak-1),.c (.bool true) s2,.g,.g,.g,.l (iV bL),.c (.bool false) s2,.g,.g,.g,.g,.g,.g] (kd (an6 ((zC _ _ _).rw.ld yT (k:=0) rfl:lz s2 26 (qe s3 0) (.slice aU aI aJ)) h1 ((zC _ _ _).rw.ld yT (k:=1) rfl:lz s2 26 (qe s3 1) (.slice a7 aK aL)) ((zC _ _ _).row.rw.ld zU (k:=0) rfl:lz s2 3 (qe Z.y 0) (iV ak)) (w64 u1) h2 (an6 ((zC _ _ _).rw.ld yT (k:=2) rfl:lz s2 26 (qe s3 2) (.slice bt aQ aR)) ((zC _ _ _).row.rw.ld zU (k:=0) rfl:lz s2 3 (qe Z.y 0) (iV ak)) (w64 u1) h3 ((zC _ _ _).rw.ld zU (k:=3) rfl:lz s2 3 (qe s3 3) (iV bL)) h4 nx)))
theorem yUJ:let s1:=Z.row (wkc ak af ac ad ae aa ab am au aj) 6;let s2:=s1.row (zN aU aI aJ a7 aK aL bt aQ aR bL bN bH) 6;∀ (h1:qm 71 [.slice aU aI aJ,iV 0,iV 15] s2 (.bool true) s2) (h2:qm 71 [.slice a7 aK aL,iV 0,iV (ak-1)] s2 (.bool true) s2) (h3:qm 71 [.slice bt aQ aR,iV 0,iV (ak-1)] s2 (.bool false) s2) (nx:Q (.bool false) s2) (u1:I6 (ak-1):=by omega),qg 51 [qf (wkc ak af ac ad ae aa ab am au aj),qf (zN aU aI aJ a7 aK aL bt aQ aR bL bN bH)] Z Q:=
 let s1:=Z.row (wkc ak af ac ad ae aa ab am au aj) 6;let s2:=s1.row (zN aU aI aJ a7 aK aL bt aQ aR bL bN bH) 6;let s3:=Z.y+1;fun h1 h2 h3 nx u1=>zH [.g,.g,.g,.g,.l (.slice aU aI aJ),.c (.bool true) s2,.g,.g,.l (.slice a7 aK aL),.g,.l (iV ak),.n (ak-1),.c (.bool true) s2,.g,.g,.g,.l (.slice bt aQ aR),.g,.l (iV ak),.n (ak-1),.c (.bool false) s2,.g,.g,.g,.g,.g,.g,.g,.g] (kd (an4 ((zC _ _ _).rw.ld yT (k:=0) rfl:lz s2 26 (qe s3 0) (.slice aU aI aJ)) h1 ((zC _ _ _).rw.ld yT (k:=1) rfl:lz s2 26 (qe s3 1) (.slice a7 aK aL)) ((zC _ _ _).row.rw.ld zU (k:=0) rfl:lz s2 3 (qe Z.y 0) (iV ak)) (an6 (w64 u1) h2 ((zC _ _ _).rw.ld yT (k:=2) rfl:lz s2 26 (qe s3 2) (.slice bt aQ aR)) ((zC _ _ _).row.rw.ld zU (k:=0) rfl:lz s2 3 (qe Z.y 0) (iV ak)) (w64 u1) h3 nx)))
theorem yUI:let s1:=Z.row (wkc ak af ac ad ae aa ab am au aj) 6;let s2:=s1.row (zN aU aI aJ a7 aK aL bt aQ aR bL bN bH) 6;∀ (h1:qm 71 [.slice aU aI aJ,iV 0,iV 15] s2 (.bool true) s2) (h2:qm 71 [.slice a7 aK aL,iV 0,iV (ak-1)] s2 (.bool false) s2) (nx:Q (.bool false) s2) (u1:I6 (ak-1):=by omega),qg 51 [qf (wkc ak af ac ad ae aa ab am au aj),qf (zN aU aI aJ a7 aK aL bt aQ aR bL bN bH)] Z Q:=
 let s1:=Z.row (wkc ak af ac ad ae aa ab am au aj) 6;let s2:=s1.row (zN aU aI aJ a7 aK aL bt aQ aR bL bN bH) 6;fun h1 h2 nx u1=>zH [.g,.g,.g,.g,.l (.slice aU aI aJ),.c (.bool true) s2,.g,.g,.l (.slice a7 aK aL),.g,.l (iV ak),.n (ak-1),.c (.bool false) s2,.g,.g,.g,.g,.g,.g,.g,.g,.g,.g] (kd (an6 ((zC _ _ _).rw.ld yT (k:=0) rfl:lz s2 26 ⟨(Z.y+1),0,none⟩ (.slice aU aI aJ)) h1 ((zC _ _ _).rw.ld yT (k:=1) rfl:lz s2 26 ⟨(Z.y+1),1,none⟩ (.slice a7 aK aL)) ((zC _ _ _).row.rw.ld zU (k:=0) rfl:lz s2 3 (qe Z.y 0) (iV ak)) (w64 u1) h2 nx))
theorem yUH:let s1:=Z.row (wkc ak af ac ad ae aa ab am au aj) 6;let s2:=s1.row (zN aU aI aJ a7 aK aL bt aQ aR bL bN bH) 6;∀ (h1:qm 71 [.slice aU aI aJ,iV 0,iV 15] s2 (.bool false) s2) (nx:Q (.bool false) s2),qg 51 [qf (wkc ak af ac ad ae aa ab am au aj),qf (zN aU aI aJ a7 aK aL bt aQ aR bL bN bH)] Z Q:=
 let s1:=Z.row (wkc ak af ac ad ae aa ab am au aj) 6;let s2:=s1.row (zN aU aI aJ a7 aK aL bt aQ aR bL bN bH) 6;fun h1 nx=>zH [.g,.g,.g,.g,.l (.slice aU aI aJ),.c (.bool false) s2,.g,.g,.g,.g,.g,.g,.g,.g,.g,.g,.g] (kd (an2 ((zC _ _ _).rw.ld yT (k:=0) rfl:lz s2 26 ⟨(Z.y+1),0,none⟩ (.slice aU aI aJ)) h1 nx))
theorem xYA:let Y1:=Z.row [.func (.func right) ⟨[]⟩ ⟨bK⟩] 1;∀ (h1:qm 89 [.slice l l_l l_c,.func (.func 90) ⟨[]⟩ ⟨[pt Z.y 0]⟩] Y1 (.bool true) Y1) (nx:Q (.bool false) Y1),qg 72 [.slice l l_l l_c,.func (.func right) ⟨[]⟩ ⟨bK⟩] Z Q:=
 fun h1 nx=>zH [.g,.g,.g,.g,.c (.bool true) (Z.row [.func (.func right) ⟨[]⟩ ⟨bK⟩] 1),.g,.g] (kd (ai h1 nx))
theorem xXZ:let Y1:=Z.row [.func (.func right) ⟨[]⟩ ⟨bK⟩] 1;∀ (h1:qm 89 [.slice l l_l l_c,.func (.func 90) ⟨[]⟩ ⟨[pt Z.y 0]⟩] Y1 (.bool false) Y1) (nx:Q (.bool true) Y1),qg 72 [.slice l l_l l_c,.func (.func right) ⟨[]⟩ ⟨bK⟩] Z Q:=
 fun h1 nx=>zH [.g,.g,.g,.g,.c (.bool false) (Z.row [.func (.func right) ⟨[]⟩ ⟨bK⟩] 1),.g,.g] (kd (ai h1 nx))
theorem xXC (h1:qm 105 [.slice s s_l s_c,.func (.func f) ⟨[]⟩ ⟨f_c⟩] Z (iV n1) Z) (nx:Q (.bool true) Z) (u1:0<=n1:=by omega):qg 89 [.slice s s_l s_c,.func (.func f) ⟨[]⟩ ⟨f_c⟩] Z Q :=
 zH [.g,.g,.g,.c (iV n1) Z,.b true,.g] (kd (an2 h1 (yE u1) nx))
theorem xXB (h1:qm 105 [.slice s s_l s_c,.func (.func f) ⟨[]⟩ ⟨f_c⟩] Z (iV n1) Z) (nx:Q (.bool false) Z) (u1:¬ 0<=n1:=by omega):qg 89 [.slice s s_l s_c,.func (.func f) ⟨[]⟩ ⟨f_c⟩] Z Q :=
 zH [.g,.g,.g,.c (iV n1) Z,.b false,.g] (kd (an2 h1 (yH u1) nx))
theorem xSY (h1:lz Z 105 v0 (.func (.func f1) ⟨[]⟩ ⟨eh⟩)) (h2:qm f1 (iV x::eh) Z (.bool true) Z) (nx:Q (.bool false) Z):qg 90 [iV x,pz v0] Z Q :=
 zH [.g,.l (.func (.func f1) ⟨[]⟩ ⟨eh⟩),.g,.c (.bool true) Z,.g,.g] (kd (an2 h1 h2 nx))
theorem xSX (h1:lz Z 105 v0 (.func (.func f1) ⟨[]⟩ ⟨eh⟩)) (h2:qm f1 (iV x::eh) Z (.bool false) Z) (nx:Q (.bool true) Z):qg 90 [iV x,pz v0] Z Q :=
 zH [.g,.l (.func (.func f1) ⟨[]⟩ ⟨eh⟩),.g,.c (.bool false) Z,.g,.g] (kd (an2 h1 h2 nx))
theorem yYY (hb:∀ k aF Z,Inv k aF Z->zXU s s_l s_c f f_c aF Z (NX1 Inv k) Qr Q0):∀ k aF Z,Inv k aF Z->xDU s s_l s_c f f_c aF Z Qr Q0 :=
 xE (ai uZ (ai (xV 0) trivial)) hb
theorem xQO (h1:lz Z 3 (zJ s_a (Int.toNat aF*1)) (iV nG)) (h2:qm f (iV nG::f_c) Z (.bool true) Z) (nx:Qr aF Z) (u1:aF<(s_l:Int):=by omega) (u2:Ix aF s_l:=by omega):zXU (some s_a) s_l s_c f f_c aF Z Nx Qr Q0 :=
 kO 1 aF [.b true,.g,.g,.g,.g,.g,.i,.l (iV nG),.c (.bool true) Z,.g,.g] (fun _ f=>an4 (zR u1) u2 h1 h2 f) nx
theorem xQN (h1:lz Z 3 (zJ s_a (Int.toNat aF*1)) (iV nG)) (h2:qm f (iV nG::f_c) Z (.bool false) Z) (nx:Nx (aF+1) Z) (u1:aF<(s_l:Int):=by omega) (u2:Ix aF s_l:=by omega) (u3:I6 (aF+1):=by omega):zXU (some s_a) s_l s_c f f_c aF Z Nx Qr Q0 :=
 kO 0 (aF+1) [.b true,.g,.g,.g,.g,.g,.i,.l (iV nG),.c (.bool false) Z,.n (aF+1),.g] (fun _ f=>an5 (zR u1) u2 h1 h2 (w64 u3) f) nx
theorem xQM (nx:Q0 Z) (u1:¬ aF<(s_l:Int):=by omega):zXU s s_l s_c f f_c aF Z Nx Qr Q0 :=
 kO 2 () [.b false] (fun _ f=>ai (zT u1) f) nx
theorem xWK (hL:xDU s s_l s_c f f_c 0 Z Pr P0) (kr:∀ i4_1' Z',Pr i4_1' Z'->yHO s s_l s_c f f_c i4_1' Z' Q) (k0:∀ Z',P0 Z'->yHP s s_l s_c f f_c Z' Q):qg 105 [.slice s s_l s_c,.func (.func f) ⟨[]⟩ ⟨f_c⟩] Z Q :=
 zH [.g,.g,.g,.g,.lf 19 (zQY s s_l s_c f f_c 0) [zTF s s_l s_c f f_c Pr,zTG s s_l s_c f f_c P0]] (kd (ai (ai tt (ai (arf (zQY s s_l s_c f f_c 0)) hL)) (ai (kz1 kr) (ai (kz0 k0) trivial))))
theorem yYW (nx:Q (iV bu) Z):yHO s s_l s_c f f_c bu Z Q :=
 sK [] nx
theorem yYX (nx:Q (iV (-1)) Z):yHP s s_l s_c f f_c Z Q :=
 sK [.g] nx
theorem yVG (h1:lz Z 32 (zJ v0 2) (.slice q1 l1 c1)) (h2:qm 47 [iV n,iV (-1),iV ((l1:Int)-1)] Z (.bool b2) Z) (nx:Q (.bool b2) Z) (u1:I6 ((l1:Int)-1):=by omega):qg 73 [iV n,pz v0] Z Q :=
 zH [.g,.g,.g,.l (.slice q1 l1 c1),.g,.n ((l1:Int)-1),.c (.bool b2) Z,.g] (kd (an3 h1 (w64 u1) h2 nx))
theorem yUE:let s1:=Z.row (wkc ak af ac ad ae aa ab am au aj) 6;∀ (h1:qm 72 [.slice l l_l l_c,.func (.func 73) ⟨[]⟩ ⟨[pt Z.y 0]⟩] s1 (.bool b1) s1) (nx:Q (.bool b1) s1) (u1:(l_l:Int)=(ac:Int):=by omega),qg 52 [qf (wkc ak af ac ad ae aa ab am au aj),.slice l l_l l_c] Z Q:=
 let s1:=Z.row (wkc ak af ac ad ae aa ab am au aj) 6;fun h1 nx u1=>zH [.g,.g,.g,.g,.g,.l (.slice af ac ad),.g,.b true,.g,.g,.g,.c (.bool b1) s1,.g,.g] (kd (an3 ((zC _ _ _).rw.ld uU (k:=1) rfl:lz s1 31 (qe Z.y 1) (.slice af ac ad)) (xK u1) h1 nx))
theorem yUD (nx:Q (.bool false) (Z.row (wkc ak af ac ad ae aa ab am au aj) 6)) (u1:¬ (l_l:Int)=(ac:Int):=by omega):qg 52 [qf (wkc ak af ac ad ae aa ab am au aj),.slice l l_l l_c] Z Q :=
 zH [.g,.g,.g,.g,.g,.l (.slice af ac ad),.g,.b false,.g,.g,.g] (kd (an2 ((zC _ _ _).rw.ld uU (k:=1) rfl:lz (Z.row (wkc ak af ac ad ae aa ab am au aj) 6) 31 (qe Z.y 1) (.slice af ac ad)) (xI u1) nx))
theorem xEQ (nx:Q (.bool false) (Z.row (wkc ak af ac ad ae aa ab am au aj) 6)) (u1:¬ (l_l:Int)=(ac:Int):=by omega):qg 53 [qf (wkc ak af ac ad ae aa ab am au aj),.slice l l_l l_c] Z Q :=
 zH [.g,.g,.g,.g,.g,.l (.slice af ac ad),.g,.b true,.g] (kd (an2 ((zC _ _ _).rw.ld uU (k:=1) rfl:lz (Z.row (wkc ak af ac ad ae aa ab am au aj) 6) 31 (qe Z.y 1) (.slice af ac ad)) (zCC u1) nx))
theorem yJH {Qr:Bool->St->Prop} (hb:∀ k d9 Z,Inv k d9 Z->zLQ BA l l_l l_c d9 Z (NX1 Inv k) Qr Q0):∀ k d9 Z,Inv k d9 Z->yEV BA l l_l l_c d9 Z Qr Q0 :=
 xE (ai uZ (ai (xV 0) trivial)) hb
theorem yUA {Qr:Bool->St->Prop}:let s1:=Z.row [iV 0,iV 0] 2;let s2:=s1.own Z.y [iV nA,iV nB] 2;∀ (h1:lz Z 3 (zJ l_a (Int.toNat d9*1)) (iV nG)) (h2:lz Z 31 (qe BA 1) (.slice (some eW) lG cF)) (h3:lz Z 83 (zJ eW ((Int.toNat d9*5)+2)) (qf [iV nA,iV nB])) (h4:qm 47 [iV nG,iV nA,iV nB] s2 (.bool true) s2) (nx:Nx (d9+1) s2) (u1:d9<(l_l:Int):=by omega) (u2:Ix d9 l_l:=by omega) (u3:Ix d9 lG:=by omega) (u4:I6 (d9+1):=by omega),zLQ BA (some l_a) l_l l_c d9 Z Nx Qr Q0:=
 let s1:=Z.row [iV 0,iV 0] 2;let s2:=s1.own Z.y [iV nA,iV nB] 2;fun h1 h2 h3 h4 nx u1 u2 u3 u4=>kO 0 (d9+1) [.b true,.g,.i,.l (iV nG),.g,.g,.g,.l (.slice (some eW) lG cF),.g,.i,.g,.l (qf [iV nA,iV nB]),.g,.e undef s2,.g,.g,.l (iV nA),.g,.l (iV nB),.c (.bool true) s2,.g,.n (d9+1),.g] (fun _ f=>an5 (zR u1) u2 h1 h2 u3 (an6 h3 ((zC _ _ _).store (vs:=[iV nA,iV nB]) rfl yUX rfl (nle rfl) rfl:qo (evL [pt Z.y 0,qf [iV nA,iV nB]]) s1 (.store 83 (.tmp 0) (.tmp 1))=some (undef,s2)) ((zC _ _ _).put.rw.ld zU (k:=0) rfl:lz s2 3 (qe Z.y 0) (iV nA)) ((zC _ _ _).put.rw.ld zU (k:=1) rfl:lz s2 3 (qe Z.y 1) (iV nB)) h4 (w64 u4) f)) nx
theorem yTZ {Qr:Bool->St->Prop}:let s1:=Z.row [iV 0,iV 0] 2;let s2:=s1.own Z.y [iV nA,iV nB] 2;∀ (h1:lz Z 3 (zJ l_a (Int.toNat d9*1)) (iV nG)) (h2:lz Z 31 (qe BA 1) (.slice (some eW) lG cF)) (h3:lz Z 83 (zJ eW ((Int.toNat d9*5)+2)) (qf [iV nA,iV nB])) (h4:qm 47 [iV nG,iV nA,iV nB] s2 (.bool false) s2) (nx:Qr false s2) (u1:d9<(l_l:Int):=by omega) (u2:Ix d9 l_l:=by omega) (u3:Ix d9 lG:=by omega),zLQ BA (some l_a) l_l l_c d9 Z Nx Qr Q0:=
 let s1:=Z.row [iV 0,iV 0] 2;let s2:=s1.own Z.y [iV nA,iV nB] 2;fun h1 h2 h3 h4 nx u1 u2 u3=>kO 1 false [.b true,.g,.i,.l (iV nG),.g,.g,.g,.l (.slice (some eW) lG cF),.g,.i,.g,.l (qf [iV nA,iV nB]),.g,.e undef s2,.g,.g,.l (iV nA),.g,.l (iV nB),.c (.bool false) s2,.g,.g] (fun _ f=>an4 (zR u1) u2 h1 h2 (an6 u3 h3 ((zC _ _ _).store (vs:=[iV nA,iV nB]) rfl yUX rfl (nle rfl) rfl:qo (evL [pt Z.y 0,qf [iV nA,iV nB]]) s1 (.store 83 (.tmp 0) (.tmp 1))=some (undef,s2)) ((zC _ _ _).put.rw.ld zU (k:=0) rfl:lz s2 3 (qe Z.y 0) (iV nA)) ((zC _ _ _).put.rw.ld zU (k:=1) rfl:lz s2 3 (qe Z.y 1) (iV nB)) h4 f)) nx
theorem yTY {Qr:Bool->St->Prop} (nx:Q0 Z) (u1:¬ d9<(l_l:Int):=by omega):zLQ BA l l_l l_c d9 Z Nx Qr Q0 :=
 kO 2 () [.b false] (fun _ f=>ai (zT u1) f) nx
theorem xEP {Pr:Bool->St->Prop} (hL:yEV Z.y l l_l l_c 0 (Z.row (wkc ak af ac ad ae aa ab am au aj) 6) Pr P0) (kr:∀ t4_1' Z',Pr t4_1' Z'->zUO Z.y l l_l l_c t4_1' Z' Q) (k0:∀ Z',P0 Z'->zUP Z.y l l_l l_c Z' Q) (u1:(l_l:Int)=(ac:Int):=by omega):qg 53 [qf (wkc ak af ac ad ae aa ab am au aj),.slice l l_l l_c] Z Q :=
 zH [.g,.g,.g,.g,.g,.l (.slice af ac ad),.g,.b false,.g,.g,.g,.lf 35 (zFQ Z.y l l_l l_c 0) [zIT Z.y l l_l l_c Pr,zIU Z.y l l_l l_c P0]] (kd (an2 ((zC _ _ _).rw.ld uU (k:=1) rfl:lz (Z.row (wkc ak af ac ad ae aa ab am au aj) 6) 31 (qe Z.y 1) (.slice af ac ad)) (xR u1) (ai (ai tt (ai (arf (zFQ Z.y l l_l l_c 0)) hL)) (ai (kz1 kr) (ai (kz0 k0) trivial)))))
theorem yJF (nx:Q (.bool fy) Z):zUO BA l l_l l_c fy Z Q :=
 sK [] nx
theorem yJG (nx:Q (.bool true) Z):zUP BA l l_l l_c Z Q :=
 sK [.g] nx
theorem yQO (hb:∀ k aF Z,Inv k aF Z->zQV s s_l s_c v aF Z (NX1 Inv k) Qr Q0):∀ k aF Z,Inv k aF Z->yQQ s s_l s_c v aF Z Qr Q0 :=
 xE (ai uZ (ai (xV 0) trivial)) hb
theorem xID (h1:lz Z 3 (zJ s_a (Int.toNat aF*1)) (iV nG)) (nx:Qr aF Z) (u1:aF<(s_l:Int):=by omega) (u2:Ix aF s_l:=by omega) (u3:v=nG:=by omega):zQV (some s_a) s_l s_c v aF Z Nx Qr Q0 :=
 kO 1 aF [.b true,.g,.g,.g,.g,.g,.i,.l (iV nG),.b true,.g,.g] (fun _ f=>an4 (zR u1) u2 h1 (xK u3) f) nx
theorem xIC (h1:lz Z 3 (zJ s_a (Int.toNat aF*1)) (iV nG)) (nx:Nx (aF+1) Z) (u1:aF<(s_l:Int):=by omega) (u2:Ix aF s_l:=by omega) (u3:¬ v=nG:=by omega) (u4:I6 (aF+1):=by omega):zQV (some s_a) s_l s_c v aF Z Nx Qr Q0 :=
 kO 0 (aF+1) [.b true,.g,.g,.g,.g,.g,.i,.l (iV nG),.b false,.n (aF+1),.g] (fun _ f=>an5 (zR u1) u2 h1 (xI u3) (w64 u4) f) nx
theorem xIB (nx:Q0 Z) (u1:¬ aF<(s_l:Int):=by omega):zQV s s_l s_c v aF Z Nx Qr Q0 :=
 kO 2 () [.b false] (fun _ f=>ai (zT u1) f) nx
theorem xQD (hL:yQQ s s_l s_c v 0 Z Pr P0) (kr:∀ i4_1' Z',Pr i4_1' Z'->yAY s s_l s_c v i4_1' Z' Q) (k0:∀ Z',P0 Z'->yAZ s s_l s_c v Z' Q):qg 83 [.slice s s_l s_c,iV v] Z Q :=
 zH [.g,.g,.g,.g,.lf 19 (zKJ s s_l s_c v 0) [zOR s s_l s_c v Pr,zOS s s_l s_c v P0]] (kd (ai (ai tt (ai (arf (zKJ s s_l s_c v 0)) hL)) (ai (kz1 kr) (ai (kz0 k0) trivial))))
theorem yQM (nx:Q (iV bu) Z):yAY s s_l s_c v bu Z Q :=
 sK [] nx
theorem yQN (nx:Q (iV (-1)) Z):yAZ s s_l s_c v Z Q :=
 sK [.g] nx
theorem xXE (h1:qm 83 [.slice s s_l s_c,iV v] Z (iV n1) Z) (nx:Q (.bool true) Z) (u1:0<=n1:=by omega):qg 58 [.slice s s_l s_c,iV v] Z Q :=
 zH [.g,.g,.g,.c (iV n1) Z,.b true,.g] (kd (an2 h1 (yE u1) nx))
theorem xXD (h1:qm 83 [.slice s s_l s_c,iV v] Z (iV n1) Z) (nx:Q (.bool false) Z) (u1:¬ 0<=n1:=by omega):qg 58 [.slice s s_l s_c,iV v] Z Q :=
 zH [.g,.g,.g,.c (iV n1) Z,.b false,.g] (kd (an2 h1 (yH u1) nx))
end
section
noncomputable section
variable (roster:oAa) (aG aM:Nat) (q0:Int->St->Prop) (aH bQ:Int) (Q:Int->Int->St->Prop) (Z:St) (Nx:Int->Int->St->Prop) (q5:vPa) (Q0:Int->St->Prop)
def yIJ:Code:=(Code.part [1,0,1,0,0] (qh 63))
def zGM:lNa:=[(2,iV aH),(5,.slice roster aG aM),(6,iV (aG:Int)),(7,iV bQ)]
def yZR:Alt:=⟨Int × Int,.normal,fun t=>zGM roster aG aM t.1 t.2,fun t=>[],fun t Z=>Q t.1 t.2 Z⟩
def zWB (roster:oAa) (aG aM:Nat) (aH:Int):lNa:=[(2,iV aH)]
def zKS:Alt:=⟨Int,(.exit 0),fun t=>zWB roster aG aM t,fun t=>[],fun t Z=>q0 t Z⟩
def zMP:Prop:=qi qj none yIJ 17 (zGM roster aG aM aH bQ) [] [yZR roster aG aM Nx,zKS roster aG aM Q0] Z
def yIK:Prop:=qk qj none yIJ 17 (zGM roster aG aM aH bQ) [] [zKS roster aG aM Q0] Z
def zWC:Prop:=kZ qj (qh 63) [1,0,1,0] (ql 63 q5) (.exit 0) 17 (zWB roster aG aM aH) Z
end
variable {ak am au aj n1 eY n4 aH bQ nG:Int} {af ae roster gA q4 q1 q3 s q2:oAa} {ac ad aa ab aG aM ft fu l4 c4 l1 c1 l3 c3 s_l s_c l2 c2:Nat} {Z Z5 Z2 Z4 Z1:St} {Q:vPa} {Inv:Nat->Int->Int->St->Prop} {Q0 P0:Int->St->Prop} {fe:Addr} {Nx:Int->Int->St->Prop}
theorem yNB (nx:Q (iV 3) (Z.row (wkc ak af ac ad ae aa ab am au aj) 6)) (u1:12<(ac:Int):=by omega):qg 16 [qf (wkc ak af ac ad ae aa ab am au aj)] Z Q :=
 zH [.g,.g,.g,.l (.slice af ac ad),.g,.b true,.g,.g,.g,.g] (kd (an2 ((zC _ _ _).rw.ld uU (k:=1) rfl:lz (Z.row (wkc ak af ac ad ae aa ab am au aj) 6) 31 (qe Z.y 1) (.slice af ac ad)) (zR u1) nx))
theorem yNA:let y0:=wkc ak af ac ad ae aa ab am au aj;∀ (nx:Q (iV 3) (Z.row y0 6)) (u1:¬ 12<(ac:Int):=by omega) (u2:6<(aa:Int):=by omega),qg 16 [qf y0] Z Q :=
 let s1:=Z.row (wkc ak af ac ad ae aa ab am au aj) 6;fun nx u1 u2=>zH [.g,.g,.g,.l (.slice af ac ad),.g,.b false,.g,.g,.l (.slice ae aa ab),.g,.b true,.g,.g,.g] (kd (an4 ((zC _ _ _).rw.ld uU (k:=1) rfl:lz s1 31 (qe Z.y 1) (.slice af ac ad)) (zT u1) ((zC _ _ _).rw.ld zAC (k:=2) rfl:lz s1 32 (qe Z.y 2) (.slice ae aa ab)) (zR u2) nx))
@[reducible] def Ha5 (ak am au aj:Int) (Z:St) (af ae:oAa) (ac ad aa ab:Nat):Prop:=qm 47 [iV ak,iV 1,iV 7] (Z.row (wkc ak af ac ad ae aa ab am au aj) 6) (.bool true) (Z.row (wkc ak af ac ad ae aa ab am au aj) 6)/\qm 47 [iV am,iV 0,iV 3000] (Z.row (wkc ak af ac ad ae aa ab am au aj) 6) (.bool true) (Z.row (wkc ak af ac ad ae aa ab am au aj) 6)/\qm 47 [iV au,iV 1,iV 14] (Z.row (wkc ak af ac ad ae aa ab am au aj) 6) (.bool true) (Z.row (wkc ak af ac ad ae aa ab am au aj) 6)/\qm 47 [iV aj,iV 0,iV 20000] (Z.row (wkc ak af ac ad ae aa ab am au aj) 6) (.bool true) (Z.row (wkc ak af ac ad ae aa ab am au aj) 6)/\(qm 48 [.slice af ac ad,.func (.func 49) ⟨[.agg ⟨wkc ak af ac ad ae aa ab am au aj⟩]⟩ ⟨[]⟩] (Z.row (wkc ak af ac ad ae aa ab am au aj) 6) (.bool true) (Z.row (wkc ak af ac ad ae aa ab am au aj) 6))
theorem yMZ:let Y1:=Z.row (wkc ak af ac ad ae aa ab am au aj) 6;∀ (H:Ha5 ak am au aj Z af ae ac ad aa ab) (h6:qm 50 [.slice ae aa ab,.func (.func 51) ⟨[qf (wkc ak af ac ad ae aa ab am au aj)]⟩ ⟨[]⟩] Y1 (.bool true) Y1) (nx:Q (iV 0) Y1) (u1:¬ 12<(ac:Int):=by omega) (u2:¬ 6<(aa:Int):=by omega),qg 16 [qf (wkc ak af ac ad ae aa ab am au aj)] Z Q:=
 fun H h6 nx u1 u2=>match H with|⟨h1,h2,h3,h4,h5⟩=>let s1:=Z.row (wkc ak af ac ad ae aa ab am au aj) 6;zH [.g,.g,.g,.l (.slice af ac ad),.g,.b false,.g,.g,.l (.slice ae aa ab),.g,.b false,.g,.g,.g,.l (iV ak),.c (.bool true) s1,.g,.g,.g,.l (iV am),.c (.bool true) s1,.g,.g,.g,.g,.l (iV au),.c (.bool true) s1,.g,.g,.g,.g,.l (iV aj),.c (.bool true) s1,.g,.g,.g,.g,.l (.slice af ac ad),.l (qf (wkc ak af ac ad ae aa ab am au aj)),.g,.c (.bool true) s1,.g,.g,.g,.l (.slice ae aa ab),.l (qf (wkc ak af ac ad ae aa ab am au aj)),.g,.c (.bool true) s1,.g,.g,.g,.g] (kd (an6 ((zC _ _ _).rw.ld uU (k:=1) rfl:lz s1 31 (qe Z.y 1) (.slice af ac ad)) (zT u1) ((zC _ _ _).rw.ld zAC (k:=2) rfl:lz s1 32 (qe Z.y 2) (.slice ae aa ab)) (zT u2) ((zC _ _ _).rw.ld zU (k:=0) rfl:lz s1 3 (qe Z.y 0) (iV ak)) h1 (an6 ((zC _ _ _).rw.ld zU (k:=3) rfl:lz s1 3 (qe Z.y 3) (iV am)) h2 ((zC _ _ _).rw.ld zU (k:=4) rfl:lz s1 3 (qe Z.y 4) (iV au)) h3 ((zC _ _ _).rw.ld zU (k:=5) rfl:lz s1 3 (qe Z.y 5) (iV aj)) h4 (an6 ((zC _ _ _).rw.ld uU (k:=1) rfl:lz s1 31 (qe Z.y 1) (.slice af ac ad)) ((zC _ _ _).rw.ldN xL yR (k:=0) rfl rfl (nle rfl):lz s1 34 (qe Z.y 0) (qf (wkc ak af ac ad ae aa ab am au aj))) h5 ((zC _ _ _).rw.ld zAC (k:=2) rfl:lz s1 32 (qe Z.y 2) (.slice ae aa ab)) ((zC _ _ _).rw.ldN xL yR (k:=0) rfl rfl (nle rfl):lz s1 34 (qe Z.y 0) (qf (wkc ak af ac ad ae aa ab am au aj))) h6 nx))))
theorem yMY:let Y1:=Z.row (wkc ak af ac ad ae aa ab am au aj) 6;∀ (H:Ha5 ak am au aj Z af ae ac ad aa ab) (h6:qm 50 [.slice ae aa ab,.func (.func 51) ⟨[qf (wkc ak af ac ad ae aa ab am au aj)]⟩ ⟨[]⟩] Y1 (.bool false) Y1) (nx:Q (iV 1) Y1) (u1:¬ 12<(ac:Int):=by omega) (u2:¬ 6<(aa:Int):=by omega),qg 16 [qf (wkc ak af ac ad ae aa ab am au aj)] Z Q:=
 fun H h6 nx u1 u2=>match H with|⟨h1,h2,h3,h4,h5⟩=>let s1:=Z.row (wkc ak af ac ad ae aa ab am au aj) 6;zH [.g,.g,.g,.l (.slice af ac ad),.g,.b false,.g,.g,.l (.slice ae aa ab),.g,.b false,.g,.g,.g,.l (iV ak),.c (.bool true) s1,.g,.g,.g,.l (iV am),.c (.bool true) s1,.g,.g,.g,.g,.l (iV au),.c (.bool true) s1,.g,.g,.g,.g,.l (iV aj),.c (.bool true) s1,.g,.g,.g,.g,.l (.slice af ac ad),.l (qf (wkc ak af ac ad ae aa ab am au aj)),.g,.c (.bool true) s1,.g,.g,.g,.l (.slice ae aa ab),.l (qf (wkc ak af ac ad ae aa ab am au aj)),.g,.c (.bool false) s1,.g,.g,.g,.g] (kd (an6 ((zC _ _ _).rw.ld uU (k:=1) rfl:lz s1 31 (qe Z.y 1) (.slice af ac ad)) (zT u1) ((zC _ _ _).rw.ld zAC (k:=2) rfl:lz s1 32 (qe Z.y 2) (.slice ae aa ab)) (zT u2) ((zC _ _ _).rw.ld zU (k:=0) rfl:lz s1 3 (qe Z.y 0) (iV ak)) h1 (an6 ((zC _ _ _).rw.ld zU (k:=3) rfl:lz s1 3 (qe Z.y 3) (iV am)) h2 ((zC _ _ _).rw.ld zU (k:=4) rfl:lz s1 3 (qe Z.y 4) (iV au)) h3 ((zC _ _ _).rw.ld zU (k:=5) rfl:lz s1 3 (qe Z.y 5) (iV aj)) h4 (an6 ((zC _ _ _).rw.ld uU (k:=1) rfl:lz s1 31 (qe Z.y 1) (.slice af ac ad)) ((zC _ _ _).rw.ldN xL yR (k:=0) rfl rfl (nle rfl):lz s1 34 (qe Z.y 0) (qf (wkc ak af ac ad ae aa ab am au aj))) h5 ((zC _ _ _).rw.ld zAC (k:=2) rfl:lz s1 32 (qe Z.y 2) (.slice ae aa ab)) ((zC _ _ _).rw.ldN xL yR (k:=0) rfl rfl (nle rfl):lz s1 34 (qe Z.y 0) (qf (wkc ak af ac ad ae aa ab am au aj))) h6 nx))))
theorem yMX:let s1:=Z.row (wkc ak af ac ad ae aa ab am au aj) 6;∀ (h1:qm 47 [iV ak,iV 1,iV 7] s1 (.bool true) s1) (h2:qm 47 [iV am,iV 0,iV 3000] s1 (.bool true) s1) (h3:qm 47 [iV au,iV 1,iV 14] s1 (.bool true) s1) (h4:qm 47 [iV aj,iV 0,iV 20000] s1 (.bool true) s1) (h5:qm 48 [.slice af ac ad,.func (.func 49) ⟨[qf (wkc ak af ac ad ae aa ab am au aj)]⟩ ⟨[]⟩] s1 (.bool false) s1) (nx:Q (iV 1) s1) (u1:¬ 12<(ac:Int):=by omega) (u2:¬ 6<(aa:Int):=by omega),qg 16 [qf (wkc ak af ac ad ae aa ab am au aj)] Z Q:=
 let s1:=Z.row (wkc ak af ac ad ae aa ab am au aj) 6;fun h1 h2 h3 h4 h5 nx u1 u2=>zH [.g,.g,.g,.l (.slice af ac ad),.g,.b false,.g,.g,.l (.slice ae aa ab),.g,.b false,.g,.g,.g,.l (iV ak),.c (.bool true) s1,.g,.g,.g,.l (iV am),.c (.bool true) s1,.g,.g,.g,.g,.l (iV au),.c (.bool true) s1,.g,.g,.g,.g,.l (iV aj),.c (.bool true) s1,.g,.g,.g,.g,.l (.slice af ac ad),.l (qf (wkc ak af ac ad ae aa ab am au aj)),.g,.c (.bool false) s1,.g,.g,.g,.g,.g] (kd (an3 ((zC _ _ _).rw.ld uU (k:=1) rfl:lz s1 31 (qe Z.y 1) (.slice af ac ad)) (zT u1) ((zC _ _ _).rw.ld zAC (k:=2) rfl:lz s1 32 (qe Z.y 2) (.slice ae aa ab)) (an6 (zT u2) ((zC _ _ _).rw.ld zU (k:=0) rfl:lz s1 3 (qe Z.y 0) (iV ak)) h1 ((zC _ _ _).rw.ld zU (k:=3) rfl:lz s1 3 (qe Z.y 3) (iV am)) h2 ((zC _ _ _).rw.ld zU (k:=4) rfl:lz s1 3 (qe Z.y 4) (iV au)) (an6 h3 ((zC _ _ _).rw.ld zU (k:=5) rfl:lz s1 3 (qe Z.y 5) (iV aj)) h4 ((zC _ _ _).rw.ld uU (k:=1) rfl:lz s1 31 (qe Z.y 1) (.slice af ac ad)) ((zC _ _ _).rw.ldN xL yR (k:=0) rfl rfl (nle rfl):lz s1 34 (qe Z.y 0) (qf (wkc ak af ac ad ae aa ab am au aj))) h5 nx))))
theorem yMW:let s1:=Z.row (wkc ak af ac ad ae aa ab am au aj) 6;∀ (h1:qm 47 [iV ak,iV 1,iV 7] s1 (.bool true) s1) (h2:qm 47 [iV am,iV 0,iV 3000] s1 (.bool true) s1) (h3:qm 47 [iV au,iV 1,iV 14] s1 (.bool true) s1) (h4:qm 47 [iV aj,iV 0,iV 20000] s1 (.bool false) s1) (nx:Q (iV 1) s1) (u1:¬ 12<(ac:Int):=by omega) (u2:¬ 6<(aa:Int):=by omega),qg 16 [qf (wkc ak af ac ad ae aa ab am au aj)] Z Q:=
 let s1:=Z.row (wkc ak af ac ad ae aa ab am au aj) 6;fun h1 h2 h3 h4 nx u1 u2=>zH [.g,.g,.g,.l (.slice af ac ad),.g,.b false,.g,.g,.l (.slice ae aa ab),.g,.b false,.g,.g,.g,.l (iV ak),.c (.bool true) s1,.g,.g,.g,.l (iV am),.c (.bool true) s1,.g,.g,.g,.g,.l (iV au),.c (.bool true) s1,.g,.g,.g,.g,.l (iV aj),.c (.bool false) s1,.g,.g,.g,.g] (kd (an6 ((zC _ _ _).rw.ld uU (k:=1) rfl:lz s1 31 (qe Z.y 1) (.slice af ac ad)) (zT u1) ((zC _ _ _).rw.ld zAC (k:=2) rfl:lz s1 32 (qe Z.y 2) (.slice ae aa ab)) (zT u2) ((zC _ _ _).rw.ld zU (k:=0) rfl:lz s1 3 (qe Z.y 0) (iV ak)) h1 (an6 ((zC _ _ _).rw.ld zU (k:=3) rfl:lz s1 3 (qe Z.y 3) (iV am)) h2 ((zC _ _ _).rw.ld zU (k:=4) rfl:lz s1 3 (qe Z.y 4) (iV au)) h3 ((zC _ _ _).rw.ld zU (k:=5) rfl:lz s1 3 (qe Z.y 5) (iV aj)) h4 nx)))
theorem yMV:let s1:=Z.row (wkc ak af ac ad ae aa ab am au aj) 6;∀ (h1:qm 47 [iV ak,iV 1,iV 7] s1 (.bool true) s1) (h2:qm 47 [iV am,iV 0,iV 3000] s1 (.bool true) s1) (h3:qm 47 [iV au,iV 1,iV 14] s1 (.bool false) s1) (nx:Q (iV 1) s1) (u1:¬ 12<(ac:Int):=by omega) (u2:¬ 6<(aa:Int):=by omega),qg 16 [qf (wkc ak af ac ad ae aa ab am au aj)] Z Q:=
 let s1:=Z.row (wkc ak af ac ad ae aa ab am au aj) 6;fun h1 h2 h3 nx u1 u2=>zH [.g,.g,.g,.l (.slice af ac ad),.g,.b false,.g,.g,.l (.slice ae aa ab),.g,.b false,.g,.g,.g,.l (iV ak),.c (.bool true) s1,.g,.g,.g,.l (iV am),.c (.bool true) s1,.g,.g,.g,.g,.l (iV au),.c (.bool false) s1,.g,.g,.g,.g,.g,.g] (kd (an4 ((zC _ _ _).rw.ld uU (k:=1) rfl:lz s1 31 (qe Z.y 1) (.slice af ac ad)) (zT u1) ((zC _ _ _).rw.ld zAC (k:=2) rfl:lz s1 32 (qe Z.y 2) (.slice ae aa ab)) (zT u2) (an6 ((zC _ _ _).rw.ld zU (k:=0) rfl:lz s1 3 (qe Z.y 0) (iV ak)) h1 ((zC _ _ _).rw.ld zU (k:=3) rfl:lz s1 3 (qe Z.y 3) (iV am)) h2 ((zC _ _ _).rw.ld zU (k:=4) rfl:lz s1 3 (qe Z.y 4) (iV au)) h3 nx)))
theorem yMU:let s1:=Z.row (wkc ak af ac ad ae aa ab am au aj) 6;∀ (h1:qm 47 [iV ak,iV 1,iV 7] s1 (.bool true) s1) (h2:qm 47 [iV am,iV 0,iV 3000] s1 (.bool false) s1) (nx:Q (iV 1) s1) (u1:¬ 12<(ac:Int):=by omega) (u2:¬ 6<(aa:Int):=by omega),qg 16 [qf (wkc ak af ac ad ae aa ab am au aj)] Z Q:=
 let s1:=Z.row (wkc ak af ac ad ae aa ab am au aj) 6;fun h1 h2 nx u1 u2=>zH [.g,.g,.g,.l (.slice af ac ad),.g,.b false,.g,.g,.l (.slice ae aa ab),.g,.b false,.g,.g,.g,.l (iV ak),.c (.bool true) s1,.g,.g,.g,.l (iV am),.c (.bool false) s1,.g,.g,.g,.g,.g,.g,.g,.g] (kd (an2 ((zC _ _ _).rw.ld uU (k:=1) rfl:lz s1 31 (qe Z.y 1) (.slice af ac ad)) (zT u1) (an6 ((zC _ _ _).rw.ld zAC (k:=2) rfl:lz s1 32 (qe Z.y 2) (.slice ae aa ab)) (zT u2) ((zC _ _ _).rw.ld zU (k:=0) rfl:lz s1 3 (qe Z.y 0) (iV ak)) h1 ((zC _ _ _).rw.ld zU (k:=3) rfl:lz s1 3 (qe Z.y 3) (iV am)) h2 nx)))
theorem yMT:let s1:=Z.row (wkc ak af ac ad ae aa ab am au aj) 6;∀ (h1:qm 47 [iV ak,iV 1,iV 7] s1 (.bool false) s1) (nx:Q (iV 1) s1) (u1:¬ 12<(ac:Int):=by omega) (u2:¬ 6<(aa:Int):=by omega),qg 16 [qf (wkc ak af ac ad ae aa ab am au aj)] Z Q:=
 let s1:=Z.row (wkc ak af ac ad ae aa ab am au aj) 6;fun h1 nx u1 u2=>zH [.g,.g,.g,.l (.slice af ac ad),.g,.b false,.g,.g,.l (.slice ae aa ab),.g,.b false,.g,.g,.g,.l (iV ak),.c (.bool false) s1,.g,.g,.g,.g,.g,.g,.g,.g,.g] (kd (an6 ((zC _ _ _).rw.ld uU (k:=1) rfl:lz s1 31 (qe Z.y 1) (.slice af ac ad)) (zT u1) ((zC _ _ _).rw.ld zAC (k:=2) rfl:lz s1 32 (qe Z.y 2) (.slice ae aa ab)) (zT u2) ((zC _ _ _).rw.ld zU (k:=0) rfl:lz s1 3 (qe Z.y 0) (iV ak)) h1 nx))
theorem xKZ:let s1:=Z.row (wkc ak af ac ad ae aa ab am au aj) 6;∀ (h1:qm 16 [qf (wkc ak af ac ad ae aa ab am au aj)] s1 (iV n1) s1) (h2:qm 52 [qf (wkc ak af ac ad ae aa ab am au aj),.slice roster aG aM] s1 (.bool true) s1) (h3:qm 53 [qf (wkc ak af ac ad ae aa ab am au aj),.slice gA ft fu] s1 (.bool true) s1) (h4:qm 54 [qf (wkc ak af ac ad ae aa ab am au aj),.slice roster aG aM,.slice gA ft fu] s1 (.slice q4 l4 c4) Z5) (nx:Q (.tuple ⟨[.slice q4 l4 c4,iV 0]⟩) Z5) (u1:n1=0:=by omega),qg 18 [qf (wkc ak af ac ad ae aa ab am au aj),.slice roster aG aM,.slice gA ft fu] Z Q:=
 let s1:=Z.row (wkc ak af ac ad ae aa ab am au aj) 6;fun h1 h2 h3 h4 nx u1=>zH [.g,.g,.g,.l (qf (wkc ak af ac ad ae aa ab am au aj)),.c (iV n1) s1,.g,.g,.b false,.l (qf (wkc ak af ac ad ae aa ab am au aj)),.g,.c (.bool true) s1,.g,.g,.l (qf (wkc ak af ac ad ae aa ab am au aj)),.g,.c (.bool true) s1,.g,.g,.l (qf (wkc ak af ac ad ae aa ab am au aj)),.g,.g,.c (.slice q4 l4 c4) Z5,.g,.g] (kd (an3 ((zC _ _ _).rw.ldN xL yR (k:=0) rfl rfl (nle rfl):lz s1 34 (qe Z.y 0) (qf (wkc ak af ac ad ae aa ab am au aj))) h1 (xR u1) (an6 ((zC _ _ _).rw.ldN xL yR (k:=0) rfl rfl (nle rfl):lz s1 34 (qe Z.y 0) (qf (wkc ak af ac ad ae aa ab am au aj))) h2 ((zC _ _ _).rw.ldN xL yR (k:=0) rfl rfl (nle rfl):lz s1 34 (qe Z.y 0) (qf (wkc ak af ac ad ae aa ab am au aj))) h3 ((zC _ _ _).rw.ldN xL yR (k:=0) rfl rfl (nle rfl):lz s1 34 (qe Z.y 0) (qf (wkc ak af ac ad ae aa ab am au aj))) h4 nx)))
@[reducible] def Ha6 (ak am au aj:Int) (af ae q1 roster q3:oAa) (ac ad aa ab l1 c1 aG aM l3 c3:Nat) (Z Z2 Z4:St):Prop:=qm 86 [.agg ⟨wkc ak af ac ad ae aa ab am au aj⟩] (Z.row (wkc ak af ac ad ae aa ab am au aj) 6) (.slice q1 l1 c1) Z2/\(qm 54 [.agg ⟨wkc ak af ac ad ae aa ab am au aj⟩,.slice roster aG aM,.slice q1 l1 c1] Z2 (.slice q3 l3 c3) Z4)/\zF (Z.row (wkc ak af ac ad ae aa ab am au aj) 6).y [.agg ⟨wkc ak af ac ad ae aa ab am au aj⟩]/\(zF Z2.y [.agg ⟨wkc ak af ac ad ae aa ab am au aj⟩,.slice roster aG aM,.slice q1 l1 c1])/\zF Z4.y [.slice q3 l3 c3]/\((zLq Z2 34 ⟨Z.y,0,none⟩ (.agg ⟨wkc ak af ac ad ae aa ab am au aj⟩)))
theorem xPQ:let y0:=wkc ak af ac ad ae aa ab am au aj;∀ (H:Ha6 ak am au aj af ae q1 roster q3 ac ad aa ab l1 c1 aG aM l3 c3 Z Z2 Z4) (nx:Q (.bool true) Z4) (u1:(l3:Int)=0:=by omega),qg 62 [qf y0,.slice roster aG aM] Z Q :=
 let y0:=wkc ak af ac ad ae aa ab am au aj;fun H nx u1=>match H with|⟨h1,h2,h3,h4,h5,h6⟩=>let s1:=Z.row y0 6;zH [.g,.g,.l (qf y0),.g,.l (qf y0),.c (.slice q1 l1 c1) Z2,.c (.slice q3 l3 c3) Z4,.g,.b true,.g] (kd (an6 ((zC _ _ _).rw.ldN xL yR (k:=0) rfl rfl (nle rfl):lz s1 34 (qe Z.y 0) (qf y0)) ((zC _ _ _).rw.ldN xL yR (k:=0) rfl rfl (nle rfl):lz s1 34 (qe Z.y 0) (qf y0)) h1 h2 (xK u1) ((zE (zP (nlt Z.y 0 1 rfl)) zI):zF s1.y [pt Z.y 0]) (an6 ((zE (zP (nlt Z.y 0 1 rfl)) zI):zF s1.y [pt Z.y 0]) h3 h4 h5 (⟨⟨(nlt Z.y 0 1 rfl),rfl⟩,((zC _ _ _).rw.ldN xL yR (k:=0) rfl rfl (nle rfl))⟩:(zLq s1 34 (qe Z.y 0) (qf y0))) h6 nx)))
theorem xPP:let y0:=wkc ak af ac ad ae aa ab am au aj;∀ (H:Ha6 ak am au aj af ae q1 roster q3 ac ad aa ab l1 c1 aG aM l3 c3 Z Z2 Z4) (nx:Q (.bool false) Z4) (u1:¬ (l3:Int)=0:=by omega),qg 62 [qf y0,.slice roster aG aM] Z Q :=
 let y0:=wkc ak af ac ad ae aa ab am au aj;fun H nx u1=>match H with|⟨h1,h2,h3,h4,h5,h6⟩=>let s1:=Z.row y0 6;zH [.g,.g,.l (qf y0),.g,.l (qf y0),.c (.slice q1 l1 c1) Z2,.c (.slice q3 l3 c3) Z4,.g,.b false,.g] (kd (an6 ((zC _ _ _).rw.ldN xL yR (k:=0) rfl rfl (nle rfl):lz s1 34 (qe Z.y 0) (qf y0)) ((zC _ _ _).rw.ldN xL yR (k:=0) rfl rfl (nle rfl):lz s1 34 (qe Z.y 0) (qf y0)) h1 h2 (xI u1) ((zE (zP (nlt Z.y 0 1 rfl)) zI):zF s1.y [pt Z.y 0]) (an6 ((zE (zP (nlt Z.y 0 1 rfl)) zI):zF s1.y [pt Z.y 0]) h3 h4 h5 (⟨⟨(nlt Z.y 0 1 rfl),rfl⟩,((zC _ _ _).rw.ldN xL yR (k:=0) rfl rfl (nle rfl))⟩:(zLq s1 34 (qe Z.y 0) (qf y0))) h6 nx)))
theorem yDI:let s1:=Z.row (wkc ak af ac ad ae aa ab am au aj) 6;∀ (h1:qm 16 [qf (wkc ak af ac ad ae aa ab am au aj)] s1 (iV n1) s1) (h2:qm 52 [qf (wkc ak af ac ad ae aa ab am au aj),.slice roster aG aM] s1 (.bool true) s1) (h3:qm 62 [qf (wkc ak af ac ad ae aa ab am au aj),.slice roster aG aM] s1 (.bool true) s1) (h4:qm 63 [.slice roster aG aM] s1 (iV n4) s1) (nx:Q (.bool true) s1) (u1:n1=0:=by omega) (u2:eY<=n4:=by omega),qg 35 [qf (wkc ak af ac ad ae aa ab am au aj),.slice roster aG aM,iV eY] Z Q:=
 let s1:=Z.row (wkc ak af ac ad ae aa ab am au aj) 6;fun h1 h2 h3 h4 nx u1 u2=>zH [.g,.g,.l (qf (wkc ak af ac ad ae aa ab am au aj)),.c (iV n1) s1,.b true,.g,.l (qf (wkc ak af ac ad ae aa ab am au aj)),.g,.c (.bool true) s1,.g,.g,.l (qf (wkc ak af ac ad ae aa ab am au aj)),.g,.c (.bool true) s1,.g,.g,.g,.c (iV n4) s1,.g,.b true,.g,.g] (kd (an3 ((zC _ _ _).rw.ldN xL yR (k:=0) rfl rfl (nle rfl):lz s1 34 (qe Z.y 0) (qf (wkc ak af ac ad ae aa ab am au aj))) h1 (xK u1) (an6 ((zC _ _ _).rw.ldN xL yR (k:=0) rfl rfl (nle rfl):lz s1 34 (qe Z.y 0) (qf (wkc ak af ac ad ae aa ab am au aj))) h2 ((zC _ _ _).rw.ldN xL yR (k:=0) rfl rfl (nle rfl):lz s1 34 (qe Z.y 0) (qf (wkc ak af ac ad ae aa ab am au aj))) h3 h4 (yE u2) nx)))
theorem yDH:let s1:=Z.row (wkc ak af ac ad ae aa ab am au aj) 6;∀ (h1:qm 16 [qf (wkc ak af ac ad ae aa ab am au aj)] s1 (iV n1) s1) (h2:qm 52 [qf (wkc ak af ac ad ae aa ab am au aj),.slice roster aG aM] s1 (.bool true) s1) (h3:qm 62 [qf (wkc ak af ac ad ae aa ab am au aj),.slice roster aG aM] s1 (.bool true) s1) (h4:qm 63 [.slice roster aG aM] s1 (iV n4) s1) (nx:Q (.bool false) s1) (u1:n1=0:=by omega) (u2:¬ eY<=n4:=by omega),qg 35 [qf (wkc ak af ac ad ae aa ab am au aj),.slice roster aG aM,iV eY] Z Q:=
 let s1:=Z.row (wkc ak af ac ad ae aa ab am au aj) 6;fun h1 h2 h3 h4 nx u1 u2=>zH [.g,.g,.l (qf (wkc ak af ac ad ae aa ab am au aj)),.c (iV n1) s1,.b true,.g,.l (qf (wkc ak af ac ad ae aa ab am au aj)),.g,.c (.bool true) s1,.g,.g,.l (qf (wkc ak af ac ad ae aa ab am au aj)),.g,.c (.bool true) s1,.g,.g,.g,.c (iV n4) s1,.g,.b false,.g,.g] (kd (an3 ((zC _ _ _).rw.ldN xL yR (k:=0) rfl rfl (nle rfl):lz s1 34 (qe Z.y 0) (qf (wkc ak af ac ad ae aa ab am au aj))) h1 (xK u1) (an6 ((zC _ _ _).rw.ldN xL yR (k:=0) rfl rfl (nle rfl):lz s1 34 (qe Z.y 0) (qf (wkc ak af ac ad ae aa ab am au aj))) h2 ((zC _ _ _).rw.ldN xL yR (k:=0) rfl rfl (nle rfl):lz s1 34 (qe Z.y 0) (qf (wkc ak af ac ad ae aa ab am au aj))) h3 h4 (yH u2) nx)))
theorem yDG:let s1:=Z.row (wkc ak af ac ad ae aa ab am au aj) 6;∀ (h1:qm 16 [qf (wkc ak af ac ad ae aa ab am au aj)] s1 (iV n1) s1) (h2:qm 52 [qf (wkc ak af ac ad ae aa ab am au aj),.slice roster aG aM] s1 (.bool true) s1) (h3:qm 62 [qf (wkc ak af ac ad ae aa ab am au aj),.slice roster aG aM] s1 (.bool false) s1) (nx:Q (.bool false) s1) (u1:n1=0:=by omega),qg 35 [qf (wkc ak af ac ad ae aa ab am au aj),.slice roster aG aM,iV eY] Z Q:=
 let s1:=Z.row (wkc ak af ac ad ae aa ab am au aj) 6;fun h1 h2 h3 nx u1=>zH [.g,.g,.l (qf (wkc ak af ac ad ae aa ab am au aj)),.c (iV n1) s1,.b true,.g,.l (qf (wkc ak af ac ad ae aa ab am au aj)),.g,.c (.bool true) s1,.g,.g,.l (qf (wkc ak af ac ad ae aa ab am au aj)),.g,.c (.bool false) s1,.g,.g,.g,.g] (kd (ai ((zC _ _ _).rw.ldN xL yR (k:=0) rfl rfl (nle rfl):lz s1 34 (qe Z.y 0) (qf (wkc ak af ac ad ae aa ab am au aj))) (an6 h1 (xK u1) ((zC _ _ _).rw.ldN xL yR (k:=0) rfl rfl (nle rfl):lz s1 34 (qe Z.y 0) (qf (wkc ak af ac ad ae aa ab am au aj))) h2 ((zC _ _ _).rw.ldN xL yR (k:=0) rfl rfl (nle rfl):lz s1 34 (qe Z.y 0) (qf (wkc ak af ac ad ae aa ab am au aj))) h3 nx)))
theorem yDF:let s1:=Z.row (wkc ak af ac ad ae aa ab am au aj) 6;∀ (h1:qm 16 [qf (wkc ak af ac ad ae aa ab am au aj)] s1 (iV n1) s1) (h2:qm 52 [qf (wkc ak af ac ad ae aa ab am au aj),.slice roster aG aM] s1 (.bool false) s1) (nx:Q (.bool false) s1) (u1:n1=0:=by omega),qg 35 [qf (wkc ak af ac ad ae aa ab am au aj),.slice roster aG aM,iV eY] Z Q:=
 let s1:=Z.row (wkc ak af ac ad ae aa ab am au aj) 6;fun h1 h2 nx u1=>zH [.g,.g,.l (qf (wkc ak af ac ad ae aa ab am au aj)),.c (iV n1) s1,.b true,.g,.l (qf (wkc ak af ac ad ae aa ab am au aj)),.g,.c (.bool false) s1,.g,.g,.g,.g,.g,.g] (kd (an5 ((zC _ _ _).rw.ldN xL yR (k:=0) rfl rfl (nle rfl):lz s1 34 (qe Z.y 0) (qf (wkc ak af ac ad ae aa ab am au aj))) h1 (xK u1) ((zC _ _ _).rw.ldN xL yR (k:=0) rfl rfl (nle rfl):lz s1 34 (qe Z.y 0) (qf (wkc ak af ac ad ae aa ab am au aj))) h2 nx))
theorem yDE:let s1:=Z.row (wkc ak af ac ad ae aa ab am au aj) 6;∀ (h1:qm 16 [qf (wkc ak af ac ad ae aa ab am au aj)] s1 (iV n1) s1) (nx:Q (.bool false) s1) (u1:¬ n1=0:=by omega),qg 35 [qf (wkc ak af ac ad ae aa ab am au aj),.slice roster aG aM,iV eY] Z Q:=
 let s1:=Z.row (wkc ak af ac ad ae aa ab am au aj) 6;fun h1 nx u1=>zH [.g,.g,.l (qf (wkc ak af ac ad ae aa ab am au aj)),.c (iV n1) s1,.b false,.g,.g,.g,.g,.g,.g,.g] (kd (an3 ((zC _ _ _).rw.ldN xL yR (k:=0) rfl rfl (nle rfl):lz s1 34 (qe Z.y 0) (qf (wkc ak af ac ad ae aa ab am au aj))) h1 (xI u1) nx))
theorem yLW (hb:∀ k aH bQ Z,Inv k aH bQ Z->zMP roster aG aM aH bQ Z (NX2 Inv k) Q0):∀ k aH bQ Z,Inv k aH bQ Z->yIK roster aG aM aH bQ Z Q0 :=
 zCR (ai (xV 0) trivial) hb
theorem yZQ (h1:lz Z 3 (zJ fe (Int.toNat bQ*1)) (iV nG)) (nx:Nx (aH+1) (bQ+1) Z) (u1:bQ<(aG:Int):=by omega) (u2:Ix bQ aG:=by omega) (u3:¬ nG=(-1):=by omega) (u4:I6 (aH+1):=by omega) (u5:I6 (bQ+1):=by omega):zMP (some fe) aG aM aH bQ Z Nx Q0 :=
 kO 0 (aH+1,bQ+1) [.b true,.i,.l (iV nG),.g,.g,.b true,.g,.n (aH+1),.g,.n (bQ+1),.g] (fun _ f=>an6 (zR u1) u2 h1 (zCC u3) (w64 u4) (w64 u5) f) nx
theorem yZP (h1:lz Z 3 (zJ fe (Int.toNat bQ*1)) (iV nG)) (nx:Nx aH (bQ+1) Z) (u1:bQ<(aG:Int):=by omega) (u2:Ix bQ aG:=by omega) (u3:nG=(-1):=by omega) (u4:I6 (bQ+1):=by omega):zMP (some fe) aG aM aH bQ Z Nx Q0 :=
 kO 0 (aH,bQ+1) [.b true,.i,.l (iV nG),.g,.g,.b false,.n (bQ+1),.g] (fun _ f=>an5 (zR u1) u2 h1 (xR u3) (w64 u4) f) nx
theorem yZO (nx:Q0 aH Z) (u1:¬ bQ<(aG:Int):=by omega):zMP roster aG aM aH bQ Z Nx Q0 :=
 kO 1 aH [.b false] (fun _ f=>ai (zT u1) f) nx
theorem xIY (hL:yIK roster aG aM 0 0 Z P0) (k0:∀ i2_1' Z',P0 i2_1' Z'->zWC roster aG aM i2_1' Z' Q):qg 63 [.slice roster aG aM] Z Q :=
 zH [.g,.g,.g,.g,.lf 17 (zGM roster aG aM 0 0) [zKS roster aG aM P0]] (kd (ai (ai tt (ai (arf (zGM roster aG aM 0 0)) hL)) (ai (kz1 k0) trivial)))
theorem yLV (nx:Q (iV aH) Z):zWC roster aG aM aH Z Q :=
 sK [.g,.g] nx
theorem xSB (h1:vO Pg .eql 26 (.tmp 3) (.const (.slice none 0 0)) (.slice s s_l s_c) (.slice none 0 0)=some (.bool false)) (h2:yF Pg 26 26 (.slice (some (qe Z.y 0)) 0 0) (.slice s s_l s_c) (Z.row [] 1)=some (.slice q2 l2 c2,Z1)) (nx:Q (.slice q2 l2 c2) Z1):qg 60 [.slice s s_l s_c] Z Q :=
 zH [.g,.g,.v (.bool false),.g,.g,.e (.slice q2 l2 c2) Z1,.g] (kd (an2 h1 h2 nx))
end
section
variable {p:Option Addr} {len cap:Nat} {g:FuncId} {ga gc:List Value} {xs:List Dty} {f:Dty->Bool} {x:Dty} {a:Addr} {b:Bool} {v:Value}
section
variable {Z:St}
theorem wBA (hs:SlV Pg Z 85 5 p len (xs.map uK)) (hlen:len<=1073741824)
  (hc:∀ x∈xs,∀ τ,Le Z τ->zD Pg g (ga++(uK x::gc)) τ (.bool (f x)) τ):∃ r:Int,zD Pg 87 [.slice p len cap,.func (.func g) ⟨ga⟩ ⟨gc⟩] Z (iV r) Z/\(0<=r↔xs.any f=true):=by
 have hl:xs.length=len:=by have:=hs.2.1;simpa using this
 have key:zO Pg 87 [.slice p len cap,.func (.func g) ⟨ga⟩ ⟨gc⟩] Z.re fun v s=>(∃ r:Int,v=iV r/\(0<=r↔xs.any f=true))/\s=Z.re:=by
  refine xWL (yZB (Inv:=fun k i τ=>τ=Z.re/\∃ j:Nat,i=j/\j+k=len/\(xs.take j).any f=false) (Qr:=fun i τ=>τ=Z.re/\0<=i/\xs.any f=true) (Q0:=fun τ=>τ=Z.re/\xs.any f=false) ?_ len 0 Z.re ⟨rfl,0,rfl,by omega,by simp⟩) ?_ ?_
  ·rintro k i τ ⟨rfl,j,rfl,hk,ha⟩;by_cases hj:j<len
   ·obtain ⟨a,rfl,x,hx,ld⟩:=xZ hs.re hj;have c:=hc x (List.mem_of_getElem? hx) Z.re (le0 Z);cases hf:f x with
    | true =>
     rw [hf] at c;exact xQS ld c ⟨rfl,by omega,List.any_eq_true.2 ⟨x,List.mem_of_getElem? hx,hf⟩⟩
    | false =>
     rw [hf] at c;exact xQR ld c ⟨k-1,by omega,rfl,j+1,by omega,by omega,by rw [wF hx,List.any_append,ha];simp [hf]⟩
   ·exact xQQ ⟨rfl,by rwa [List.take_of_length_le (by omega)] at ha⟩
  ·rintro i τ ⟨rfl,h1,h2⟩;exact yYZ ⟨⟨i,rfl,by simp [h1,h2]⟩,rfl⟩
  ·rintro τ ⟨rfl,h⟩;exact yZA ⟨⟨-1,rfl,by simp [h]⟩,rfl⟩
 obtain ⟨v,s,h1,⟨r,rfl,h2⟩,rfl⟩:=key;exact ⟨r,zSI h1 (Nat.le_refl _) rfl,h2⟩
theorem wBG (hs:SlV Pg Z 85 5 p len (xs.map uK)) (hlen:len<=1073741824)
  (hc:∀ x∈xs,∀ τ,Le Z τ->zD Pg g (ga++(uK x::gc)) τ (.bool (f x)) τ):zD Pg 67 [.slice p len cap,.func (.func g) ⟨ga⟩ ⟨gc⟩] Z (.bool (xs.any f)) Z:=by
 obtain ⟨r,h1,h2⟩:=wBA (Z:=Z.re) (cap:=cap) hs.re hlen (fun x hx τ hτ=>hc x hx τ ((le0 Z).trans hτ));cases ha:xs.any f with
 | true=>exact (xXG h1 ⟨rfl,Nat.le_refl _⟩ (h2.2 ha)).pure
 | false=>exact (xXF h1 ⟨rfl,Nat.le_refl _⟩ (fun h=>by rw [h2.1 h] at ha;cases ha)).pure
theorem xYE (hr:Row Z a [.func (.func g) ⟨ga⟩ ⟨gc⟩]) (hc:∀ τ,Le Z τ->zD Pg g (ga++(uK x::gc)) τ (.bool b) τ) :
  zD Pg 68 [uK x,.pointer (some a)] Z (.bool (!b)) Z:=by
 cases b with
 | true=>exact (xTA (hr.re.row.ld1 xZF) (hc _ ((le0 Z).trans (Le.row _ _ _))) ⟨rfl,Nat.le_refl _⟩).pure
 | false=>exact (xSZ (hr.re.row.ld1 xZF) (hc _ ((le0 Z).trans (Le.row _ _ _))) ⟨rfl,Nat.le_refl _⟩).pure
theorem wBO (hs:SlV Pg Z 85 5 p len (xs.map uK)) (hlen:len<=1073741824)
  (hc:∀ x∈xs,∀ τ,Le Z τ->zD Pg g (ga++(uK x::gc)) τ (.bool (f x)) τ):zD Pg 48 [.slice p len cap,.func (.func g) ⟨ga⟩ ⟨gc⟩] Z (.bool (xs.all f)) Z:=by
 have c:=wBG (Z:=Z.re.row [.func (.func g) ⟨ga⟩ ⟨gc⟩] 1) (g:=68) (ga:=[]) (gc:=[.pointer (some ⟨Z.re.y,0,none⟩)]) (f:=fun x=>!f x) (cap:=cap) hs.re.row hlen
  (fun x hx τ hτ=>xYE ((xH _ _ _).le hτ) (fun τ' hτ'=>hc x hx τ' ((((le0 Z).trans (Le.row _ _ _)).trans hτ).trans hτ')))
 have e:(xs.any fun x=>!f x)=!xs.all f:=by rw [List.not_all_eq_any_not]
 rw [e] at c;cases ha:xs.all f with
 | true=>rw [ha] at c;exact (xYC c ⟨rfl,Nat.le_refl _⟩).pure
 | false=>rw [ha] at c;exact (xYD c ⟨rfl,Nat.le_refl _⟩).pure
theorem wAZ {xs:List Int} {f:Int->Bool} (hs:SlV Pg Z 3 1 p len (xs.map yA)) (hlen:len<=1073741824)
  (hc:∀ x∈xs,∀ τ,Le Z τ->zD Pg g (yA x::gc) τ (.bool (f x)) τ):∃ r:Int,zD Pg 105 [.slice p len cap,.func (.func g) ⟨[]⟩ ⟨gc⟩] Z (iV r) Z/\(0<=r↔xs.any f=true):=by
 have hl:xs.length=len:=by have:=hs.2.1;simpa using this
 have key:zO Pg 105 [.slice p len cap,.func (.func g) ⟨[]⟩ ⟨gc⟩] Z.re fun v s=>(∃ r:Int,v=iV r/\(0<=r↔xs.any f=true))/\s=Z.re:=by
  refine xWK (yYY (Inv:=fun k i τ=>τ=Z.re/\∃ j:Nat,i=j/\j+k=len/\(xs.take j).any f=false) (Qr:=fun i τ=>τ=Z.re/\0<=i/\xs.any f=true) (Q0:=fun τ=>τ=Z.re/\xs.any f=false) ?_ len 0 Z.re ⟨rfl,0,rfl,by omega,by simp⟩) ?_ ?_
  ·rintro k i τ ⟨rfl,j,rfl,hk,ha⟩;by_cases hj:j<len
   ·obtain ⟨a,rfl,x,hx,ld⟩:=xZ hs.re hj;have c:=hc x (List.mem_of_getElem? hx) Z.re (le0 Z);cases hf:f x with
    | true =>
     rw [hf] at c;exact xQO ld c ⟨rfl,by omega,List.any_eq_true.2 ⟨x,List.mem_of_getElem? hx,hf⟩⟩
    | false =>
     rw [hf] at c;exact xQN ld c ⟨k-1,by omega,rfl,j+1,by omega,by omega,by rw [wF hx,List.any_append,ha];simp [hf]⟩
   ·exact xQM ⟨rfl,by rwa [List.take_of_length_le (by omega)] at ha⟩
  ·rintro i τ ⟨rfl,h1,h2⟩;exact yYW ⟨⟨i,rfl,by simp [h1,h2]⟩,rfl⟩
  ·rintro τ ⟨rfl,h⟩;exact yYX ⟨⟨-1,rfl,by simp [h]⟩,rfl⟩
 obtain ⟨v,s,h1,⟨r,rfl,h2⟩,rfl⟩:=key;exact ⟨r,zSI h1 (Nat.le_refl _) rfl,h2⟩
theorem wBF {xs:List Int} {f:Int->Bool} (hs:SlV Pg Z 3 1 p len (xs.map yA)) (hlen:len<=1073741824)
  (hc:∀ x∈xs,∀ τ,Le Z τ->zD Pg g (yA x::gc) τ (.bool (f x)) τ):zD Pg 89 [.slice p len cap,.func (.func g) ⟨[]⟩ ⟨gc⟩] Z (.bool (xs.any f)) Z:=by
 obtain ⟨r,h1,h2⟩:=wAZ (Z:=Z.re) (cap:=cap) hs.re hlen (fun x hx τ hτ=>hc x hx τ ((le0 Z).trans hτ));cases ha:xs.any f with
 | true=>exact (xXC h1 ⟨rfl,Nat.le_refl _⟩ (h2.2 ha)).pure
 | false=>exact (xXB h1 ⟨rfl,Nat.le_refl _⟩ (fun h=>by rw [h2.1 h] at ha;cases ha)).pure
theorem xYB {x:Int} (hr:Row Z a [.func (.func g) ⟨[]⟩ ⟨gc⟩]) (hc:∀ τ,Le Z τ->zD Pg g (yA x::gc) τ (.bool b) τ) :
  zD Pg 90 [yA x,.pointer (some a)] Z (.bool (!b)) Z:=by
 cases b with
 | true=>exact (xSY (hr.re.ld1 xTF) (hc _ (le0 Z)) ⟨rfl,Nat.le_refl _⟩).pure
 | false=>exact (xSX (hr.re.ld1 xTF) (hc _ (le0 Z)) ⟨rfl,Nat.le_refl _⟩).pure
theorem wBN {xs:List Int} {f:Int->Bool} (hs:SlV Pg Z 3 1 p len (xs.map yA)) (hlen:len<=1073741824)
  (hc:∀ x∈xs,∀ τ,Le Z τ->zD Pg g (yA x::gc) τ (.bool (f x)) τ):zD Pg 72 [.slice p len cap,.func (.func g) ⟨[]⟩ ⟨gc⟩] Z (.bool (xs.all f)) Z:=by
 have c:=wBF (Z:=Z.re.row [.func (.func g) ⟨[]⟩ ⟨gc⟩] 1) (g:=90) (gc:=[.pointer (some ⟨Z.re.y,0,none⟩)]) (f:=fun x=>!f x) (cap:=cap) hs.re.row hlen
  (fun x hx τ hτ=>xYB ((xH _ _ _).le hτ) (fun τ' hτ'=>hc x hx τ' ((((le0 Z).trans (Le.row _ _ _)).trans hτ).trans hτ')))
 have e:(xs.any fun x=>!f x)=!xs.all f:=by rw [List.not_all_eq_any_not]
 rw [e] at c;cases ha:xs.all f with
 | true=>rw [ha] at c;exact (xXZ c ⟨rfl,Nat.le_refl _⟩).pure
 | false=>rw [ha] at c;exact (xYA c ⟨rfl,Nat.le_refl _⟩).pure
theorem wAX {xs:List Drv} {f:Drv->Bool} (hs:zWQ Z 88 p len xs) (hlen:len<=1073741824)
  (hc:∀ x∈xs,∀ v τ,Le Z τ->zWY τ v x->zD Pg g (ga++(v::gc)) τ (.bool (f x)) τ):∃ r:Int,zD Pg 88 [.slice p len cap,.func (.func g) ⟨ga⟩ ⟨gc⟩] Z (iV r) Z/\(0<=r↔xs.any f=true):=by
 obtain ⟨vs,hv1,hl,hv3⟩:=hs.le (le0 Z);have key:zO Pg 88 [.slice p len cap,.func (.func g) ⟨ga⟩ ⟨gc⟩] Z.re fun v s=>(∃ r:Int,v=iV r/\(0<=r↔xs.any f=true))/\s=Z.re:=by
  refine xWJ (yYT (Inv:=fun k i τ=>τ=Z.re/\∃ j:Nat,i=j/\j+k=len/\(xs.take j).any f=false) (Qr:=fun i τ=>τ=Z.re/\0<=i/\xs.any f=true) (Q0:=fun τ=>τ=Z.re/\xs.any f=false) ?_ len 0 Z.re ⟨rfl,0,rfl,by omega,by simp⟩) ?_ ?_
  ·rintro k i τ ⟨rfl,j,rfl,hk,ha⟩;by_cases hj:j<len
   ·obtain ⟨a,rfl,_⟩:=hv1.some hj;obtain ⟨x,hxe⟩:∃ x,x=xs[j]:=⟨_,rfl⟩;have hx:xs[j]?=some x:=by rw [hxe];simp
    obtain ⟨v,g1,hv⟩:=hv3 j x hx;have c:=hc x (List.mem_of_getElem? hx) v Z.re (le0 Z) hv;obtain ⟨p',l',c',r',n',d',s',j',e',rfl,_⟩:=hv;have ld:zB Pg Z.re 88 (zJ a (Int.toNat (j:Int)*6))=some (.agg ⟨zN p' l' c' r' n' d' s' j' e' x.off x.row x.used⟩):=hv1.at rfl g1;cases hf:f x with
    | true =>
     rw [hf] at c;exact xQG ld c ⟨rfl,by omega,List.any_eq_true.2 ⟨x,List.mem_of_getElem? hx,hf⟩⟩
    | false =>
     rw [hf] at c;exact xQF ld c ⟨k-1,by omega,rfl,j+1,by omega,by omega,by rw [wF hx,List.any_append,ha];simp [hf]⟩
   ·exact xQE ⟨rfl,by rwa [List.take_of_length_le (by omega)] at ha⟩
  ·rintro i τ ⟨rfl,h1,h2⟩;exact yYR ⟨⟨i,rfl,by simp [h1,h2]⟩,rfl⟩
  ·rintro τ ⟨rfl,h⟩;exact yYS ⟨⟨-1,rfl,by simp [h]⟩,rfl⟩
 obtain ⟨v,s,h1,⟨r,rfl,h2⟩,rfl⟩:=key;exact ⟨r,zSI h1 (Nat.le_refl _) rfl,h2⟩
theorem wBD {xs:List Drv} {f:Drv->Bool} (hs:zWQ Z 88 p len xs) (hlen:len<=1073741824)
  (hc:∀ x∈xs,∀ v τ,Le Z τ->zWY τ v x->zD Pg g (ga++(v::gc)) τ (.bool (f x)) τ):zD Pg 69 [.slice p len cap,.func (.func g) ⟨ga⟩ ⟨gc⟩] Z (.bool (xs.any f)) Z:=by
 obtain ⟨r,h1,h2⟩:=wAX (Z:=Z.re) (cap:=cap) (hs.le (le0 Z)) hlen (fun x hx v τ hτ=>hc x hx v τ ((le0 Z).trans hτ));cases ha:xs.any f with
 | true=>exact (xWY h1 ⟨rfl,Nat.le_refl _⟩ (h2.2 ha)).pure
 | false=>exact (xWX h1 ⟨rfl,Nat.le_refl _⟩ (fun h=>by rw [h2.1 h] at ha;cases ha)).pure
theorem xXW {x:Drv} (hv:zWY Z v x) (hr:Row Z a [.func (.func g) ⟨ga⟩ ⟨gc⟩]) (hc:∀ τ,Le Z τ->zWY τ v x->zD Pg g (ga++(v::gc)) τ (.bool b) τ) :
  zD Pg 70 [v,.pointer (some a)] Z (.bool (!b)) Z:=by
 have hc2:=fun τ (hτ:Le Z τ)=>hc τ hτ (hv.le hτ)
 obtain ⟨p',l',c',r',n',d',s',j',e',rfl,_⟩:=hv;cases b with
 | true=>exact (xSU (hr.re.row.ld1 xZE) (hc2 _ ((le0 Z).trans (Le.row _ _ _))) ⟨rfl,Nat.le_refl _⟩).pure
 | false=>exact (xST (hr.re.row.ld1 xZE) (hc2 _ ((le0 Z).trans (Le.row _ _ _))) ⟨rfl,Nat.le_refl _⟩).pure
theorem wBL {xs:List Drv} {f:Drv->Bool} (hs:zWQ Z 88 p len xs) (hlen:len<=1073741824)
  (hc:∀ x∈xs,∀ v τ,Le Z τ->zWY τ v x->zD Pg g (ga++(v::gc)) τ (.bool (f x)) τ):zD Pg 50 [.slice p len cap,.func (.func g) ⟨ga⟩ ⟨gc⟩] Z (.bool (xs.all f)) Z:=by
 have c:=wBD (Z:=Z.re.row [.func (.func g) ⟨ga⟩ ⟨gc⟩] 1) (g:=70) (ga:=[]) (gc:=[.pointer (some ⟨Z.re.y,0,none⟩)]) (f:=fun x=>!f x) (cap:=cap) (hs.le ((le0 Z).trans (Le.row _ _ _))) hlen
  (fun x hx v τ hτ hv=>xXW hv ((xH _ _ _).le hτ) (fun τ' hτ'=>hc x hx v τ' ((((le0 Z).trans (Le.row _ _ _)).trans hτ).trans hτ')))
 have e:(xs.any fun x=>!f x)=!xs.all f:=by rw [List.not_all_eq_any_not]
 rw [e] at c;cases ha:xs.all f with
 | true=>rw [ha] at c;exact (xXU c ⟨rfl,Nat.le_refl _⟩).pure
 | false=>rw [ha] at c;exact (xXV c ⟨rfl,Nat.le_refl _⟩).pure
section
variable {w:Wk} {p q:Option Addr} {l m c d:Nat}
theorem xUF (hd:1<=w.M/\w.M<=7):zD Pg 49 [.agg ⟨wkc w.M p l c q m d w.rest w.run w.j⟩,uK x] Z (.bool (vU w x)) Z:=by
 have cin:∀ {τ:St} {n lo hi:Int} {b:Bool},inB n lo hi=b->zD Pg 47 [iV n,iV lo,iV hi] τ (.bool b) τ:=fun e=>e ▸ zFS
 unfold vU;cases c1:inB x.day 0 (w.M-1) with
 | false=>exact (xLI (cin c1) ⟨rfl,Nat.le_refl _⟩ (by omega)).pure
 | true =>
 cases c2:inB x.on 0 1439 with
 | false=>exact (xLJ (cin c1) (cin c2) ⟨rfl,Nat.le_refl _⟩ (by omega)).pure
 | true =>
 have hon:=uF.1 c2;by_cases h1:x.on<=x.lo;rotate_left
 ·have:inB x.lo x.on x.hi=false:=yHD.2 (fun h=>h1 h.1);rw [this];exact (xLK (cin c1) (cin c2) ⟨rfl,Nat.le_refl _⟩ (by omega) h1).pure
 by_cases h2:x.lo<=x.hi;rotate_left
 ·have:inB x.lo x.on x.hi=false:=yHD.2 (fun h=>h2 h.2);rw [this];exact (xLL (cin c1) (cin c2) ⟨rfl,Nat.le_refl _⟩ (by omega) h1 h2).pure
 have c3:inB x.lo x.on x.hi=true:=uF.2 ⟨h1,h2⟩;rw [c3];by_cases h3:x.hi<=x.on+1440
 ·rw [decide_eq_false (by omega:¬ x.on+1440<x.hi)];exact (xLN (cin c1) (cin c2) (cin rfl) ⟨by simp,Nat.le_refl _⟩ (by omega) h1 h2 (by omega) h3).pure
 ·rw [decide_eq_true (by omega:x.on+1440<x.hi)];exact (xLM (cin c1) (cin c2) ⟨rfl,Nat.le_refl _⟩ (by omega) h1 h2 (by omega) h3).pure
theorem xEU {x:Drv} (hv:zWY Z v x) (hl:x.J.length<=1000/\x.qa.length<=1000/\x.qb.length<=1000) (hd:1<=w.M/\w.M<=7):zD Pg 51 [.agg ⟨wkc w.M p l c q m d w.rest w.run w.j⟩,v] Z (.bool (zAR w x)) Z:=by
 have cin:∀ {τ:St} {n lo hi:Int} {b:Bool},inB n lo hi=b->zD Pg 47 [iV n,iV lo,iV hi] τ (.bool b) τ:=fun e=>e ▸ zFS
 obtain ⟨p',l',c',r',n',d',s',j',e',rfl,hkn,hlv,hws⟩:=hv;have L2:Le Z ((Z.re.row (wkc w.M p l c q m d w.rest w.run w.j) 6).row (zN p' l' c' r' n' d' s' j' e' x.off x.row x.used) 6):=((le0 Z).trans (Le.row _ _ _)).trans (Le.row _ _ _);have k1:=yJT (c:=c') (lo:=0) (hi:=15) (SlV.le hkn L2) (by have:=hkn.len;omega);have k2:=yJT (c:=d') (lo:=0) (hi:=w.M-1) (SlV.le hlv L2) (by have:=hlv.len;omega);have k3:=yJT (c:=e') (lo:=0) (hi:=w.M-1) (SlV.le hws L2) (by have:=hws.len;omega);unfold zAR;cases c1:wM x.J 0 15 with
 | false=>rw [c1] at k1;exact (yUH k1 ⟨rfl,Nat.le_refl _⟩).pure
 | true =>
 rw [c1] at k1;cases c2:wM x.qa 0 (w.M-1) with
 | false=>rw [c2] at k2;exact (yUI k1 k2 ⟨rfl,Nat.le_refl _⟩ (by omega)).pure
 | true =>
 rw [c2] at k2;cases c3:wM x.qb 0 (w.M-1) with
 | false=>rw [c3] at k3;exact (yUJ k1 k2 k3 ⟨rfl,Nat.le_refl _⟩ (by omega)).pure
 | true =>
 rw [c3] at k3;cases c4:inB x.off (-10080) 1440 with
 | false=>exact (yUK k1 k2 k3 (cin c4) ⟨rfl,Nat.le_refl _⟩ (by omega)).pure
 | true =>
 cases c5:inB x.row 0 14 with
 | false=>exact (yUL k1 k2 k3 (cin c4) (cin c5) ⟨rfl,Nat.le_refl _⟩ (by omega)).pure
 | true=>exact (yUM k1 k2 k3 (cin c4) (cin c5) (cin rfl) ⟨by simp,Nat.le_refl _⟩ (by omega)).pure
theorem zFA (h:WkP Z 85 88 w p l q m) (hsh:zAD w):zD Pg 16 [.agg ⟨wkc w.M p l c q m d w.rest w.run w.j⟩] Z (iV (yX w)) Z:=by
 have hn:=h.len.1;have hm:=h.len.2;by_cases h12:12<l
 ·have:yX w=3:=by unfold yX;rw [if_pos (.inl (by omega))]
  rw [this];exact (yNB ⟨rfl,Nat.le_refl _⟩ (by omega)).pure
 by_cases h6:6<m
 ·have:yX w=3:=by unfold yX;rw [if_pos (.inr (by omega))]
  rw [this];exact (yNA ⟨rfl,Nat.le_refl _⟩ (by omega) (by omega)).pure
 have hf0:yX w=if vM w && (w.N.all (vU w) && w.L.all (zAR w)) then 0 else 1:=by unfold yX;rw [if_neg (by omega)]
 have cin:∀ {τ:St} {n lo hi:Int} {b:Bool},inB n lo hi=b->zD Pg 47 [iV n,iV lo,iV hi] τ (.bool b) τ:=fun e=>e ▸ zFS
 have no:vM w=false->yX w=1:=fun e=>by rw [hf0,e];rfl
 cases b1:inB w.M 1 7 with
 | false=>rw [no (by unfold vM;rw [b1];rfl)];exact (yMT (cin b1) ⟨rfl,Nat.le_refl _⟩ (by omega) (by omega)).pure
 | true =>
 cases b2:inB w.rest 0 3000 with
 | false=>rw [no (by unfold vM;rw [b1,b2];rfl)];exact (yMU (cin b1) (cin b2) ⟨rfl,Nat.le_refl _⟩ (by omega) (by omega)).pure
 | true =>
 cases b3:inB w.run 1 14 with
 | false=>rw [no (by unfold vM;rw [b1,b2,b3];rfl)];exact (yMV (cin b1) (cin b2) (cin b3) ⟨rfl,Nat.le_refl _⟩ (by omega) (by omega)).pure
 | true =>
 cases b4:inB w.j 0 20000 with
 | false=>rw [no (by unfold vM;rw [b1,b2,b3,b4];rfl)];exact (yMW (cin b1) (cin b2) (cin b3) (cin b4) ⟨rfl,Nat.le_refl _⟩ (by omega) (by omega)).pure
 | true =>
 have hh:vM w=true:=by unfold vM;rw [b1,b2,b3,b4];rfl
 have hd:=uF.1 b1;have L1:Le Z (Z.re.row (wkc w.M p l c q m d w.rest w.run w.j) 6):=(le0 Z).trans (Le.row _ _ _);have cd:=wBO (cap:=c) (g:=49) (ga:=[.agg ⟨wkc w.M p l c q m d w.rest w.run w.j⟩]) (gc:=[]) (f:=vU w) (SlV.le h.dty L1) (by omega) (fun x _ τ _=>xUF hd);have cv:=wBL (cap:=d) (g:=51) (ga:=[.agg ⟨wkc w.M p l c q m d w.rest w.run w.j⟩]) (gc:=[]) (f:=zAR w) (h.drv.le L1) (by omega) (fun x hx v τ _ hv=>xEU hv (hsh x hx) hd);cases e1:w.N.all (vU w) with
 | false=>rw [e1] at cd;rw [hf0,hh,e1];exact (yMX (cin b1) (cin b2) (cin b3) (cin b4) cd ⟨rfl,Nat.le_refl _⟩ (by omega) (by omega)).pure
 | true =>
 rw [e1] at cd;cases e2:w.L.all (zAR w) with
 | false=>rw [e2] at cv;rw [hf0,hh,e1,e2];exact (yMY ⟨(cin b1),(cin b2),(cin b3),(cin b4),cd⟩ cv ⟨rfl,Nat.le_refl _⟩ (by omega) (by omega)).pure
 | true=>rw [e2] at cv;rw [hf0,hh,e1,e2];exact (yMZ ⟨(cin b1),(cin b2),(cin b3),(cin b4),cd⟩ cv ⟨rfl,Nat.le_refl _⟩ (by omega) (by omega)).pure
end
end
end
def zY (rs:List Int) (i:Nat):Int:=rs.getD i 0
section
variable {w:Wk} {ros tru:Nat->Int} {k D i:Nat}
end
section
variable {Z:St} {w:Wk} {p q r t:Option Addr} {l m c d rc tc:Nat} {rs ts:List Int} {k D:Nat}
end
section
noncomputable section
variable (l:oAa) (l_l l_c BA:Nat) (q0:Int->St->Prop) (fK:oAa) (q3:(Option Addr)->Nat->Nat->Int->St->Prop) (bJ:Int) (q4:(Option Addr)->Nat->Nat->St->Prop) (q1:Bool->St->Prop) (q2:St->Prop) (fy:Bool) (fQ fW:Nat) (bu:Int) (Z:St) (Nx:Int->St->Prop) (Q:vPa) (q5:(Option Addr)->Nat->Nat->Int->St->Prop) (Qr:Bool->St->Prop) (q6:(Option Addr)->Nat->Nat->St->Prop) (Q0:St->Prop)
def zQB:Code:=(Code.part [1,0,1,0,0] (qh 21))
def zAY:lNa:=[(1,.slice l l_l l_c),(2,pt BA 0),(5,iV bJ)]
def yEG:Alt:=⟨Int,.normal,fun t=>zAY l l_l l_c BA t,fun t=>[],fun t Z=>q0 t Z⟩
def zJO (l:oAa) (l_l l_c BA:Nat) (fy:Bool):lNa:=[(4,.bool fy)]
def zDU:Alt:=⟨Bool,.ret,fun t=>zJO l l_l l_c BA t,fun t=>[],fun t Z=>q1 t Z⟩
def zJP:lNa:=[(1,.slice l l_l l_c),(2,pt BA 0)]
def zDV:Alt:=⟨Unit,(.exit 0),fun t=>zJP l l_l l_c BA,fun t=>[],fun t Z=>q2 Z⟩
def zDA:Prop:=qi qj none zQB 28 (zAY l l_l l_c BA bJ) [] [yEG l l_l l_c BA Nx,zDU l l_l l_c BA Qr,zDV l l_l l_c BA Q0] Z
def zQC:Prop:=qk qj none zQB 28 (zAY l l_l l_c BA bJ) [] [zDU l l_l l_c BA Qr,zDV l l_l l_c BA Q0] Z
def zJQ:Prop:=kZ qj (qh 21) [1,0,1,0] (ql 21 Q) .ret 28 (zJO l l_l l_c BA fy) Z
def zDW:Prop:=kZ qj (qh 21) [1,0,1,0] (ql 21 Q) (.exit 0) 28 (zJP l l_l l_c BA) Z
def zZL:Code:=(Code.part [1,1,0,1,0,0] (qh 40))
def zDT:lNa:=[(1,pt BA 0),(3,.slice fK fQ fW),(4,iV bu)]
def yOP:Alt:=⟨(Option Addr) × Nat × Nat × Int,.normal,fun t=>zDT BA t.1 t.2.1 t.2.2.1 t.2.2.2,fun t=>[],fun t Z=>q3 t.1 t.2.1 t.2.2.1 t.2.2.2 Z⟩
def zPZ (BA:Nat) (fK:oAa) (fQ fW:Nat):lNa:=[(3,.slice fK fQ fW)]
def zHE:Alt:=⟨(Option Addr) × Nat × Nat,(.exit 0),fun t=>zPZ BA t.1 t.2.1 t.2.2,fun t=>[],fun t Z=>q4 t.1 t.2.1 t.2.2 Z⟩
def zOG:Prop:=qi qj none zZL 23 (zDT BA fK fQ fW bu) [] [yOP BA q5,zHE BA q6] Z
def zZM:Prop:=qk qj none zZL 23 (zDT BA fK fQ fW bu) [] [zHE BA q6] Z
def zQA:Prop:=kZ qj (qh 40) [1,1,0,1,0] (ql 40 Q) (.exit 0) 23 (zPZ BA fK fQ fW) Z
end
variable {l qE af ae qQ fK qJ qD:oAa} {l_l l_c BA lG cF ac ad aa ab lX cS fQ fW lA cE lM cK:Nat} {Inv:Nat->Int->St->Prop} {Qr Pr:Bool->St->Prop} {Q0 P0:St->Prop} {bJ nG ak am au aj bu nF:Int} {l_a dw:Addr} {Z ZY:St} {Nx:Int->St->Prop} {Q:vPa} {fy:Bool}
theorem zWW (hb:∀ k bJ Z,Inv k bJ Z->zDA l l_l l_c BA bJ Z (NX1 Inv k) Qr Q0):∀ k bJ Z,Inv k bJ Z->zQC l l_l l_c BA bJ Z Qr Q0 :=
 xE (ai uZ (ai (xV 0) trivial)) hb
theorem yEF (h1:lz Z 3 (zJ l_a (Int.toNat bJ*1)) (iV nG)) (h2:lz Z 23 (qe BA 2) (.slice qE lG cF)) (h3:qm 33 [iV nG,iV (-1),iV ((lG:Int)-1)] Z (.bool true) Z) (nx:Nx (bJ+1) Z) (u1:bJ<(l_l:Int):=by omega) (u2:Ix bJ l_l:=by omega) (u3:I6 ((lG:Int)-1):=by omega) (u4:I6 (bJ+1):=by omega):zDA (some l_a) l_l l_c BA bJ Z Nx Qr Q0 :=
 kO 0 (bJ+1) [.g,.g,.g,.b true,.g,.g,.i,.l (iV nG),.g,.l (.slice qE lG cF),.g,.n ((lG:Int)-1),.c (.bool true) Z,.g,.g,.n (bJ+1),.g] (fun _ f=>ai (zR u1) (an6 u2 h1 h2 (w64 u3) h3 (w64 u4) f)) nx
theorem yEE (h1:lz Z 3 (zJ l_a (Int.toNat bJ*1)) (iV nG)) (h2:lz Z 23 (qe BA 2) (.slice qE lG cF)) (h3:qm 33 [iV nG,iV (-1),iV ((lG:Int)-1)] Z (.bool false) Z) (nx:Qr false Z) (u1:bJ<(l_l:Int):=by omega) (u2:Ix bJ l_l:=by omega) (u3:I6 ((lG:Int)-1):=by omega):zDA (some l_a) l_l l_c BA bJ Z Nx Qr Q0 :=
 kO 1 false [.g,.g,.g,.b true,.g,.g,.i,.l (iV nG),.g,.l (.slice qE lG cF),.g,.n ((lG:Int)-1),.c (.bool false) Z,.g,.g] (fun _ f=>an6 (zR u1) u2 h1 h2 (w64 u3) h3 f) nx
theorem yED (nx:Q0 Z) (u1:¬ bJ<(l_l:Int):=by omega):zDA l l_l l_c BA bJ Z Nx Qr Q0 :=
 kO 2 () [.g,.g,.g,.b false] (fun _ f=>ai (zT u1) f) nx
theorem yKB:let y0:=wkc ak af ac ad ae aa ab am au aj;∀ (hL:zQC l l_l l_c Z.y 0 (Z.row y0 6) Pr P0) (kr:∀ t4_1' Z',Pr t4_1' Z'->zJQ l l_l l_c Z.y t4_1' Z' Q) (k0:∀ Z',P0 Z'->zDW l l_l l_c Z.y Z' Q),qg 21 [qf y0,.slice l l_l l_c] Z Q :=
 fun hL kr k0=>zH [.g,.g,.g,.lf 28 (zAY l l_l l_c Z.y 0) [zDU l l_l l_c Z.y Pr,zDV l l_l l_c Z.y P0]] (kd (ai (ai tt (ai (arf (zAY l l_l l_c Z.y 0)) hL)) (ai (kz1 kr) (ai (kz0 k0) trivial))))
theorem zWT (nx:Q (.bool fy) Z):zJQ l l_l l_c BA fy Z Q :=
 sK [] nx
theorem zWV (h1:lz Z 22 (qe BA 1) (.slice qQ lX cS)) (nx:Q (.bool true) Z) (u1:(l_l:Int)=(lX:Int):=by omega):zDW l l_l l_c BA Z Q :=
 sK [.g,.g,.g,.l (.slice qQ lX cS),.g,.b true,.g] (an2 h1 (xK u1) nx)
theorem zWU (h1:lz Z 22 (qe BA 1) (.slice qQ lX cS)) (nx:Q (.bool false) Z) (u1:¬ (l_l:Int)=(lX:Int):=by omega):zDW l l_l l_c BA Z Q :=
 sK [.g,.g,.g,.l (.slice qQ lX cS),.g,.b false,.g] (an2 h1 (xI u1) nx)
theorem yEC {Inv:Nat->(Option Addr)->Nat->Nat->Int->St->Prop} {Q0:(Option Addr)->Nat->Nat->St->Prop} (hb:∀ k fK fQ fW bu Z,Inv k fK fQ fW bu Z->zOG BA fK fQ fW bu Z (NX4 Inv k) Q0):∀ k fK fQ fW bu Z,Inv k fK fQ fW bu Z->zZM BA fK fQ fW bu Z Q0 :=
 yAS (ai (xV 0) trivial) hb
theorem yOO {Nx:(Option Addr)->Nat->Nat->Int->St->Prop} {Q0:(Option Addr)->Nat->Nat->St->Prop} (h1:lz Z 22 (qe BA 1) (.slice (some dw) lA cE)) (h2:lz Z 3 (zJ dw (((Int.toNat bu*5)+2)+1)) (iV nF)) (h3:yF Pg 26 26 (.slice fK fQ fW) (.slice (some (qe Z.y 0)) 1 1) (Z.row [iV nF] 1)=some (.slice qJ lM cK,ZY)) (nx:Nx qJ lM cK (bu+1) ZY) (u1:bu<(lA:Int):=by omega) (u2:Ix bu lA:=by omega) (u3:I6 (bu+1):=by omega):zOG BA fK fQ fW bu Z Nx Q0 :=
 kO 0 (qJ,lM,cK,bu+1) [.g,.g,.l (.slice (some dw) lA cE),.g,.b true,.g,.g,.l (.slice (some dw) lA cE),.g,.i,.g,.g,.l (iV nF),.g,.e (.slice qJ lM cK) ZY,.g,.g,.n (bu+1),.g] (fun _ f=>ai h1 (an6 (zR u1) h1 u2 h2 h3 (w64 u3) f)) nx
theorem yON {Nx:(Option Addr)->Nat->Nat->Int->St->Prop} {Q0:(Option Addr)->Nat->Nat->St->Prop} (h1:lz Z 22 (qe BA 1) (.slice qD lA cE)) (nx:Q0 fK fQ fW Z) (u1:¬ bu<(lA:Int):=by omega):zOG BA fK fQ fW bu Z Nx Q0 :=
 kO 1 (fK,fQ,fW) [.g,.g,.l (.slice qD lA cE),.g,.b false] (fun _ f=>an2 h1 (zT u1) f) nx
theorem yVV {P0:(Option Addr)->Nat->Nat->St->Prop}:let y0:=wkc ak af ac ad ae aa ab am au aj;∀ (hL:zZM Z.y none 0 0 0 (Z.row y0 6) P0) (k0:∀ p3_1' l3_1' c3_1' Z',P0 p3_1' l3_1' c3_1' Z'->zQA Z.y p3_1' l3_1' c3_1' Z' Q),qg 40 [qf y0] Z Q :=
 fun hL k0=>zH [.g,.g,.g,.g,.lf 23 (zDT Z.y none 0 0 0) [zHE Z.y P0]] (kd (ai (ai tt (ai (arf (zDT Z.y none 0 0 0)) hL)) (ai (kz3 k0) trivial)))
theorem yEB (nx:Q (.slice fK fQ fW) Z):zQA BA fK fQ fW Z Q :=
 sK [.g,.g] nx
end
section
variable {n l c m d:Nat} {p q:Option Addr} {x y z:Int}
structure Sane (w:Wk) (l m:Nat):Prop where
 l12:l<=12
 m6:m<=6
 duty:∀ i,i<l->0<=(dtQ w i).day/\(dtQ w i).day<=6/\0<=(dtQ w i).on/\(dtQ w i).on<=1439/\(dtQ w i).on<=(dtQ w i).lo/\(dtQ w i).lo<=(dtQ w i).hi/\(dtQ w i).hi<=(dtQ w i).on+1440
 dr:∀ k,k<m->-10080<=(drQ w k).off/\(drQ w k).off<=1440/\0<=(drQ w k).row/\(drQ w k).row<=14/\0<=(drQ w k).used/\(drQ w k).used<=20000
 kn:∀ k,k<m->(drQ w k).J.length<=1000/\(drQ w k).qa.length<=1000/\(drQ w k).qb.length<=1000
 rest:0<=w.rest/\w.rest<=3000
 run:1<=w.run/\w.run<=14
 j:0<=w.j/\w.j<=20000
theorem xAY {r:Option Addr} {j e:Nat} (h1:∀ a,p=some a->a.block<n) (h2:∀ a,q=some a->a.block<n) (h3:∀ a,r=some a->a.block<n):yY RD n (.agg ⟨zN p l c q m d r j e x y z⟩)=true:=by
 have e1:∀ a b:Nat,a<b->Nat.blt a b=true:=fun a b h=>by rw [Nat.blt_eq];exact h
 show List.all (zN p l c q m d r j e x y z) (yY (RD-1) n)=true;rcases p with _ | p <;> rcases q with _ | q <;> rcases r with _ | r <;> simp [yY,RD] <;> simp_all
theorem uC {a:Int} (h1:∀ a,p=some a->a.block<n) (h2:∀ a,q=some a->a.block<n):yY RD n (.agg ⟨wkc a p l c q m d x y z⟩)=true:=by
 have e1:∀ a b:Nat,a<b->Nat.blt a b=true:=fun a b h=>by rw [Nat.blt_eq];exact h
 show List.all (wkc a p l c q m d x y z) (yY (RD-1) n)=true;rcases p with _ | p <;> rcases q with _ | q <;> simp [yY,RD] <;> simp_all
section
variable {Z:St} {w:Wk} {p q r t:Option Addr} {l m c d rc tc:Nat} {rs ts:List Int} {k i:Nat}
end
end
abbrev zRR (b:Bch):Value:=.agg ⟨rcd b.kind b.drv b.dut⟩
section
variable {w:Wk} {ros tru:Nat->Int} {k q j:Nat}
theorem xZW:yEA w ros tru k (q+1)=yEA w ros tru k q++yVM w ros tru k q w.N.length:=by
 unfold yEA;rw [List.range_succ,List.flatMap_append];simp
theorem xZX:uQ w ros tru (k+1)=uQ w ros tru k++(yEA w ros tru k 5++yVL w ros tru k):=by
 unfold uQ;rw [List.range_succ,List.flatMap_append];simp
theorem xMS:(yVM w ros tru k q j).length<=j:=by
 unfold yVM;have:=List.length_filterMap_le (fun i=>if xT w ros tru q k i=true then some (⟨q,k,i⟩:Bch) else none) (List.range j);simpa using this
theorem xMT:(yEA w ros tru k q).length<=q*w.N.length:=by
 induction q with
 | zero=>simp [yEA]
 | succ q ih=>rw [xZW,List.length_append,Nat.add_mul,Nat.one_mul];have:=xMS (w:=w) (ros:=ros) (tru:=tru) (k:=k) (q:=q) (j:=w.N.length);omega
theorem xMR:(yVL w ros tru k).length<=1:=by unfold yVL;split <;> simp
theorem xMU:(uQ w ros tru k).length<=k*(5*w.N.length+1):=by
 induction k with
 | zero=>simp [uQ]
 | succ k ih =>
  rw [xZX,List.length_append,List.length_append,Nat.add_mul,Nat.one_mul];have h1:=xMT (w:=w) (ros:=ros) (tru:=tru) (k:=k) (q:=5);have h2:=xMR (w:=w) (ros:=ros) (tru:=tru) (k:=k);omega
end
section
variable {Z:St} {w:Wk} {p q r t:Option Addr} {l m c d rc tc:Nat} {rs ts:List Int} {k i:Nat}
end
def zBA (w:Wk) (rs:List Int):Bool:=rs.all (fun x=>inB x (-1) ((w.L.length:Int)-1)) && decide (rs.length=w.N.length)
def zYN (w:Wk) (ts:List Int) (j:Nat):Bool:=(List.range j).all fun i=>inB (ts.getD i 0) (dtQ w i).lo (dtQ w i).hi
def zCV (w:Wk) (ts:List Int):Bool:=zYN w ts (min ts.length w.N.length) && decide (ts.length=w.N.length)
def wT (w:Wk):List Int:=w.N.map Dty.hi
section
variable {Z:St} {w:Wk} {p q r t:Option Addr} {l m c d rl rc tl tc:Nat} {rs ts:List Int} {td tv:Nat}
theorem zUZ (h:WkP Z 92 76 w p l q m) (hr:yC Z r rl rs) (hl:rl<=1073741824) (hm:m<=1073741824):zD Tryz.prog 21 [.agg ⟨wkc w.M p l c q m d w.rest w.run w.j⟩,.slice r rl rc] Z (.bool (zBA w rs)) Z:=by
 have hn:=h.len.1;have hmm:=h.len.2;have el:=hr.len;obtain ⟨Z1,hZ1⟩:∃ Z1,Z1=Z.re.row (wkc w.M p l c q m d w.rest w.run w.j) 6:=⟨_,rfl⟩;have hk0:=xH Z.re (wkc w.M p l c q m d w.rest w.run w.j) 6;rw [<- hZ1] at hk0;have hr0:yC Z1 r rl rs:=by rw [hZ1];exact SlV.le hr ((le0 Z).trans (Le.row _ _ _))
 have lD:zB Tryz.prog Z1 22 ⟨Z.re.y,1,none⟩=some (.slice p l c):=hk0.ld zBF rfl;have lV:zB Tryz.prog Z1 23 ⟨Z.re.y,2,none⟩=some (.slice q m d):=hk0.ld zEZ rfl;have low1:Z.y<=Z1.low:=by rw [hZ1];exact Nat.le_refl _
 refine (yKB (zWW (Inv:=fun k i τ=>τ=Z1/\∃ j:Nat,i=j/\j+k=rl/\(rs.take j).all (fun x=>inB x (-1) ((w.L.length:Int)-1))=true) (Qr:=fun b τ=>τ=Z1/\b=false/\zBA w rs=false)
  (Q0:=fun τ=>τ=Z1/\rs.all (fun x=>inB x (-1) ((w.L.length:Int)-1))=true) ?_ rl 0 _ ⟨hZ1.symm,0,rfl,by omega,rfl⟩) ?_ ?_).pure
 ·rintro k i τ ⟨rfl,j,rfl,hk,ha⟩;by_cases hj:j<rl;rotate_left
  ·exact yED ⟨rfl,by rwa [List.take_of_length_le (by omega)] at ha⟩ (by omega)
  obtain ⟨a,rfl,x,hx,lx⟩:=xZ hr0 hj;have cin:=xMZ (Z:=τ) (n:=x) (lo:=-1) (hi:=(m:Int)-1);cases hb:inB x (-1) ((m:Int)-1) with
  | true=>rw [hb] at cin;exact yEF lx lV cin ⟨k-1,by omega,rfl,j+1,by omega,by omega,zRS hx ha (by rw [hmm];exact hb)⟩ (by omega) (by omega) (by omega) (by omega)
  | false=>rw [hb] at cin;exact yEE lx lV cin ⟨rfl,rfl,by unfold zBA;rw [yDA (f:=fun x=>inB x (-1) ((w.L.length:Int)-1)) (List.mem_of_getElem? hx) (by rw [hmm];exact hb)];rfl⟩ (by omega) (by omega) (by omega)
 ·rintro b τ ⟨rfl,rfl,e⟩;exact zWT ⟨by rw [e],low1⟩
 ·rintro τ ⟨rfl,e⟩;by_cases hh:rl=l
  ·exact zWV lD ⟨by unfold zBA;rw [e,decide_eq_true (by omega)];rfl,low1⟩ (by omega)
  ·exact zWU lD ⟨by unfold zBA;rw [e,decide_eq_false (by omega)];rfl,low1⟩ (by omega)
theorem xFU (h:WkP Z 92 76 w p l q m) (hl:l<=1000):∃ p' c' Z',zD Tryz.prog 40 [.agg ⟨wkc w.M p l c q m d w.rest w.run w.j⟩] Z (.slice p' l c') Z'/\New Z Z'/\yC Z' p' l (wT w)/\∀ b,AtP p' b->Z.y<=b:=by
 have hn:=h.len.1;obtain ⟨Z1,hZ1⟩:∃ Z1,Z1=Z.re.row (wkc w.M p l c q m d w.rest w.run w.j) 6:=⟨_,rfl⟩;have hk0:=xH Z.re (wkc w.M p l c q m d w.rest w.run w.j) 6;rw [<- hZ1] at hk0;have N1:New Z.re Z1:=by rw [hZ1];exact New.row _ _ _
 have L1:Le Z Z1:=(le0 Z).trans N1.le;refine zO.newSl (yVV (yEC (Inv:=fun k p' l' c' i τ=>New Z1 τ/\∃ j:Nat,i=j/\j+k=l/\l'=j/\Gr Tryz.prog τ Z1.y 3 1 p' l' c' (((wT w).take j).map yA))
  (Q0:=fun p' l' c' τ=>New Z1 τ/\l'=l/\Gr Tryz.prog τ Z1.y 3 1 p' l' c' ((wT w).map yA)) ?_ l none 0 0 0 _ ⟨by rw [<- hZ1];exact New.refl _,0,rfl,by omega,rfl,Gr.nil⟩) ?_)
 ·rintro k p' l' c' i τ ⟨hN,j,rfl,hk,rfl,hg⟩;have lD:zB Tryz.prog τ 22 ⟨Z.re.y,1,none⟩=some (.slice p l c):=(hk0.le hN.le).ld zBF rfl;by_cases hj:l' < l
  ·obtain ⟨a,rfl,l3⟩:=(h.le (L1.trans hN.le)).dld (i:=l') (k:=3) (n:=(dtQ w l').hi) hj (by omega) rfl;obtain ⟨q7,d7,τ',g1,g2,g3,_,_⟩:=wCQ (yA (dtQ w l').hi) zAU hg hN (New.refl τ) (vY _) (by omega);have hx:(wT w)[l']?=some (dtQ w l').hi:=by
    unfold wT dtQ;rw [List.getElem?_map,List.getD_eq_getElem?_getD,List.getElem?_eq_getElem (by omega)];rfl
   refine yOO lD l3 g1 ⟨k-1,by omega,g3,l'+1,by omega,by omega,rfl, ?_⟩ (by omega) (by omega) (by omega);rw [wF hx,List.map_append];exact g2
  ·have:l'=l:=by omega
   subst this;refine yON lD ⟨hN,rfl, ?_⟩ (by omega);rwa [List.take_of_length_le (by unfold wT;rw [List.length_map];omega)] at hg
 ·rintro p' l' c' τ ⟨hN,rfl,hg⟩;refine yEB ⟨N1.trans hN,p',c',rfl,hg.slv,fun b hb=>?_⟩;have:=(hg.bd hb).1;have:=N1.nx;show Z.re.y<=b;omega
end
section
noncomputable section
variable (BA:Nat) (af vals ae:oAa) (f1:FuncId) (ac bP aa ad bV ab:Nat) (eh:lVa) (q0:(Option Addr)->Nat->Nat->Int->St->Prop) (q2:(Option Addr)->Nat->Nat->St->Prop) (fM:oAa) (aH:Int) (q5:Int->St->Prop) (q6:St->Prop) (g:Nat->Value) (ms:List Nat) (fR fX:Nat) (st:LoopState) (aF:Int) (pend:Option Code) (Z:St) (db:Nat) (Nx Qr:Int->St->Prop) (Q:vPa) (q3:(Option Addr)->Nat->Nat->Int->St->Prop) (Qn Q0:St->Prop) (q4:(Option Addr)->Nat->Nat->St->Prop)
def zHV:Code:=(Code.part [1,0,1,0,0] (qh 85))
def zHU:Code:=(Code.part [1,0,1,0,1] (qh 85))
def zGL:lNa:=[(4,pt BA 0),(8,.func (.func f1) ⟨[]⟩ ⟨eh⟩)]
def yIG:Blk:=.loop (Fm 16 (ov (zGL BA f1 eh) g)) [9,10] zHV zHU st pend db
def xIW:Prop:=zUH Pg qj (.tmp 8) ⟨[9,10]⟩ zHV zHU 16 (zGL BA f1 eh) [(.normal,Qn)] Z
def zVZ:Prop:=∀ g:Nat->Value,∃ an,Hid (kAt Pg qj none (qh 85) [1,0,1,0] (ql 85 Q) .normal ⟨Fm 16 (ov (zGL BA f1 eh) g),ms⟩ Z an)
def xDZ:Code:=(Code.part [1,0,1,0,0] (qh 86))
def zRF:lNa:=[(2,.slice fM fR fX),(6,.slice af ac ad),(7,iV (ac:Int)),(8,iV aF)]
def xRR:Alt:=⟨(Option Addr) × Nat × Nat × Int,.normal,fun t=>zRF af ac ad t.1 t.2.1 t.2.2.1 t.2.2.2,fun t=>[],fun t Z=>q0 t.1 t.2.1 t.2.2.1 t.2.2.2 Z⟩
def yIE (af:oAa) (ac ad:Nat) (fM:oAa) (fR fX:Nat):lNa:=[(2,.slice fM fR fX)]
def zTN:Alt:=⟨(Option Addr) × Nat × Nat,(.exit 0),fun t=>yIE af ac ad t.1 t.2.1 t.2.2,fun t=>[],fun t Z=>q2 t.1 t.2.1 t.2.2 Z⟩
def yLQ:Prop:=qi qj none xDZ 20 (zRF af ac ad fM fR fX aF) [] [xRR af ac ad q3,zTN af ac ad q4] Z
def xEA:Prop:=qk qj none xDZ 20 (zRF af ac ad fM fR fX aF) [] [zTN af ac ad q4] Z
def yIF:Prop:=kZ qj (qh 86) [1,0,1,0] (ql 86 Q) (.exit 0) 20 (yIE af ac ad fM fR fX) Z
def zYI:Code:=(Code.part [1,0,1,0,0] (qh 74))
def zGY:lNa:=[(2,pt BA 0),(6,.slice ae aa ab),(7,iV (aa:Int)),(8,iV aF)]
def yNI:Alt:=⟨Int,.normal,fun t=>zGY BA ae aa ab t,fun t=>[],fun t Z=>q5 t Z⟩
def zPP (BA:Nat) (ae:oAa) (aa ab:Nat):lNa:=[(2,pt BA 0)]
def zGZ:Alt:=⟨Unit,(.exit 0),fun t=>zPP BA ae aa ab,fun t=>[],fun t Z=>q6 Z⟩
def zNY:Prop:=qi qj none zYI 24 (zGY BA ae aa ab aF) [] [yNI BA ae aa ab Nx,zGZ BA ae aa ab Q0] Z
def zYJ:Prop:=qk qj none zYI 24 (zGY BA ae aa ab aF) [] [zGZ BA ae aa ab Q0] Z
def zPQ:Prop:=kZ qj (qh 74) [1,0,1,0] (ql 74 Q) (.exit 0) 24 (zPP BA ae aa ab) Z
def ySI:Code:=(Code.part [1,1,0,1,0,0] (qh 80))
def zKV:lNa:=[(3,iV 0),(6,.slice vals bP bV),(7,iV (bP:Int)),(8,iV aF)]
def xJI:Alt:=⟨Int,.normal,fun t=>zKV vals bP bV t,fun t=>[],fun t Z=>q5 t Z⟩
def yCG (vals:oAa) (bP bV:Nat) (aH:Int):lNa:=[(2,iV aH)]
def zPA:Alt:=⟨Int,.ret,fun t=>yCG vals bP bV t,fun t=>[],fun t Z=>q5 t Z⟩
def yCH (vals:oAa) (bP bV:Nat):lNa:=[(3,iV 0)]
def zPB:Alt:=⟨Unit,(.exit 0),fun t=>yCH vals bP bV,fun t=>[],fun t Z=>q6 Z⟩
def zRK:Prop:=qi qj none ySI 18 (zKV vals bP bV aF) [] [xJI vals bP bV Nx,zPA vals bP bV Qr,zPB vals bP bV Q0] Z
def ySJ:Prop:=qk qj none ySI 18 (zKV vals bP bV aF) [] [zPA vals bP bV Qr,zPB vals bP bV Q0] Z
def yCI:Prop:=kZ qj (qh 80) [1,1,0,1,0] (ql 80 Q) .ret 18 (yCG vals bP bV aH) Z
def yCJ:Prop:=kZ qj (qh 80) [1,1,0,1,0] (ql 80 Q) (.exit 0) 18 (yCH vals bP bV) Z
end
variable {ak am au aj day y aB aP ax ay aD aF nG nF nA nB nD nE dH dX eL dW eM x1 aV bG bb ba n1 n2 n3 n4 eC aH eg dI eH fi eG fq:Int} {af ae qSB qTB qY qKB fM qH qD qE qG q1 vals:oAa} {ac ad aa ab BA lo lYB cUB lZB cVB db lL cAB lRB cLB fR fX lJ cH lA cE lG cF lH cG l1 c1 bP bV:Nat} {Z ZZB ZAC τ Z2 ZP gi ZZ ZAB:St} {Q:vPa} {f1:FuncId} {eh cs1838 cs1840:lVa} {g:Nat->Value} {Qn Pn Q0 P0:St->Prop} {ms:List Nat} {Inv:Nat->Int->St->Prop} {w_Duties_a bx vals_a:Addr} {Nx Qr Pr:Int->St->Prop} {b2:Bool}
theorem wCI:let y0:=wkc ak af ac ad ae aa ab am au aj;∀ (nx:Q (.func (.func 91) ⟨[]⟩ ⟨[pt Z.y 0,pt ((Z.y+1)) 0]⟩) ((Z.row y0 6).row [iV day] 1)),qg 75 [qf y0,iV day] Z Q :=
 fun nx=>zH [.g,.g,.g,.g,.g] (kd nx)
theorem yZL (hl:yJ τ.heap lo=some (yIG BA f1 eh g .ready none db)) (hZ:Z=τ.re.put lo (yIG BA f1 eh g .busy none db)) (h1:lz Z 26 (qe BA 0) (.slice qSB lYB cUB)) (h2:yF Pg 26 26 (.slice qSB lYB cUB) (.slice (some (qe Z.y 0)) 1 1) (Z.row [iV y] 1)=some (.slice qTB lZB cVB,ZZB)) (h3:qo (evL [pt BA 0,.slice qTB lZB cVB]) ZZB (.store 26 (.tmp 0) (.tmp 1))=some (undef,ZAC)) (nx:Qn ZAC):zFO Pg lo [iV y,qf (zG aB aP ax ay aD)] τ (Fm 16 (ov (zGL BA f1 eh) g)) [9,10] zHV zHU db [⟨Unit,.normal,fun _=>[],fun _=>[],fun _ Z=>Qn Z⟩] :=
 xMJ hl rfl hZ [.g,.l (.slice qSB lYB cUB),.g,.g,.e (.slice qTB lZB cVB) ZZB,.e undef ZAC,.fin ⟨Unit,.normal,fun _=>[],fun _=>[],fun _ Z=>Qn Z⟩ ()] (kc (by kernel_rfl) (ai (ai (rfl:Exit.normal=Exit.normal) (rfl:τ.re=τ.re)) (an3 h1 h2 h3 (wBB (alts:=[⟨Unit,.normal,fun _=>[],fun _=>[],fun _ Z=>Qn Z⟩]) ⟨Unit,.normal,fun _=>[],fun _=>[],fun _ Z=>Qn Z⟩ () nx in0))))
theorem xIV:let y0:=wkc ak af ac ad ae aa ab am au aj;∀ (h1:qm 75 [qf y0,iV day] ((Z.row y0 6).row [.slice none 0 0] 1) (.func (.func f1) ⟨[]⟩ ⟨eh⟩) Z2) (hL:xIW (Z.y+1) f1 eh Z2 Pn) (kn:∀ Z',Pn Z'->zVZ (Z.y+1) f1 eh [Z2.y] Z' Q),qg 85 [qf y0,iV day] Z Q :=
 let s1:=zGL (Z.y+1) f1 eh;let y0:=wkc ak af ac ad ae aa ab am au aj;fun h1 hL kn=>zH [.g,.g,.l (qf y0),.g,.c (.func (.func f1) ⟨[]⟩ ⟨eh⟩) Z2,.rf 16 s1 [(.normal,Pn)]] (kd (an2 ((zC _ _ _).row.rw.ldN xL yR (k:=0) rfl rfl (nle rfl):lz ((Z.row y0 6).row [.slice none 0 0] 1) 34 (qe Z.y 0) (qf y0)) h1 (ai (ai tt (ai (arf s1) hL)) (ai (kz kn) trivial))))
theorem yLS (h1:lz Z 26 (qe BA 0) (.slice qY lL cAB)) (h2:qo (evL [pt BA 0,.slice qY lL cAB]) Z (.store 26 (.tmp 0) (.tmp 1))=some (undef,ZP)) (h3:xEO ms ZP gi) (h4:lz gi 26 (qe BA 0) (.slice qKB lRB cLB)) (nx:Q (.slice qKB lRB cLB) gi):zVZ BA f1 eh ms Z Q :=
 sK [.l (.slice qY lL cAB),.e undef ZP,.l (.slice qKB lRB cLB)] (an2 h1 h2 (zNX (K:=(fun gi=>lz gi 26 (qe BA 0) (.slice qKB lRB cLB)/\Q (.slice qKB lRB cLB) gi)) h3 (ai h4 nx)))
theorem yZH {Inv:Nat->(Option Addr)->Nat->Nat->Int->St->Prop} {Q0:(Option Addr)->Nat->Nat->St->Prop} (hb:∀ k fM fR fX aF Z,Inv k fM fR fX aF Z->yLQ af ac ad fM fR fX aF Z (NX4 Inv k) Q0):∀ k fM fR fX aF Z,Inv k fM fR fX aF Z->xEA af ac ad fM fR fX aF Z Q0 :=
 yAS (ai (xV 0) trivial) hb
theorem xRQ {Nx:(Option Addr)->Nat->Nat->Int->St->Prop} {Q0:(Option Addr)->Nat->Nat->St->Prop}:let y0:=zG nG nF nA nB nD;∀ (h1:lz Z 85 (zJ w_Duties_a (Int.toNat aF*5)) (qf y0)) (h2:yF Pg 26 26 (.slice fM fR fX) (.slice (some ⟨(Z.y+1),0,none⟩) 1 1) (((Z.row (zG 0 0 0 0 0) 5).own Z.y y0 5).row [iV nB] 1)=some (.slice qH lJ cH,ZZ)) (nx:Nx qH lJ cH (aF+1) ZZ) (u1:aF<(ac:Int):=by omega) (u2:Ix aF ac:=by omega) (u3:I6 (aF+1):=by omega),yLQ (some w_Duties_a) ac ad fM fR fX aF Z Nx Q0 :=
 let s1:=Z.row (zG 0 0 0 0 0) 5;let s2:=s1.own Z.y (zG nG nF nA nB nD) 5;let y0:=zG nG nF nA nB nD;fun h1 h2 nx u1 u2 u3=>kO 0 (qH,lJ,cH,aF+1) [.b true,.i,.l (qf y0),.g,.e undef s2,.g,.g,.g,.l (iV nB),.g,.e (.slice qH lJ cH) ZZ,.g,.n (aF+1),.g] (fun _ f=>ai (zR u1) (an6 u2 h1 ((zC _ _ _).store (vs:=y0) rfl uD rfl (nle rfl) rfl:qo (evL [pt Z.y 0,qf y0]) s1 (.store 85 (.tmp 0) (.tmp 1))=some (undef,s2)) ((zC _ _ _).put.rw.ld zU (k:=3) rfl:lz s2 3 (qe Z.y 3) (iV nB)) h2 (w64 u3) f)) nx
theorem xRP {Nx:(Option Addr)->Nat->Nat->Int->St->Prop} {Q0:(Option Addr)->Nat->Nat->St->Prop} (nx:Q0 fM fR fX Z) (u1:¬ aF<(ac:Int):=by omega):yLQ af ac ad fM fR fX aF Z Nx Q0 :=
 kO 1 (fM,fR,fX) [.b false] (fun _ f=>ai (zT u1) f) nx
theorem xWT {P0:(Option Addr)->Nat->Nat->St->Prop} (hL:xEA af ac ad none 0 0 0 (Z.row (wkc ak af ac ad ae aa ab am au aj) 6) P0) (k0:∀ p2_1' l2_1' c2_1' Z',P0 p2_1' l2_1' c2_1' Z'->yIF af ac ad p2_1' l2_1' c2_1' Z' Q):qg 86 [qf (wkc ak af ac ad ae aa ab am au aj)] Z Q :=
 zH [.g,.g,.g,.l (.slice af ac ad),.g,.g,.lf 20 (zRF af ac ad none 0 0 0) [zTN af ac ad P0]] (kd (ai ((zC _ _ _).rw.ld uU (k:=1) rfl:lz (Z.row (wkc ak af ac ad ae aa ab am au aj) 6) 31 (qe Z.y 1) (.slice af ac ad)) (ai (ai tt (ai (arf (zRF af ac ad none 0 0 0)) hL)) (ai (kz3 k0) trivial))))
theorem yZG (nx:Q (.slice fM fR fX) Z):yIF af ac ad fM fR fX Z Q :=
 sK [.g,.g] nx
theorem yDU (hb:∀ k aF Z,Inv k aF Z->zNY BA ae aa ab aF Z (NX1 Inv k) Q0):∀ k aF Z,Inv k aF Z->zYJ BA ae aa ab aF Z Q0 :=
 xE (ai (xV 0) trivial) hb
theorem yNH:let y0:=zN qD lA cE qE lG cF qG lH cG nB nD nE;∀ (h1:lz Z 88 (zJ bx (Int.toNat aF*6)) (qf y0)) (h2:qo (evL [pt BA (0+Int.toNat aF*4),qf (zL nB nD nE (-1))]) ((Z.row (zN none 0 0 none 0 0 none 0 0 0 0 0) 6).own Z.y y0 6) (.store 107 (.tmp 0) (.tmp 1))=some (undef,ZAB)) (nx:Nx (aF+1) ZAB) (u1:aF<(aa:Int):=by omega) (u2:Ix aF aa:=by omega) (u3:Ix aF 6:=by omega) (u4:I6 (aF+1):=by omega),zNY BA (some bx) aa ab aF Z Nx Q0 :=
 let s1:=Z.row (zN none 0 0 none 0 0 none 0 0 0 0 0) 6;let s2:=s1.own Z.y (zN qD lA cE qE lG cF qG lH cG nB nD nE) 6;let y0:=zN qD lA cE qE lG cF qG lH cG nB nD nE;fun h1 h2 nx u1 u2 u3 u4=>kO 0 (aF+1) [.b true,.g,.i,.l (qf y0),.g,.g,.e undef s2,.g,.g,.l (iV nB),.g,.l (iV nD),.g,.l (iV nE),.g,.i,.e undef ZAB,.n (aF+1),.g] (fun _ f=>an4 (zR u1) u2 h1 ((zC _ _ _).store (vs:=y0) rfl zFF rfl (nle rfl) rfl:qo (evL [pt Z.y 0,qf y0]) s1 (.store 88 (.tmp 0) (.tmp 1))=some (undef,s2)) (an6 ((zC _ _ _).put.rw.ld zU (k:=3) rfl:lz s2 3 (qe Z.y 3) (iV nB)) ((zC _ _ _).put.rw.ld zU (k:=4) rfl:lz s2 3 (qe Z.y 4) (iV nD)) ((zC _ _ _).put.rw.ld zU (k:=5) rfl:lz s2 3 (qe Z.y 5) (iV nE)) u3 h2 (w64 u4) f)) nx
theorem yNG (nx:Q0 Z) (u1:¬ aF<(aa:Int):=by omega):zNY BA ae aa ab aF Z Nx Q0 :=
 kO 1 () [.b false] (fun _ f=>ai (zT u1) f) nx
theorem yUN (hL:zYJ (Z.y+1) ae aa ab 0 ((Z.row (wkc ak af ac ad ae aa ab am au aj) 6).row [iV 0,iV 0,iV 0,iV 0,iV 0,iV 0,iV 0,iV 0,iV 0,iV 0,iV 0,iV 0,iV 0,iV 0,iV 0,iV 0,iV 0,iV 0,iV 0,iV 0,iV 0,iV 0,iV 0,iV 0] 4) P0) (k0:∀ Z',P0 Z'->zPQ (Z.y+1) ae aa ab Z' Q):qg 74 [qf (wkc ak af ac ad ae aa ab am au aj)] Z Q :=
 let s1:=zGY (Z.y+1) ae aa ab 0;zH [.g,.g,.g,.l (.slice ae aa ab),.g,.g,.lf 24 s1 [zGZ (Z.y+1) ae aa ab P0]] (kd (ai ((zC _ _ _).row.rw.ld zAC (k:=2) rfl:lz ((Z.row (wkc ak af ac ad ae aa ab am au aj) 6).row [iV 0,iV 0,iV 0,iV 0,iV 0,iV 0,iV 0,iV 0,iV 0,iV 0,iV 0,iV 0,iV 0,iV 0,iV 0,iV 0,iV 0,iV 0,iV 0,iV 0,iV 0,iV 0,iV 0,iV 0] 4) 32 (qe Z.y 2) (.slice ae aa ab)) (ai (ai tt (ai (arf s1) hL)) (ai (kz0 k0) trivial))))
theorem yDT (h1:lz Z 109 (qe BA 0) (qf cs1838)) (h2:qo (evL [pt BA 0,qf cs1838]) Z (.store 109 (.tmp 0) (.tmp 1))=some (undef,ZP)) (h3:lz ZP 109 (qe BA 0) (qf cs1840)) (nx:Q (qf cs1840) ZP):zPQ BA ae aa ab Z Q :=
 sK [.l (qf cs1838),.e undef ZP,.l (qf cs1840)] (an3 h1 h2 h3 nx)
theorem yKI (nx:Q (.slice (some (qe Z.y 0)) 5 5) (Z.row [.int .u8 0,.func (.func 92) ⟨[]⟩ ⟨[]⟩,.int .u8 1,.func (.func 93) ⟨[]⟩ ⟨[]⟩,.int .u8 2,.func (.func 94) ⟨[]⟩ ⟨[]⟩,.int .u8 3,.func (.func 95) ⟨[]⟩ ⟨[]⟩,.int .u8 4,.func (.func 96) ⟨[]⟩ ⟨[]⟩] 2)):qg 76 [] Z Q :=
 zH [.g,.g,.g,.g,.g,.g,.g,.g] (kd nx)
theorem xGC:let s1:=Z.row (wkc ak af ac ad (some bx) aa ab am au aj) 6;let s2:=s1.row (zG aB aP ax ay aD) 5;let s3:=s2.row (zL dX eL dW eM) 4;∀ (h1:lz s3 26 (zJ bx ((Int.toNat dH*6)+0)) (.slice q1 l1 c1)) (h2:qm 58 [.slice q1 l1 c1,iV aD] s3 (.bool b2) s3) (nx:Q (.bool b2) s3) (u1:Ix dH aa:=by omega),qg 92 [qf (wkc ak af ac ad (some bx) aa ab am au aj),iV dH,qf (zG aB aP ax ay aD),qf (zL dX eL dW eM)] Z Q:=
 let s1:=Z.row (wkc ak af ac ad (some bx) aa ab am au aj) 6;let s2:=s1.row (zG aB aP ax ay aD) 5;let s3:=s2.row (zL dX eL dW eM) 4;fun h1 h2 nx u1=>zH [.g,.g,.g,.g,.g,.l (.slice (some bx) aa ab),.g,.i,.g,.l (.slice q1 l1 c1),.g,.l (iV aD),.c (.bool b2) s3,.g] (kd (an5 ((zC _ _ _).row.row.rw.ld zAC (k:=2) rfl:lz s3 32 (qe Z.y 2) (.slice (some bx) aa ab)) u1 h1 ((zC _ _ _).row.rw.ld zU (k:=4) rfl:lz s3 3 ⟨(Z.y+1),4,none⟩ (iV aD)) h2 nx))
theorem xNG:let s1:=Z.row (wkc ak af ac ad (some bx) aa ab am au aj) 6;let s2:=s1.row (zG aB aP ax ay aD) 5;let s3:=s2.row (zL dX eL dW eM) 4;∀ (h1:lz s3 26 (zJ bx ((Int.toNat dH*6)+1)) (.slice q1 l1 c1)) (h2:qm 58 [.slice q1 l1 c1,iV aB] s3 (.bool true) s3) (nx:Q (.bool false) s3) (u1:Ix dH aa:=by omega),qg 93 [qf (wkc ak af ac ad (some bx) aa ab am au aj),iV dH,qf (zG aB aP ax ay aD),qf (zL dX eL dW eM)] Z Q:=
 let s1:=Z.row (wkc ak af ac ad (some bx) aa ab am au aj) 6;let s2:=s1.row (zG aB aP ax ay aD) 5;let s3:=s2.row (zL dX eL dW eM) 4;fun h1 h2 nx u1=>zH [.g,.g,.g,.g,.g,.l (.slice (some bx) aa ab),.g,.i,.g,.l (.slice q1 l1 c1),.g,.l (iV aB),.c (.bool true) s3,.g,.g] (kd (an5 ((zC _ _ _).row.row.rw.ld zAC (k:=2) rfl:lz s3 32 (qe Z.y 2) (.slice (some bx) aa ab)) u1 h1 ((zC _ _ _).row.rw.ld zU (k:=0) rfl:lz s3 3 ⟨(Z.y+1),0,none⟩ (iV aB)) h2 nx))
theorem xNF:let s1:=Z.row (wkc ak af ac ad (some bx) aa ab am au aj) 6;let s2:=s1.row (zG aB aP ax ay aD) 5;let s3:=s2.row (zL dX eL dW eM) 4;∀ (h1:lz s3 26 (zJ bx ((Int.toNat dH*6)+1)) (.slice q1 l1 c1)) (h2:qm 58 [.slice q1 l1 c1,iV aB] s3 (.bool false) s3) (nx:Q (.bool true) s3) (u1:Ix dH aa:=by omega),qg 93 [qf (wkc ak af ac ad (some bx) aa ab am au aj),iV dH,qf (zG aB aP ax ay aD),qf (zL dX eL dW eM)] Z Q:=
 let s1:=Z.row (wkc ak af ac ad (some bx) aa ab am au aj) 6;let s2:=s1.row (zG aB aP ax ay aD) 5;let s3:=s2.row (zL dX eL dW eM) 4;fun h1 h2 nx u1=>zH [.g,.g,.g,.g,.g,.l (.slice (some bx) aa ab),.g,.i,.g,.l (.slice q1 l1 c1),.g,.l (iV aB),.c (.bool false) s3,.g,.g] (kd (an5 ((zC _ _ _).row.row.rw.ld zAC (k:=2) rfl:lz s3 32 (qe Z.y 2) (.slice (some bx) aa ab)) u1 h1 ((zC _ _ _).row.rw.ld zU (k:=0) rfl:lz s3 3 ⟨(Z.y+1),0,none⟩ (iV aB)) h2 nx))
theorem yWS:let y0:=wkc ak af ac ad ae aa ab am au aj;let y1:=zG aB aP ax ay aD;∀ (nx:Q (.bool true) (((Z.row y0 6).row y1 5).row (zL aV bG bb ba) 4)) (u1:¬ ba=aB:=by omega),qg 94 [qf y0,iV x1,qf y1,qf (zL aV bG bb ba)] Z Q :=
 let s1:=Z.row (wkc ak af ac ad ae aa ab am au aj) 6;let s2:=s1.row (zG aB aP ax ay aD) 5;let s3:=s2.row (zL aV bG bb ba) 4;fun nx u1=>zH [.g,.g,.g,.g,.g,.l (iV ba),.g,.l (iV aB),.b true,.g] (kd (an3 ((zC _ _ _).rw.ld zU (k:=3) rfl:lz s3 3 ⟨(Z.y+2),3,none⟩ (iV ba)) ((zC _ _ _).row.rw.ld zU (k:=0) rfl:lz s3 3 ⟨(Z.y+1),0,none⟩ (iV aB)) (zCC u1) nx))
theorem yWR:let y0:=wkc ak af ac ad ae aa ab am au aj;let y1:=zG aB aP ax ay aD;∀ (nx:Q (.bool false) (((Z.row y0 6).row y1 5).row (zL aV bG bb ba) 4)) (u1:ba=aB:=by omega),qg 94 [qf y0,iV x1,qf y1,qf (zL aV bG bb ba)] Z Q :=
 let s1:=Z.row (wkc ak af ac ad ae aa ab am au aj) 6;let s2:=s1.row (zG aB aP ax ay aD) 5;let s3:=s2.row (zL aV bG bb ba) 4;fun nx u1=>zH [.g,.g,.g,.g,.g,.l (iV ba),.g,.l (iV aB),.b false,.g] (kd (an3 ((zC _ _ _).rw.ld zU (k:=3) rfl:lz s3 3 ⟨(Z.y+2),3,none⟩ (iV ba)) ((zC _ _ _).row.rw.ld zU (k:=0) rfl:lz s3 3 ⟨(Z.y+1),0,none⟩ (iV aB)) (xR u1) nx))
theorem yWV:let y0:=wkc ak af ac ad ae aa ab am au aj;let y1:=zG aB aP ax ay aD;∀ (nx:Q (.bool true) (((Z.row y0 6).row y1 5).row (zL aV bG bb ba) 4)) (u1:ba=aB:=by omega),qg 95 [qf y0,iV x1,qf y1,qf (zL aV bG bb ba)] Z Q :=
 let s1:=Z.row (wkc ak af ac ad ae aa ab am au aj) 6;let s2:=s1.row (zG aB aP ax ay aD) 5;let s3:=s2.row (zL aV bG bb ba) 4;fun nx u1=>zH [.g,.g,.g,.g,.g,.l (iV ba),.g,.l (iV aB),.b true,.g,.g,.g] (kd (an3 ((zC _ _ _).rw.ld zU (k:=3) rfl:lz s3 3 ⟨(Z.y+2),3,none⟩ (iV ba)) ((zC _ _ _).row.rw.ld zU (k:=0) rfl:lz s3 3 ⟨(Z.y+1),0,none⟩ (iV aB)) (xK u1) nx))
theorem yWU:let y0:=wkc ak af ac ad ae aa ab am au aj;let y1:=(aB*1440)+aP;let y2:=zG aB aP ax ay aD;∀ (nx:Q (.bool true) (((Z.row y0 6).row y2 5).row (zL aV bG bb ba) 4)) (u1:¬ ba=aB:=by omega) (u2:I6 (aB*1440):=by omega) (u3:I6 y1:=by omega) (u4:I6 (y1-aV):=by omega) (u5:am<=(y1-aV):=by omega),qg 95 [qf y0,iV x1,qf y2,qf (zL aV bG bb ba)] Z Q :=
 let s1:=Z.row (wkc ak af ac ad ae aa ab am au aj) 6;let s2:=s1.row (zG aB aP ax ay aD) 5;let s3:=s2.row (zL aV bG bb ba) 4;let s4:=aB*1440;let s5:=Z.y+1;fun nx u1 u2 u3 u4 u5=>zH [.g,.g,.g,.g,.g,.l (iV ba),.g,.l (iV aB),.b false,.g,.g,.l (iV aB),.n s4,.g,.l (iV aP),.n (s4+aP),.g,.l (iV aV),.n ((s4+aP)-aV),.g,.l (iV am),.b true,.g,.g] (kd (an5 ((zC _ _ _).rw.ld zU (k:=3) rfl:lz s3 3 ⟨(Z.y+2),3,none⟩ (iV ba)) ((zC _ _ _).row.rw.ld zU (k:=0) rfl:lz s3 3 (qe s5 0) (iV aB)) (xI u1) ((zC _ _ _).row.rw.ld zU (k:=0) rfl:lz s3 3 (qe s5 0) (iV aB)) (w64 u2) (an6 ((zC _ _ _).row.rw.ld zU (k:=1) rfl:lz s3 3 (qe s5 1) (iV aP)) (w64 u3) ((zC _ _ _).rw.ld zU (k:=0) rfl:lz s3 3 ⟨(Z.y+2),0,none⟩ (iV aV)) (w64 u4) ((zC _ _ _).row.row.rw.ld zU (k:=3) rfl:lz s3 3 (qe Z.y 3) (iV am)) (yE u5) nx)))
theorem yWT:let y0:=wkc ak af ac ad ae aa ab am au aj;let y1:=(aB*1440)+aP;let y2:=zG aB aP ax ay aD;∀ (nx:Q (.bool false) (((Z.row y0 6).row y2 5).row (zL aV bG bb ba) 4)) (u1:¬ ba=aB:=by omega) (u2:I6 (aB*1440):=by omega) (u3:I6 y1:=by omega) (u4:I6 (y1-aV):=by omega) (u5:¬ am<=(y1-aV):=by omega),qg 95 [qf y0,iV x1,qf y2,qf (zL aV bG bb ba)] Z Q :=
 let s1:=Z.row (wkc ak af ac ad ae aa ab am au aj) 6;let s2:=s1.row (zG aB aP ax ay aD) 5;let s3:=s2.row (zL aV bG bb ba) 4;let s4:=aB*1440;let s5:=Z.y+1;fun nx u1 u2 u3 u4 u5=>zH [.g,.g,.g,.g,.g,.l (iV ba),.g,.l (iV aB),.b false,.g,.g,.l (iV aB),.n s4,.g,.l (iV aP),.n (s4+aP),.g,.l (iV aV),.n ((s4+aP)-aV),.g,.l (iV am),.b false,.g,.g] (kd (an5 ((zC _ _ _).rw.ld zU (k:=3) rfl:lz s3 3 ⟨(Z.y+2),3,none⟩ (iV ba)) ((zC _ _ _).row.rw.ld zU (k:=0) rfl:lz s3 3 (qe s5 0) (iV aB)) (xI u1) ((zC _ _ _).row.rw.ld zU (k:=0) rfl:lz s3 3 (qe s5 0) (iV aB)) (w64 u2) (an6 ((zC _ _ _).row.rw.ld zU (k:=1) rfl:lz s3 3 (qe s5 1) (iV aP)) (w64 u3) ((zC _ _ _).rw.ld zU (k:=0) rfl:lz s3 3 ⟨(Z.y+2),0,none⟩ (iV aV)) (w64 u4) ((zC _ _ _).row.row.rw.ld zU (k:=3) rfl:lz s3 3 (qe Z.y 3) (iV am)) (yH u5) nx)))
theorem xGF:let y0:=wkc ak af ac ad ae aa ab am au aj;let y1:=zG aB aP ax ay aD;∀ (nx:Q (.bool true) (((Z.row y0 6).row y1 5).row (zL aV bG bb ba) 4)) (u1:ba=aB:=by omega),qg 96 [qf y0,iV x1,qf y1,qf (zL aV bG bb ba)] Z Q :=
 let s1:=Z.row (wkc ak af ac ad ae aa ab am au aj) 6;let s2:=s1.row (zG aB aP ax ay aD) 5;let s3:=s2.row (zL aV bG bb ba) 4;fun nx u1=>zH [.g,.g,.g,.g,.g,.l (iV ba),.g,.l (iV aB),.b true,.g,.g,.g] (kd (an5 ((zC _ _ _).rw.ld zU (k:=3) rfl:lz s3 3 ⟨(Z.y+2),3,none⟩ (iV ba)) ((zC _ _ _).row.rw.ld zU (k:=0) rfl:lz s3 3 ⟨(Z.y+1),0,none⟩ (iV aB)) (xK u1) ((zE (zP (nlt Z.y 2 3 rfl)) zI):zF s3.y [pt ((Z.y+2)) 3]) ((zE (zP (nlt Z.y 1 3 rfl)) zI):zF s3.y [pt ((Z.y+1)) 0]) nx))
theorem xGE:let s1:=Z.row (wkc ak af ac ad ae aa ab am au aj) 6;let s2:=s1.row (zG aB aP ax ay aD) 5;let s3:=s2.row (zL aV bG bb ba) 4;∀ (h1:qm 77 [qf (zL aV bG bb ba),qf (zG aB aP ax ay aD),iV aP] s3 (qf (zL n1 n2 n3 n4)) s3) (nx:Q (.bool true) s3) (u1:¬ ba=aB:=by omega) (u2:n2<=au:=by omega),qg 96 [qf (wkc ak af ac ad ae aa ab am au aj),iV x1,qf (zG aB aP ax ay aD),qf (zL aV bG bb ba)] Z Q:=
 let s1:=Z.row (wkc ak af ac ad ae aa ab am au aj) 6;let s2:=s1.row (zG aB aP ax ay aD) 5;let s3:=s2.row (zL aV bG bb ba) 4;let s4:=Z.y+1;let s5:=Z.y+2;fun h1 nx u1 u2=>zH [.g,.g,.g,.g,.g,.l (iV ba),.g,.l (iV aB),.b false,.g,.l (qf (zL aV bG bb ba)),.l (qf (zG aB aP ax ay aD)),.g,.l (iV aP),.c (qf (zL n1 n2 n3 n4)) s3,.g,.g,.l (iV au),.b true,.g,.g] (kd (an6 ((zC _ _ _).rw.ld zU (k:=3) rfl:lz s3 3 (qe s5 3) (iV ba)) ((zC _ _ _).row.rw.ld zU (k:=0) rfl:lz s3 3 (qe s4 0) (iV aB)) (xI u1) ((zC _ _ _).rw.ldN vP xG (k:=0) rfl rfl (nle rfl):lz s3 107 (qe s5 0) (qf (zL aV bG bb ba))) ((zC _ _ _).row.rw.ldN zNU uD (k:=0) rfl rfl (nle rfl):lz s3 85 (qe s4 0) (qf (zG aB aP ax ay aD))) ((zC _ _ _).row.rw.ld zU (k:=1) rfl:lz s3 3 (qe s4 1) (iV aP)) (an6 h1 ((zC _ _ _).row.row.rw.ld zU (k:=4) rfl:lz s3 3 (qe Z.y 4) (iV au)) (yE u2) ((zE (zP (nlt Z.y 2 3 rfl)) zI):zF s3.y [pt s5 3]) ((zE (zP (nlt Z.y 1 3 rfl)) zI):zF s3.y [pt s4 0]) ((zE (zP (nlt Z.y 2 3 rfl)) zI):zF s3.y [pt s5 0]) (an6 ((zE (zP (nlt Z.y 1 3 rfl)) zI):zF s3.y [pt s4 0]) ((zE (zP (nlt Z.y 1 3 rfl)) zI):zF s3.y [pt s4 1]) ((zE (yM rfl) (zE (yM rfl) (zE (yM rfl) zI))):zF s3.y [qf (zL aV bG bb ba),qf (zG aB aP ax ay aD),iV aP]) ((zE (zP (nlt Z.y 0 3 rfl)) zI):zF s3.y [pt Z.y 4]) (⟨⟨(nlt Z.y 0 3 rfl),rfl⟩,((zC _ _ _).row.row.rw.ld zU (k:=4) rfl)⟩:(zLq s3 3 (qe Z.y 4) (iV au))) (⟨⟨(nlt Z.y 0 3 rfl),rfl⟩,((zC _ _ _).row.row.rw.ld zU (k:=4) rfl)⟩:(zLq s3 3 (qe Z.y 4) (iV au))) nx))))
theorem xGD:let s1:=Z.row (wkc ak af ac ad ae aa ab am au aj) 6;let s2:=s1.row (zG aB aP ax ay aD) 5;let s3:=s2.row (zL aV bG bb ba) 4;∀ (h1:qm 77 [qf (zL aV bG bb ba),qf (zG aB aP ax ay aD),iV aP] s3 (qf (zL n1 n2 n3 n4)) s3) (nx:Q (.bool false) s3) (u1:¬ ba=aB:=by omega) (u2:¬ n2<=au:=by omega),qg 96 [qf (wkc ak af ac ad ae aa ab am au aj),iV x1,qf (zG aB aP ax ay aD),qf (zL aV bG bb ba)] Z Q:=
 let s1:=Z.row (wkc ak af ac ad ae aa ab am au aj) 6;let s2:=s1.row (zG aB aP ax ay aD) 5;let s3:=s2.row (zL aV bG bb ba) 4;let s4:=Z.y+1;let s5:=Z.y+2;fun h1 nx u1 u2=>zH [.g,.g,.g,.g,.g,.l (iV ba),.g,.l (iV aB),.b false,.g,.l (qf (zL aV bG bb ba)),.l (qf (zG aB aP ax ay aD)),.g,.l (iV aP),.c (qf (zL n1 n2 n3 n4)) s3,.g,.g,.l (iV au),.b false,.g,.g] (kd (an6 ((zC _ _ _).rw.ld zU (k:=3) rfl:lz s3 3 (qe s5 3) (iV ba)) ((zC _ _ _).row.rw.ld zU (k:=0) rfl:lz s3 3 (qe s4 0) (iV aB)) (xI u1) ((zC _ _ _).rw.ldN vP xG (k:=0) rfl rfl (nle rfl):lz s3 107 (qe s5 0) (qf (zL aV bG bb ba))) ((zC _ _ _).row.rw.ldN zNU uD (k:=0) rfl rfl (nle rfl):lz s3 85 (qe s4 0) (qf (zG aB aP ax ay aD))) ((zC _ _ _).row.rw.ld zU (k:=1) rfl:lz s3 3 (qe s4 1) (iV aP)) (an6 h1 ((zC _ _ _).row.row.rw.ld zU (k:=4) rfl:lz s3 3 (qe Z.y 4) (iV au)) (yH u2) ((zE (zP (nlt Z.y 2 3 rfl)) zI):zF s3.y [pt s5 3]) ((zE (zP (nlt Z.y 1 3 rfl)) zI):zF s3.y [pt s4 0]) ((zE (zP (nlt Z.y 2 3 rfl)) zI):zF s3.y [pt s5 0]) (an6 ((zE (zP (nlt Z.y 1 3 rfl)) zI):zF s3.y [pt s4 0]) ((zE (zP (nlt Z.y 1 3 rfl)) zI):zF s3.y [pt s4 1]) ((zE (yM rfl) (zE (yM rfl) (zE (yM rfl) zI))):zF s3.y [qf (zL aV bG bb ba),qf (zG aB aP ax ay aD),iV aP]) ((zE (zP (nlt Z.y 0 3 rfl)) zI):zF s3.y [pt Z.y 4]) (⟨⟨(nlt Z.y 0 3 rfl),rfl⟩,((zC _ _ _).row.row.rw.ld zU (k:=4) rfl)⟩:(zLq s3 3 (qe Z.y 4) (iV au))) (⟨⟨(nlt Z.y 0 3 rfl),rfl⟩,((zC _ _ _).row.row.rw.ld zU (k:=4) rfl)⟩:(zLq s3 3 (qe Z.y 4) (iV au))) nx))))
theorem xLU:let y0:=zL aV bG (bb+(eC-aP)) ba;let y1:=zG aB aP ax ay aD;∀ (nx:Q (qf y0) (((((Z.row (zL aV bG bb ba) 4).row y1 5).row (zL 0 0 0 0) 4).own Z.y y0 4).own (Z.y+2) y0 4)) (u1:I6 (eC-aP):=by omega) (u2:I6 (bb+(eC-aP)):=by omega) (u3:ba=aB:=by omega),qg 77 [qf (zL aV bG bb ba),qf y1,iV eC] Z Q :=
 let s1:=Z.row (zL aV bG bb ba) 4;let s2:=s1.row (zG aB aP ax ay aD) 5;let s3:=s2.row (zL 0 0 0 0) 4;let s6:=bb+(eC-aP);let s4:=s3.own Z.y (zL aV bG s6 ba) 4;let s5:=s4.own (Z.y+2) (zL aV bG s6 ba) 4;fun nx u1 u2 u3=>zH [.g,.g,.g,.g,.l (iV bb),.g,.g,.l (iV aP),.n (eC-aP),.n s6,.g,.e undef s4,.g,.l (iV ba),.g,.l (iV aB),.b true,.l (qf (zL aV bG s6 ba)),.e undef s5,.l (qf (zL aV bG s6 ba))] (kd (an5 ((zC _ _ _).row.row.rw.ld zU (k:=2) rfl:lz s3 3 (qe Z.y 2) (iV bb)) ((zC _ _ _).row.rw.ld zU (k:=1) rfl:lz s3 3 ⟨(Z.y+1),1,none⟩ (iV aP)) (w64 u1) (w64 u2) ((zC _ _ _).row.row.store (vs:=[iV s6]) rfl vE rfl (nle rfl) rfl:qo (evL [pt Z.y 2,iV s6]) s3 (.store 3 (.tmp 0) (.tmp 1))=some (undef,s4)) (an6 ((zC _ _ _).row.row.put.rw.ld zU (k:=3) rfl:lz s4 3 (qe Z.y 3) (iV ba)) (((zC _ _ _).row.own (nne Z.y 1 0 rfl)).rw.ld zU (k:=0) rfl:lz s4 3 ⟨(Z.y+1),0,none⟩ (iV aB)) (xK u3) ((zC _ _ _).row.row.put.rw.ldN vP xG (k:=0) rfl rfl (nle rfl):lz s4 107 (qe Z.y 0) (qf (zL aV bG s6 ba))) (((zC _ _ _).own (nne Z.y 2 0 rfl)).store (vs:=(zL aV bG s6 ba)) rfl xG rfl (nle rfl) rfl:qo (evL [pt ((Z.y+2)) 0,qf (zL aV bG s6 ba)]) s4 (.store 107 (.tmp 0) (.tmp 1))=some (undef,s5)) (((zC _ _ _).own (nne Z.y 2 0 rfl)).put.rw.ldN vP xG (k:=0) rfl rfl (nle rfl):lz s5 107 ⟨(Z.y+2),0,none⟩ (qf (zL aV bG s6 ba))) nx)))
theorem xLT:let y1:=bb+(eC-aP);let y0:=zL ((aB*1440)+eC) 1 y1 aB;let y2:=zG aB aP ax ay aD;∀ (nx:Q (qf y0) (((((((((Z.row (zL aV bG bb ba) 4).row y2 5).row (zL 0 0 0 0) 4).own Z.y (zL aV bG y1 ba) 4).own Z.y (zL aV 0 y1 ba) 4).own Z.y (zL aV 1 y1 ba) 4).own Z.y (zL aV 1 y1 aB) 4).own Z.y y0 4).own (Z.y+2) y0 4)) (u1:I6 (eC-aP):=by omega) (u2:I6 y1:=by omega) (u3:¬ ba=aB:=by omega) (u4:I6 (aB-1):=by omega) (u5:¬ ba=(aB-1):=by omega) (u6:I6 (aB*1440):=by omega) (u7:I6 ((aB*1440)+eC):=by omega),qg 77 [qf (zL aV bG bb ba),qf y2,iV eC] Z Q :=
 let s1:=Z.row (zL aV bG bb ba) 4;let s2:=s1.row (zG aB aP ax ay aD) 5;let s3:=s2.row (zL 0 0 0 0) 4;let s10:=bb+(eC-aP);let s4:=s3.own Z.y (zL aV bG s10 ba) 4;let s5:=s4.own Z.y (zL aV 0 s10 ba) 4;let s6:=s5.own Z.y (zL aV 1 s10 ba) 4;let s7:=s6.own Z.y (zL aV 1 s10 aB) 4;let s11:=(aB*1440)+eC;let s8:=s7.own Z.y (zL s11 1 s10 aB) 4;let s9:=s8.own (Z.y+2) (zL s11 1 s10 aB) 4;let s12:=Z.y+1;fun nx u1 u2 u3 u4 u5 u6 u7=>zH [.g,.g,.g,.g,.l (iV bb),.g,.g,.l (iV aP),.n (eC-aP),.n s10,.g,.e undef s4,.g,.l (iV ba),.g,.l (iV aB),.b false,.g,.l (iV ba),.g,.l (iV aB),.n (aB-1),.b true,.g,.e undef s5,.g,.l (iV 0),.g,.g,.e undef s6,.g,.l (iV aB),.g,.e undef s7,.g,.l (iV aB),.n (aB*1440),.g,.n s11,.g,.e undef s8,.l (qf (zL s11 1 s10 aB)),.e undef s9,.l (qf (zL s11 1 s10 aB))] (kd (an6 ((zC _ _ _).row.row.rw.ld zU (k:=2) rfl:lz s3 3 (qe Z.y 2) (iV bb)) ((zC _ _ _).row.rw.ld zU (k:=1) rfl:lz s3 3 (qe s12 1) (iV aP)) (w64 u1) (w64 u2) ((zC _ _ _).row.row.store (vs:=[iV s10]) rfl vE rfl (nle rfl) rfl:qo (evL [pt Z.y 2,iV s10]) s3 (.store 3 (.tmp 0) (.tmp 1))=some (undef,s4)) ((zC _ _ _).row.row.put.rw.ld zU (k:=3) rfl:lz s4 3 (qe Z.y 3) (iV ba)) (an6 (((zC _ _ _).row.own (nne Z.y 1 0 rfl)).rw.ld zU (k:=0) rfl:lz s4 3 (qe s12 0) (iV aB)) (xI u3) ((zC _ _ _).row.row.put.rw.ld zU (k:=3) rfl:lz s4 3 (qe Z.y 3) (iV ba)) (((zC _ _ _).row.own (nne Z.y 1 0 rfl)).rw.ld zU (k:=0) rfl:lz s4 3 (qe s12 0) (iV aB)) (w64 u4) (zCC u5) (an6 ((zC _ _ _).row.row.put.store (vs:=[iV 0]) rfl vE rfl (nle rfl) rfl:qo (evL [pt Z.y 1,iV 0]) s4 (.store 3 (.tmp 0) (.tmp 1))=some (undef,s5)) ((zC _ _ _).row.row.put.put.rw.ld zU (k:=1) rfl:lz s5 3 (qe Z.y 1) (iV 0)) ((zC _ _ _).row.row.put.put.store (vs:=[iV 1]) rfl vE rfl (nle rfl) rfl:qo (evL [pt Z.y 1,iV 1]) s5 (.store 3 (.tmp 0) (.tmp 1))=some (undef,s6)) (((((zC _ _ _).row.own (nne Z.y 1 0 rfl)).own (nne Z.y 1 0 rfl)).own (nne Z.y 1 0 rfl)).rw.ld zU (k:=0) rfl:lz s6 3 (qe s12 0) (iV aB)) ((zC _ _ _).row.row.put.put.put.store (vs:=[iV aB]) rfl vE rfl (nle rfl) rfl:qo (evL [pt Z.y 3,iV aB]) s6 (.store 3 (.tmp 0) (.tmp 1))=some (undef,s7)) ((((((zC _ _ _).row.own (nne Z.y 1 0 rfl)).own (nne Z.y 1 0 rfl)).own (nne Z.y 1 0 rfl)).own (nne Z.y 1 0 rfl)).rw.ld zU (k:=0) rfl:lz s7 3 (qe s12 0) (iV aB)) (an6 (w64 u6) (w64 u7) ((zC _ _ _).row.row.put.put.put.put.store (vs:=[iV s11]) rfl vE rfl (nle rfl) rfl:qo (evL [pt Z.y 0,iV s11]) s7 (.store 3 (.tmp 0) (.tmp 1))=some (undef,s8)) ((zC _ _ _).row.row.put.put.put.put.put.rw.ldN vP xG (k:=0) rfl rfl (nle rfl):lz s8 107 (qe Z.y 0) (qf (zL s11 1 s10 aB))) (((((((zC _ _ _).own (nne Z.y 2 0 rfl)).own (nne Z.y 2 0 rfl)).own (nne Z.y 2 0 rfl)).own (nne Z.y 2 0 rfl)).own (nne Z.y 2 0 rfl)).store (vs:=(zL s11 1 s10 aB)) rfl xG rfl (nle rfl) rfl:qo (evL [pt ((Z.y+2)) 0,qf (zL s11 1 s10 aB)]) s8 (.store 107 (.tmp 0) (.tmp 1))=some (undef,s9)) (((((((zC _ _ _).own (nne Z.y 2 0 rfl)).own (nne Z.y 2 0 rfl)).own (nne Z.y 2 0 rfl)).own (nne Z.y 2 0 rfl)).own (nne Z.y 2 0 rfl)).put.rw.ldN vP xG (k:=0) rfl rfl (nle rfl):lz s9 107 ⟨(Z.y+2),0,none⟩ (qf (zL s11 1 s10 aB))) nx)))))
theorem xLS:let y1:=bb+(eC-aP);let y0:=zL ((aB*1440)+eC) (bG+1) y1 aB;let y2:=zG aB aP ax ay aD;∀ (nx:Q (qf y0) ((((((((Z.row (zL aV bG bb ba) 4).row y2 5).row (zL 0 0 0 0) 4).own Z.y (zL aV bG y1 ba) 4).own Z.y (zL aV (bG+1) y1 ba) 4).own Z.y (zL aV (bG+1) y1 aB) 4).own Z.y y0 4).own (Z.y+2) y0 4)) (u1:I6 (eC-aP):=by omega) (u2:I6 y1:=by omega) (u3:¬ ba=aB:=by omega) (u4:I6 (aB-1):=by omega) (u5:ba=(aB-1):=by omega) (u6:I6 (bG+1):=by omega) (u7:I6 (aB*1440):=by omega) (u8:I6 ((aB*1440)+eC):=by omega),qg 77 [qf (zL aV bG bb ba),qf y2,iV eC] Z Q :=
 let s1:=Z.row (zL aV bG bb ba) 4;let s2:=s1.row (zG aB aP ax ay aD) 5;let s3:=s2.row (zL 0 0 0 0) 4;let s9:=bb+(eC-aP);let s4:=s3.own Z.y (zL aV bG s9 ba) 4;let s10:=(aB*1440)+eC;let s11:=bG+1;let s5:=s4.own Z.y (zL aV s11 s9 ba) 4;let s6:=s5.own Z.y (zL aV s11 s9 aB) 4;let s7:=s6.own Z.y (zL s10 s11 s9 aB) 4;let s8:=s7.own (Z.y+2) (zL s10 s11 s9 aB) 4;let s12:=Z.y+1;fun nx u1 u2 u3 u4 u5 u6 u7 u8=>zH [.g,.g,.g,.g,.l (iV bb),.g,.g,.l (iV aP),.n (eC-aP),.n s9,.g,.e undef s4,.g,.l (iV ba),.g,.l (iV aB),.b false,.g,.l (iV ba),.g,.l (iV aB),.n (aB-1),.b false,.g,.l (iV bG),.n s11,.g,.e undef s5,.g,.l (iV aB),.g,.e undef s6,.g,.l (iV aB),.n (aB*1440),.g,.n s10,.g,.e undef s7,.l (qf (zL s10 s11 s9 aB)),.e undef s8,.l (qf (zL s10 s11 s9 aB))] (kd (an6 ((zC _ _ _).row.row.rw.ld zU (k:=2) rfl:lz s3 3 (qe Z.y 2) (iV bb)) ((zC _ _ _).row.rw.ld zU (k:=1) rfl:lz s3 3 (qe s12 1) (iV aP)) (w64 u1) (w64 u2) ((zC _ _ _).row.row.store (vs:=[iV s9]) rfl vE rfl (nle rfl) rfl:qo (evL [pt Z.y 2,iV s9]) s3 (.store 3 (.tmp 0) (.tmp 1))=some (undef,s4)) ((zC _ _ _).row.row.put.rw.ld zU (k:=3) rfl:lz s4 3 (qe Z.y 3) (iV ba)) (an6 (((zC _ _ _).row.own (nne Z.y 1 0 rfl)).rw.ld zU (k:=0) rfl:lz s4 3 (qe s12 0) (iV aB)) (xI u3) ((zC _ _ _).row.row.put.rw.ld zU (k:=3) rfl:lz s4 3 (qe Z.y 3) (iV ba)) (((zC _ _ _).row.own (nne Z.y 1 0 rfl)).rw.ld zU (k:=0) rfl:lz s4 3 (qe s12 0) (iV aB)) (w64 u4) (xR u5) (an6 ((zC _ _ _).row.row.put.rw.ld zU (k:=1) rfl:lz s4 3 (qe Z.y 1) (iV bG)) (w64 u6) ((zC _ _ _).row.row.put.store (vs:=[iV s11]) rfl vE rfl (nle rfl) rfl:qo (evL [pt Z.y 1,iV s11]) s4 (.store 3 (.tmp 0) (.tmp 1))=some (undef,s5)) ((((zC _ _ _).row.own (nne Z.y 1 0 rfl)).own (nne Z.y 1 0 rfl)).rw.ld zU (k:=0) rfl:lz s5 3 (qe s12 0) (iV aB)) ((zC _ _ _).row.row.put.put.store (vs:=[iV aB]) rfl vE rfl (nle rfl) rfl:qo (evL [pt Z.y 3,iV aB]) s5 (.store 3 (.tmp 0) (.tmp 1))=some (undef,s6)) (((((zC _ _ _).row.own (nne Z.y 1 0 rfl)).own (nne Z.y 1 0 rfl)).own (nne Z.y 1 0 rfl)).rw.ld zU (k:=0) rfl:lz s6 3 (qe s12 0) (iV aB)) (an6 (w64 u7) (w64 u8) ((zC _ _ _).row.row.put.put.put.store (vs:=[iV s10]) rfl vE rfl (nle rfl) rfl:qo (evL [pt Z.y 0,iV s10]) s6 (.store 3 (.tmp 0) (.tmp 1))=some (undef,s7)) ((zC _ _ _).row.row.put.put.put.put.rw.ldN vP xG (k:=0) rfl rfl (nle rfl):lz s7 107 (qe Z.y 0) (qf (zL s10 s11 s9 aB))) ((((((zC _ _ _).own (nne Z.y 2 0 rfl)).own (nne Z.y 2 0 rfl)).own (nne Z.y 2 0 rfl)).own (nne Z.y 2 0 rfl)).store (vs:=(zL s10 s11 s9 aB)) rfl xG rfl (nle rfl) rfl:qo (evL [pt ((Z.y+2)) 0,qf (zL s10 s11 s9 aB)]) s7 (.store 107 (.tmp 0) (.tmp 1))=some (undef,s8)) ((((((zC _ _ _).own (nne Z.y 2 0 rfl)).own (nne Z.y 2 0 rfl)).own (nne Z.y 2 0 rfl)).own (nne Z.y 2 0 rfl)).put.rw.ldN vP xG (k:=0) rfl rfl (nle rfl):lz s8 107 ⟨(Z.y+2),0,none⟩ (qf (zL s10 s11 s9 aB))) nx)))))
theorem ySH (hb:∀ k aF Z,Inv k aF Z->zRK vals bP bV aF Z (NX1 Inv k) Qr Q0):∀ k aF Z,Inv k aF Z->ySJ vals bP bV aF Z Qr Q0 :=
 xE (ai uZ (ai (xV 0) trivial)) hb
theorem zTS (h1:lz Z 3 (zJ vals_a (Int.toNat aF*1)) (iV nG)) (nx:Qr nG Z) (u1:aF<(bP:Int):=by omega) (u2:Ix aF bP:=by omega) (u3:¬ nG=0:=by omega):zRK (some vals_a) bP bV aF Z Nx Qr Q0 :=
 kO 1 nG [.b true,.i,.l (iV nG),.g,.g,.g,.b true,.g,.g] (fun _ f=>an4 (zR u1) u2 h1 (zCC u3) f) nx
theorem zTR (h1:lz Z 3 (zJ vals_a (Int.toNat aF*1)) (iV nG)) (nx:Nx (aF+1) Z) (u1:aF<(bP:Int):=by omega) (u2:Ix aF bP:=by omega) (u3:nG=0:=by omega) (u4:I6 (aF+1):=by omega):zRK (some vals_a) bP bV aF Z Nx Qr Q0 :=
 kO 0 (aF+1) [.b true,.i,.l (iV nG),.g,.g,.g,.b false,.n (aF+1),.g] (fun _ f=>an5 (zR u1) u2 h1 (xR u3) (w64 u4) f) nx
theorem xJH (nx:Q0 Z) (u1:¬ aF<(bP:Int):=by omega):zRK vals bP bV aF Z Nx Qr Q0 :=
 kO 2 () [.b false] (fun _ f=>ai (zT u1) f) nx
theorem xSA (hL:ySJ vals bP bV 0 Z Pr P0) (kr:∀ i2_1' Z',Pr i2_1' Z'->yCI vals bP bV i2_1' Z' Q) (k0:∀ Z',P0 Z'->yCJ vals bP bV Z' Q):qg 80 [.slice vals bP bV] Z Q :=
 zH [.g,.g,.g,.g,.g,.lf 18 (zKV vals bP bV 0) [zPA vals bP bV Pr,zPB vals bP bV P0]] (kd (ai (ai tt (ai (arf (zKV vals bP bV 0)) hL)) (ai (kz1 kr) (ai (kz0 k0) trivial))))
theorem ySF (nx:Q (iV aH) Z):yCI vals bP bV aH Z Q :=
 sK [] nx
theorem ySG (nx:Q (iV 0) Z):yCJ vals bP bV Z Q :=
 sK [.g,.g] nx
theorem xXL:let s1:=Z.row (rcd eg dI eH) 3;let s2:=s1.row (rcd fi eG fq) 3;let s3:=dI-eG;let s5:=eg-fi;let s6:=eH-fq;let Y1:=s2.row [iV s3,iV s5,iV s6] 1;∀ (h1:qm 80 [.slice (some ⟨(Z.y+2),0,none⟩) 3 3] Y1 (iV n1) Y1) (nx:Q (iV n1) Y1) (u1:I6 s3:=by omega) (u2:I6 eg:=by omega) (u3:I6 fi:=by omega) (u4:I6 s5:=by omega) (u5:I6 s6:=by omega),qg 79 [qf (rcd eg dI eH),qf (rcd fi eG fq)] Z Q:=
 let s1:=Z.row (rcd eg dI eH) 3;let s2:=s1.row (rcd fi eG fq) 3;let s3:=dI-eG;let s4:=Z.y+1;let s5:=eg-fi;let s6:=eH-fq;fun h1 nx u1 u2 u3 u4 u5=>zH [.g,.g,.g,.g,.l (iV dI),.g,.l (iV eG),.n s3,.g,.l (.int .u8 eg),.n eg,.g,.l (.int .u8 fi),.n fi,.n s5,.g,.l (iV eH),.g,.l (iV fq),.n s6,.g,.c (iV n1) (s2.row [iV s3,iV s5,iV s6] 1),.g] (kd (an6 ((zC _ _ _).row.rw.ld zU (k:=1) rfl:lz s2 3 (qe Z.y 1) (iV dI)) ((zC _ _ _).rw.ld zU (k:=1) rfl:lz s2 3 (qe s4 1) (iV eG)) (w64 u1) ((zC _ _ _).row.rw.ld xYF (k:=0) rfl:lz s2 5 (qe Z.y 0) (.int .u8 eg)) (w64 u2) ((zC _ _ _).rw.ld xYF (k:=0) rfl:lz s2 5 (qe s4 0) (.int .u8 fi)) (an6 (w64 u3) (w64 u4) ((zC _ _ _).row.rw.ld zU (k:=2) rfl:lz s2 3 (qe Z.y 2) (iV eH)) ((zC _ _ _).rw.ld zU (k:=2) rfl:lz s2 3 (qe s4 2) (iV fq)) (w64 u5) h1 nx)))
end
section
variable {p:Option Addr} {l c:Nat} {xs:List Int}
theorem zAQ (xs:List Int):∀ (_:IntKind),wD (xs.map yA)=xs.map yA:=by
 intro _;induction xs with
 | nil=>rfl
 | cons x xs ih=>simp only [wD,List.map_cons,List.flatMap_cons] at ih ⊢;rw [ih];rfl
section
variable {Z:St}
theorem zEB (h:yC Z p l xs) (hl:l<=1073741824) :
  ∃ p' c' Z',zD Pg 19 [.slice p l c] Z (.slice p' l c') Z'/\New Z Z'/\yC Z' p' l xs/\∀ b,AtP p' b->Z.y<=b:=by
 have hc:(wD (xs.map yA)).all cellB=true:=by rw [zAQ xs .i64];simp [List.all_eq_true];intro a _;rfl
 have N1:New Z.re (Z.re.row [] 1):=New.row _ _ _;obtain ⟨p6,c6,s5,ap1,A6,O6,b6⟩:=Ax.append (P:=Pg) (k:=c) (n0:=Z.re.y) zAU (Ax.lit (len:=0) (zC Z.re [] 1) rfl ((xC 0).2 vX) (Nat.le_refl _)) (SlV.le h ((le0 Z).trans N1.le)).1 (by omega) hc N1.nx;rw [Nat.zero_add] at ap1 A6;have N5:New Z.re s5:=N1.of_only O6 (by rintro b ⟨a,e,rfl⟩;cases e;exact Nat.le_refl _);exact zO.newSl (xWF ap1 ⟨N5,p6,c6,rfl,Ax.slv (by simpa using A6) (by simpa using h.2.1) h.2.2,fun b hb=>(A6.bd b hb).1⟩)
theorem wCA (h:yC Z p l xs) (hl:l<=1073741824):zD Pg 27 [.slice p l c] Z (iV ((xs.filter fun x=>decide (0<=x)).length:Nat)) Z:=by
 have h1:=h.re;have e1:=h.len;refine (yWQ (yEI (Inv:=fun k i3 i4 τ=>τ=Z.re/\∃ j:Nat,i4=j/\j+k=l/\i3=(((xs.take j).filter fun x=>decide (0<=x)).length:Nat)/\((xs.take j).filter fun x=>decide (0<=x)).length<=j) (Q0:=fun i3 τ=>τ=Z.re/\i3=((xs.filter fun x=>decide (0<=x)).length:Nat)) ?_ l 0 0 Z.re ⟨rfl,0,rfl,by omega,rfl,Nat.le_refl _⟩) ?_).pure
 ·rintro k i3 i4 τ ⟨rfl,j,rfl,hk,rfl,hle⟩;by_cases hj:j<l
  ·obtain ⟨a,rfl,x,hx,l1⟩:=xZ h1 hj;have es:(xs.take (j+1)).filter (fun x=>decide (0<=x))=(xs.take j).filter (fun x=>decide (0<=x))++if 0<=x then [x] else []:=by
    rw [wF hx,List.filter_append];by_cases e:0<=x <;> simp [e]
   by_cases e:0<=x
   ·rw [if_pos e] at es;exact yOS l1 ⟨k-1,by omega,rfl,j+1,by omega,by omega,by rw [es,List.length_append];simp,by rw [es,List.length_append];show _+1<=_;omega⟩ (by omega) (by omega) e (by omega) (by omega)
   ·rw [if_neg e,List.append_nil] at es;exact yOR l1 ⟨k-1,by omega,rfl,j+1,by omega,by omega,by rw [es],by rw [es];omega⟩ (by omega) (by omega) e (by omega)
  ·rw [List.take_of_length_le (by omega)];exact yOQ ⟨rfl,rfl⟩ (by omega)
 ·rintro i3 τ ⟨rfl,rfl⟩;exact yEH ⟨rfl,Nat.le_refl _⟩
theorem yRS (h:yC Z p l xs) (hl:l<=1073741824):zD Pg 63 [.slice p l c] Z (iV ((xs.filter fun x=>decide (x≠-1)).length:Nat)) Z:=by
 have h1:=h.re;have e1:=h.len;refine (xIY (yLW (Inv:=fun k i3 i4 τ=>τ=Z.re/\∃ j:Nat,i4=j/\j+k=l/\i3=(((xs.take j).filter fun x=>decide (x≠-1)).length:Nat)/\((xs.take j).filter fun x=>decide (x≠-1)).length<=j) (Q0:=fun i3 τ=>τ=Z.re/\i3=((xs.filter fun x=>decide (x≠-1)).length:Nat)) ?_ l 0 0 Z.re ⟨rfl,0,rfl,by omega,rfl,Nat.le_refl _⟩) ?_).pure
 ·rintro k i3 i4 τ ⟨rfl,j,rfl,hk,rfl,hle⟩;by_cases hj:j<l
  ·obtain ⟨a,rfl,x,hx,l1⟩:=xZ h1 hj;have es:(xs.take (j+1)).filter (fun x=>decide (x≠-1))=(xs.take j).filter (fun x=>decide (x≠-1))++if x≠-1 then [x] else []:=by
    rw [wF hx,List.filter_append];by_cases e:x≠-1 <;> simp [e]
   by_cases e:x≠-1
   ·rw [if_pos e] at es;exact yZQ l1 ⟨k-1,by omega,rfl,j+1,by omega,by omega,by rw [es,List.length_append];simp,by rw [es,List.length_append];show _+1<=_;omega⟩ (by omega) (by omega) e (by omega) (by omega)
   ·rw [if_neg e,List.append_nil] at es;exact yZP l1 ⟨k-1,by omega,rfl,j+1,by omega,by omega,by rw [es],by rw [es];omega⟩ (by omega) (by omega) (Decidable.not_not.1 e) (by omega)
  ·rw [List.take_of_length_le (by omega)];exact yZO ⟨rfl,rfl⟩ (by omega)
 ·rintro i3 τ ⟨rfl,rfl⟩;exact yLV ⟨rfl,Nat.le_refl _⟩
section
variable {w:Wk} {p q r t:Option Addr} {l m c d rl rc tl tc:Nat} {rs ts:List Int}
theorem zTM (h:WkP Z 85 88 w p l q m) (hl:l<=1000):∃ p' c' Z',zD Pg 86 [.agg ⟨wkc w.M p l c q m d w.rest w.run w.j⟩] Z (.slice p' l c') Z'/\New Z Z'/\yC Z' p' l (wT w)/\∀ b,AtP p' b->Z.y<=b:=by
 have hn:=h.len.1;obtain ⟨Z1,hZ1⟩:∃ Z1,Z1=Z.re.row (wkc w.M p l c q m d w.rest w.run w.j) 6:=⟨_,rfl⟩;have N1:New Z.re Z1:=by rw [hZ1];exact New.row _ _ _
 have L1:Le Z Z1:=(le0 Z).trans N1.le;refine zO.newSl (xWT (yZH (Inv:=fun k p' l' c' i τ=>New Z1 τ/\∃ j:Nat,i=j/\j+k=l/\l'=j/\Gr Pg τ Z1.y 3 1 p' l' c' (((wT w).take j).map yA))
  (Q0:=fun p' l' c' τ=>New Z1 τ/\l'=l/\Gr Pg τ Z1.y 3 1 p' l' c' ((wT w).map yA)) ?_ l none 0 0 0 _ ⟨by rw [<- hZ1];exact New.refl _,0,rfl,by omega,rfl,Gr.nil⟩) ?_)
 ·rintro k p' l' c' i τ ⟨hN,j,rfl,hk,rfl,hg⟩;by_cases hj:l' < l
  ·obtain ⟨a,rfl,x,hx,lx⟩:=xZ (SlV.le h.dty (L1.trans hN.le)) hj;have hN2:New τ ((τ.row (zG 0 0 0 0 0) 5).own τ.y (zG x.day x.on x.lo x.hi x.route) 5):=(New.row _ _ _).own (Nat.le_refl _);obtain ⟨q7,d7,τ',g1,g2,g3,_,_⟩:=wCQ (yA x.hi) zAU hg hN hN2 (vY _) (by omega);have hx2:(wT w)[l']?=some x.hi:=by unfold wT;rw [List.getElem?_map,hx];rfl
   refine xRQ lx g1 ⟨k-1,by omega,g3,l'+1,by omega,by omega,rfl, ?_⟩ (by omega) (by omega) (by omega);rw [wF hx2,List.map_append];exact g2
  ·have:l'=l:=by omega
   subst this;refine xRP ⟨hN,rfl, ?_⟩ (by omega);rwa [List.take_of_length_le (by unfold wT;rw [List.length_map];omega)] at hg
 ·rintro p' l' c' τ ⟨hN,rfl,hg⟩;refine yZG ⟨N1.trans hN,p',c',rfl,hg.slv,fun b hb=>?_⟩;have:=(hg.bd hb).1;have:=N1.nx;show Z.re.y<=b;omega
theorem yEW (h:WkP Z 85 88 w p l q m) (hr:yC Z r rl rs) (hl:rl<=1073741824) (hm:m<=1073741824):zD Pg 52 [.agg ⟨wkc w.M p l c q m d w.rest w.run w.j⟩,.slice r rl rc] Z (.bool (zBA w rs)) Z:=by
 have hn:=h.len.1;have hmm:=h.len.2;have el:=hr.len;by_cases hh:rl=l;rotate_left
 ·have:zBA w rs=false:=by unfold zBA;rw [decide_eq_false (by omega),Bool.and_false]
  rw [this];exact (yUD ⟨rfl,Nat.le_refl _⟩ (by omega)).pure
 have L1:Le Z (Z.re.row (wkc w.M p l c q m d w.rest w.run w.j) 6):=(le0 Z).trans (Le.row _ _ _);have hk0:=xH Z.re (wkc w.M p l c q m d w.rest w.run w.j) 6;have ca:=wBN (cap:=rc) (g:=73) (gc:=[.pointer (some ⟨Z.re.y,0,none⟩)]) (f:=fun x=>inB x (-1) ((w.L.length:Int)-1)) (SlV.le hr L1) hl (fun x _ τ hτ=>by
  have ld:zB Pg τ.re 32 (zJ ⟨Z.re.y,0,none⟩ 2)=some (.slice q m d):=((hk0.le hτ).re).load1 zAC rfl;rw [hmm];exact (yVG ld zFS ⟨rfl,Nat.le_refl _⟩ (by omega)).pure)
 have:zBA w rs=rs.all (fun x=>inB x (-1) ((w.L.length:Int)-1)):=by unfold zBA;rw [decide_eq_true (by omega),Bool.and_true]
 rw [this];exact (yUE ca ⟨rfl,Nat.le_refl _⟩ (by omega)).pure
end
end
end
section
open Go.Sort (swp)
def zBB (d:Array Rec):List Value:=d.toList.flatMap zBE
theorem zSF:∀ l:List Rec,(l.flatMap zBE).length=l.length*3
 | []=>rfl
 | x::l=>by rw [List.flatMap_cons,List.length_append,zSF l];simp;omega
theorem yCK (d:Array Rec):(zBB d).length=d.size*3:=by unfold zBB;rw [zSF];simp
def Dt (Z:St) (b:Nat) (s:Option Nat) (d:Array Rec):Prop:=b<Z.y/\∃ log nx,yJ Z.heap b=some (.cells (zBB d) 3 ((s.getD 0,d.size*3)::log) nx false)
section
variable {Z τ:St} {b:Nat} {s:Option Nat} {d d0:Array Rec}
theorem Dt.le (h:Dt Z b s d) (k:Le Z τ):Dt τ b s d:=by
 obtain ⟨h1,log,nx,h2⟩:=h;exact ⟨Nat.lt_of_lt_of_le h1 k.y,log,nx,by rw [k.get b h1];exact h2⟩
theorem Dt.only {S:Nat->Prop} (h:Dt Z b s d) (k:Only S Z τ) (hs:¬ S b):Dt τ b s d:=by
 obtain ⟨h1,log,nx,h2⟩:=h;exact ⟨Nat.lt_of_lt_of_le h1 k.y,log,nx,by rw [k.get b h1 hs];exact h2⟩
theorem yFK:∀ (l:List Rec) (i:Nat) (x:Rec),l[i]?=some x->((l.flatMap zBE).drop (i*3)).take 3=zBE x
 | [],i,x,h=>by simp at h
 | y::l,0,x,h=>by
  cases h
  rw [List.flatMap_cons,Nat.zero_mul,List.drop_zero];exact List.take_left' rfl
 | y::l,i+1,x,h=>by
  rw [List.flatMap_cons,Nat.add_mul,Nat.one_mul,Nat.add_comm (i*3),<- List.drop_drop,show List.drop 3 (zBE y++l.flatMap zBE)=l.flatMap zBE from rfl];exact yFK l i x (by simpa using h)
theorem yOM:∀ (l:List Rec) (i:Nat) (x:Rec),i<l.length->(l.flatMap zBE).take (i*3)++(zBE x++(l.flatMap zBE).drop (i*3+3))=(l.set i x).flatMap zBE
 | [],i,x,h=>by simp at h
 | y::l,0,x,h=>by
  rw [List.set_cons_zero,List.flatMap_cons,List.flatMap_cons,Nat.zero_mul,List.take_zero,List.nil_append,Nat.zero_add,show List.drop 3 (zBE y++l.flatMap zBE)=l.flatMap zBE from rfl]
 | y::l,i+1,x,h=>by
  rw [List.set_cons_succ,List.flatMap_cons,List.flatMap_cons,<- yOM l i x (by simpa using h),show (i+1)*3=3+i*3 by omega,List.take_append,List.drop_append,show 3+i*3+3-(zBE y).length=i*3+3 by simp;omega,show 3+i*3-(zBE y).length=i*3 by simp];rw [List.take_of_length_le (by simp),List.drop_of_length_le (by simp),List.nil_append,List.append_assoc]
theorem xWO {i:Nat} (h:i<d.size):d.toList[i]?=some d[i]! := by
 rw [Array.getElem?_toList,getElem!_pos d i h,Array.getElem?_eq_getElem h]
theorem Dt.ld (h:Dt Z b s d) {i:Int} (h0:0<=i) (hi:i<(d.size:Int)):zB Tryz.prog Z 45 (zJ ⟨b,0,s⟩ (Int.toNat i*3))=some (zEN d[i.toNat]!):=by
 obtain ⟨h1,log,nx,h2⟩:=h;have hlt:i.toNat<d.size:=by omega
 have hr:yU Z ⟨b,0+i.toNat*3,s⟩ 3=some (zBE d[i.toNat]!):=by
  have hle:Nat.ble (0+i.toNat*3+3) (d.size*3)=true:=(zX _ _).2 (by omega);unfold yU;simp only [h2,yB,wX,Nat.beq_refl,cond_true,hle];rw [Nat.zero_add];unfold zBB;rw [yFK _ _ _ (xWO hlt)]
 have hR:Row Z ⟨b,0+i.toNat*3,s⟩ (zBE d[i.toNat]!):=⟨hr,h1⟩;exact hR.loadN (P:=Tryz.prog) (t:=45) (k:=0) xTC yJP rfl rfl (by simp)
theorem Dt.st (h:Dt Z b s d) {i:Int} (x:Rec) (h0:0<=i) (hi:i<(d.size:Int)) :
  ∃ Z',zQ Tryz.prog (evL [.pointer (some (zJ ⟨b,0,s⟩ (Int.toNat i*3))),zEN x]) Z (.store 45 (.tmp 0) (.tmp 1))=some (undef,Z')/\Dt Z' b s (d.setIfInBounds i.toNat x)/\Only (·=b) Z Z'/\Z'.low<=b:=by
 obtain ⟨h1,log,nx,h2⟩:=h;have hlt:i.toNat<d.size:=by omega
 have hw:wK Z ⟨b,0+i.toNat*3,s⟩ (zBE x)=some (Z.put b (.cells (zBB (d.setIfInBounds i.toNat x)) 3 [(s.getD 0,d.size*3)] nx false)):=by
  have e6:(zBE x).length=3:=rfl;have hc:(Nat.beq (s.getD 0) (s.getD 0) && Nat.ble (0+i.toNat*3+3) (d.size*3) && !false && (zBE x).all cellB)=true:=by
   rw [Nat.beq_refl,(zX _ _).2 (show 0+i.toNat*3+3<=d.size*3 by omega)];rfl
  unfold wK;simp only [h2,yB,e6,hc,cond_true,zCS,St.write_eq];have e:(zBB d).take (0+i.toNat*3)++(zBE x++(zBB d).drop (0+i.toNat*3+3))=zBB (d.setIfInBounds i.toNat x):=by
   rw [Nat.zero_add];unfold zBB;rw [Array.toList_setIfInBounds];exact yOM d.toList i.toNat x (by simpa using hlt)
  rw [e]
 refine ⟨Z.put b (.cells (zBB (d.setIfInBounds i.toNat x)) 3 [(s.getD 0,d.size*3)] nx false), ?_,⟨h1,[],nx, ?_⟩,Only.put (.inr rfl),by simp;omega⟩
 ·have e0:zQ Tryz.prog (evL [.pointer (some (zJ ⟨b,0,s⟩ (Int.toNat i*3))),zEN x]) Z (.store 45 (.tmp 0) (.tmp 1))=(wK Z ⟨b,0+i.toNat*3,s⟩ (zBE x)).map fun Z'=>(undef,Z'):=by
   have e1:∀ l:List Value,evL l (.tmp 0)=l.getD 0 undef:=fun _=>rfl
   have e2:∀ l:List Value,evL l (.tmp 1)=l.getD 1 undef:=fun _=>rfl
   have e3:yS Tryz.prog 45=some 3:=yJP;unfold zQ;simp only [e1,e2,List.getD_cons_zero,List.getD_cons_succ,zCP,e3];rfl
  rw [e0,hw];rfl
 ·rw [St.put_get,if_pos rfl,Array.size_setIfInBounds]
end
end
end Go.Proofs.YtgfiniccfpfplaaGreat
