import Derived.Test.YtgfiniccfpfplaaGreatXA
import Derived.Test.YtgfiniccfpfplaaGreatPF
import Derived.Test.YtgfiniccfpfplaaGreatTy
import Derived.Sort.AssemblyPlain
set_option linter.unusedVariables false
set_option linter.unusedSimpArgs false
set_option maxRecDepth 20000
namespace Go.Proofs.YtgfiniccfpfplaaGreat
open Go Go.Lay
open Tryz renaming prog -> Pg
theorem uJ:AppT Pg 26 26 3 1:=zME (by kernel_rfl)
theorem vV (x:Int):zCL Pg 3 1 (zY x):=.inl ⟨zU,rfl,rfl⟩
abbrev yG (Z:St) (p:Option Addr) (l:Nat) (xs:List Int):Prop:=SlV Pg Z 3 1 p l (xs.map zY)
theorem yG.len {Z:St} {p:Option Addr} {l:Nat} {xs:List Int} (h:yG Z p l xs):xs.length=l:=by have:=h.2.1;simpa using this
theorem wZ {Z:St} {α:Type} {t n len i:Nat} {p:Option Addr} {xs:List α} {f:α->Value} (h:SlV Pg Z t n p len (xs.map f)) (hi:i<len):∃ a,p=some a/\∃ x,xs[i]?=some x/\zB Pg Z t (zJ a (Int.toNat (i:Int)*n))=some (f x):=by
 obtain ⟨a,rfl,_⟩:=h.some hi;have hl:i<xs.length:=by have:=h.2.1;simp at this;omega
 exact ⟨a,rfl,xs[i],by simp,h.at rfl (by simp [hl])⟩
abbrev zBT (d:Dty):Value:=.agg ⟨zF d.day d.on d.lo d.hi d.route⟩
abbrev zVN (Z:St) (t:Nat) (p:Option Addr) (l:Nat) (xs:List Dty):Prop:=SlV Pg Z t 5 p l (xs.map zBT)
def zTO (Z:St) (v:Value) (x:Drv):Prop:=∃ p l c q m d r n e,v=.agg ⟨zN p l c q m d r n e x.off x.row x.used⟩/\yG Z p l x.knows/\yG Z q m x.leave/\yG Z r n x.wish
def zVO (Z:St) (t:Nat) (p:Option Addr) (l:Nat) (xs:List Drv):Prop:=∃ vs:List Value,SlV Pg Z t 6 p l vs/\xs.length=l/\∀ (i:Nat) (x:Drv),xs[i]?=some x->∃ v,vs[i]?=some v/\zTO Z v x
section
variable {Z Z':St} {td tv:Nat} {p q:Option Addr} {l m c d:Nat} {w:Wk}
theorem zTO.le {v:Value} {x:Drv} (h:zTO Z v x) (k:Le Z Z'):zTO Z' v x:=by
 obtain ⟨p,l,c,q,m,d,r,n,e,h1,h2,h3,h4⟩:=h;exact ⟨p,l,c,q,m,d,r,n,e,h1,h2.le k,h3.le k,h4.le k⟩
theorem zVO.le {xs:List Drv} (h:zVO Z tv p l xs) (k:Le Z Z'):zVO Z' tv p l xs:=by
 obtain ⟨vs,h1,h2,h3⟩:=h;exact ⟨vs,h1.le k,h2,fun i x hi=>by obtain ⟨v,g1,g2⟩:=h3 i x hi;exact ⟨v,g1,g2.le k⟩⟩
structure WkP (Z:St) (td tv:Nat) (w:Wk) (p:Option Addr) (l:Nat) (q:Option Addr) (m:Nat):Prop where
 dty:zVN Z td p l w.duties
 drv:zVO Z tv q m w.drivers
theorem WkP.le (h:WkP Z td tv w p l q m) (k:Le Z Z'):WkP Z' td tv w p l q m:=⟨h.dty.le k,h.drv.le k⟩
theorem WkP.len (h:WkP Z td tv w p l q m):w.duties.length=l/\w.drivers.length=m:=by
 have h1:=h.dty.2.1;exact ⟨by simpa using h1,h.drv.choose_spec.2.1⟩
theorem zSR {n k:Nat} {x v:Value} (hk:k<n) (hv:x.cells.toList[k]?=some v):∀ {vs:List Value} {i:Nat},(∀ y∈vs,y.cells.toList.length=n)->vs[i]?=some x->(xF vs)[i*n+k]?=some v
 | [],i,_,h=>by simp at h
 | y::ys,0,hn,h=>by
  have:y=x:=by simpa using h
  subst this;have hl:=hn y List.mem_cons_self;simp only [xF,List.flatMap_cons,Nat.zero_mul,Nat.zero_add];rw [List.getElem?_append_left (by omega)];exact hv
 | y::ys,i+1,hn,h=>by
  have ih:=zSR hk hv (vs:=ys) (i:=i) (fun z hz=>hn z (List.mem_cons_of_mem _ hz)) (by simpa using h);have hl:=hn y List.mem_cons_self;have e:(i+1)*n+k=y.cells.toList.length+(i*n+k):=by rw [hl,Nat.add_mul,Nat.one_mul];omega
  simp only [xF,List.flatMap_cons] at ih ⊢;rw [e,List.getElem?_append_right (by omega),Nat.add_sub_cancel_left];exact ih
theorem WkP.vld (h:WkP Z td tv w p l q m) (ht:wL Pg tv=some true) (hs:yU Pg tv=some 6) {i:Nat} (hi:i<m):∃ a,q=some a/\∃ p l c r n d s j e,zB Pg Z tv (zJ a (Int.toNat (i:Int)*6))=some (.agg ⟨zN p l c r n d s j e (drQ w i).off (drQ w i).row (drQ w i).used⟩) /\
  yG Z p l (drQ w i).knows/\yG Z r n (drQ w i).leave/\yG Z s j (drQ w i).wish /\
  ∀ (k:Nat) (v:Value),(zN p l c r n d s j e (drQ w i).off (drQ w i).row (drQ w i).used)[k]?=some v->∀ t,wL Pg t=some false->zB Pg Z t (zJ a (Int.toNat (i:Int)*6+k))=some v:=by
 obtain ⟨vs,h1,h2,h3⟩:=h.drv;obtain ⟨a,rfl,hr⟩:=h1.some hi;have hx:w.drivers[i]?=some (drQ w i):=by
  unfold drQ;rw [List.getD_eq_getElem?_getD,List.getElem?_eq_getElem (by omega)];rfl
 obtain ⟨v,g1,p,l,c,r,n,d,s,j,e,rfl,g2,g3,g4⟩:=h3 i _ hx;refine ⟨a,rfl,p,l,c,r,n,d,s,j,e,h1.at rfl g1,g2,g3,g4, ?_⟩
 intro k v hk t htt;rw [Int.toNat_natCast];refine hr.load1 htt ?_
 have hk6:k<6:=by
  rcases Nat.lt_or_ge k 6 with h | h
  ·exact h
  ·rw [List.getElem?_eq_none (by simpa using h)] at hk;cases hk
 exact zSR hk6 (by exact hk) (fun y hy=>(h1.2.2 y hy).len) g1
theorem zFD {n lo hi:Int}:zD Pg 47 [iV n,iV lo,iV hi] Z (.bool (inB n lo hi)) Z:=by
 by_cases h1:lo<=n <;> by_cases h2:n<=hi
 ·exact (xCH ⟨by simp [inB,h1,h2],Nat.le_refl _⟩).pure
 ·exact (xCG ⟨by simp [inB,h1,h2],Nat.le_refl _⟩).pure
 ·exact (yCZ ⟨by simp [inB,h1],Nat.le_refl _⟩).pure
 ·exact (yCZ ⟨by simp [inB,h1],Nat.le_refl _⟩).pure
theorem xVN {n lo hi:Int}:zD Pg 33 [iV n,iV lo,iV hi] Z (.bool (inB n lo hi)) Z:=by
 by_cases h1:lo<=n <;> by_cases h2:n<=hi
 ·exact (xWU ⟨by simp [inB,h1,h2],Nat.le_refl _⟩).pure
 ·exact (xWT ⟨by simp [inB,h1,h2],Nat.le_refl _⟩).pure
 ·exact (xJP ⟨by simp [inB,h1],Nat.le_refl _⟩).pure
 ·exact (xJP ⟨by simp [inB,h1],Nat.le_refl _⟩).pure
theorem xWV {xs:List Int} {n:Int} (h:yG Z p l xs) (hl:l<=1073741824):zD Pg 43 [.slice p l c,iV n] Z (.bool (xs.contains n)) Z:=by
 have h1:=h.re;have e1:=h.len;refine (xRS (yTJ (Inv:=fun k i τ=>τ=Z.re/\∃ j:Nat,i=j/\j+k=l/\n ∉ xs.take j) (Qr:=fun b τ=>τ=Z.re/\b=true/\n∈xs) (Q0:=fun τ=>τ=Z.re/\n ∉ xs) ?_ l 0 Z.re ⟨rfl,0,rfl,by omega,by simp⟩) ?_ ?_).pure
 ·rintro k i τ ⟨rfl,j,rfl,hk,he⟩;by_cases hi:j<l
  ·obtain ⟨a,rfl,x,hx,l1⟩:=wZ h1 hi;by_cases hxy:x=n
   ·exact xJS l1 ⟨rfl,rfl,hxy ▸ List.mem_of_getElem? hx⟩
   ·exact xJR l1 ⟨k-1,by omega,rfl,j+1,by omega,by omega,by rw [wD hx,List.mem_append];simp;exact ⟨he,fun e=>hxy e.symm⟩⟩
  ·rw [List.take_of_length_le (by omega)] at he;exact xJQ ⟨rfl,he⟩
 ·rintro b τ ⟨rfl,rfl,hn⟩;exact yTH ⟨by simp [hn],Nat.le_refl _⟩
 ·rintro τ ⟨rfl,hn⟩;exact yTI ⟨by simp [hn],Nat.le_refl _⟩
def xW (xs:List Int) (lo hi:Int):Bool:=(List.range xs.length).all fun i=>inB (xs.getD i 0) lo hi && (i == 0 || decide (xs.getD (i-1) 0<xs.getD i 0))
theorem yP {xs:List Int} {i:Nat} {x:Int} (h:xs[i]?=some x):xs.getD i 0=x:=by rw [List.getD_eq_getElem?_getD,h];rfl
theorem zAP {f:Nat->Bool} {n:Nat}:(List.range n).all f=true↔∀ i,i<n->f i=true:=by simp
theorem zYB {xs:List Int} {lo hi:Int} (h:yG Z p l xs) (hl:l<=1073741824):zD Pg 42 [.slice p l c,iV lo,iV hi] Z (.bool (xW xs lo hi)) Z:=by
 have h1:=h.re;have e1:=h.len;have no:∀ j,j<l->(inB (xs.getD j 0) lo hi && (j == 0 || decide (xs.getD (j-1) 0<xs.getD j 0)))=false->xW xs lo hi=false:=by
  intro j hj hf;cases hr:xW xs lo hi with
  | false=>rfl
  | true=>rw [zAP.1 hr j (by omega)] at hf;cases hf
 refine (xDI (yHU (Inv:=fun k i τ=>τ=Z.re/\∃ j:Nat,i=j/\j+k=l/\∀ i,i<j->(inB (xs.getD i 0) lo hi && (i == 0 || decide (xs.getD (i-1) 0<xs.getD i 0)))=true) (Qr:=fun b τ=>τ=Z.re/\b=false/\xW xs lo hi=false) (Q0:=fun τ=>τ=Z.re/\xW xs lo hi=true) ?_ l 0 Z.re ⟨rfl,0,rfl,by omega,fun i h=>by omega⟩) ?_ ?_).pure
 ·rintro k i τ ⟨rfl,j,rfl,hk,he⟩;by_cases hj:j<l
  ·obtain ⟨a,rfl,x,hx,l1⟩:=wZ h1 hj;have cin:=xVN (Z:=Z.re) (n:=x) (lo:=lo) (hi:=hi);have gx:=yP hx;cases hb:inB x lo hi with
   | false =>
    rw [hb] at cin
    exact yTC l1 cin ⟨rfl,rfl,no j hj (by rw [gx,hb];rfl)⟩
   | true =>
    rw [hb] at cin
    by_cases h0:0<j
    ·obtain ⟨a',ea,y,hy,l2⟩:=wZ h1 (show j-1<l by omega);cases ea
     have gy:=yP hy;have e:((j:Int)-1)=((j-1:Nat):Int):=by omega
     rw [<- e] at l2;by_cases hxy:x<=y
     ·exact yTF l1 cin l2 ⟨rfl,rfl,no j hj (by rw [gx,gy,hb];simp;omega)⟩
     ·refine yTE l1 cin l2 ⟨k-1,by omega,rfl,j+1,by omega,by omega, ?_⟩;intro i hi2;by_cases e2:i=j
      ·subst e2;rw [gx,gy,hb];simp;omega
      ·exact he i (by omega)
    ·refine yTD l1 cin ⟨k-1,by omega,rfl,j+1,by omega,by omega, ?_⟩
     intro i hi2;have e2:i=j:=by omega
     subst e2;have:i=0:=by omega
     rw [gx,hb,this];rfl
  ·exact yTB ⟨rfl,zAP.2 fun i hi2=>he i (by omega)⟩
 ·rintro b τ ⟨rfl,rfl,hn⟩;exact yHS ⟨by rw [hn],Nat.le_refl _⟩
 ·rintro τ ⟨rfl,hn⟩;exact yHT ⟨by rw [hn],Nat.le_refl _⟩
theorem yHO {xs:List Int} {lo hi:Int} (h:yG Z p l xs) (hl:l<=1073741824):zD Pg 71 [.slice p l c,iV lo,iV hi] Z (.bool (xW xs lo hi)) Z:=by
 have h1:=h.re;have e1:=h.len;have no:∀ j,j<l->(inB (xs.getD j 0) lo hi && (j == 0 || decide (xs.getD (j-1) 0<xs.getD j 0)))=false->xW xs lo hi=false:=by
  intro j hj hf;cases hr:xW xs lo hi with
  | false=>rfl
  | true=>rw [zAP.1 hr j (by omega)] at hf;cases hf
 refine (xJI (yLZ (Inv:=fun k i τ=>τ=Z.re/\∃ j:Nat,i=j/\j+k=l/\∀ i,i<j->(inB (xs.getD i 0) lo hi && (i == 0 || decide (xs.getD (i-1) 0<xs.getD i 0)))=true) (Qr:=fun b τ=>τ=Z.re/\b=false/\xW xs lo hi=false) (Q0:=fun τ=>τ=Z.re/\xW xs lo hi=true) ?_ l 0 Z.re ⟨rfl,0,rfl,by omega,fun i h=>by omega⟩) ?_ ?_).pure
 ·rintro k i τ ⟨rfl,j,rfl,hk,he⟩;by_cases hj:j<l
  ·obtain ⟨a,rfl,x,hx,l1⟩:=wZ h1 hj;have cin:=zFD (Z:=Z.re) (n:=x) (lo:=lo) (hi:=hi);have gx:=yP hx;cases hb:inB x lo hi with
   | false =>
    rw [hb] at cin
    exact xDC l1 cin ⟨rfl,rfl,no j hj (by rw [gx,hb];rfl)⟩
   | true =>
    rw [hb] at cin
    by_cases h0:0<j
    ·obtain ⟨a',ea,y,hy,l2⟩:=wZ h1 (show j-1<l by omega);cases ea
     have gy:=yP hy;have e:((j:Int)-1)=((j-1:Nat):Int):=by omega
     rw [<- e] at l2;by_cases hxy:x<=y
     ·exact xDF l1 cin l2 ⟨rfl,rfl,no j hj (by rw [gx,gy,hb];simp;omega)⟩
     ·refine xDE l1 cin l2 ⟨k-1,by omega,rfl,j+1,by omega,by omega, ?_⟩;intro i hi2;by_cases e2:i=j
      ·subst e2;rw [gx,gy,hb];simp;omega
      ·exact he i (by omega)
    ·refine xDD l1 cin ⟨k-1,by omega,rfl,j+1,by omega,by omega, ?_⟩
     intro i hi2;have e2:i=j:=by omega
     subst e2;have:i=0:=by omega
     rw [gx,hb,this];rfl
  ·exact xDB ⟨rfl,zAP.2 fun i hi2=>he i (by omega)⟩
 ·rintro b τ ⟨rfl,rfl,hn⟩;exact yLX ⟨by rw [hn],Nat.le_refl _⟩
 ·rintro τ ⟨rfl,hn⟩;exact yLY ⟨by rw [hn],Nat.le_refl _⟩
end
section
noncomputable section
variable (BA:Nat) (dU aX i2_2 aK:Int) (q0:St->Prop) (Q:Int->St->Prop) (Z:St) (q1:vPa) (Nx Qr:Int->St->Prop) (Q0 Q2:St->Prop)
def yDR:Code:=(Code.part [1,1,1,0,1,0,0] (qj 55))
def zFL:lNa:=[(1,pq BA 0),(3,iV aX)]
def yUA:Alt:=⟨Int,.normal,fun t=>zFL BA t,fun t=>[],fun t Z=>Q t Z⟩
def zUA (BA:Nat) (aK:Int):lNa:=[(2,iV aK)]
def zJH:Alt:=⟨Int,.ret,fun t=>zUA BA t,fun t=>[],fun t Z=>Q t Z⟩
def zUB:lNa:=[(1,pq BA 0)]
def zJI:Alt:=⟨Unit,(.exit 0),fun t=>zUB BA,fun t=>[],fun t Z=>q0 Z⟩
def zAQ:Prop:=qk ql none yDR 145 (zFL BA aX) [] [yUA BA Nx,zJH BA Qr,zJI BA Q0] Z
def yDT:Prop:=qm ql none yDR 145 (zFL BA aX) [] [zJH BA Qr,zJI BA Q0] Z
def zUE:Prop:=kZ ql (qj 55) [1,1,1,0,1,0] (qn 55 q1) .ret 145 (zUA BA aK) Z
def zUF:Prop:=kZ ql (qj 55) [1,1,1,0,1,0] (qn 55 q1) (.exit 0) 145 (zUB BA) Z
def yDQ:Code:=(Code.part [1,1,1,1,0,1,0,0] (qj 55))
def zFK:lNa:=[(1,pq BA 0),(5,iV dU)]
def yTZ:Alt:=⟨Int,.normal,fun t=>zFK BA t,fun t=>[],fun t Z=>Q t Z⟩
def zTY (BA:Nat) (i2_2:Int):lNa:=[(2,iV i2_2)]
def zJF:Alt:=⟨Int,.ret,fun t=>zTY BA t,fun t=>[],fun t Z=>Q t Z⟩
def zTZ (BA:Nat):lNa:=[]
def zJG:Alt:=⟨Unit,(.exit 2),fun t=>zTZ BA,fun t=>[],fun t Z=>q0 Z⟩
def uZ:Prop:=qk ql none yDQ 145 (zFK BA dU) [] [yTZ BA Nx,zJF BA Qr,zJG BA Q2] Z
def yDS:Prop:=qm ql none yDQ 145 (zFK BA dU) [] [zJF BA Qr,zJG BA Q2] Z
def zUC:Prop:=kZ ql (qj 55) [1,1,1,1,0,1,0] (qn 55 q1) .ret 145 (zTY BA i2_2) Z
def zUD:Prop:=kZ ql (qj 55) [1,1,1,1,0,1,0] (qn 55 q1) (.exit 2) 145 (zTZ BA) Z
end
variable {ao ar ay am aX nH nF nG nE nI nM aK dU nJ nK nL nO nBD i2_2:Int} {af ae qD qB qA qC qJ:oAa} {ac ad aa ab BA lE cE lI cK lB cB lA cA lF cD:Nat} {Z:St} {Q:vPa} {Inv:Nat->Int->St->Prop} {Qr Nx Pr:Int->St->Prop} {Q0 P0 Q2 P2:St->Prop} {dC eV:Addr}
theorem xDP (nx:Q (iV 3) (Z.row (wkc ao af ac ad ae aa ab ar ay am) 6)) (u1:12<(ac:Int):=by omega):qi 55 [qh (wkc ao af ac ad ae aa ab ar ay am)] Z Q :=
 zG [.g,.g,.g,.l (.slice af ac ad),.g,.b true,.g,.g,.g] (kd (an2 ((zC _ _ _).rw.ld zBG (k:=1) rfl:lz (Z.row (wkc ao af ac ad ae aa ab ar ay am) 6) 22 (qg Z.y 1) (.slice af ac ad)) (zR u1) nx))
theorem xDO:let y0:=wkc ao af ac ad ae aa ab ar ay am;∀ (nx:Q (iV 3) (Z.row y0 6)) (u1:¬ 12<(ac:Int):=by omega) (u2:6<(aa:Int):=by omega),qi 55 [qh y0] Z Q :=
 let s1:=Z.row (wkc ao af ac ad ae aa ab ar ay am) 6;fun nx u1 u2=>zG [.g,.g,.g,.l (.slice af ac ad),.g,.b false,.g,.g,.l (.slice ae aa ab),.g,.b true,.g,.g] (kd (an4 ((zC _ _ _).rw.ld zBG (k:=1) rfl:lz s1 22 (qg Z.y 1) (.slice af ac ad)) (zS u1) ((zC _ _ _).rw.ld zBF (k:=2) rfl:lz s1 23 (qg Z.y 2) (.slice ae aa ab)) (zR u2) nx))
theorem yIA (hb:∀ k aX Z,Inv k aX Z->zAQ BA aX Z (NX1 Inv k) Qr Q0):∀ k aX Z,Inv k aX Z->yDT BA aX Z Qr Q0 :=
 xL (ai zBE (ai (xZ 0) trivial)) hb
@[reducible] def Ha0 (Z:St) (BA lE cE:Nat) (dC:Addr) (aX nH nF nG nE nI nM:Int):Prop:=qp Z 22 ⟨BA,1,none⟩=some (.slice (some dC) lE cE)/\qp Z 92 (zJ dC (Int.toNat aX*5))=some (.agg ⟨zF nH nF nG nE nI⟩)/\qp ((Z.row (zF 0 0 0 0 0) 5).own Z.y (zF nH nF nG nE nI) 5) 3 ⟨BA,0,none⟩=some (iV nM)/\(qo 33 [iV nH,iV 0,iV (nM-1)] ((Z.row (zF 0 0 0 0 0) 5).own Z.y (zF nH nF nG nE nI) 5) (.bool true) ((Z.row (zF 0 0 0 0 0) 5).own Z.y (zF nH nF nG nE nI) 5))/\qo 33 [iV nF,iV 0,iV 1439] ((Z.row (zF 0 0 0 0 0) 5).own Z.y (zF nH nF nG nE nI) 5) (.bool true) ((Z.row (zF 0 0 0 0 0) 5).own Z.y (zF nH nF nG nE nI) 5)
theorem yTY:let Y1:=Z.row (zF 0 0 0 0 0) 5;let Y2:=Y1.own Z.y (zF nH nF nG nE nI) 5;∀ (H:Ha0 Z BA lE cE dC aX nH nF nG nE nI nM) (h6:qo 33 [iV nG,iV nF,iV nE] Y2 (.bool true) Y2) (nx:Qr (1:Int) Y2) (u1:aX<(lE:Int):=by omega) (u2:Ix aX lE:=by omega) (u3:I6 (nM-1):=by omega) (u4:I6 (nF+1440):=by omega) (u5:(nF+1440)<nE:=by omega),zAQ BA aX Z Nx Qr Q0:=
 fun H h6 nx u1 u2 u3 u4 u5=>match H with|⟨h1,h2,h3,h4,h5⟩=>let s1:=Z.row (zF 0 0 0 0 0) 5;let s2:=s1.own Z.y (zF nH nF nG nE nI) 5;kO 1 (1:Int) [.g,.g,.l (.slice (some dC) lE cE),.g,.b true,.g,.l (.slice (some dC) lE cE),.g,.i,.l (qh (zF nH nF nG nE nI)),.g,.e undef s2,.g,.l (iV nH),.g,.l (iV nM),.n (nM-1),.c (.bool true) s2,.g,.g,.g,.l (iV nF),.c (.bool true) s2,.g,.g,.g,.g,.g,.l (iV nG),.g,.l (iV nF),.g,.g,.l (iV nE),.c (.bool true) s2,.g,.g,.g,.g,.g,.l (iV nE),.g,.l (iV nF),.n (nF+1440),.b true,.g,.g,.g,.g] (fun _ f=>an2 h1 (zR u1) (an6 h1 u2 h2 ((zC _ _ _).store (vs:=(zF nH nF nG nE nI)) rfl zIU rfl (nle rfl) rfl:qq (evL [pq Z.y 0,qh (zF nH nF nG nE nI)]) s1 (.store 92 (.tmp 0) (.tmp 1))=some (undef,s2)) ((zC _ _ _).put.rw.ld zU (k:=0) rfl:lz s2 3 (qg Z.y 0) (iV nH)) h3 (an6 (w64 u3) h4 ((zC _ _ _).put.rw.ld zU (k:=1) rfl:lz s2 3 (qg Z.y 1) (iV nF)) h5 ((zC _ _ _).put.rw.ld zU (k:=2) rfl:lz s2 3 (qg Z.y 2) (iV nG)) ((zC _ _ _).put.rw.ld zU (k:=1) rfl:lz s2 3 (qg Z.y 1) (iV nF)) (an6 ((zC _ _ _).put.rw.ld zU (k:=3) rfl:lz s2 3 (qg Z.y 3) (iV nE)) h6 ((zC _ _ _).put.rw.ld zU (k:=3) rfl:lz s2 3 (qg Z.y 3) (iV nE)) ((zC _ _ _).put.rw.ld zU (k:=1) rfl:lz s2 3 (qg Z.y 1) (iV nF)) (w64 u4) (zR u5) f)))) nx
theorem yTX:let Y1:=Z.row (zF 0 0 0 0 0) 5;let Y2:=Y1.own Z.y (zF nH nF nG nE nI) 5;∀ (H:Ha0 Z BA lE cE dC aX nH nF nG nE nI nM) (h6:qo 33 [iV nG,iV nF,iV nE] Y2 (.bool true) Y2) (h7:qo 33 [iV nI,iV 0,iV 15] Y2 (.bool true) Y2) (nx:Nx (aX+1) Y2) (u1:aX<(lE:Int):=by omega) (u2:Ix aX lE:=by omega) (u3:I6 (nM-1):=by omega) (u4:I6 (nF+1440):=by omega) (u5:¬ (nF+1440)<nE:=by omega) (u6:I6 (aX+1):=by omega),zAQ BA aX Z Nx Qr Q0:=
 fun H h6 h7 nx u1 u2 u3 u4 u5 u6=>match H with|⟨h1,h2,h3,h4,h5⟩=>let s1:=Z.row (zF 0 0 0 0 0) 5;let s2:=s1.own Z.y (zF nH nF nG nE nI) 5;kO 0 (aX+1) [.g,.g,.l (.slice (some dC) lE cE),.g,.b true,.g,.l (.slice (some dC) lE cE),.g,.i,.l (qh (zF nH nF nG nE nI)),.g,.e undef s2,.g,.l (iV nH),.g,.l (iV nM),.n (nM-1),.c (.bool true) s2,.g,.g,.g,.l (iV nF),.c (.bool true) s2,.g,.g,.g,.g,.g,.l (iV nG),.g,.l (iV nF),.g,.g,.l (iV nE),.c (.bool true) s2,.g,.g,.g,.g,.g,.l (iV nE),.g,.l (iV nF),.n (nF+1440),.b false,.g,.g,.g,.l (iV nI),.c (.bool true) s2,.g,.g,.g,.n (aX+1),.g] (fun _ f=>an5 h1 (zR u1) h1 u2 h2 (an6 ((zC _ _ _).store (vs:=(zF nH nF nG nE nI)) rfl zIU rfl (nle rfl) rfl:qq (evL [pq Z.y 0,qh (zF nH nF nG nE nI)]) s1 (.store 92 (.tmp 0) (.tmp 1))=some (undef,s2)) ((zC _ _ _).put.rw.ld zU (k:=0) rfl:lz s2 3 (qg Z.y 0) (iV nH)) h3 (w64 u3) h4 ((zC _ _ _).put.rw.ld zU (k:=1) rfl:lz s2 3 (qg Z.y 1) (iV nF)) (an6 h5 ((zC _ _ _).put.rw.ld zU (k:=2) rfl:lz s2 3 (qg Z.y 2) (iV nG)) ((zC _ _ _).put.rw.ld zU (k:=1) rfl:lz s2 3 (qg Z.y 1) (iV nF)) ((zC _ _ _).put.rw.ld zU (k:=3) rfl:lz s2 3 (qg Z.y 3) (iV nE)) h6 ((zC _ _ _).put.rw.ld zU (k:=3) rfl:lz s2 3 (qg Z.y 3) (iV nE)) (an6 ((zC _ _ _).put.rw.ld zU (k:=1) rfl:lz s2 3 (qg Z.y 1) (iV nF)) (w64 u4) (zS u5) ((zC _ _ _).put.rw.ld zU (k:=4) rfl:lz s2 3 (qg Z.y 4) (iV nI)) h7 (w64 u6) f)))) nx
theorem yTW:let Y1:=Z.row (zF 0 0 0 0 0) 5;let Y2:=Y1.own Z.y (zF nH nF nG nE nI) 5;∀ (H:Ha0 Z BA lE cE dC aX nH nF nG nE nI nM) (h6:qo 33 [iV nG,iV nF,iV nE] Y2 (.bool true) Y2) (h7:qo 33 [iV nI,iV 0,iV 15] Y2 (.bool false) Y2) (nx:Qr (1:Int) Y2) (u1:aX<(lE:Int):=by omega) (u2:Ix aX lE:=by omega) (u3:I6 (nM-1):=by omega) (u4:I6 (nF+1440):=by omega) (u5:¬ (nF+1440)<nE:=by omega),zAQ BA aX Z Nx Qr Q0:=
 fun H h6 h7 nx u1 u2 u3 u4 u5=>match H with|⟨h1,h2,h3,h4,h5⟩=>let s1:=Z.row (zF 0 0 0 0 0) 5;let s2:=s1.own Z.y (zF nH nF nG nE nI) 5;kO 1 (1:Int) [.g,.g,.l (.slice (some dC) lE cE),.g,.b true,.g,.l (.slice (some dC) lE cE),.g,.i,.l (qh (zF nH nF nG nE nI)),.g,.e undef s2,.g,.l (iV nH),.g,.l (iV nM),.n (nM-1),.c (.bool true) s2,.g,.g,.g,.l (iV nF),.c (.bool true) s2,.g,.g,.g,.g,.g,.l (iV nG),.g,.l (iV nF),.g,.g,.l (iV nE),.c (.bool true) s2,.g,.g,.g,.g,.g,.l (iV nE),.g,.l (iV nF),.n (nF+1440),.b false,.g,.g,.g,.l (iV nI),.c (.bool false) s2,.g,.g,.g] (fun _ f=>an4 h1 (zR u1) h1 u2 (an6 h2 ((zC _ _ _).store (vs:=(zF nH nF nG nE nI)) rfl zIU rfl (nle rfl) rfl:qq (evL [pq Z.y 0,qh (zF nH nF nG nE nI)]) s1 (.store 92 (.tmp 0) (.tmp 1))=some (undef,s2)) ((zC _ _ _).put.rw.ld zU (k:=0) rfl:lz s2 3 (qg Z.y 0) (iV nH)) h3 (w64 u3) h4 (an6 ((zC _ _ _).put.rw.ld zU (k:=1) rfl:lz s2 3 (qg Z.y 1) (iV nF)) h5 ((zC _ _ _).put.rw.ld zU (k:=2) rfl:lz s2 3 (qg Z.y 2) (iV nG)) ((zC _ _ _).put.rw.ld zU (k:=1) rfl:lz s2 3 (qg Z.y 1) (iV nF)) ((zC _ _ _).put.rw.ld zU (k:=3) rfl:lz s2 3 (qg Z.y 3) (iV nE)) h6 (an6 ((zC _ _ _).put.rw.ld zU (k:=3) rfl:lz s2 3 (qg Z.y 3) (iV nE)) ((zC _ _ _).put.rw.ld zU (k:=1) rfl:lz s2 3 (qg Z.y 1) (iV nF)) (w64 u4) (zS u5) ((zC _ _ _).put.rw.ld zU (k:=4) rfl:lz s2 3 (qg Z.y 4) (iV nI)) h7 f)))) nx
theorem yTV:let Y1:=Z.row (zF 0 0 0 0 0) 5;let Y2:=Y1.own Z.y (zF nH nF nG nE nI) 5;∀ (H:Ha0 Z BA lE cE dC aX nH nF nG nE nI nM) (h6:qo 33 [iV nG,iV nF,iV nE] Y2 (.bool false) Y2) (nx:Qr (1:Int) Y2) (u1:aX<(lE:Int):=by omega) (u2:Ix aX lE:=by omega) (u3:I6 (nM-1):=by omega),zAQ BA aX Z Nx Qr Q0:=
 fun H h6 nx u1 u2 u3=>match H with|⟨h1,h2,h3,h4,h5⟩=>let s1:=Z.row (zF 0 0 0 0 0) 5;let s2:=s1.own Z.y (zF nH nF nG nE nI) 5;kO 1 (1:Int) [.g,.g,.l (.slice (some dC) lE cE),.g,.b true,.g,.l (.slice (some dC) lE cE),.g,.i,.l (qh (zF nH nF nG nE nI)),.g,.e undef s2,.g,.l (iV nH),.g,.l (iV nM),.n (nM-1),.c (.bool true) s2,.g,.g,.g,.l (iV nF),.c (.bool true) s2,.g,.g,.g,.g,.g,.l (iV nG),.g,.l (iV nF),.g,.g,.l (iV nE),.c (.bool false) s2,.g,.g,.g,.g,.g,.g,.g] (fun _ f=>an4 h1 (zR u1) h1 u2 (an6 h2 ((zC _ _ _).store (vs:=(zF nH nF nG nE nI)) rfl zIU rfl (nle rfl) rfl:qq (evL [pq Z.y 0,qh (zF nH nF nG nE nI)]) s1 (.store 92 (.tmp 0) (.tmp 1))=some (undef,s2)) ((zC _ _ _).put.rw.ld zU (k:=0) rfl:lz s2 3 (qg Z.y 0) (iV nH)) h3 (w64 u3) h4 (an6 ((zC _ _ _).put.rw.ld zU (k:=1) rfl:lz s2 3 (qg Z.y 1) (iV nF)) h5 ((zC _ _ _).put.rw.ld zU (k:=2) rfl:lz s2 3 (qg Z.y 2) (iV nG)) ((zC _ _ _).put.rw.ld zU (k:=1) rfl:lz s2 3 (qg Z.y 1) (iV nF)) ((zC _ _ _).put.rw.ld zU (k:=3) rfl:lz s2 3 (qg Z.y 3) (iV nE)) h6 f))) nx
theorem yTU:let s1:=Z.row (zF 0 0 0 0 0) 5;let s2:=s1.own Z.y (zF nH nF nG nE nI) 5;∀ (h1:lz Z 22 (qg BA 1) (.slice (some dC) lE cE)) (h2:lz Z 92 (zJ dC (Int.toNat aX*5)) (qh (zF nH nF nG nE nI))) (h3:lz s2 3 (qg BA 0) (iV nM)) (h4:qo 33 [iV nH,iV 0,iV (nM-1)] s2 (.bool true) s2) (h5:qo 33 [iV nF,iV 0,iV 1439] s2 (.bool false) s2) (nx:Qr (1:Int) s2) (u1:aX<(lE:Int):=by omega) (u2:Ix aX lE:=by omega) (u3:I6 (nM-1):=by omega),zAQ BA aX Z Nx Qr Q0:=
 let s1:=Z.row (zF 0 0 0 0 0) 5;let s2:=s1.own Z.y (zF nH nF nG nE nI) 5;fun h1 h2 h3 h4 h5 nx u1 u2 u3=>kO 1 (1:Int) [.g,.g,.l (.slice (some dC) lE cE),.g,.b true,.g,.l (.slice (some dC) lE cE),.g,.i,.l (qh (zF nH nF nG nE nI)),.g,.e undef s2,.g,.l (iV nH),.g,.l (iV nM),.n (nM-1),.c (.bool true) s2,.g,.g,.g,.l (iV nF),.c (.bool false) s2,.g,.g,.g,.g,.g,.g,.g,.g,.g] (fun _ f=>an6 h1 (zR u1) h1 u2 h2 ((zC _ _ _).store (vs:=(zF nH nF nG nE nI)) rfl zIU rfl (nle rfl) rfl:qq (evL [pq Z.y 0,qh (zF nH nF nG nE nI)]) s1 (.store 92 (.tmp 0) (.tmp 1))=some (undef,s2)) (an6 ((zC _ _ _).put.rw.ld zU (k:=0) rfl:lz s2 3 (qg Z.y 0) (iV nH)) h3 (w64 u3) h4 ((zC _ _ _).put.rw.ld zU (k:=1) rfl:lz s2 3 (qg Z.y 1) (iV nF)) h5 f)) nx
theorem yTT:let s1:=Z.row (zF 0 0 0 0 0) 5;let s2:=s1.own Z.y (zF nH nF nG nE nI) 5;∀ (h1:lz Z 22 (qg BA 1) (.slice (some dC) lE cE)) (h2:lz Z 92 (zJ dC (Int.toNat aX*5)) (qh (zF nH nF nG nE nI))) (h3:lz s2 3 (qg BA 0) (iV nM)) (h4:qo 33 [iV nH,iV 0,iV (nM-1)] s2 (.bool false) s2) (nx:Qr (1:Int) s2) (u1:aX<(lE:Int):=by omega) (u2:Ix aX lE:=by omega) (u3:I6 (nM-1):=by omega),zAQ BA aX Z Nx Qr Q0:=
 let s1:=Z.row (zF 0 0 0 0 0) 5;let s2:=s1.own Z.y (zF nH nF nG nE nI) 5;fun h1 h2 h3 h4 nx u1 u2 u3=>kO 1 (1:Int) [.g,.g,.l (.slice (some dC) lE cE),.g,.b true,.g,.l (.slice (some dC) lE cE),.g,.i,.l (qh (zF nH nF nG nE nI)),.g,.e undef s2,.g,.l (iV nH),.g,.l (iV nM),.n (nM-1),.c (.bool false) s2,.g,.g,.g,.g,.g,.g,.g,.g,.g,.g] (fun _ f=>an4 h1 (zR u1) h1 u2 (an6 h2 ((zC _ _ _).store (vs:=(zF nH nF nG nE nI)) rfl zIU rfl (nle rfl) rfl:qq (evL [pq Z.y 0,qh (zF nH nF nG nE nI)]) s1 (.store 92 (.tmp 0) (.tmp 1))=some (undef,s2)) ((zC _ _ _).put.rw.ld zU (k:=0) rfl:lz s2 3 (qg Z.y 0) (iV nH)) h3 (w64 u3) h4 f)) nx
theorem yTS (h1:lz Z 22 (qg BA 1) (.slice qD lE cE)) (nx:Q0 Z) (u1:¬ aX<(lE:Int):=by omega):zAQ BA aX Z Nx Qr Q0 :=
 kO 2 () [.g,.g,.l (.slice qD lE cE),.g,.b false] (fun _ f=>an2 h1 (zS u1) f) nx
theorem xDN:let s1:=Z.row (wkc ao af ac ad ae aa ab ar ay am) 6;∀ (h1:qo 33 [iV ao,iV 1,iV 7] s1 (.bool true) s1) (h2:qo 33 [iV ar,iV 0,iV 3000] s1 (.bool true) s1) (h3:qo 33 [iV ay,iV 1,iV 14] s1 (.bool true) s1) (h4:qo 33 [iV am,iV 0,iV 20000] s1 (.bool true) s1) (hL:yDT Z.y 0 s1 Pr P0) (kr:∀ i2_1' Z',Pr i2_1' Z'->zUE Z.y i2_1' Z' Q) (k0:∀ Z',P0 Z'->zUF Z.y Z' Q) (u1:¬ 12<(ac:Int):=by omega) (u2:¬ 6<(aa:Int):=by omega),qi 55 [qh (wkc ao af ac ad ae aa ab ar ay am)] Z Q:=
 let s1:=Z.row (wkc ao af ac ad ae aa ab ar ay am) 6;fun h1 h2 h3 h4 hL kr k0 u1 u2=>zG [.g,.g,.g,.l (.slice af ac ad),.g,.b false,.g,.g,.l (.slice ae aa ab),.g,.b false,.g,.g,.l (iV ao),.c (.bool true) s1,.g,.g,.g,.l (iV ar),.c (.bool true) s1,.g,.g,.g,.g,.l (iV ay),.c (.bool true) s1,.g,.g,.g,.g,.l (iV am),.c (.bool true) s1,.g,.g,.g,.lf 145 (zFL Z.y 0) [zJH Z.y Pr,zJI Z.y P0]] (kd (an6 ((zC _ _ _).rw.ld zBG (k:=1) rfl:lz s1 22 (qg Z.y 1) (.slice af ac ad)) (zS u1) ((zC _ _ _).rw.ld zBF (k:=2) rfl:lz s1 23 (qg Z.y 2) (.slice ae aa ab)) (zS u2) ((zC _ _ _).rw.ld zU (k:=0) rfl:lz s1 3 (qg Z.y 0) (iV ao)) h1 (an6 ((zC _ _ _).rw.ld zU (k:=3) rfl:lz s1 3 (qg Z.y 3) (iV ar)) h2 ((zC _ _ _).rw.ld zU (k:=4) rfl:lz s1 3 (qg Z.y 4) (iV ay)) h3 ((zC _ _ _).rw.ld zU (k:=5) rfl:lz s1 3 (qg Z.y 5) (iV am)) h4 (ai (ai tt (ai (arf (zFL Z.y 0)) hL)) (ai (kz1 kr) (ai (kz0 k0) trivial))))))
theorem xDM:let s1:=Z.row (wkc ao af ac ad ae aa ab ar ay am) 6;∀ (h1:qo 33 [iV ao,iV 1,iV 7] s1 (.bool true) s1) (h2:qo 33 [iV ar,iV 0,iV 3000] s1 (.bool true) s1) (h3:qo 33 [iV ay,iV 1,iV 14] s1 (.bool true) s1) (h4:qo 33 [iV am,iV 0,iV 20000] s1 (.bool false) s1) (nx:Q (iV 1) s1) (u1:¬ 12<(ac:Int):=by omega) (u2:¬ 6<(aa:Int):=by omega),qi 55 [qh (wkc ao af ac ad ae aa ab ar ay am)] Z Q:=
 let s1:=Z.row (wkc ao af ac ad ae aa ab ar ay am) 6;fun h1 h2 h3 h4 nx u1 u2=>zG [.g,.g,.g,.l (.slice af ac ad),.g,.b false,.g,.g,.l (.slice ae aa ab),.g,.b false,.g,.g,.l (iV ao),.c (.bool true) s1,.g,.g,.g,.l (iV ar),.c (.bool true) s1,.g,.g,.g,.g,.l (iV ay),.c (.bool true) s1,.g,.g,.g,.g,.l (iV am),.c (.bool false) s1,.g,.g,.g] (kd (an6 ((zC _ _ _).rw.ld zBG (k:=1) rfl:lz s1 22 (qg Z.y 1) (.slice af ac ad)) (zS u1) ((zC _ _ _).rw.ld zBF (k:=2) rfl:lz s1 23 (qg Z.y 2) (.slice ae aa ab)) (zS u2) ((zC _ _ _).rw.ld zU (k:=0) rfl:lz s1 3 (qg Z.y 0) (iV ao)) h1 (an6 ((zC _ _ _).rw.ld zU (k:=3) rfl:lz s1 3 (qg Z.y 3) (iV ar)) h2 ((zC _ _ _).rw.ld zU (k:=4) rfl:lz s1 3 (qg Z.y 4) (iV ay)) h3 ((zC _ _ _).rw.ld zU (k:=5) rfl:lz s1 3 (qg Z.y 5) (iV am)) h4 nx)))
theorem xDL:let s1:=Z.row (wkc ao af ac ad ae aa ab ar ay am) 6;∀ (h1:qo 33 [iV ao,iV 1,iV 7] s1 (.bool true) s1) (h2:qo 33 [iV ar,iV 0,iV 3000] s1 (.bool true) s1) (h3:qo 33 [iV ay,iV 1,iV 14] s1 (.bool false) s1) (nx:Q (iV 1) s1) (u1:¬ 12<(ac:Int):=by omega) (u2:¬ 6<(aa:Int):=by omega),qi 55 [qh (wkc ao af ac ad ae aa ab ar ay am)] Z Q:=
 let s1:=Z.row (wkc ao af ac ad ae aa ab ar ay am) 6;fun h1 h2 h3 nx u1 u2=>zG [.g,.g,.g,.l (.slice af ac ad),.g,.b false,.g,.g,.l (.slice ae aa ab),.g,.b false,.g,.g,.l (iV ao),.c (.bool true) s1,.g,.g,.g,.l (iV ar),.c (.bool true) s1,.g,.g,.g,.g,.l (iV ay),.c (.bool false) s1,.g,.g,.g,.g,.g] (kd (an4 ((zC _ _ _).rw.ld zBG (k:=1) rfl:lz s1 22 (qg Z.y 1) (.slice af ac ad)) (zS u1) ((zC _ _ _).rw.ld zBF (k:=2) rfl:lz s1 23 (qg Z.y 2) (.slice ae aa ab)) (zS u2) (an6 ((zC _ _ _).rw.ld zU (k:=0) rfl:lz s1 3 (qg Z.y 0) (iV ao)) h1 ((zC _ _ _).rw.ld zU (k:=3) rfl:lz s1 3 (qg Z.y 3) (iV ar)) h2 ((zC _ _ _).rw.ld zU (k:=4) rfl:lz s1 3 (qg Z.y 4) (iV ay)) h3 nx)))
theorem xDK:let s1:=Z.row (wkc ao af ac ad ae aa ab ar ay am) 6;∀ (h1:qo 33 [iV ao,iV 1,iV 7] s1 (.bool true) s1) (h2:qo 33 [iV ar,iV 0,iV 3000] s1 (.bool false) s1) (nx:Q (iV 1) s1) (u1:¬ 12<(ac:Int):=by omega) (u2:¬ 6<(aa:Int):=by omega),qi 55 [qh (wkc ao af ac ad ae aa ab ar ay am)] Z Q:=
 let s1:=Z.row (wkc ao af ac ad ae aa ab ar ay am) 6;fun h1 h2 nx u1 u2=>zG [.g,.g,.g,.l (.slice af ac ad),.g,.b false,.g,.g,.l (.slice ae aa ab),.g,.b false,.g,.g,.l (iV ao),.c (.bool true) s1,.g,.g,.g,.l (iV ar),.c (.bool false) s1,.g,.g,.g,.g,.g,.g,.g] (kd (an2 ((zC _ _ _).rw.ld zBG (k:=1) rfl:lz s1 22 (qg Z.y 1) (.slice af ac ad)) (zS u1) (an6 ((zC _ _ _).rw.ld zBF (k:=2) rfl:lz s1 23 (qg Z.y 2) (.slice ae aa ab)) (zS u2) ((zC _ _ _).rw.ld zU (k:=0) rfl:lz s1 3 (qg Z.y 0) (iV ao)) h1 ((zC _ _ _).rw.ld zU (k:=3) rfl:lz s1 3 (qg Z.y 3) (iV ar)) h2 nx)))
theorem xDJ:let s1:=Z.row (wkc ao af ac ad ae aa ab ar ay am) 6;∀ (h1:qo 33 [iV ao,iV 1,iV 7] s1 (.bool false) s1) (nx:Q (iV 1) s1) (u1:¬ 12<(ac:Int):=by omega) (u2:¬ 6<(aa:Int):=by omega),qi 55 [qh (wkc ao af ac ad ae aa ab ar ay am)] Z Q:=
 let s1:=Z.row (wkc ao af ac ad ae aa ab ar ay am) 6;fun h1 nx u1 u2=>zG [.g,.g,.g,.l (.slice af ac ad),.g,.b false,.g,.g,.l (.slice ae aa ab),.g,.b false,.g,.g,.l (iV ao),.c (.bool false) s1,.g,.g,.g,.g,.g,.g,.g,.g] (kd (an6 ((zC _ _ _).rw.ld zBG (k:=1) rfl:lz s1 22 (qg Z.y 1) (.slice af ac ad)) (zS u1) ((zC _ _ _).rw.ld zBF (k:=2) rfl:lz s1 23 (qg Z.y 2) (.slice ae aa ab)) (zS u2) ((zC _ _ _).rw.ld zU (k:=0) rfl:lz s1 3 (qg Z.y 0) (iV ao)) h1 nx))
theorem yHX (nx:Q (iV aK) Z):zUE BA aK Z Q :=
 sK [] nx
theorem yHZ (hb:∀ k dU Z,Inv k dU Z->uZ BA dU Z (NX1 Inv k) Qr Q2):∀ k dU Z,Inv k dU Z->yDS BA dU Z Qr Q2 :=
 xL (ai zBE (ai (xZ 2) trivial)) hb
@[reducible] def Ha1 (Z:St) (BA lI cK lB cB lA cA lF cD:Nat) (eV:Addr) (dU nJ nK nL nO:Int) (qB qA qC:oAa):Prop:=qp Z 23 ⟨BA,2,none⟩=some (.slice (some eV) lI cK)/\qp Z 76 (zJ eV (Int.toNat dU*6))=some (.agg ⟨zN qB lB cB qA lA cA qC lF cD nJ nK nL⟩)/\qo 42 [.slice qB lB cB,iV 0,iV 15] ((Z.row (zN none 0 0 none 0 0 none 0 0 0 0 0) 6).own Z.y (zN qB lB cB qA lA cA qC lF cD nJ nK nL) 6) (.bool true) ((Z.row (zN none 0 0 none 0 0 none 0 0 0 0 0) 6).own Z.y (zN qB lB cB qA lA cA qC lF cD nJ nK nL) 6)/\qp ((Z.row (zN none 0 0 none 0 0 none 0 0 0 0 0) 6).own Z.y (zN qB lB cB qA lA cA qC lF cD nJ nK nL) 6) 3 ⟨BA,0,none⟩=some (iV nO)/\(qo 42 [.slice qA lA cA,iV 0,iV (nO-1)] ((Z.row (zN none 0 0 none 0 0 none 0 0 0 0 0) 6).own Z.y (zN qB lB cB qA lA cA qC lF cD nJ nK nL) 6) (.bool true) ((Z.row (zN none 0 0 none 0 0 none 0 0 0 0 0) 6).own Z.y (zN qB lB cB qA lA cA qC lF cD nJ nK nL) 6))
theorem yTR:let Y1:=Z.row (zN none 0 0 none 0 0 none 0 0 0 0 0) 6;let Y2:=Y1.own Z.y (zN qB lB cB qA lA cA qC lF cD nJ nK nL) 6;∀ (H:Ha1 Z BA lI cK lB cB lA cA lF cD eV dU nJ nK nL nO qB qA qC) (h6:qo 42 [.slice qC lF cD,iV 0,iV (nO-1)] Y2 (.bool true) Y2) (h7:qo 33 [iV nJ,iV (-10080),iV 1440] Y2 (.bool true) Y2) (h8:qo 33 [iV nK,iV 0,iV 14] Y2 (.bool true) Y2) (h9:lz Y2 3 (qg BA 5) (iV nBD)) (h10:qo 33 [iV nL,iV 0,iV nBD] Y2 (.bool true) Y2) (nx:Nx (dU+1) Y2) (u1:dU<(lI:Int):=by omega) (u2:Ix dU lI:=by omega) (u3:I6 (nO-1):=by omega) (u4:I6 (dU+1):=by omega),uZ BA dU Z Nx Qr Q2:=
 fun H h6 h7 h8 h9 h10 nx u1 u2 u3 u4=>match H with|⟨h1,h2,h3,h4,h5⟩=>let s1:=Z.row (zN none 0 0 none 0 0 none 0 0 0 0 0) 6;let s2:=s1.own Z.y (zN qB lB cB qA lA cA qC lF cD nJ nK nL) 6;kO 0 (dU+1) [.g,.g,.l (.slice (some eV) lI cK),.g,.b true,.g,.l (.slice (some eV) lI cK),.g,.i,.l (qh (zN qB lB cB qA lA cA qC lF cD nJ nK nL)),.g,.e undef s2,.g,.l (.slice qB lB cB),.c (.bool true) s2,.g,.g,.g,.l (.slice qA lA cA),.g,.l (iV nO),.n (nO-1),.c (.bool true) s2,.g,.g,.g,.g,.l (.slice qC lF cD),.g,.l (iV nO),.n (nO-1),.c (.bool true) s2,.g,.g,.g,.g,.l (iV nJ),.c (.bool true) s2,.g,.g,.g,.g,.l (iV nK),.c (.bool true) s2,.g,.g,.g,.g,.l (iV nL),.g,.l (iV nBD),.c (.bool true) s2,.g,.g,.g,.n (dU+1),.g] (fun _ f=>an6 h1 (zR u1) h1 u2 h2 ((zC _ _ _).store (vs:=(zN qB lB cB qA lA cA qC lF cD nJ nK nL)) rfl zAB rfl (nle rfl) rfl:qq (evL [pq Z.y 0,qh (zN qB lB cB qA lA cA qC lF cD nJ nK nL)]) s1 (.store 76 (.tmp 0) (.tmp 1))=some (undef,s2)) (an6 ((zC _ _ _).put.rw.ld yV (k:=0) rfl:lz s2 26 (qg Z.y 0) (.slice qB lB cB)) h3 ((zC _ _ _).put.rw.ld yV (k:=1) rfl:lz s2 26 (qg Z.y 1) (.slice qA lA cA)) h4 (w64 u3) h5 (an6 ((zC _ _ _).put.rw.ld yV (k:=2) rfl:lz s2 26 (qg Z.y 2) (.slice qC lF cD)) h4 (w64 u3) h6 ((zC _ _ _).put.rw.ld zU (k:=3) rfl:lz s2 3 (qg Z.y 3) (iV nJ)) h7 (an6 ((zC _ _ _).put.rw.ld zU (k:=4) rfl:lz s2 3 (qg Z.y 4) (iV nK)) h8 ((zC _ _ _).put.rw.ld zU (k:=5) rfl:lz s2 3 (qg Z.y 5) (iV nL)) h9 h10 (w64 u4) f)))) nx
theorem yTQ:let Y1:=Z.row (zN none 0 0 none 0 0 none 0 0 0 0 0) 6;let Y2:=Y1.own Z.y (zN qB lB cB qA lA cA qC lF cD nJ nK nL) 6;∀ (H:Ha1 Z BA lI cK lB cB lA cA lF cD eV dU nJ nK nL nO qB qA qC) (h6:qo 42 [.slice qC lF cD,iV 0,iV (nO-1)] Y2 (.bool true) Y2) (h7:qo 33 [iV nJ,iV (-10080),iV 1440] Y2 (.bool true) Y2) (h8:qo 33 [iV nK,iV 0,iV 14] Y2 (.bool true) Y2) (h9:lz Y2 3 (qg BA 5) (iV nBD)) (h10:qo 33 [iV nL,iV 0,iV nBD] Y2 (.bool false) Y2) (nx:Qr (1:Int) Y2) (u1:dU<(lI:Int):=by omega) (u2:Ix dU lI:=by omega) (u3:I6 (nO-1):=by omega),uZ BA dU Z Nx Qr Q2:=
 fun H h6 h7 h8 h9 h10 nx u1 u2 u3=>match H with|⟨h1,h2,h3,h4,h5⟩=>let s1:=Z.row (zN none 0 0 none 0 0 none 0 0 0 0 0) 6;let s2:=s1.own Z.y (zN qB lB cB qA lA cA qC lF cD nJ nK nL) 6;kO 1 (1:Int) [.g,.g,.l (.slice (some eV) lI cK),.g,.b true,.g,.l (.slice (some eV) lI cK),.g,.i,.l (qh (zN qB lB cB qA lA cA qC lF cD nJ nK nL)),.g,.e undef s2,.g,.l (.slice qB lB cB),.c (.bool true) s2,.g,.g,.g,.l (.slice qA lA cA),.g,.l (iV nO),.n (nO-1),.c (.bool true) s2,.g,.g,.g,.g,.l (.slice qC lF cD),.g,.l (iV nO),.n (nO-1),.c (.bool true) s2,.g,.g,.g,.g,.l (iV nJ),.c (.bool true) s2,.g,.g,.g,.g,.l (iV nK),.c (.bool true) s2,.g,.g,.g,.g,.l (iV nL),.g,.l (iV nBD),.c (.bool false) s2,.g,.g,.g] (fun _ f=>an5 h1 (zR u1) h1 u2 h2 (an6 ((zC _ _ _).store (vs:=(zN qB lB cB qA lA cA qC lF cD nJ nK nL)) rfl zAB rfl (nle rfl) rfl:qq (evL [pq Z.y 0,qh (zN qB lB cB qA lA cA qC lF cD nJ nK nL)]) s1 (.store 76 (.tmp 0) (.tmp 1))=some (undef,s2)) ((zC _ _ _).put.rw.ld yV (k:=0) rfl:lz s2 26 (qg Z.y 0) (.slice qB lB cB)) h3 ((zC _ _ _).put.rw.ld yV (k:=1) rfl:lz s2 26 (qg Z.y 1) (.slice qA lA cA)) h4 (w64 u3) (an6 h5 ((zC _ _ _).put.rw.ld yV (k:=2) rfl:lz s2 26 (qg Z.y 2) (.slice qC lF cD)) h4 (w64 u3) h6 ((zC _ _ _).put.rw.ld zU (k:=3) rfl:lz s2 3 (qg Z.y 3) (iV nJ)) (an6 h7 ((zC _ _ _).put.rw.ld zU (k:=4) rfl:lz s2 3 (qg Z.y 4) (iV nK)) h8 ((zC _ _ _).put.rw.ld zU (k:=5) rfl:lz s2 3 (qg Z.y 5) (iV nL)) h9 h10 f)))) nx
theorem yTP:let Y1:=Z.row (zN none 0 0 none 0 0 none 0 0 0 0 0) 6;let Y2:=Y1.own Z.y (zN qB lB cB qA lA cA qC lF cD nJ nK nL) 6;∀ (H:Ha1 Z BA lI cK lB cB lA cA lF cD eV dU nJ nK nL nO qB qA qC) (h6:qo 42 [.slice qC lF cD,iV 0,iV (nO-1)] Y2 (.bool true) Y2) (h7:qo 33 [iV nJ,iV (-10080),iV 1440] Y2 (.bool true) Y2) (h8:qo 33 [iV nK,iV 0,iV 14] Y2 (.bool false) Y2) (nx:Qr (1:Int) Y2) (u1:dU<(lI:Int):=by omega) (u2:Ix dU lI:=by omega) (u3:I6 (nO-1):=by omega),uZ BA dU Z Nx Qr Q2:=
 fun H h6 h7 h8 nx u1 u2 u3=>match H with|⟨h1,h2,h3,h4,h5⟩=>let s1:=Z.row (zN none 0 0 none 0 0 none 0 0 0 0 0) 6;let s2:=s1.own Z.y (zN qB lB cB qA lA cA qC lF cD nJ nK nL) 6;kO 1 (1:Int) [.g,.g,.l (.slice (some eV) lI cK),.g,.b true,.g,.l (.slice (some eV) lI cK),.g,.i,.l (qh (zN qB lB cB qA lA cA qC lF cD nJ nK nL)),.g,.e undef s2,.g,.l (.slice qB lB cB),.c (.bool true) s2,.g,.g,.g,.l (.slice qA lA cA),.g,.l (iV nO),.n (nO-1),.c (.bool true) s2,.g,.g,.g,.g,.l (.slice qC lF cD),.g,.l (iV nO),.n (nO-1),.c (.bool true) s2,.g,.g,.g,.g,.l (iV nJ),.c (.bool true) s2,.g,.g,.g,.g,.l (iV nK),.c (.bool false) s2,.g,.g,.g,.g,.g] (fun _ f=>an2 h1 (zR u1) (an6 h1 u2 h2 ((zC _ _ _).store (vs:=(zN qB lB cB qA lA cA qC lF cD nJ nK nL)) rfl zAB rfl (nle rfl) rfl:qq (evL [pq Z.y 0,qh (zN qB lB cB qA lA cA qC lF cD nJ nK nL)]) s1 (.store 76 (.tmp 0) (.tmp 1))=some (undef,s2)) ((zC _ _ _).put.rw.ld yV (k:=0) rfl:lz s2 26 (qg Z.y 0) (.slice qB lB cB)) h3 (an6 ((zC _ _ _).put.rw.ld yV (k:=1) rfl:lz s2 26 (qg Z.y 1) (.slice qA lA cA)) h4 (w64 u3) h5 ((zC _ _ _).put.rw.ld yV (k:=2) rfl:lz s2 26 (qg Z.y 2) (.slice qC lF cD)) h4 (an6 (w64 u3) h6 ((zC _ _ _).put.rw.ld zU (k:=3) rfl:lz s2 3 (qg Z.y 3) (iV nJ)) h7 ((zC _ _ _).put.rw.ld zU (k:=4) rfl:lz s2 3 (qg Z.y 4) (iV nK)) h8 f)))) nx
theorem yTO:let Y1:=Z.row (zN none 0 0 none 0 0 none 0 0 0 0 0) 6;let Y2:=Y1.own Z.y (zN qB lB cB qA lA cA qC lF cD nJ nK nL) 6;∀ (H:Ha1 Z BA lI cK lB cB lA cA lF cD eV dU nJ nK nL nO qB qA qC) (h6:qo 42 [.slice qC lF cD,iV 0,iV (nO-1)] Y2 (.bool true) Y2) (h7:qo 33 [iV nJ,iV (-10080),iV 1440] Y2 (.bool false) Y2) (nx:Qr (1:Int) Y2) (u1:dU<(lI:Int):=by omega) (u2:Ix dU lI:=by omega) (u3:I6 (nO-1):=by omega),uZ BA dU Z Nx Qr Q2:=
 fun H h6 h7 nx u1 u2 u3=>match H with|⟨h1,h2,h3,h4,h5⟩=>let s1:=Z.row (zN none 0 0 none 0 0 none 0 0 0 0 0) 6;let s2:=s1.own Z.y (zN qB lB cB qA lA cA qC lF cD nJ nK nL) 6;kO 1 (1:Int) [.g,.g,.l (.slice (some eV) lI cK),.g,.b true,.g,.l (.slice (some eV) lI cK),.g,.i,.l (qh (zN qB lB cB qA lA cA qC lF cD nJ nK nL)),.g,.e undef s2,.g,.l (.slice qB lB cB),.c (.bool true) s2,.g,.g,.g,.l (.slice qA lA cA),.g,.l (iV nO),.n (nO-1),.c (.bool true) s2,.g,.g,.g,.g,.l (.slice qC lF cD),.g,.l (iV nO),.n (nO-1),.c (.bool true) s2,.g,.g,.g,.g,.l (iV nJ),.c (.bool false) s2,.g,.g,.g,.g,.g,.g,.g] (fun _ f=>an6 h1 (zR u1) h1 u2 h2 ((zC _ _ _).store (vs:=(zN qB lB cB qA lA cA qC lF cD nJ nK nL)) rfl zAB rfl (nle rfl) rfl:qq (evL [pq Z.y 0,qh (zN qB lB cB qA lA cA qC lF cD nJ nK nL)]) s1 (.store 76 (.tmp 0) (.tmp 1))=some (undef,s2)) (an6 ((zC _ _ _).put.rw.ld yV (k:=0) rfl:lz s2 26 (qg Z.y 0) (.slice qB lB cB)) h3 ((zC _ _ _).put.rw.ld yV (k:=1) rfl:lz s2 26 (qg Z.y 1) (.slice qA lA cA)) h4 (w64 u3) h5 (an6 ((zC _ _ _).put.rw.ld yV (k:=2) rfl:lz s2 26 (qg Z.y 2) (.slice qC lF cD)) h4 (w64 u3) h6 ((zC _ _ _).put.rw.ld zU (k:=3) rfl:lz s2 3 (qg Z.y 3) (iV nJ)) h7 f))) nx
theorem yTN:let Y1:=Z.row (zN none 0 0 none 0 0 none 0 0 0 0 0) 6;let Y2:=Y1.own Z.y (zN qB lB cB qA lA cA qC lF cD nJ nK nL) 6;∀ (H:Ha1 Z BA lI cK lB cB lA cA lF cD eV dU nJ nK nL nO qB qA qC) (h6:qo 42 [.slice qC lF cD,iV 0,iV (nO-1)] Y2 (.bool false) Y2) (nx:Qr (1:Int) Y2) (u1:dU<(lI:Int):=by omega) (u2:Ix dU lI:=by omega) (u3:I6 (nO-1):=by omega),uZ BA dU Z Nx Qr Q2:=
 fun H h6 nx u1 u2 u3=>match H with|⟨h1,h2,h3,h4,h5⟩=>let s1:=Z.row (zN none 0 0 none 0 0 none 0 0 0 0 0) 6;let s2:=s1.own Z.y (zN qB lB cB qA lA cA qC lF cD nJ nK nL) 6;kO 1 (1:Int) [.g,.g,.l (.slice (some eV) lI cK),.g,.b true,.g,.l (.slice (some eV) lI cK),.g,.i,.l (qh (zN qB lB cB qA lA cA qC lF cD nJ nK nL)),.g,.e undef s2,.g,.l (.slice qB lB cB),.c (.bool true) s2,.g,.g,.g,.l (.slice qA lA cA),.g,.l (iV nO),.n (nO-1),.c (.bool true) s2,.g,.g,.g,.g,.l (.slice qC lF cD),.g,.l (iV nO),.n (nO-1),.c (.bool false) s2,.g,.g,.g,.g,.g,.g,.g,.g,.g] (fun _ f=>an4 h1 (zR u1) h1 u2 (an6 h2 ((zC _ _ _).store (vs:=(zN qB lB cB qA lA cA qC lF cD nJ nK nL)) rfl zAB rfl (nle rfl) rfl:qq (evL [pq Z.y 0,qh (zN qB lB cB qA lA cA qC lF cD nJ nK nL)]) s1 (.store 76 (.tmp 0) (.tmp 1))=some (undef,s2)) ((zC _ _ _).put.rw.ld yV (k:=0) rfl:lz s2 26 (qg Z.y 0) (.slice qB lB cB)) h3 ((zC _ _ _).put.rw.ld yV (k:=1) rfl:lz s2 26 (qg Z.y 1) (.slice qA lA cA)) h4 (an6 (w64 u3) h5 ((zC _ _ _).put.rw.ld yV (k:=2) rfl:lz s2 26 (qg Z.y 2) (.slice qC lF cD)) h4 (w64 u3) h6 f))) nx
theorem yTM:let s1:=Z.row (zN none 0 0 none 0 0 none 0 0 0 0 0) 6;let s2:=s1.own Z.y (zN qB lB cB qA lA cA qC lF cD nJ nK nL) 6;∀ (h1:lz Z 23 (qg BA 2) (.slice (some eV) lI cK)) (h2:lz Z 76 (zJ eV (Int.toNat dU*6)) (qh (zN qB lB cB qA lA cA qC lF cD nJ nK nL))) (h3:qo 42 [.slice qB lB cB,iV 0,iV 15] s2 (.bool true) s2) (h4:lz s2 3 (qg BA 0) (iV nO)) (h5:qo 42 [.slice qA lA cA,iV 0,iV (nO-1)] s2 (.bool false) s2) (nx:Qr (1:Int) s2) (u1:dU<(lI:Int):=by omega) (u2:Ix dU lI:=by omega) (u3:I6 (nO-1):=by omega),uZ BA dU Z Nx Qr Q2:=
 let s1:=Z.row (zN none 0 0 none 0 0 none 0 0 0 0 0) 6;let s2:=s1.own Z.y (zN qB lB cB qA lA cA qC lF cD nJ nK nL) 6;fun h1 h2 h3 h4 h5 nx u1 u2 u3=>kO 1 (1:Int) [.g,.g,.l (.slice (some eV) lI cK),.g,.b true,.g,.l (.slice (some eV) lI cK),.g,.i,.l (qh (zN qB lB cB qA lA cA qC lF cD nJ nK nL)),.g,.e undef s2,.g,.l (.slice qB lB cB),.c (.bool true) s2,.g,.g,.g,.l (.slice qA lA cA),.g,.l (iV nO),.n (nO-1),.c (.bool false) s2,.g,.g,.g,.g,.g,.g,.g,.g,.g,.g,.g] (fun _ f=>an6 h1 (zR u1) h1 u2 h2 ((zC _ _ _).store (vs:=(zN qB lB cB qA lA cA qC lF cD nJ nK nL)) rfl zAB rfl (nle rfl) rfl:qq (evL [pq Z.y 0,qh (zN qB lB cB qA lA cA qC lF cD nJ nK nL)]) s1 (.store 76 (.tmp 0) (.tmp 1))=some (undef,s2)) (an6 ((zC _ _ _).put.rw.ld yV (k:=0) rfl:lz s2 26 (qg Z.y 0) (.slice qB lB cB)) h3 ((zC _ _ _).put.rw.ld yV (k:=1) rfl:lz s2 26 (qg Z.y 1) (.slice qA lA cA)) h4 (w64 u3) h5 f)) nx
theorem yTL:let s1:=Z.row (zN none 0 0 none 0 0 none 0 0 0 0 0) 6;let s2:=s1.own Z.y (zN qB lB cB qA lA cA qC lF cD nJ nK nL) 6;∀ (h1:lz Z 23 (qg BA 2) (.slice (some eV) lI cK)) (h2:lz Z 76 (zJ eV (Int.toNat dU*6)) (qh (zN qB lB cB qA lA cA qC lF cD nJ nK nL))) (h3:qo 42 [.slice qB lB cB,iV 0,iV 15] s2 (.bool false) s2) (nx:Qr (1:Int) s2) (u1:dU<(lI:Int):=by omega) (u2:Ix dU lI:=by omega),uZ BA dU Z Nx Qr Q2:=
 let s1:=Z.row (zN none 0 0 none 0 0 none 0 0 0 0 0) 6;let s2:=s1.own Z.y (zN qB lB cB qA lA cA qC lF cD nJ nK nL) 6;fun h1 h2 h3 nx u1 u2=>kO 1 (1:Int) [.g,.g,.l (.slice (some eV) lI cK),.g,.b true,.g,.l (.slice (some eV) lI cK),.g,.i,.l (qh (zN qB lB cB qA lA cA qC lF cD nJ nK nL)),.g,.e undef s2,.g,.l (.slice qB lB cB),.c (.bool false) s2,.g,.g,.g,.g,.g,.g,.g,.g,.g,.g,.g,.g] (fun _ f=>an2 h1 (zR u1) (an6 h1 u2 h2 ((zC _ _ _).store (vs:=(zN qB lB cB qA lA cA qC lF cD nJ nK nL)) rfl zAB rfl (nle rfl) rfl:qq (evL [pq Z.y 0,qh (zN qB lB cB qA lA cA qC lF cD nJ nK nL)]) s1 (.store 76 (.tmp 0) (.tmp 1))=some (undef,s2)) ((zC _ _ _).put.rw.ld yV (k:=0) rfl:lz s2 26 (qg Z.y 0) (.slice qB lB cB)) h3 f)) nx
theorem yTK (h1:lz Z 23 (qg BA 2) (.slice qJ lI cK)) (nx:Q2 Z) (u1:¬ dU<(lI:Int):=by omega):uZ BA dU Z Nx Qr Q2 :=
 kO 2 () [.g,.g,.l (.slice qJ lI cK),.g,.b false] (fun _ f=>an2 h1 (zS u1) f) nx
theorem yHY (hL:yDS BA 0 Z Pr P2) (kr:∀ i2_2' Z',Pr i2_2' Z'->zUC BA i2_2' Z' Q) (k2:∀ Z',P2 Z'->zUD BA Z' Q):zUF BA Z Q :=
 sK [.g,.lf 145 (zFK BA 0) [zJF BA Pr,zJG BA P2]] (ai (ai tt (ai (arf (zFK BA 0)) hL)) (ai (kz1 kr) (ai (kz0 k2) trivial)))
theorem yHV (nx:Q (iV i2_2) Z):zUC BA i2_2 Z Q :=
 sK [] nx
theorem yHW (nx:Q (iV 0) Z):zUD BA Z Q :=
 sK [.g] nx
end
def vW (w:Wk) (d:Dty):Bool:=inB d.day 0 (w.days-1) && (inB d.on 0 1439 && (inB d.lo d.on d.hi && (!decide (d.on+1440<d.hi) && inB d.route 0 15)))
def uN (w:Wk) (x:Drv):Bool:=xW x.knows 0 15 && (xW x.leave 0 (w.days-1) && (xW x.wish 0 (w.days-1) && (inB x.off (-10080) 1440 && (inB x.row 0 14 && inB x.used 0 w.hours))))
def vC (w:Wk):Bool:=inB w.days 1 7 && (inB w.rest 0 3000 && (inB w.run 1 14 && inB w.hours 0 20000))
def xC (w:Wk):Int:=if 12<w.duties.length\/6<w.drivers.length then 3 else if vC w && (w.duties.all (vW w) && w.drivers.all (uN w)) then 0 else 1
theorem yBM {α:Type} {xs:List α} {i:Nat} {f:α->Bool} {x:α} (h:xs[i]?=some x) (ha:(xs.take i).all f=true) (hf:f x=true):(xs.take (i+1)).all f=true:=by
 rw [wD h,List.all_append,ha];simp [hf]
theorem yYN {α:Type} {xs:List α} {f:α->Bool} {x:α} (h:x∈xs) (hf:f x=false):xs.all f=false:=by
 cases ha:xs.all f with
 | false=>rfl
 | true=>rw [List.all_eq_true.1 ha x h] at hf;cases hf
def zBC (w:Wk):Prop:=∀ x∈w.drivers,x.knows.length<=1000/\x.leave.length<=1000/\x.wish.length<=1000
section
variable {Z:St} {w:Wk} {p q:Option Addr} {l m c d:Nat}
theorem xJU (h:WkP Z 92 76 w p l q m) (hsh:zBC w):zD Tryz.prog 55 [.agg ⟨wkc w.days p l c q m d w.rest w.run w.hours⟩] Z (iV (xC w)) Z:=by
 have hwp:=h;have hn:=h.len.1;have hm:=h.len.2;by_cases h12:12<l
 ·have:xC w=3:=by unfold xC;rw [if_pos (.inl (by omega))]
  rw [this];exact (xDP ⟨rfl,Nat.le_refl _⟩ (by omega)).pure
 by_cases h6:6<m
 ·have:xC w=3:=by unfold xC;rw [if_pos (.inr (by omega))]
  rw [this];exact (xDO ⟨rfl,Nat.le_refl _⟩ (by omega) (by omega)).pure
 have hf0:xC w=if vC w && (w.duties.all (vW w) && w.drivers.all (uN w)) then 0 else 1:=by unfold xC;rw [if_neg (by omega)]
 obtain ⟨Z1,hZ1⟩:∃ Z1,Z1=Z.re.row (wkc w.days p l c q m d w.rest w.run w.hours) 6:=⟨_,rfl⟩;have cin:∀ {τ:St} {n lo hi:Int} {b:Bool},inB n lo hi=b->zD Tryz.prog 33 [iV n,iV lo,iV hi] τ (.bool b) τ:=fun e=>e ▸ xVN
 have no:vC w=false->xC w=1:=fun e=>by rw [hf0,e];rfl
 cases b1:inB w.days 1 7 with
 | false=>rw [no (by unfold vC;rw [b1];rfl)];exact (xDJ (cin b1) ⟨rfl,Nat.le_refl _⟩ (by omega) (by omega)).pure
 | true =>
 cases b2:inB w.rest 0 3000 with
 | false=>rw [no (by unfold vC;rw [b1,b2];rfl)];exact (xDK (cin b1) (cin b2) ⟨rfl,Nat.le_refl _⟩ (by omega) (by omega)).pure
 | true =>
 cases b3:inB w.run 1 14 with
 | false=>rw [no (by unfold vC;rw [b1,b2,b3];rfl)];exact (xDL (cin b1) (cin b2) (cin b3) ⟨rfl,Nat.le_refl _⟩ (by omega) (by omega)).pure
 | true =>
 cases b4:inB w.hours 0 20000 with
 | false=>rw [no (by unfold vC;rw [b1,b2,b3,b4];rfl)];exact (xDM (cin b1) (cin b2) (cin b3) (cin b4) ⟨rfl,Nat.le_refl _⟩ (by omega) (by omega)).pure
 | true =>
 have hh:vC w=true:=by unfold vC;rw [b1,b2,b3,b4];rfl
 have hd:=vK.1 b1;have N1:New Z.re Z1:=by rw [hZ1];exact New.row _ _ _
 have L1:Le Z Z1:=(le0 Z).trans N1.le;have hW:∀ {τ},Le Z1 τ->Row τ ⟨Z.re.y,0,none⟩ (wkc w.days p l c q m d w.rest w.run w.hours):=fun {τ} hN=>by
  have:=xP Z.re (wkc w.days p l c q m d w.rest w.run w.hours) 6;rw [<- hZ1] at this;exact this.le hN
 have nod:∀ x∈w.duties,vW w x=false->xC w=1:=fun x hx e=>by rw [hf0,yYN hx e];simp
 have nov:∀ x∈w.drivers,uN w x=false->xC w=1:=fun x hx e=>by rw [hf0,yYN hx e];simp
 have lw1:∀ {τ:St},New Z1 τ->Z.y<=τ.low:=fun hN=>(N1.trans hN).lw
 refine zP.pure (xDN (Pr:=fun n τ=>New Z1 τ/\n=xC w) (P0:=fun τ=>New Z1 τ/\w.duties.all (vW w)=true) (cin b1) (cin b2) (cin b3) (cin b4)
  (yIA (Inv:=fun k i τ=>New Z1 τ/\∃ j:Nat,i=j/\j+k=l/\(w.duties.take j).all (vW w)=true) ?_ l 0 _ ⟨by rw [<- hZ1];exact New.refl _,0,rfl,by omega,rfl⟩)
  (fun n τ h=>yHX ⟨by rw [h.2],lw1 h.1⟩) (fun τ h=>?_) (by omega) (by omega))
 ·rintro k i τ ⟨hN,j,rfl,hk,ha⟩;have ldD:zB Tryz.prog τ 22 ⟨Z.re.y,1,none⟩=some (.slice p l c):=(hW hN.le).ld zBG rfl;by_cases hj:j<l;rotate_left
  ·exact yTS ldD ⟨hN,by rwa [List.take_of_length_le (by omega)] at ha⟩ (by omega)
  obtain ⟨a,rfl,x,hx,lx⟩:=wZ (SlV.le h.dty (L1.trans hN.le)) hj;have hmem:=List.mem_of_getElem? hx;have hN2:New Z1 ((τ.row (zF 0 0 0 0 0) 5).own τ.y (zF x.day x.on x.lo x.hi x.route) 5):=hN.row'.own hN.le.y;have ld0:zB Tryz.prog ((τ.row (zF 0 0 0 0 0) 5).own τ.y (zF x.day x.on x.lo x.hi x.route) 5) 3 ⟨Z.re.y,0,none⟩=some (iV w.days):=(hW hN2.le).ld zU rfl;cases c1:inB x.day 0 (w.days-1) with
  | false=>exact yTT ldD lx ld0 (cin c1) ⟨hN2,(nod x hmem (by unfold vW;rw [c1];rfl)).symm⟩ (by omega) (by omega) (by omega)
  | true =>
  cases c2:inB x.on 0 1439 with
  | false=>exact yTU ldD lx ld0 (cin c1) (cin c2) ⟨hN2,(nod x hmem (by unfold vW;rw [c1,c2];rfl)).symm⟩ (by omega) (by omega) (by omega)
  | true =>
  have hon:=vK.1 c2;cases c3:inB x.lo x.on x.hi with
  | false=>exact yTV ⟨ldD,lx,ld0,(cin c1),(cin c2)⟩ (cin c3) ⟨hN2,(nod x hmem (by unfold vW;rw [c1,c2,c3];rfl)).symm⟩ (by omega) (by omega) (by omega)
  | true =>
  by_cases c4:x.on+1440<x.hi
  ·exact yTY ⟨ldD,lx,ld0,(cin c1),(cin c2)⟩ (cin c3) ⟨hN2,(nod x hmem (by unfold vW;rw [c1,c2,c3,decide_eq_true c4];rfl)).symm⟩ (by omega) (by omega) (by omega) (by omega) c4
  cases c5:inB x.route 0 15 with
  | false=>exact yTW ⟨ldD,lx,ld0,(cin c1),(cin c2)⟩ (cin c3) (cin c5) ⟨hN2,(nod x hmem (by unfold vW;rw [c1,c2,c3,decide_eq_false c4,c5];rfl)).symm⟩ (by omega) (by omega) (by omega) (by omega) c4
  | true=>exact yTX ⟨ldD,lx,ld0,(cin c1),(cin c2)⟩ (cin c3) (cin c5) ⟨k-1,by omega,hN2,j+1,by omega,by omega,yBM hx ha (by unfold vW;rw [c1,c2,c3,decide_eq_false c4,c5];rfl)⟩ (by omega) (by omega) (by omega) (by omega) c4 (by omega)
 ·obtain ⟨hN1,hdu⟩:=h;refine yHY (Pr:=fun n τ=>New Z1 τ/\n=xC w) (P2:=fun τ=>New Z1 τ/\w.drivers.all (uN w)=true)
   (yHZ (Inv:=fun k i τ=>New Z1 τ/\∃ j:Nat,i=j/\j+k=m/\(w.drivers.take j).all (uN w)=true) ?_ m 0 _ ⟨hN1,0,rfl,by omega,rfl⟩)
   (fun n τ h=>yHV ⟨by rw [h.2],lw1 h.1⟩) (fun τ h=>yHW ⟨by rw [hf0,hh,hdu,h.2];rfl,lw1 h.1⟩)
  rintro k i τ ⟨hN,j,rfl,hk,ha⟩;have ldV:zB Tryz.prog τ 23 ⟨Z.re.y,2,none⟩=some (.slice q m d):=(hW hN.le).ld zBF rfl;by_cases hj:j<m;rotate_left
  ·exact yTK ldV ⟨hN,by rwa [List.take_of_length_le (by omega)] at ha⟩ (by omega)
  have LL:=L1.trans hN.le;obtain ⟨vs,hv1,hv2,hv3⟩:=hwp.drv;obtain ⟨qa,rfl,_⟩:=hv1.some hj;have hx:w.drivers[j]?=some w.drivers[j]:=by simp
  obtain ⟨x,hxe⟩:∃ x,x=w.drivers[j]:=⟨_,rfl⟩;rw [<- hxe] at hx;obtain ⟨v,g1,p',l',c',r',n',d',s',j',e',rfl,hkn,hlv,hws⟩:=hv3 j _ hx;have lx:zB Tryz.prog τ 76 (zJ qa (Int.toNat (j:Int)*6))=some (.agg ⟨zN p' l' c' r' n' d' s' j' e' x.off x.row x.used⟩):=(hv1.le LL).at rfl g1;have hmem:=List.mem_of_getElem? hx;have hsx:=hsh x hmem;have hN2:New Z1 ((τ.row (zN none 0 0 none 0 0 none 0 0 0 0 0) 6).own τ.y (zN p' l' c' r' n' d' s' j' e' x.off x.row x.used) 6):=hN.row'.own hN.le.y;have L2:=L1.trans hN2.le;have ld0:zB Tryz.prog ((τ.row (zN none 0 0 none 0 0 none 0 0 0 0 0) 6).own τ.y (zN p' l' c' r' n' d' s' j' e' x.off x.row x.used) 6) 3 ⟨Z.re.y,0,none⟩=some (iV w.days):=(hW hN2.le).ld zU rfl;have ld5:zB Tryz.prog ((τ.row (zN none 0 0 none 0 0 none 0 0 0 0 0) 6).own τ.y (zN p' l' c' r' n' d' s' j' e' x.off x.row x.used) 6) 3 ⟨Z.re.y,5,none⟩=some (iV w.hours):=(hW hN2.le).ld zU rfl;have k1:=zYB (c:=c') (lo:=0) (hi:=15) (SlV.le hkn L2) (by have:=hkn.len;omega);have k2:=zYB (c:=d') (lo:=0) (hi:=w.days-1) (SlV.le hlv L2) (by have:=hlv.len;omega);have k3:=zYB (c:=e') (lo:=0) (hi:=w.days-1) (SlV.le hws L2) (by have:=hws.len;omega);cases c1:xW x.knows 0 15 with
  | false=>rw [c1] at k1;exact yTL ldV lx k1 ⟨hN2,(nov x hmem (by unfold uN;rw [c1];rfl)).symm⟩ (by omega) (by omega)
  | true =>
  cases c2:xW x.leave 0 (w.days-1) with
  | false=>rw [c1] at k1;rw [c2] at k2;exact yTM ldV lx k1 ld0 k2 ⟨hN2,(nov x hmem (by unfold uN;rw [c1,c2];rfl)).symm⟩ (by omega) (by omega) (by omega)
  | true =>
  cases c3:xW x.wish 0 (w.days-1) with
  | false=>rw [c1] at k1;rw [c2] at k2;rw [c3] at k3;exact yTN ⟨ldV,lx,k1,ld0,k2⟩ k3 ⟨hN2,(nov x hmem (by unfold uN;rw [c1,c2,c3];rfl)).symm⟩ (by omega) (by omega) (by omega)
  | true =>
  rw [c1] at k1;rw [c2] at k2;rw [c3] at k3;cases c4:inB x.off (-10080) 1440 with
  | false=>exact yTO ⟨ldV,lx,k1,ld0,k2⟩ k3 (cin c4) ⟨hN2,(nov x hmem (by unfold uN;rw [c1,c2,c3,c4];rfl)).symm⟩ (by omega) (by omega) (by omega)
  | true =>
  cases c5:inB x.row 0 14 with
  | false=>exact yTP ⟨ldV,lx,k1,ld0,k2⟩ k3 (cin c4) (cin c5) ⟨hN2,(nov x hmem (by unfold uN;rw [c1,c2,c3,c4,c5];rfl)).symm⟩ (by omega) (by omega) (by omega)
  | true =>
  cases c6:inB x.used 0 w.hours with
  | false=>exact yTQ ⟨ldV,lx,k1,ld0,k2⟩ k3 (cin c4) (cin c5) ld5 (cin c6) ⟨hN2,(nov x hmem (by unfold uN;rw [c1,c2,c3,c4,c5,c6];rfl)).symm⟩ (by omega) (by omega) (by omega)
  | true=>exact yTR ⟨ldV,lx,k1,ld0,k2⟩ k3 (cin c4) (cin c5) ld5 (cin c6) ⟨k-1,by omega,hN2,j+1,by omega,by omega,yBM hx ha (by unfold uN;rw [c1,c2,c3,c4,c5,c6];rfl)⟩ (by omega) (by omega) (by omega) (by omega)
end
section
noncomputable section
variable (s:oAa) (s_l s_c:Nat) (f:FuncId) (v:Int) (f_a f_c:lVa) (aI bI:Int) (q0:St->Prop) (Q:Int->St->Prop) (Z:St) (q2:vPa) (Nx Qr:Int->St->Prop) (Q0:St->Prop)
def xBN:Code:=(Code.part [1,0,1,0,0] (qj 87))
def zQH:lNa:=[(0,.slice s s_l s_c),(1,.func (.func f) ⟨f_a⟩ ⟨f_c⟩),(7,iV (s_l:Int)),(8,iV aI)]
def xNJ:Alt:=⟨Int,.normal,fun t=>zQH s s_l s_c f f_a f_c t,fun t=>[],fun t Z=>Q t Z⟩
def yFQ (s:oAa) (s_l s_c:Nat) (f:FuncId) (f_a f_c:lVa) (bI:Int):lNa:=[(4,iV bI)]
def zSN:Alt:=⟨Int,.ret,fun t=>yFQ s s_l s_c f f_a f_c t,fun t=>[],fun t Z=>Q t Z⟩
def yFR (s:oAa) (s_l s_c:Nat) (f:FuncId) (f_a f_c:lVa):lNa:=[]
def zSO:Alt:=⟨Unit,(.exit 0),fun t=>yFR s s_l s_c f f_a f_c,fun t=>[],fun t Z=>q0 Z⟩
def zWO:Prop:=qk ql none xBN 19 (zQH s s_l s_c f f_a f_c aI) [] [xNJ s s_l s_c f f_a f_c Nx,zSN s s_l s_c f f_a f_c Qr,zSO s s_l s_c f f_a f_c Q0] Z
def xBO:Prop:=qm ql none xBN 19 (zQH s s_l s_c f f_a f_c aI) [] [zSN s s_l s_c f f_a f_c Qr,zSO s s_l s_c f f_a f_c Q0] Z
def yFS:Prop:=kZ ql (qj 87) [1,0,1,0] (qn 87 q2) .ret 19 (yFQ s s_l s_c f f_a f_c bI) Z
def yFT:Prop:=kZ ql (qj 87) [1,0,1,0] (qn 87 q2) (.exit 0) 19 (yFR s s_l s_c f f_a f_c) Z
def xBG:Code:=(Code.part [1,0,1,0,0] (qj 88))
def zQE:lNa:=[(0,.slice s s_l s_c),(1,.func (.func f) ⟨f_a⟩ ⟨f_c⟩),(7,iV (s_l:Int)),(8,iV aI)]
def xMX:Alt:=⟨Int,.normal,fun t=>zQE s s_l s_c f f_a f_c t,fun t=>[],fun t Z=>Q t Z⟩
def yFE (s:oAa) (s_l s_c:Nat) (f:FuncId) (f_a f_c:lVa) (bI:Int):lNa:=[(4,iV bI)]
def zSG:Alt:=⟨Int,.ret,fun t=>yFE s s_l s_c f f_a f_c t,fun t=>[],fun t Z=>Q t Z⟩
def yFF (s:oAa) (s_l s_c:Nat) (f:FuncId) (f_a f_c:lVa):lNa:=[]
def zSH:Alt:=⟨Unit,(.exit 0),fun t=>yFF s s_l s_c f f_a f_c,fun t=>[],fun t Z=>q0 Z⟩
def zWL:Prop:=qk ql none xBG 19 (zQE s s_l s_c f f_a f_c aI) [] [xMX s s_l s_c f f_a f_c Nx,zSG s s_l s_c f f_a f_c Qr,zSH s s_l s_c f f_a f_c Q0] Z
def xBH:Prop:=qm ql none xBG 19 (zQE s s_l s_c f f_a f_c aI) [] [zSG s s_l s_c f f_a f_c Qr,zSH s s_l s_c f f_a f_c Q0] Z
def yFG:Prop:=kZ ql (qj 88) [1,0,1,0] (qn 88 q2) .ret 19 (yFE s s_l s_c f f_a f_c bI) Z
def yFH:Prop:=kZ ql (qj 88) [1,0,1,0] (qn 88 q2) (.exit 0) 19 (yFF s s_l s_c f f_a f_c) Z
def xBL:Code:=(Code.part [1,0,1,0,0] (qj 105))
def zQG:lNa:=[(0,.slice s s_l s_c),(1,.func (.func f) ⟨[]⟩ ⟨f_c⟩),(7,iV (s_l:Int)),(8,iV aI)]
def xNF:Alt:=⟨Int,.normal,fun t=>zQG s s_l s_c f f_c t,fun t=>[],fun t Z=>Q t Z⟩
def yFM (s:oAa) (s_l s_c:Nat) (f:FuncId) (f_c:lVa) (bI:Int):lNa:=[(4,iV bI)]
def zSL:Alt:=⟨Int,.ret,fun t=>yFM s s_l s_c f f_c t,fun t=>[],fun t Z=>Q t Z⟩
def yFN (s:oAa) (s_l s_c:Nat) (f:FuncId) (f_c:lVa):lNa:=[]
def zSM:Alt:=⟨Unit,(.exit 0),fun t=>yFN s s_l s_c f f_c,fun t=>[],fun t Z=>q0 Z⟩
def zWN:Prop:=qk ql none xBL 19 (zQG s s_l s_c f f_c aI) [] [xNF s s_l s_c f f_c Nx,zSL s s_l s_c f f_c Qr,zSM s s_l s_c f f_c Q0] Z
def xBM:Prop:=qm ql none xBL 19 (zQG s s_l s_c f f_c aI) [] [zSL s s_l s_c f f_c Qr,zSM s s_l s_c f f_c Q0] Z
def yFO:Prop:=kZ ql (qj 105) [1,0,1,0] (qn 105 q2) .ret 19 (yFM s s_l s_c f f_c bI) Z
def yFP:Prop:=kZ ql (qj 105) [1,0,1,0] (qn 105 q2) (.exit 0) 19 (yFN s s_l s_c f f_c) Z
def yOT:Code:=(Code.part [1,0,1,0,0] (qj 83))
def zJW:lNa:=[(0,.slice s s_l s_c),(1,iV v),(7,iV (s_l:Int)),(8,iV aI)]
def xFS:Alt:=⟨Int,.normal,fun t=>zJW s s_l s_c v t,fun t=>[],fun t Z=>Q t Z⟩
def zZQ (s:oAa) (s_l s_c:Nat) (v bI:Int):lNa:=[(4,iV bI)]
def zOA:Alt:=⟨Int,.ret,fun t=>zZQ s s_l s_c v t,fun t=>[],fun t Z=>Q t Z⟩
def zZR (s:oAa) (s_l s_c:Nat) (v:Int):lNa:=[]
def zOB:Alt:=⟨Unit,(.exit 0),fun t=>zZR s s_l s_c v,fun t=>[],fun t Z=>q0 Z⟩
def zQD:Prop:=qk ql none yOT 19 (zJW s s_l s_c v aI) [] [xFS s s_l s_c v Nx,zOA s s_l s_c v Qr,zOB s s_l s_c v Q0] Z
def yOU:Prop:=qm ql none yOT 19 (zJW s s_l s_c v aI) [] [zOA s s_l s_c v Qr,zOB s s_l s_c v Q0] Z
def zZS:Prop:=kZ ql (qj 83) [1,0,1,0] (qn 83 q2) .ret 19 (zZQ s s_l s_c v bI) Z
def zZT:Prop:=kZ ql (qj 83) [1,0,1,0] (qn 83 q2) (.exit 0) 19 (zZR s s_l s_c v) Z
end
variable {s dR dQ eJ l qD qE qF af ae aT aZ bt q1:oAa} {s_l s_c cy dg cj cx dy dz l_l l_c lE cE lG cG lH cF ac ad aa ab aL aM aN aO aQ aR l1 c1:Nat} {f f1 right:FuncId} {f_c f_a d8 f1_a bK dD:lVa} {n1 fm f8 dA dB dP fk fj eK aI nA nH nF nG nE bI nI ao ar ay am aC aP az aA aG bL bN bH x n v:Int} {Z:St} {Q:vPa} {v0 s_a:Addr} {Inv:Nat->Int->St->Prop} {Qr Nx Pr:Int->St->Prop} {Q0 P0:St->Prop} {b3 b6 b2 b1:Bool}
theorem xUE (h1:qo 87 [.slice s s_l s_c,.func (.func f) ⟨f_a⟩ ⟨f_c⟩] Z (iV n1) Z) (nx:Q (.bool true) Z) (u1:0<=n1:=by omega):qi 67 [.slice s s_l s_c,.func (.func f) ⟨f_a⟩ ⟨f_c⟩] Z Q :=
 zG [.g,.g,.g,.c (iV n1) Z,.b true,.g] (kd (an2 h1 (yE u1) nx))
theorem xUD (h1:qo 87 [.slice s s_l s_c,.func (.func f) ⟨f_a⟩ ⟨f_c⟩] Z (iV n1) Z) (nx:Q (.bool false) Z) (u1:¬ 0<=n1:=by omega):qi 67 [.slice s s_l s_c,.func (.func f) ⟨f_a⟩ ⟨f_c⟩] Z Q :=
 zG [.g,.g,.g,.c (iV n1) Z,.b false,.g] (kd (an2 h1 (yH u1) nx))
theorem xPS:let s1:=Z.row (zF fm f8 dA dB dP) 5;∀ (h1:lz s1 86 v0 (.func (.func f1) ⟨f1_a⟩ ⟨d8⟩)) (h2:qo f1 (f1_a ++ (qh (zF fm f8 dA dB dP)::d8)) s1 (.bool true) s1) (nx:Q (.bool false) s1),qi 68 [qh (zF fm f8 dA dB dP),pz v0] Z Q:=
 let s1:=Z.row (zF fm f8 dA dB dP) 5;fun h1 h2 nx=>zG [.g,.g,.l (.func (.func f1) ⟨f1_a⟩ ⟨d8⟩),.l (qh (zF fm f8 dA dB dP)),.c (.bool true) s1,.g,.g] (kd (an3 h1 ((zC _ _ _).rw.ldN zNB uK (k:=0) rfl rfl (nle rfl):lz s1 85 (qg Z.y 0) (qh (zF fm f8 dA dB dP))) h2 nx))
theorem xPR:let s1:=Z.row (zF fm f8 dA dB dP) 5;∀ (h1:lz s1 86 v0 (.func (.func f1) ⟨f1_a⟩ ⟨d8⟩)) (h2:qo f1 (f1_a ++ (qh (zF fm f8 dA dB dP)::d8)) s1 (.bool false) s1) (nx:Q (.bool true) s1),qi 68 [qh (zF fm f8 dA dB dP),pz v0] Z Q:=
 let s1:=Z.row (zF fm f8 dA dB dP) 5;fun h1 h2 nx=>zG [.g,.g,.l (.func (.func f1) ⟨f1_a⟩ ⟨d8⟩),.l (qh (zF fm f8 dA dB dP)),.c (.bool false) s1,.g,.g] (kd (an3 h1 ((zC _ _ _).rw.ldN zNB uK (k:=0) rfl rfl (nle rfl):lz s1 85 (qg Z.y 0) (qh (zF fm f8 dA dB dP))) h2 nx))
theorem xTW (h1:qo 88 [.slice s s_l s_c,.func (.func f) ⟨f_a⟩ ⟨f_c⟩] Z (iV n1) Z) (nx:Q (.bool true) Z) (u1:0<=n1:=by omega):qi 69 [.slice s s_l s_c,.func (.func f) ⟨f_a⟩ ⟨f_c⟩] Z Q :=
 zG [.g,.g,.g,.c (iV n1) Z,.b true,.g] (kd (an2 h1 (yE u1) nx))
theorem xTV (h1:qo 88 [.slice s s_l s_c,.func (.func f) ⟨f_a⟩ ⟨f_c⟩] Z (iV n1) Z) (nx:Q (.bool false) Z) (u1:¬ 0<=n1:=by omega):qi 69 [.slice s s_l s_c,.func (.func f) ⟨f_a⟩ ⟨f_c⟩] Z Q :=
 zG [.g,.g,.g,.c (iV n1) Z,.b false,.g] (kd (an2 h1 (yH u1) nx))
theorem xPM:let s1:=Z.row (zN dR cy dg dQ cj cx eJ dy dz fk fj eK) 6;∀ (h1:lz s1 89 v0 (.func (.func f1) ⟨f1_a⟩ ⟨d8⟩)) (h2:qo f1 (f1_a ++ (qh (zN dR cy dg dQ cj cx eJ dy dz fk fj eK)::d8)) s1 (.bool true) s1) (nx:Q (.bool false) s1),qi 70 [qh (zN dR cy dg dQ cj cx eJ dy dz fk fj eK),pz v0] Z Q:=
 let s1:=Z.row (zN dR cy dg dQ cj cx eJ dy dz fk fj eK) 6;fun h1 h2 nx=>zG [.g,.g,.l (.func (.func f1) ⟨f1_a⟩ ⟨d8⟩),.l (qh (zN dR cy dg dQ cj cx eJ dy dz fk fj eK)),.c (.bool true) s1,.g,.g] (kd (an3 h1 ((zC _ _ _).rw.ldN yRH zRI (k:=0) rfl rfl (nle rfl):lz s1 88 (qg Z.y 0) (qh (zN dR cy dg dQ cj cx eJ dy dz fk fj eK))) h2 nx))
theorem xPL:let s1:=Z.row (zN dR cy dg dQ cj cx eJ dy dz fk fj eK) 6;∀ (h1:lz s1 89 v0 (.func (.func f1) ⟨f1_a⟩ ⟨d8⟩)) (h2:qo f1 (f1_a ++ (qh (zN dR cy dg dQ cj cx eJ dy dz fk fj eK)::d8)) s1 (.bool false) s1) (nx:Q (.bool true) s1),qi 70 [qh (zN dR cy dg dQ cj cx eJ dy dz fk fj eK),pz v0] Z Q:=
 let s1:=Z.row (zN dR cy dg dQ cj cx eJ dy dz fk fj eK) 6;fun h1 h2 nx=>zG [.g,.g,.l (.func (.func f1) ⟨f1_a⟩ ⟨d8⟩),.l (qh (zN dR cy dg dQ cj cx eJ dy dz fk fj eK)),.c (.bool false) s1,.g,.g] (kd (an3 h1 ((zC _ _ _).rw.ldN yRH zRI (k:=0) rfl rfl (nle rfl):lz s1 88 (qg Z.y 0) (qh (zN dR cy dg dQ cj cx eJ dy dz fk fj eK))) h2 nx))
theorem xVB:let Y1:=Z.row [.func (.func right) ⟨dD⟩ ⟨bK⟩] 1;∀ (h1:qo 67 [.slice l l_l l_c,.func (.func 68) ⟨[]⟩ ⟨[pq Z.y 0]⟩] Y1 (.bool true) Y1) (nx:Q (.bool false) Y1),qi 48 [.slice l l_l l_c,.func (.func right) ⟨dD⟩ ⟨bK⟩] Z Q:=
 fun h1 nx=>zG [.g,.g,.g,.g,.c (.bool true) (Z.row [.func (.func right) ⟨dD⟩ ⟨bK⟩] 1),.g,.g] (kd (ai h1 nx))
theorem xVA:let Y1:=Z.row [.func (.func right) ⟨dD⟩ ⟨bK⟩] 1;∀ (h1:qo 67 [.slice l l_l l_c,.func (.func 68) ⟨[]⟩ ⟨[pq Z.y 0]⟩] Y1 (.bool false) Y1) (nx:Q (.bool true) Y1),qi 48 [.slice l l_l l_c,.func (.func right) ⟨dD⟩ ⟨bK⟩] Z Q:=
 fun h1 nx=>zG [.g,.g,.g,.g,.c (.bool false) (Z.row [.func (.func right) ⟨dD⟩ ⟨bK⟩] 1),.g,.g] (kd (ai h1 nx))
theorem xUT:let Y1:=Z.row [.func (.func right) ⟨dD⟩ ⟨bK⟩] 1;∀ (h1:qo 69 [.slice l l_l l_c,.func (.func 70) ⟨[]⟩ ⟨[pq Z.y 0]⟩] Y1 (.bool true) Y1) (nx:Q (.bool false) Y1),qi 50 [.slice l l_l l_c,.func (.func right) ⟨dD⟩ ⟨bK⟩] Z Q:=
 fun h1 nx=>zG [.g,.g,.g,.g,.c (.bool true) (Z.row [.func (.func right) ⟨dD⟩ ⟨bK⟩] 1),.g,.g] (kd (ai h1 nx))
theorem xUS:let Y1:=Z.row [.func (.func right) ⟨dD⟩ ⟨bK⟩] 1;∀ (h1:qo 69 [.slice l l_l l_c,.func (.func 70) ⟨[]⟩ ⟨[pq Z.y 0]⟩] Y1 (.bool false) Y1) (nx:Q (.bool true) Y1),qi 50 [.slice l l_l l_c,.func (.func right) ⟨dD⟩ ⟨bK⟩] Z Q:=
 fun h1 nx=>zG [.g,.g,.g,.g,.c (.bool false) (Z.row [.func (.func right) ⟨dD⟩ ⟨bK⟩] 1),.g,.g] (kd (ai h1 nx))
theorem yWK (hb:∀ k aI Z,Inv k aI Z->zWO s s_l s_c f f_a f_c aI Z (NX1 Inv k) Qr Q0):∀ k aI Z,Inv k aI Z->xBO s s_l s_c f f_a f_c aI Z Qr Q0 :=
 xL (ai zBE (ai (xZ 0) trivial)) hb
theorem xNI (h1:lz Z 85 (zJ s_a (Int.toNat aI*5)) (qh (zF nA nH nF nG nE))) (h2:qo f (f_a ++ (qh (zF nA nH nF nG nE)::f_c)) Z (.bool true) Z) (nx:Qr aI Z) (u1:aI<(s_l:Int):=by omega) (u2:Ix aI s_l:=by omega):zWO (some s_a) s_l s_c f f_a f_c aI Z Nx Qr Q0 :=
 kO 1 aI [.b true,.g,.g,.g,.g,.g,.i,.l (qh (zF nA nH nF nG nE)),.c (.bool true) Z,.g,.g] (fun _ f=>an4 (zR u1) u2 h1 h2 f) nx
theorem xNH (h1:lz Z 85 (zJ s_a (Int.toNat aI*5)) (qh (zF nA nH nF nG nE))) (h2:qo f (f_a ++ (qh (zF nA nH nF nG nE)::f_c)) Z (.bool false) Z) (nx:Nx (aI+1) Z) (u1:aI<(s_l:Int):=by omega) (u2:Ix aI s_l:=by omega) (u3:I6 (aI+1):=by omega):zWO (some s_a) s_l s_c f f_a f_c aI Z Nx Qr Q0 :=
 kO 0 (aI+1) [.b true,.g,.g,.g,.g,.g,.i,.l (qh (zF nA nH nF nG nE)),.c (.bool false) Z,.n (aI+1),.g] (fun _ f=>an5 (zR u1) u2 h1 h2 (w64 u3) f) nx
theorem xNG (nx:Q0 Z) (u1:¬ aI<(s_l:Int):=by omega):zWO s s_l s_c f f_a f_c aI Z Nx Qr Q0 :=
 kO 2 () [.b false] (fun _ f=>ai (zS u1) f) nx
theorem xTJ (hL:xBO s s_l s_c f f_a f_c 0 Z Pr P0) (kr:∀ i4_1' Z',Pr i4_1' Z'->yFS s s_l s_c f f_a f_c i4_1' Z' Q) (k0:∀ Z',P0 Z'->yFT s s_l s_c f f_a f_c Z' Q):qi 87 [.slice s s_l s_c,.func (.func f) ⟨f_a⟩ ⟨f_c⟩] Z Q :=
 zG [.g,.g,.g,.g,.lf 19 (zQH s s_l s_c f f_a f_c 0) [zSN s s_l s_c f f_a f_c Pr,zSO s s_l s_c f f_a f_c P0]] (kd (ai (ai tt (ai (arf (zQH s s_l s_c f f_a f_c 0)) hL)) (ai (kz1 kr) (ai (kz0 k0) trivial))))
theorem yWI (nx:Q (iV bI) Z):yFS s s_l s_c f f_a f_c bI Z Q :=
 sK [] nx
theorem yWJ (nx:Q (iV (-1)) Z):yFT s s_l s_c f f_a f_c Z Q :=
 sK [.g] nx
theorem yWC (hb:∀ k aI Z,Inv k aI Z->zWL s s_l s_c f f_a f_c aI Z (NX1 Inv k) Qr Q0):∀ k aI Z,Inv k aI Z->xBH s s_l s_c f f_a f_c aI Z Qr Q0 :=
 xL (ai zBE (ai (xZ 0) trivial)) hb
theorem xMW (h1:lz Z 88 (zJ s_a (Int.toNat aI*6)) (qh (zN qD lE cE qE lG cG qF lH cF nG nE nI))) (h2:qo f (f_a ++ (qh (zN qD lE cE qE lG cG qF lH cF nG nE nI)::f_c)) Z (.bool true) Z) (nx:Qr aI Z) (u1:aI<(s_l:Int):=by omega) (u2:Ix aI s_l:=by omega):zWL (some s_a) s_l s_c f f_a f_c aI Z Nx Qr Q0 :=
 kO 1 aI [.b true,.g,.g,.g,.g,.g,.i,.l (qh (zN qD lE cE qE lG cG qF lH cF nG nE nI)),.c (.bool true) Z,.g,.g] (fun _ f=>an4 (zR u1) u2 h1 h2 f) nx
theorem xMV (h1:lz Z 88 (zJ s_a (Int.toNat aI*6)) (qh (zN qD lE cE qE lG cG qF lH cF nG nE nI))) (h2:qo f (f_a ++ (qh (zN qD lE cE qE lG cG qF lH cF nG nE nI)::f_c)) Z (.bool false) Z) (nx:Nx (aI+1) Z) (u1:aI<(s_l:Int):=by omega) (u2:Ix aI s_l:=by omega) (u3:I6 (aI+1):=by omega):zWL (some s_a) s_l s_c f f_a f_c aI Z Nx Qr Q0 :=
 kO 0 (aI+1) [.b true,.g,.g,.g,.g,.g,.i,.l (qh (zN qD lE cE qE lG cG qF lH cF nG nE nI)),.c (.bool false) Z,.n (aI+1),.g] (fun _ f=>an5 (zR u1) u2 h1 h2 (w64 u3) f) nx
theorem xMU (nx:Q0 Z) (u1:¬ aI<(s_l:Int):=by omega):zWL s s_l s_c f f_a f_c aI Z Nx Qr Q0 :=
 kO 2 () [.b false] (fun _ f=>ai (zS u1) f) nx
theorem xTH (hL:xBH s s_l s_c f f_a f_c 0 Z Pr P0) (kr:∀ i4_1' Z',Pr i4_1' Z'->yFG s s_l s_c f f_a f_c i4_1' Z' Q) (k0:∀ Z',P0 Z'->yFH s s_l s_c f f_a f_c Z' Q):qi 88 [.slice s s_l s_c,.func (.func f) ⟨f_a⟩ ⟨f_c⟩] Z Q :=
 zG [.g,.g,.g,.g,.lf 19 (zQE s s_l s_c f f_a f_c 0) [zSG s s_l s_c f f_a f_c Pr,zSH s s_l s_c f f_a f_c P0]] (kd (ai (ai tt (ai (arf (zQE s s_l s_c f f_a f_c 0)) hL)) (ai (kz1 kr) (ai (kz0 k0) trivial))))
theorem yWA (nx:Q (iV bI) Z):yFG s s_l s_c f f_a f_c bI Z Q :=
 sK [] nx
theorem yWB (nx:Q (iV (-1)) Z):yFH s s_l s_c f f_a f_c Z Q :=
 sK [.g] nx
theorem xIK:let s1:=Z.row (wkc ao af ac ad ae aa ab ar ay am) 6;let s2:=s1.row (zF aC aP az aA aG) 5;∀ (h1:qo 47 [iV aC,iV 0,iV (ao-1)] s2 (.bool true) s2) (h2:qo 47 [iV aP,iV 0,iV 1439] s2 (.bool true) s2) (h3:qo 47 [iV aG,iV 0,iV 15] s2 (.bool b3) s2) (nx:Q (.bool b3) s2) (u1:I6 (ao-1):=by omega) (u2:aP<=az:=by omega) (u3:az<=aA:=by omega) (u4:I6 (aP+1440):=by omega) (u5:aA<=(aP+1440):=by omega),qi 49 [qh (wkc ao af ac ad ae aa ab ar ay am),qh (zF aC aP az aA aG)] Z Q:=
 let s1:=Z.row (wkc ao af ac ad ae aa ab ar ay am) 6;let s2:=s1.row (zF aC aP az aA aG) 5;let s3:=Z.y+1;fun h1 h2 h3 nx u1 u2 u3 u4 u5=>zG [.g,.g,.g,.g,.l (iV aC),.g,.l (iV ao),.n (ao-1),.c (.bool true) s2,.g,.g,.l (iV aP),.c (.bool true) s2,.g,.g,.g,.l (iV aP),.g,.g,.l (iV az),.b true,.g,.g,.g,.g,.l (iV az),.g,.g,.l (iV aA),.b true,.g,.g,.g,.g,.l (iV aA),.g,.l (iV aP),.n (aP+1440),.b true,.g,.g,.g,.l (iV aG),.c (.bool b3) s2,.g,.g] (kd (an6 ((zC _ _ _).rw.ld zU (k:=0) rfl:lz s2 3 (qg s3 0) (iV aC)) ((zC _ _ _).row.rw.ld zU (k:=0) rfl:lz s2 3 (qg Z.y 0) (iV ao)) (w64 u1) h1 ((zC _ _ _).rw.ld zU (k:=1) rfl:lz s2 3 (qg s3 1) (iV aP)) h2 (an6 ((zC _ _ _).rw.ld zU (k:=1) rfl:lz s2 3 (qg s3 1) (iV aP)) ((zC _ _ _).rw.ld zU (k:=2) rfl:lz s2 3 (qg s3 2) (iV az)) (yE u2) ((zC _ _ _).rw.ld zU (k:=2) rfl:lz s2 3 (qg s3 2) (iV az)) ((zC _ _ _).rw.ld zU (k:=3) rfl:lz s2 3 (qg s3 3) (iV aA)) (yE u3) (an6 ((zC _ _ _).rw.ld zU (k:=3) rfl:lz s2 3 (qg s3 3) (iV aA)) ((zC _ _ _).rw.ld zU (k:=1) rfl:lz s2 3 (qg s3 1) (iV aP)) (w64 u4) (yE u5) ((zC _ _ _).rw.ld zU (k:=4) rfl:lz s2 3 (qg s3 4) (iV aG)) h3 nx))))
theorem xIJ:let s1:=Z.row (wkc ao af ac ad ae aa ab ar ay am) 6;let s2:=s1.row (zF aC aP az aA aG) 5;∀ (h1:qo 47 [iV aC,iV 0,iV (ao-1)] s2 (.bool true) s2) (h2:qo 47 [iV aP,iV 0,iV 1439] s2 (.bool true) s2) (nx:Q (.bool false) s2) (u1:I6 (ao-1):=by omega) (u2:aP<=az:=by omega) (u3:az<=aA:=by omega) (u4:I6 (aP+1440):=by omega) (u5:¬ aA<=(aP+1440):=by omega),qi 49 [qh (wkc ao af ac ad ae aa ab ar ay am),qh (zF aC aP az aA aG)] Z Q:=
 let s1:=Z.row (wkc ao af ac ad ae aa ab ar ay am) 6;let s2:=s1.row (zF aC aP az aA aG) 5;let s3:=Z.y+1;fun h1 h2 nx u1 u2 u3 u4 u5=>zG [.g,.g,.g,.g,.l (iV aC),.g,.l (iV ao),.n (ao-1),.c (.bool true) s2,.g,.g,.l (iV aP),.c (.bool true) s2,.g,.g,.g,.l (iV aP),.g,.g,.l (iV az),.b true,.g,.g,.g,.g,.l (iV az),.g,.g,.l (iV aA),.b true,.g,.g,.g,.g,.l (iV aA),.g,.l (iV aP),.n (aP+1440),.b false,.g,.g,.g,.g] (kd (an4 ((zC _ _ _).rw.ld zU (k:=0) rfl:lz s2 3 (qg s3 0) (iV aC)) ((zC _ _ _).row.rw.ld zU (k:=0) rfl:lz s2 3 (qg Z.y 0) (iV ao)) (w64 u1) h1 (an6 ((zC _ _ _).rw.ld zU (k:=1) rfl:lz s2 3 (qg s3 1) (iV aP)) h2 ((zC _ _ _).rw.ld zU (k:=1) rfl:lz s2 3 (qg s3 1) (iV aP)) ((zC _ _ _).rw.ld zU (k:=2) rfl:lz s2 3 (qg s3 2) (iV az)) (yE u2) ((zC _ _ _).rw.ld zU (k:=2) rfl:lz s2 3 (qg s3 2) (iV az)) (an6 ((zC _ _ _).rw.ld zU (k:=3) rfl:lz s2 3 (qg s3 3) (iV aA)) (yE u3) ((zC _ _ _).rw.ld zU (k:=3) rfl:lz s2 3 (qg s3 3) (iV aA)) ((zC _ _ _).rw.ld zU (k:=1) rfl:lz s2 3 (qg s3 1) (iV aP)) (w64 u4) (yH u5) nx))))
theorem xII:let s1:=Z.row (wkc ao af ac ad ae aa ab ar ay am) 6;let s2:=s1.row (zF aC aP az aA aG) 5;∀ (h1:qo 47 [iV aC,iV 0,iV (ao-1)] s2 (.bool true) s2) (h2:qo 47 [iV aP,iV 0,iV 1439] s2 (.bool true) s2) (nx:Q (.bool false) s2) (u1:I6 (ao-1):=by omega) (u2:aP<=az:=by omega) (u3:¬ az<=aA:=by omega),qi 49 [qh (wkc ao af ac ad ae aa ab ar ay am),qh (zF aC aP az aA aG)] Z Q:=
 let s1:=Z.row (wkc ao af ac ad ae aa ab ar ay am) 6;let s2:=s1.row (zF aC aP az aA aG) 5;let s3:=Z.y+1;fun h1 h2 nx u1 u2 u3=>zG [.g,.g,.g,.g,.l (iV aC),.g,.l (iV ao),.n (ao-1),.c (.bool true) s2,.g,.g,.l (iV aP),.c (.bool true) s2,.g,.g,.g,.l (iV aP),.g,.g,.l (iV az),.b true,.g,.g,.g,.g,.l (iV az),.g,.g,.l (iV aA),.b false,.g,.g,.g,.g,.g,.g] (kd (an6 ((zC _ _ _).rw.ld zU (k:=0) rfl:lz s2 3 (qg s3 0) (iV aC)) ((zC _ _ _).row.rw.ld zU (k:=0) rfl:lz s2 3 (qg Z.y 0) (iV ao)) (w64 u1) h1 ((zC _ _ _).rw.ld zU (k:=1) rfl:lz s2 3 (qg s3 1) (iV aP)) h2 (an6 ((zC _ _ _).rw.ld zU (k:=1) rfl:lz s2 3 (qg s3 1) (iV aP)) ((zC _ _ _).rw.ld zU (k:=2) rfl:lz s2 3 (qg s3 2) (iV az)) (yE u2) ((zC _ _ _).rw.ld zU (k:=2) rfl:lz s2 3 (qg s3 2) (iV az)) ((zC _ _ _).rw.ld zU (k:=3) rfl:lz s2 3 (qg s3 3) (iV aA)) (yH u3) nx)))
theorem xIH:let s1:=Z.row (wkc ao af ac ad ae aa ab ar ay am) 6;let s2:=s1.row (zF aC aP az aA aG) 5;∀ (h1:qo 47 [iV aC,iV 0,iV (ao-1)] s2 (.bool true) s2) (h2:qo 47 [iV aP,iV 0,iV 1439] s2 (.bool true) s2) (nx:Q (.bool false) s2) (u1:I6 (ao-1):=by omega) (u2:¬ aP<=az:=by omega),qi 49 [qh (wkc ao af ac ad ae aa ab ar ay am),qh (zF aC aP az aA aG)] Z Q:=
 let s1:=Z.row (wkc ao af ac ad ae aa ab ar ay am) 6;let s2:=s1.row (zF aC aP az aA aG) 5;let s3:=Z.y+1;fun h1 h2 nx u1 u2=>zG [.g,.g,.g,.g,.l (iV aC),.g,.l (iV ao),.n (ao-1),.c (.bool true) s2,.g,.g,.l (iV aP),.c (.bool true) s2,.g,.g,.g,.l (iV aP),.g,.g,.l (iV az),.b false,.g,.g,.g,.g,.g,.g,.g,.g] (kd (an3 ((zC _ _ _).rw.ld zU (k:=0) rfl:lz s2 3 (qg s3 0) (iV aC)) ((zC _ _ _).row.rw.ld zU (k:=0) rfl:lz s2 3 (qg Z.y 0) (iV ao)) (w64 u1) (an6 h1 ((zC _ _ _).rw.ld zU (k:=1) rfl:lz s2 3 (qg s3 1) (iV aP)) h2 ((zC _ _ _).rw.ld zU (k:=1) rfl:lz s2 3 (qg s3 1) (iV aP)) ((zC _ _ _).rw.ld zU (k:=2) rfl:lz s2 3 (qg s3 2) (iV az)) (yH u2) nx)))
theorem xIG:let s1:=Z.row (wkc ao af ac ad ae aa ab ar ay am) 6;let s2:=s1.row (zF aC aP az aA aG) 5;∀ (h1:qo 47 [iV aC,iV 0,iV (ao-1)] s2 (.bool true) s2) (h2:qo 47 [iV aP,iV 0,iV 1439] s2 (.bool false) s2) (nx:Q (.bool false) s2) (u1:I6 (ao-1):=by omega),qi 49 [qh (wkc ao af ac ad ae aa ab ar ay am),qh (zF aC aP az aA aG)] Z Q:=
 let s1:=Z.row (wkc ao af ac ad ae aa ab ar ay am) 6;let s2:=s1.row (zF aC aP az aA aG) 5;fun h1 h2 nx u1=>zG [.g,.g,.g,.g,.l (iV aC),.g,.l (iV ao),.n (ao-1),.c (.bool true) s2,.g,.g,.l (iV aP),.c (.bool false) s2,.g,.g,.g,.g,.g,.g,.g,.g,.g,.g] (kd (an6 ((zC _ _ _).rw.ld zU (k:=0) rfl:lz s2 3 ⟨(Z.y+1),0,none⟩ (iV aC)) ((zC _ _ _).row.rw.ld zU (k:=0) rfl:lz s2 3 (qg Z.y 0) (iV ao)) (w64 u1) h1 ((zC _ _ _).rw.ld zU (k:=1) rfl:lz s2 3 ⟨(Z.y+1),1,none⟩ (iV aP)) h2 nx))
theorem xIF:let s1:=Z.row (wkc ao af ac ad ae aa ab ar ay am) 6;let s2:=s1.row (zF aC aP az aA aG) 5;∀ (h1:qo 47 [iV aC,iV 0,iV (ao-1)] s2 (.bool false) s2) (nx:Q (.bool false) s2) (u1:I6 (ao-1):=by omega),qi 49 [qh (wkc ao af ac ad ae aa ab ar ay am),qh (zF aC aP az aA aG)] Z Q:=
 let s1:=Z.row (wkc ao af ac ad ae aa ab ar ay am) 6;let s2:=s1.row (zF aC aP az aA aG) 5;fun h1 nx u1=>zG [.g,.g,.g,.g,.l (iV aC),.g,.l (iV ao),.n (ao-1),.c (.bool false) s2,.g,.g,.g,.g,.g,.g,.g,.g,.g,.g,.g] (kd (an4 ((zC _ _ _).rw.ld zU (k:=0) rfl:lz s2 3 ⟨(Z.y+1),0,none⟩ (iV aC)) ((zC _ _ _).row.rw.ld zU (k:=0) rfl:lz s2 3 (qg Z.y 0) (iV ao)) (w64 u1) h1 nx))
theorem ySD:let s1:=Z.row (wkc ao af ac ad ae aa ab ar ay am) 6;let s2:=s1.row (zN aT aL aM aZ aN aO bt aQ aR bL bN bH) 6;∀ (h1:qo 71 [.slice aT aL aM,iV 0,iV 15] s2 (.bool true) s2) (h2:qo 71 [.slice aZ aN aO,iV 0,iV (ao-1)] s2 (.bool true) s2) (h3:qo 71 [.slice bt aQ aR,iV 0,iV (ao-1)] s2 (.bool true) s2) (h4:qo 47 [iV bL,iV (-10080),iV 1440] s2 (.bool true) s2) (h5:qo 47 [iV bN,iV 0,iV 14] s2 (.bool true) s2) (h6:qo 47 [iV bH,iV 0,iV am] s2 (.bool b6) s2) (nx:Q (.bool b6) s2) (u1:I6 (ao-1):=by omega),qi 51 [qh (wkc ao af ac ad ae aa ab ar ay am),qh (zN aT aL aM aZ aN aO bt aQ aR bL bN bH)] Z Q:=
 let s1:=Z.row (wkc ao af ac ad ae aa ab ar ay am) 6;let s2:=s1.row (zN aT aL aM aZ aN aO bt aQ aR bL bN bH) 6;let s3:=Z.y+1;fun h1 h2 h3 h4 h5 h6 nx u1=>zG [.g,.g,.g,.g,.l (.slice aT aL aM),.c (.bool true) s2,.g,.g,.l (.slice aZ aN aO),.g,.l (iV ao),.n (ao-1),.c (.bool true) s2,.g,.g,.g,.l (.slice bt aQ aR),.g,.l (iV ao),.n (ao-1),.c (.bool true) s2,.g,.g,.g,.l (iV bL),.c (.bool true) s2,.g,.g,.g,.l (iV bN),.c (.bool true) s2,.g,.g,.g,.l (iV bH),.g,.l (iV am),.c (.bool b6) s2,.g,.g] (kd (an5 ((zC _ _ _).rw.ld yV (k:=0) rfl:lz s2 26 (qg s3 0) (.slice aT aL aM)) h1 ((zC _ _ _).rw.ld yV (k:=1) rfl:lz s2 26 (qg s3 1) (.slice aZ aN aO)) ((zC _ _ _).row.rw.ld zU (k:=0) rfl:lz s2 3 (qg Z.y 0) (iV ao)) (w64 u1) (an6 h2 ((zC _ _ _).rw.ld yV (k:=2) rfl:lz s2 26 (qg s3 2) (.slice bt aQ aR)) ((zC _ _ _).row.rw.ld zU (k:=0) rfl:lz s2 3 (qg Z.y 0) (iV ao)) (w64 u1) h3 ((zC _ _ _).rw.ld zU (k:=3) rfl:lz s2 3 (qg s3 3) (iV bL)) (an6 h4 ((zC _ _ _).rw.ld zU (k:=4) rfl:lz s2 3 (qg s3 4) (iV bN)) h5 ((zC _ _ _).rw.ld zU (k:=5) rfl:lz s2 3 (qg s3 5) (iV bH)) ((zC _ _ _).row.rw.ld zU (k:=5) rfl:lz s2 3 (qg Z.y 5) (iV am)) h6 nx))))
theorem ySC:let s1:=Z.row (wkc ao af ac ad ae aa ab ar ay am) 6;let s2:=s1.row (zN aT aL aM aZ aN aO bt aQ aR bL bN bH) 6;∀ (h1:qo 71 [.slice aT aL aM,iV 0,iV 15] s2 (.bool true) s2) (h2:qo 71 [.slice aZ aN aO,iV 0,iV (ao-1)] s2 (.bool true) s2) (h3:qo 71 [.slice bt aQ aR,iV 0,iV (ao-1)] s2 (.bool true) s2) (h4:qo 47 [iV bL,iV (-10080),iV 1440] s2 (.bool true) s2) (h5:qo 47 [iV bN,iV 0,iV 14] s2 (.bool false) s2) (nx:Q (.bool false) s2) (u1:I6 (ao-1):=by omega),qi 51 [qh (wkc ao af ac ad ae aa ab ar ay am),qh (zN aT aL aM aZ aN aO bt aQ aR bL bN bH)] Z Q:=
 let s1:=Z.row (wkc ao af ac ad ae aa ab ar ay am) 6;let s2:=s1.row (zN aT aL aM aZ aN aO bt aQ aR bL bN bH) 6;let s3:=Z.y+1;fun h1 h2 h3 h4 h5 nx u1=>zG [.g,.g,.g,.g,.l (.slice aT aL aM),.c (.bool true) s2,.g,.g,.l (.slice aZ aN aO),.g,.l (iV ao),.n (ao-1),.c (.bool true) s2,.g,.g,.g,.l (.slice bt aQ aR),.g,.l (iV ao),.n (ao-1),.c (.bool true) s2,.g,.g,.g,.l (iV bL),.c (.bool true) s2,.g,.g,.g,.l (iV bN),.c (.bool false) s2,.g,.g,.g,.g] (kd (an2 ((zC _ _ _).rw.ld yV (k:=0) rfl:lz s2 26 (qg s3 0) (.slice aT aL aM)) h1 (an6 ((zC _ _ _).rw.ld yV (k:=1) rfl:lz s2 26 (qg s3 1) (.slice aZ aN aO)) ((zC _ _ _).row.rw.ld zU (k:=0) rfl:lz s2 3 (qg Z.y 0) (iV ao)) (w64 u1) h2 ((zC _ _ _).rw.ld yV (k:=2) rfl:lz s2 26 (qg s3 2) (.slice bt aQ aR)) ((zC _ _ _).row.rw.ld zU (k:=0) rfl:lz s2 3 (qg Z.y 0) (iV ao)) (an6 (w64 u1) h3 ((zC _ _ _).rw.ld zU (k:=3) rfl:lz s2 3 (qg s3 3) (iV bL)) h4 ((zC _ _ _).rw.ld zU (k:=4) rfl:lz s2 3 (qg s3 4) (iV bN)) h5 nx))))
theorem ySB:let s1:=Z.row (wkc ao af ac ad ae aa ab ar ay am) 6;let s2:=s1.row (zN aT aL aM aZ aN aO bt aQ aR bL bN bH) 6;∀ (h1:qo 71 [.slice aT aL aM,iV 0,iV 15] s2 (.bool true) s2) (h2:qo 71 [.slice aZ aN aO,iV 0,iV (ao-1)] s2 (.bool true) s2) (h3:qo 71 [.slice bt aQ aR,iV 0,iV (ao-1)] s2 (.bool true) s2) (h4:qo 47 [iV bL,iV (-10080),iV 1440] s2 (.bool false) s2) (nx:Q (.bool false) s2) (u1:I6 (ao-1):=by omega),qi 51 [qh (wkc ao af ac ad ae aa ab ar ay am),qh (zN aT aL aM aZ aN aO bt aQ aR bL bN bH)] Z Q:=
 let s1:=Z.row (wkc ao af ac ad ae aa ab ar ay am) 6;let s2:=s1.row (zN aT aL aM aZ aN aO bt aQ aR bL bN bH) 6;let s3:=Z.y+1;fun h1 h2 h3 h4 nx u1=>zG [.g,.g,.g,.g,.l (.slice aT aL aM),.c (.bool true) s2,.g,.g,.l (.slice aZ aN aO),.g,.l (iV ao),.n (ao-1),.c (.bool true) s2,.g,.g,.g,.l (.slice bt aQ aR),.g,.l (iV ao),.n (ao-1),.c (.bool true) s2,.g,.g,.g,.l (iV bL),.c (.bool false) s2,.g,.g,.g,.g,.g,.g] (kd (an6 ((zC _ _ _).rw.ld yV (k:=0) rfl:lz s2 26 (qg s3 0) (.slice aT aL aM)) h1 ((zC _ _ _).rw.ld yV (k:=1) rfl:lz s2 26 (qg s3 1) (.slice aZ aN aO)) ((zC _ _ _).row.rw.ld zU (k:=0) rfl:lz s2 3 (qg Z.y 0) (iV ao)) (w64 u1) h2 (an6 ((zC _ _ _).rw.ld yV (k:=2) rfl:lz s2 26 (qg s3 2) (.slice bt aQ aR)) ((zC _ _ _).row.rw.ld zU (k:=0) rfl:lz s2 3 (qg Z.y 0) (iV ao)) (w64 u1) h3 ((zC _ _ _).rw.ld zU (k:=3) rfl:lz s2 3 (qg s3 3) (iV bL)) h4 nx)))
theorem ySA:let s1:=Z.row (wkc ao af ac ad ae aa ab ar ay am) 6;let s2:=s1.row (zN aT aL aM aZ aN aO bt aQ aR bL bN bH) 6;∀ (h1:qo 71 [.slice aT aL aM,iV 0,iV 15] s2 (.bool true) s2) (h2:qo 71 [.slice aZ aN aO,iV 0,iV (ao-1)] s2 (.bool true) s2) (h3:qo 71 [.slice bt aQ aR,iV 0,iV (ao-1)] s2 (.bool false) s2) (nx:Q (.bool false) s2) (u1:I6 (ao-1):=by omega),qi 51 [qh (wkc ao af ac ad ae aa ab ar ay am),qh (zN aT aL aM aZ aN aO bt aQ aR bL bN bH)] Z Q:=
 let s1:=Z.row (wkc ao af ac ad ae aa ab ar ay am) 6;let s2:=s1.row (zN aT aL aM aZ aN aO bt aQ aR bL bN bH) 6;let s3:=Z.y+1;fun h1 h2 h3 nx u1=>zG [.g,.g,.g,.g,.l (.slice aT aL aM),.c (.bool true) s2,.g,.g,.l (.slice aZ aN aO),.g,.l (iV ao),.n (ao-1),.c (.bool true) s2,.g,.g,.g,.l (.slice bt aQ aR),.g,.l (iV ao),.n (ao-1),.c (.bool false) s2,.g,.g,.g,.g,.g,.g,.g,.g] (kd (an4 ((zC _ _ _).rw.ld yV (k:=0) rfl:lz s2 26 (qg s3 0) (.slice aT aL aM)) h1 ((zC _ _ _).rw.ld yV (k:=1) rfl:lz s2 26 (qg s3 1) (.slice aZ aN aO)) ((zC _ _ _).row.rw.ld zU (k:=0) rfl:lz s2 3 (qg Z.y 0) (iV ao)) (an6 (w64 u1) h2 ((zC _ _ _).rw.ld yV (k:=2) rfl:lz s2 26 (qg s3 2) (.slice bt aQ aR)) ((zC _ _ _).row.rw.ld zU (k:=0) rfl:lz s2 3 (qg Z.y 0) (iV ao)) (w64 u1) h3 nx)))
theorem yRZ:let s1:=Z.row (wkc ao af ac ad ae aa ab ar ay am) 6;let s2:=s1.row (zN aT aL aM aZ aN aO bt aQ aR bL bN bH) 6;∀ (h1:qo 71 [.slice aT aL aM,iV 0,iV 15] s2 (.bool true) s2) (h2:qo 71 [.slice aZ aN aO,iV 0,iV (ao-1)] s2 (.bool false) s2) (nx:Q (.bool false) s2) (u1:I6 (ao-1):=by omega),qi 51 [qh (wkc ao af ac ad ae aa ab ar ay am),qh (zN aT aL aM aZ aN aO bt aQ aR bL bN bH)] Z Q:=
 let s1:=Z.row (wkc ao af ac ad ae aa ab ar ay am) 6;let s2:=s1.row (zN aT aL aM aZ aN aO bt aQ aR bL bN bH) 6;fun h1 h2 nx u1=>zG [.g,.g,.g,.g,.l (.slice aT aL aM),.c (.bool true) s2,.g,.g,.l (.slice aZ aN aO),.g,.l (iV ao),.n (ao-1),.c (.bool false) s2,.g,.g,.g,.g,.g,.g,.g,.g,.g,.g] (kd (an6 ((zC _ _ _).rw.ld yV (k:=0) rfl:lz s2 26 ⟨(Z.y+1),0,none⟩ (.slice aT aL aM)) h1 ((zC _ _ _).rw.ld yV (k:=1) rfl:lz s2 26 ⟨(Z.y+1),1,none⟩ (.slice aZ aN aO)) ((zC _ _ _).row.rw.ld zU (k:=0) rfl:lz s2 3 (qg Z.y 0) (iV ao)) (w64 u1) h2 nx))
theorem yRY:let s1:=Z.row (wkc ao af ac ad ae aa ab ar ay am) 6;let s2:=s1.row (zN aT aL aM aZ aN aO bt aQ aR bL bN bH) 6;∀ (h1:qo 71 [.slice aT aL aM,iV 0,iV 15] s2 (.bool false) s2) (nx:Q (.bool false) s2),qi 51 [qh (wkc ao af ac ad ae aa ab ar ay am),qh (zN aT aL aM aZ aN aO bt aQ aR bL bN bH)] Z Q:=
 let s1:=Z.row (wkc ao af ac ad ae aa ab ar ay am) 6;let s2:=s1.row (zN aT aL aM aZ aN aO bt aQ aR bL bN bH) 6;fun h1 nx=>zG [.g,.g,.g,.g,.l (.slice aT aL aM),.c (.bool false) s2,.g,.g,.g,.g,.g,.g,.g,.g,.g,.g,.g] (kd (an2 ((zC _ _ _).rw.ld yV (k:=0) rfl:lz s2 26 ⟨(Z.y+1),0,none⟩ (.slice aT aL aM)) h1 nx))
theorem xUY:let Y1:=Z.row [.func (.func right) ⟨[]⟩ ⟨bK⟩] 1;∀ (h1:qo 89 [.slice l l_l l_c,.func (.func 90) ⟨[]⟩ ⟨[pq Z.y 0]⟩] Y1 (.bool true) Y1) (nx:Q (.bool false) Y1),qi 72 [.slice l l_l l_c,.func (.func right) ⟨[]⟩ ⟨bK⟩] Z Q:=
 fun h1 nx=>zG [.g,.g,.g,.g,.c (.bool true) (Z.row [.func (.func right) ⟨[]⟩ ⟨bK⟩] 1),.g,.g] (kd (ai h1 nx))
theorem xUX:let Y1:=Z.row [.func (.func right) ⟨[]⟩ ⟨bK⟩] 1;∀ (h1:qo 89 [.slice l l_l l_c,.func (.func 90) ⟨[]⟩ ⟨[pq Z.y 0]⟩] Y1 (.bool false) Y1) (nx:Q (.bool true) Y1),qi 72 [.slice l l_l l_c,.func (.func right) ⟨[]⟩ ⟨bK⟩] Z Q:=
 fun h1 nx=>zG [.g,.g,.g,.g,.c (.bool false) (Z.row [.func (.func right) ⟨[]⟩ ⟨bK⟩] 1),.g,.g] (kd (ai h1 nx))
theorem xUA (h1:qo 105 [.slice s s_l s_c,.func (.func f) ⟨[]⟩ ⟨f_c⟩] Z (iV n1) Z) (nx:Q (.bool true) Z) (u1:0<=n1:=by omega):qi 89 [.slice s s_l s_c,.func (.func f) ⟨[]⟩ ⟨f_c⟩] Z Q :=
 zG [.g,.g,.g,.c (iV n1) Z,.b true,.g] (kd (an2 h1 (yE u1) nx))
theorem xTZ (h1:qo 105 [.slice s s_l s_c,.func (.func f) ⟨[]⟩ ⟨f_c⟩] Z (iV n1) Z) (nx:Q (.bool false) Z) (u1:¬ 0<=n1:=by omega):qi 89 [.slice s s_l s_c,.func (.func f) ⟨[]⟩ ⟨f_c⟩] Z Q :=
 zG [.g,.g,.g,.c (iV n1) Z,.b false,.g] (kd (an2 h1 (yH u1) nx))
theorem xPQ (h1:lz Z 105 v0 (.func (.func f1) ⟨[]⟩ ⟨d8⟩)) (h2:qo f1 (iV x::d8) Z (.bool true) Z) (nx:Q (.bool false) Z):qi 90 [iV x,pz v0] Z Q :=
 zG [.g,.l (.func (.func f1) ⟨[]⟩ ⟨d8⟩),.g,.c (.bool true) Z,.g,.g] (kd (an2 h1 h2 nx))
theorem xPP (h1:lz Z 105 v0 (.func (.func f1) ⟨[]⟩ ⟨d8⟩)) (h2:qo f1 (iV x::d8) Z (.bool false) Z) (nx:Q (.bool true) Z):qi 90 [iV x,pz v0] Z Q :=
 zG [.g,.l (.func (.func f1) ⟨[]⟩ ⟨d8⟩),.g,.c (.bool false) Z,.g,.g] (kd (an2 h1 h2 nx))
theorem yWH (hb:∀ k aI Z,Inv k aI Z->zWN s s_l s_c f f_c aI Z (NX1 Inv k) Qr Q0):∀ k aI Z,Inv k aI Z->xBM s s_l s_c f f_c aI Z Qr Q0 :=
 xL (ai zBE (ai (xZ 0) trivial)) hb
theorem xNE (h1:lz Z 3 (zJ s_a (Int.toNat aI*1)) (iV nA)) (h2:qo f (iV nA::f_c) Z (.bool true) Z) (nx:Qr aI Z) (u1:aI<(s_l:Int):=by omega) (u2:Ix aI s_l:=by omega):zWN (some s_a) s_l s_c f f_c aI Z Nx Qr Q0 :=
 kO 1 aI [.b true,.g,.g,.g,.g,.g,.i,.l (iV nA),.c (.bool true) Z,.g,.g] (fun _ f=>an4 (zR u1) u2 h1 h2 f) nx
theorem xND (h1:lz Z 3 (zJ s_a (Int.toNat aI*1)) (iV nA)) (h2:qo f (iV nA::f_c) Z (.bool false) Z) (nx:Nx (aI+1) Z) (u1:aI<(s_l:Int):=by omega) (u2:Ix aI s_l:=by omega) (u3:I6 (aI+1):=by omega):zWN (some s_a) s_l s_c f f_c aI Z Nx Qr Q0 :=
 kO 0 (aI+1) [.b true,.g,.g,.g,.g,.g,.i,.l (iV nA),.c (.bool false) Z,.n (aI+1),.g] (fun _ f=>an5 (zR u1) u2 h1 h2 (w64 u3) f) nx
theorem xNC (nx:Q0 Z) (u1:¬ aI<(s_l:Int):=by omega):zWN s s_l s_c f f_c aI Z Nx Qr Q0 :=
 kO 2 () [.b false] (fun _ f=>ai (zS u1) f) nx
theorem xTI (hL:xBM s s_l s_c f f_c 0 Z Pr P0) (kr:∀ i4_1' Z',Pr i4_1' Z'->yFO s s_l s_c f f_c i4_1' Z' Q) (k0:∀ Z',P0 Z'->yFP s s_l s_c f f_c Z' Q):qi 105 [.slice s s_l s_c,.func (.func f) ⟨[]⟩ ⟨f_c⟩] Z Q :=
 zG [.g,.g,.g,.g,.lf 19 (zQG s s_l s_c f f_c 0) [zSL s s_l s_c f f_c Pr,zSM s s_l s_c f f_c P0]] (kd (ai (ai tt (ai (arf (zQG s s_l s_c f f_c 0)) hL)) (ai (kz1 kr) (ai (kz0 k0) trivial))))
theorem yWF (nx:Q (iV bI) Z):yFO s s_l s_c f f_c bI Z Q :=
 sK [] nx
theorem yWG (nx:Q (iV (-1)) Z):yFP s s_l s_c f f_c Z Q :=
 sK [.g] nx
theorem ySU (h1:lz Z 32 (zJ v0 2) (.slice q1 l1 c1)) (h2:qo 47 [iV n,iV (-1),iV ((l1:Int)-1)] Z (.bool b2) Z) (nx:Q (.bool b2) Z) (u1:I6 ((l1:Int)-1):=by omega):qi 73 [iV n,pz v0] Z Q :=
 zG [.g,.g,.g,.l (.slice q1 l1 c1),.g,.n ((l1:Int)-1),.c (.bool b2) Z,.g] (kd (an3 h1 (w64 u1) h2 nx))
theorem yRV:let s1:=Z.row (wkc ao af ac ad ae aa ab ar ay am) 6;∀ (h1:qo 72 [.slice l l_l l_c,.func (.func 73) ⟨[]⟩ ⟨[pq Z.y 0]⟩] s1 (.bool b1) s1) (nx:Q (.bool b1) s1) (u1:(l_l:Int)=(ac:Int):=by omega),qi 52 [qh (wkc ao af ac ad ae aa ab ar ay am),.slice l l_l l_c] Z Q:=
 let s1:=Z.row (wkc ao af ac ad ae aa ab ar ay am) 6;fun h1 nx u1=>zG [.g,.g,.g,.g,.g,.l (.slice af ac ad),.g,.b true,.g,.g,.g,.c (.bool b1) s1,.g,.g] (kd (an3 ((zC _ _ _).rw.ld zAV (k:=1) rfl:lz s1 31 (qg Z.y 1) (.slice af ac ad)) (xH u1) h1 nx))
theorem yRU (nx:Q (.bool false) (Z.row (wkc ao af ac ad ae aa ab ar ay am) 6)) (u1:¬ (l_l:Int)=(ac:Int):=by omega):qi 52 [qh (wkc ao af ac ad ae aa ab ar ay am),.slice l l_l l_c] Z Q :=
 zG [.g,.g,.g,.g,.g,.l (.slice af ac ad),.g,.b false,.g,.g,.g] (kd (an2 ((zC _ _ _).rw.ld zAV (k:=1) rfl:lz (Z.row (wkc ao af ac ad ae aa ab ar ay am) 6) 31 (qg Z.y 1) (.slice af ac ad)) (yD u1) nx))
theorem yOS (hb:∀ k aI Z,Inv k aI Z->zQD s s_l s_c v aI Z (NX1 Inv k) Qr Q0):∀ k aI Z,Inv k aI Z->yOU s s_l s_c v aI Z Qr Q0 :=
 xL (ai zBE (ai (xZ 0) trivial)) hb
theorem xFR (h1:lz Z 3 (zJ s_a (Int.toNat aI*1)) (iV nA)) (nx:Qr aI Z) (u1:aI<(s_l:Int):=by omega) (u2:Ix aI s_l:=by omega) (u3:v=nA:=by omega):zQD (some s_a) s_l s_c v aI Z Nx Qr Q0 :=
 kO 1 aI [.b true,.g,.g,.g,.g,.g,.i,.l (iV nA),.b true,.g,.g] (fun _ f=>an4 (zR u1) u2 h1 (xH u3) f) nx
theorem xFQ (h1:lz Z 3 (zJ s_a (Int.toNat aI*1)) (iV nA)) (nx:Nx (aI+1) Z) (u1:aI<(s_l:Int):=by omega) (u2:Ix aI s_l:=by omega) (u3:¬ v=nA:=by omega) (u4:I6 (aI+1):=by omega):zQD (some s_a) s_l s_c v aI Z Nx Qr Q0 :=
 kO 0 (aI+1) [.b true,.g,.g,.g,.g,.g,.i,.l (iV nA),.b false,.n (aI+1),.g] (fun _ f=>an5 (zR u1) u2 h1 (yD u3) (w64 u4) f) nx
theorem xFP (nx:Q0 Z) (u1:¬ aI<(s_l:Int):=by omega):zQD s s_l s_c v aI Z Nx Qr Q0 :=
 kO 2 () [.b false] (fun _ f=>ai (zS u1) f) nx
theorem xMT (hL:yOU s s_l s_c v 0 Z Pr P0) (kr:∀ i4_1' Z',Pr i4_1' Z'->zZS s s_l s_c v i4_1' Z' Q) (k0:∀ Z',P0 Z'->zZT s s_l s_c v Z' Q):qi 83 [.slice s s_l s_c,iV v] Z Q :=
 zG [.g,.g,.g,.g,.lf 19 (zJW s s_l s_c v 0) [zOA s s_l s_c v Pr,zOB s s_l s_c v P0]] (kd (ai (ai tt (ai (arf (zJW s s_l s_c v 0)) hL)) (ai (kz1 kr) (ai (kz0 k0) trivial))))
theorem yOQ (nx:Q (iV bI) Z):zZS s s_l s_c v bI Z Q :=
 sK [] nx
theorem yOR (nx:Q (iV (-1)) Z):zZT s s_l s_c v Z Q :=
 sK [.g] nx
theorem xUC (h1:qo 83 [.slice s s_l s_c,iV v] Z (iV n1) Z) (nx:Q (.bool true) Z) (u1:0<=n1:=by omega):qi 58 [.slice s s_l s_c,iV v] Z Q :=
 zG [.g,.g,.g,.c (iV n1) Z,.b true,.g] (kd (an2 h1 (yE u1) nx))
theorem xUB (h1:qo 83 [.slice s s_l s_c,iV v] Z (iV n1) Z) (nx:Q (.bool false) Z) (u1:¬ 0<=n1:=by omega):qi 58 [.slice s s_l s_c,iV v] Z Q :=
 zG [.g,.g,.g,.c (iV n1) Z,.b false,.g] (kd (an2 h1 (yH u1) nx))
end
section
noncomputable section
variable (roster:oAa) (aE aF:Nat) (q4:Int->St->Prop) (aK duty bG ao:Int) (q0:Int->Int->St->Prop) (af:oAa) (ac ad:Nat) (ae:oAa) (aa ab:Nat) (ar ay am:Int) (q6:(Option Addr)->Nat->Nat->St->Prop) (q5:(Option Addr)->Nat->Nat->Int->St->Prop) (ew:oAa) (eC eE:Nat) (dY:Int) (Z:St) (q7:(Option Addr)->Nat->Nat->Int->St->Prop) (Q:vPa) (Nx:Int->Int->St->Prop) (q8:(Option Addr)->Nat->Nat->St->Prop) (Q0:Int->St->Prop)
def yGG:Code:=(Code.part [1,0,1,0,0] (qj 63))
def zFX:lNa:=[(2,iV aK),(5,.slice roster aE aF),(6,iV (aE:Int)),(7,iV bG)]
def yXC:Alt:=⟨Int × Int,.normal,fun t=>zFX roster aE aF t.1 t.2,fun t=>[],fun t Z=>q0 t.1 t.2 Z⟩
def zUX (roster:oAa) (aE aF:Nat) (aK:Int):lNa:=[(2,iV aK)]
def zKG:Alt:=⟨Int,(.exit 0),fun t=>zUX roster aE aF t,fun t=>[],fun t Z=>q4 t Z⟩
def zLW:Prop:=qk ql none yGG 17 (zFX roster aE aF aK bG) [] [yXC roster aE aF Nx,zKG roster aE aF Q0] Z
def yGH:Prop:=qm ql none yGG 17 (zFX roster aE aF aK bG) [] [zKG roster aE aF Q0] Z
def zUY:Prop:=kZ ql (qj 63) [1,0,1,0] (qn 63 Q) (.exit 0) 17 (zUX roster aE aF aK) Z
def yGW:Code:=(Code.part [1,1,1,1,1,0,1,0,0] (qj 32))
def zGD:lNa:=[(1,.slice roster aE aF),(2,iV duty),(9,.func (.func 62) ⟨[qh (wkc ao af ac ad ae aa ab ar ay am)]⟩ ⟨[]⟩),(10,.slice ew eC eE),(35,iV (aa:Int)),(36,iV dY)]
def yZC:Alt:=⟨(Option Addr) × Nat × Nat × Int,.normal,fun t=>zGD roster aE aF duty ao af ac ad ae aa ab ar ay am t.1 t.2.1 t.2.2.1 t.2.2.2,fun t=>[],fun t Z=>q5 t.1 t.2.1 t.2.2.1 t.2.2.2 Z⟩
def zVI (roster:oAa) (aE aF:Nat) (duty ao:Int) (af:oAa) (ac ad:Nat) (ae:oAa) (aa ab:Nat) (ar ay am:Int) (ew:oAa) (eC eE:Nat):lNa:=[(10,.slice ew eC eE)]
def zKU:Alt:=⟨(Option Addr) × Nat × Nat,(.exit 0),fun t=>zVI roster aE aF duty ao af ac ad ae aa ab ar ay am t.1 t.2.1 t.2.2,fun t=>[],fun t Z=>q6 t.1 t.2.1 t.2.2 Z⟩
def zMG:Prop:=qk ql none yGW 54 (zGD roster aE aF duty ao af ac ad ae aa ab ar ay am ew eC eE dY) [] [yZC roster aE aF duty ao af ac ad ae aa ab ar ay am q7,zKU roster aE aF duty ao af ac ad ae aa ab ar ay am q8] Z
def yGX:Prop:=qm ql none yGW 54 (zGD roster aE aF duty ao af ac ad ae aa ab ar ay am ew eC eE dY) [] [zKU roster aE aF duty ao af ac ad ae aa ab ar ay am q8] Z
def zVJ:Prop:=kZ ql (qj 32) [1,1,1,1,1,0,1,0] (qn 32 Q) (.exit 0) 54 (zVI roster aE aF duty ao af ac ad ae aa ab ar ay am ew eC eE) Z
end
variable {ao ar ay am eQ n1 n4 aK bG nA duty dY:Int} {af ae roster q1 q3 ew qN s q2:oAa} {ac ad aa ab aE aF l1 c1 l3 c3 eC eE lE cE lQ cO s_l s_c l2 c2:Nat} {Z Z2 Z4 ZB ZC ZI Z1:St} {Q:vPa} {Inv:Nat->Int->Int->St->Prop} {Q0 P0:Int->St->Prop} {fe dC:Addr} {Nx:Int->Int->St->Prop}
theorem yKU (nx:Q (iV 3) (Z.row (wkc ao af ac ad ae aa ab ar ay am) 6)) (u1:12<(ac:Int):=by omega):qi 16 [qh (wkc ao af ac ad ae aa ab ar ay am)] Z Q :=
 zG [.g,.g,.g,.l (.slice af ac ad),.g,.b true,.g,.g,.g,.g] (kd (an2 ((zC _ _ _).rw.ld zAV (k:=1) rfl:lz (Z.row (wkc ao af ac ad ae aa ab ar ay am) 6) 31 (qg Z.y 1) (.slice af ac ad)) (zR u1) nx))
theorem yKT:let y0:=wkc ao af ac ad ae aa ab ar ay am;∀ (nx:Q (iV 3) (Z.row y0 6)) (u1:¬ 12<(ac:Int):=by omega) (u2:6<(aa:Int):=by omega),qi 16 [qh y0] Z Q :=
 let s1:=Z.row (wkc ao af ac ad ae aa ab ar ay am) 6;fun nx u1 u2=>zG [.g,.g,.g,.l (.slice af ac ad),.g,.b false,.g,.g,.l (.slice ae aa ab),.g,.b true,.g,.g,.g] (kd (an4 ((zC _ _ _).rw.ld zAV (k:=1) rfl:lz s1 31 (qg Z.y 1) (.slice af ac ad)) (zS u1) ((zC _ _ _).rw.ld zAU (k:=2) rfl:lz s1 32 (qg Z.y 2) (.slice ae aa ab)) (zR u2) nx))
@[reducible] def Ha5 (ao ar ay am:Int) (Z:St) (af ae:oAa) (ac ad aa ab:Nat):Prop:=qo 47 [iV ao,iV 1,iV 7] (Z.row (wkc ao af ac ad ae aa ab ar ay am) 6) (.bool true) (Z.row (wkc ao af ac ad ae aa ab ar ay am) 6)/\qo 47 [iV ar,iV 0,iV 3000] (Z.row (wkc ao af ac ad ae aa ab ar ay am) 6) (.bool true) (Z.row (wkc ao af ac ad ae aa ab ar ay am) 6)/\qo 47 [iV ay,iV 1,iV 14] (Z.row (wkc ao af ac ad ae aa ab ar ay am) 6) (.bool true) (Z.row (wkc ao af ac ad ae aa ab ar ay am) 6)/\qo 47 [iV am,iV 0,iV 20000] (Z.row (wkc ao af ac ad ae aa ab ar ay am) 6) (.bool true) (Z.row (wkc ao af ac ad ae aa ab ar ay am) 6)/\(qo 48 [.slice af ac ad,.func (.func 49) ⟨[.agg ⟨wkc ao af ac ad ae aa ab ar ay am⟩]⟩ ⟨[]⟩] (Z.row (wkc ao af ac ad ae aa ab ar ay am) 6) (.bool true) (Z.row (wkc ao af ac ad ae aa ab ar ay am) 6))
theorem yKS:let Y1:=Z.row (wkc ao af ac ad ae aa ab ar ay am) 6;∀ (H:Ha5 ao ar ay am Z af ae ac ad aa ab) (h6:qo 50 [.slice ae aa ab,.func (.func 51) ⟨[qh (wkc ao af ac ad ae aa ab ar ay am)]⟩ ⟨[]⟩] Y1 (.bool true) Y1) (nx:Q (iV 0) Y1) (u1:¬ 12<(ac:Int):=by omega) (u2:¬ 6<(aa:Int):=by omega),qi 16 [qh (wkc ao af ac ad ae aa ab ar ay am)] Z Q:=
 fun H h6 nx u1 u2=>match H with|⟨h1,h2,h3,h4,h5⟩=>let s1:=Z.row (wkc ao af ac ad ae aa ab ar ay am) 6;zG [.g,.g,.g,.l (.slice af ac ad),.g,.b false,.g,.g,.l (.slice ae aa ab),.g,.b false,.g,.g,.g,.l (iV ao),.c (.bool true) s1,.g,.g,.g,.l (iV ar),.c (.bool true) s1,.g,.g,.g,.g,.l (iV ay),.c (.bool true) s1,.g,.g,.g,.g,.l (iV am),.c (.bool true) s1,.g,.g,.g,.g,.l (.slice af ac ad),.l (qh (wkc ao af ac ad ae aa ab ar ay am)),.g,.c (.bool true) s1,.g,.g,.g,.l (.slice ae aa ab),.l (qh (wkc ao af ac ad ae aa ab ar ay am)),.g,.c (.bool true) s1,.g,.g,.g,.g] (kd (an6 ((zC _ _ _).rw.ld zAV (k:=1) rfl:lz s1 31 (qg Z.y 1) (.slice af ac ad)) (zS u1) ((zC _ _ _).rw.ld zAU (k:=2) rfl:lz s1 32 (qg Z.y 2) (.slice ae aa ab)) (zS u2) ((zC _ _ _).rw.ld zU (k:=0) rfl:lz s1 3 (qg Z.y 0) (iV ao)) h1 (an6 ((zC _ _ _).rw.ld zU (k:=3) rfl:lz s1 3 (qg Z.y 3) (iV ar)) h2 ((zC _ _ _).rw.ld zU (k:=4) rfl:lz s1 3 (qg Z.y 4) (iV ay)) h3 ((zC _ _ _).rw.ld zU (k:=5) rfl:lz s1 3 (qg Z.y 5) (iV am)) h4 (an6 ((zC _ _ _).rw.ld zAV (k:=1) rfl:lz s1 31 (qg Z.y 1) (.slice af ac ad)) ((zC _ _ _).rw.ldN xV xB (k:=0) rfl rfl (nle rfl):lz s1 34 (qg Z.y 0) (qh (wkc ao af ac ad ae aa ab ar ay am))) h5 ((zC _ _ _).rw.ld zAU (k:=2) rfl:lz s1 32 (qg Z.y 2) (.slice ae aa ab)) ((zC _ _ _).rw.ldN xV xB (k:=0) rfl rfl (nle rfl):lz s1 34 (qg Z.y 0) (qh (wkc ao af ac ad ae aa ab ar ay am))) h6 nx))))
theorem yKR:let Y1:=Z.row (wkc ao af ac ad ae aa ab ar ay am) 6;∀ (H:Ha5 ao ar ay am Z af ae ac ad aa ab) (h6:qo 50 [.slice ae aa ab,.func (.func 51) ⟨[qh (wkc ao af ac ad ae aa ab ar ay am)]⟩ ⟨[]⟩] Y1 (.bool false) Y1) (nx:Q (iV 1) Y1) (u1:¬ 12<(ac:Int):=by omega) (u2:¬ 6<(aa:Int):=by omega),qi 16 [qh (wkc ao af ac ad ae aa ab ar ay am)] Z Q:=
 fun H h6 nx u1 u2=>match H with|⟨h1,h2,h3,h4,h5⟩=>let s1:=Z.row (wkc ao af ac ad ae aa ab ar ay am) 6;zG [.g,.g,.g,.l (.slice af ac ad),.g,.b false,.g,.g,.l (.slice ae aa ab),.g,.b false,.g,.g,.g,.l (iV ao),.c (.bool true) s1,.g,.g,.g,.l (iV ar),.c (.bool true) s1,.g,.g,.g,.g,.l (iV ay),.c (.bool true) s1,.g,.g,.g,.g,.l (iV am),.c (.bool true) s1,.g,.g,.g,.g,.l (.slice af ac ad),.l (qh (wkc ao af ac ad ae aa ab ar ay am)),.g,.c (.bool true) s1,.g,.g,.g,.l (.slice ae aa ab),.l (qh (wkc ao af ac ad ae aa ab ar ay am)),.g,.c (.bool false) s1,.g,.g,.g,.g] (kd (an6 ((zC _ _ _).rw.ld zAV (k:=1) rfl:lz s1 31 (qg Z.y 1) (.slice af ac ad)) (zS u1) ((zC _ _ _).rw.ld zAU (k:=2) rfl:lz s1 32 (qg Z.y 2) (.slice ae aa ab)) (zS u2) ((zC _ _ _).rw.ld zU (k:=0) rfl:lz s1 3 (qg Z.y 0) (iV ao)) h1 (an6 ((zC _ _ _).rw.ld zU (k:=3) rfl:lz s1 3 (qg Z.y 3) (iV ar)) h2 ((zC _ _ _).rw.ld zU (k:=4) rfl:lz s1 3 (qg Z.y 4) (iV ay)) h3 ((zC _ _ _).rw.ld zU (k:=5) rfl:lz s1 3 (qg Z.y 5) (iV am)) h4 (an6 ((zC _ _ _).rw.ld zAV (k:=1) rfl:lz s1 31 (qg Z.y 1) (.slice af ac ad)) ((zC _ _ _).rw.ldN xV xB (k:=0) rfl rfl (nle rfl):lz s1 34 (qg Z.y 0) (qh (wkc ao af ac ad ae aa ab ar ay am))) h5 ((zC _ _ _).rw.ld zAU (k:=2) rfl:lz s1 32 (qg Z.y 2) (.slice ae aa ab)) ((zC _ _ _).rw.ldN xV xB (k:=0) rfl rfl (nle rfl):lz s1 34 (qg Z.y 0) (qh (wkc ao af ac ad ae aa ab ar ay am))) h6 nx))))
theorem yKQ:let s1:=Z.row (wkc ao af ac ad ae aa ab ar ay am) 6;∀ (h1:qo 47 [iV ao,iV 1,iV 7] s1 (.bool true) s1) (h2:qo 47 [iV ar,iV 0,iV 3000] s1 (.bool true) s1) (h3:qo 47 [iV ay,iV 1,iV 14] s1 (.bool true) s1) (h4:qo 47 [iV am,iV 0,iV 20000] s1 (.bool true) s1) (h5:qo 48 [.slice af ac ad,.func (.func 49) ⟨[qh (wkc ao af ac ad ae aa ab ar ay am)]⟩ ⟨[]⟩] s1 (.bool false) s1) (nx:Q (iV 1) s1) (u1:¬ 12<(ac:Int):=by omega) (u2:¬ 6<(aa:Int):=by omega),qi 16 [qh (wkc ao af ac ad ae aa ab ar ay am)] Z Q:=
 let s1:=Z.row (wkc ao af ac ad ae aa ab ar ay am) 6;fun h1 h2 h3 h4 h5 nx u1 u2=>zG [.g,.g,.g,.l (.slice af ac ad),.g,.b false,.g,.g,.l (.slice ae aa ab),.g,.b false,.g,.g,.g,.l (iV ao),.c (.bool true) s1,.g,.g,.g,.l (iV ar),.c (.bool true) s1,.g,.g,.g,.g,.l (iV ay),.c (.bool true) s1,.g,.g,.g,.g,.l (iV am),.c (.bool true) s1,.g,.g,.g,.g,.l (.slice af ac ad),.l (qh (wkc ao af ac ad ae aa ab ar ay am)),.g,.c (.bool false) s1,.g,.g,.g,.g,.g] (kd (an3 ((zC _ _ _).rw.ld zAV (k:=1) rfl:lz s1 31 (qg Z.y 1) (.slice af ac ad)) (zS u1) ((zC _ _ _).rw.ld zAU (k:=2) rfl:lz s1 32 (qg Z.y 2) (.slice ae aa ab)) (an6 (zS u2) ((zC _ _ _).rw.ld zU (k:=0) rfl:lz s1 3 (qg Z.y 0) (iV ao)) h1 ((zC _ _ _).rw.ld zU (k:=3) rfl:lz s1 3 (qg Z.y 3) (iV ar)) h2 ((zC _ _ _).rw.ld zU (k:=4) rfl:lz s1 3 (qg Z.y 4) (iV ay)) (an6 h3 ((zC _ _ _).rw.ld zU (k:=5) rfl:lz s1 3 (qg Z.y 5) (iV am)) h4 ((zC _ _ _).rw.ld zAV (k:=1) rfl:lz s1 31 (qg Z.y 1) (.slice af ac ad)) ((zC _ _ _).rw.ldN xV xB (k:=0) rfl rfl (nle rfl):lz s1 34 (qg Z.y 0) (qh (wkc ao af ac ad ae aa ab ar ay am))) h5 nx))))
theorem yKP:let s1:=Z.row (wkc ao af ac ad ae aa ab ar ay am) 6;∀ (h1:qo 47 [iV ao,iV 1,iV 7] s1 (.bool true) s1) (h2:qo 47 [iV ar,iV 0,iV 3000] s1 (.bool true) s1) (h3:qo 47 [iV ay,iV 1,iV 14] s1 (.bool true) s1) (h4:qo 47 [iV am,iV 0,iV 20000] s1 (.bool false) s1) (nx:Q (iV 1) s1) (u1:¬ 12<(ac:Int):=by omega) (u2:¬ 6<(aa:Int):=by omega),qi 16 [qh (wkc ao af ac ad ae aa ab ar ay am)] Z Q:=
 let s1:=Z.row (wkc ao af ac ad ae aa ab ar ay am) 6;fun h1 h2 h3 h4 nx u1 u2=>zG [.g,.g,.g,.l (.slice af ac ad),.g,.b false,.g,.g,.l (.slice ae aa ab),.g,.b false,.g,.g,.g,.l (iV ao),.c (.bool true) s1,.g,.g,.g,.l (iV ar),.c (.bool true) s1,.g,.g,.g,.g,.l (iV ay),.c (.bool true) s1,.g,.g,.g,.g,.l (iV am),.c (.bool false) s1,.g,.g,.g,.g] (kd (an6 ((zC _ _ _).rw.ld zAV (k:=1) rfl:lz s1 31 (qg Z.y 1) (.slice af ac ad)) (zS u1) ((zC _ _ _).rw.ld zAU (k:=2) rfl:lz s1 32 (qg Z.y 2) (.slice ae aa ab)) (zS u2) ((zC _ _ _).rw.ld zU (k:=0) rfl:lz s1 3 (qg Z.y 0) (iV ao)) h1 (an6 ((zC _ _ _).rw.ld zU (k:=3) rfl:lz s1 3 (qg Z.y 3) (iV ar)) h2 ((zC _ _ _).rw.ld zU (k:=4) rfl:lz s1 3 (qg Z.y 4) (iV ay)) h3 ((zC _ _ _).rw.ld zU (k:=5) rfl:lz s1 3 (qg Z.y 5) (iV am)) h4 nx)))
theorem yKO:let s1:=Z.row (wkc ao af ac ad ae aa ab ar ay am) 6;∀ (h1:qo 47 [iV ao,iV 1,iV 7] s1 (.bool true) s1) (h2:qo 47 [iV ar,iV 0,iV 3000] s1 (.bool true) s1) (h3:qo 47 [iV ay,iV 1,iV 14] s1 (.bool false) s1) (nx:Q (iV 1) s1) (u1:¬ 12<(ac:Int):=by omega) (u2:¬ 6<(aa:Int):=by omega),qi 16 [qh (wkc ao af ac ad ae aa ab ar ay am)] Z Q:=
 let s1:=Z.row (wkc ao af ac ad ae aa ab ar ay am) 6;fun h1 h2 h3 nx u1 u2=>zG [.g,.g,.g,.l (.slice af ac ad),.g,.b false,.g,.g,.l (.slice ae aa ab),.g,.b false,.g,.g,.g,.l (iV ao),.c (.bool true) s1,.g,.g,.g,.l (iV ar),.c (.bool true) s1,.g,.g,.g,.g,.l (iV ay),.c (.bool false) s1,.g,.g,.g,.g,.g,.g] (kd (an4 ((zC _ _ _).rw.ld zAV (k:=1) rfl:lz s1 31 (qg Z.y 1) (.slice af ac ad)) (zS u1) ((zC _ _ _).rw.ld zAU (k:=2) rfl:lz s1 32 (qg Z.y 2) (.slice ae aa ab)) (zS u2) (an6 ((zC _ _ _).rw.ld zU (k:=0) rfl:lz s1 3 (qg Z.y 0) (iV ao)) h1 ((zC _ _ _).rw.ld zU (k:=3) rfl:lz s1 3 (qg Z.y 3) (iV ar)) h2 ((zC _ _ _).rw.ld zU (k:=4) rfl:lz s1 3 (qg Z.y 4) (iV ay)) h3 nx)))
theorem yKN:let s1:=Z.row (wkc ao af ac ad ae aa ab ar ay am) 6;∀ (h1:qo 47 [iV ao,iV 1,iV 7] s1 (.bool true) s1) (h2:qo 47 [iV ar,iV 0,iV 3000] s1 (.bool false) s1) (nx:Q (iV 1) s1) (u1:¬ 12<(ac:Int):=by omega) (u2:¬ 6<(aa:Int):=by omega),qi 16 [qh (wkc ao af ac ad ae aa ab ar ay am)] Z Q:=
 let s1:=Z.row (wkc ao af ac ad ae aa ab ar ay am) 6;fun h1 h2 nx u1 u2=>zG [.g,.g,.g,.l (.slice af ac ad),.g,.b false,.g,.g,.l (.slice ae aa ab),.g,.b false,.g,.g,.g,.l (iV ao),.c (.bool true) s1,.g,.g,.g,.l (iV ar),.c (.bool false) s1,.g,.g,.g,.g,.g,.g,.g,.g] (kd (an2 ((zC _ _ _).rw.ld zAV (k:=1) rfl:lz s1 31 (qg Z.y 1) (.slice af ac ad)) (zS u1) (an6 ((zC _ _ _).rw.ld zAU (k:=2) rfl:lz s1 32 (qg Z.y 2) (.slice ae aa ab)) (zS u2) ((zC _ _ _).rw.ld zU (k:=0) rfl:lz s1 3 (qg Z.y 0) (iV ao)) h1 ((zC _ _ _).rw.ld zU (k:=3) rfl:lz s1 3 (qg Z.y 3) (iV ar)) h2 nx)))
theorem yKM:let s1:=Z.row (wkc ao af ac ad ae aa ab ar ay am) 6;∀ (h1:qo 47 [iV ao,iV 1,iV 7] s1 (.bool false) s1) (nx:Q (iV 1) s1) (u1:¬ 12<(ac:Int):=by omega) (u2:¬ 6<(aa:Int):=by omega),qi 16 [qh (wkc ao af ac ad ae aa ab ar ay am)] Z Q:=
 let s1:=Z.row (wkc ao af ac ad ae aa ab ar ay am) 6;fun h1 nx u1 u2=>zG [.g,.g,.g,.l (.slice af ac ad),.g,.b false,.g,.g,.l (.slice ae aa ab),.g,.b false,.g,.g,.g,.l (iV ao),.c (.bool false) s1,.g,.g,.g,.g,.g,.g,.g,.g,.g] (kd (an6 ((zC _ _ _).rw.ld zAV (k:=1) rfl:lz s1 31 (qg Z.y 1) (.slice af ac ad)) (zS u1) ((zC _ _ _).rw.ld zAU (k:=2) rfl:lz s1 32 (qg Z.y 2) (.slice ae aa ab)) (zS u2) ((zC _ _ _).rw.ld zU (k:=0) rfl:lz s1 3 (qg Z.y 0) (iV ao)) h1 nx))
@[reducible] def Ha6 (ao ar ay am:Int) (af ae q1 roster q3:oAa) (ac ad aa ab l1 c1 aE aF l3 c3:Nat) (Z Z2 Z4:St):Prop:=qo 86 [.agg ⟨wkc ao af ac ad ae aa ab ar ay am⟩] (Z.row (wkc ao af ac ad ae aa ab ar ay am) 6) (.slice q1 l1 c1) Z2/\(qo 54 [.agg ⟨wkc ao af ac ad ae aa ab ar ay am⟩,.slice roster aE aF,.slice q1 l1 c1] Z2 (.slice q3 l3 c3) Z4)/\zH (Z.row (wkc ao af ac ad ae aa ab ar ay am) 6).y [.agg ⟨wkc ao af ac ad ae aa ab ar ay am⟩]/\(zH Z2.y [.agg ⟨wkc ao af ac ad ae aa ab ar ay am⟩,.slice roster aE aF,.slice q1 l1 c1])/\zH Z4.y [.slice q3 l3 c3]/\((zLq Z2 34 ⟨Z.y,0,none⟩ (.agg ⟨wkc ao af ac ad ae aa ab ar ay am⟩)))
theorem xMH:let y0:=wkc ao af ac ad ae aa ab ar ay am;∀ (H:Ha6 ao ar ay am af ae q1 roster q3 ac ad aa ab l1 c1 aE aF l3 c3 Z Z2 Z4) (nx:Q (.bool true) Z4) (u1:(l3:Int)=0:=by omega),qi 62 [qh y0,.slice roster aE aF] Z Q :=
 let y0:=wkc ao af ac ad ae aa ab ar ay am;fun H nx u1=>match H with|⟨h1,h2,h3,h4,h5,h6⟩=>let s1:=Z.row y0 6;zG [.g,.g,.l (qh y0),.g,.l (qh y0),.c (.slice q1 l1 c1) Z2,.c (.slice q3 l3 c3) Z4,.g,.b true,.g] (kd (an6 ((zC _ _ _).rw.ldN xV xB (k:=0) rfl rfl (nle rfl):lz s1 34 (qg Z.y 0) (qh y0)) ((zC _ _ _).rw.ldN xV xB (k:=0) rfl rfl (nle rfl):lz s1 34 (qg Z.y 0) (qh y0)) h1 h2 (xH u1) ((zE (zO (nlt Z.y 0 1 rfl)) zI):zH s1.y [pq Z.y 0]) (an6 ((zE (zO (nlt Z.y 0 1 rfl)) zI):zH s1.y [pq Z.y 0]) h3 h4 h5 (⟨⟨(nlt Z.y 0 1 rfl),rfl⟩,((zC _ _ _).rw.ldN xV xB (k:=0) rfl rfl (nle rfl))⟩:(zLq s1 34 (qg Z.y 0) (qh y0))) h6 nx)))
theorem xMG:let y0:=wkc ao af ac ad ae aa ab ar ay am;∀ (H:Ha6 ao ar ay am af ae q1 roster q3 ac ad aa ab l1 c1 aE aF l3 c3 Z Z2 Z4) (nx:Q (.bool false) Z4) (u1:¬ (l3:Int)=0:=by omega),qi 62 [qh y0,.slice roster aE aF] Z Q :=
 let y0:=wkc ao af ac ad ae aa ab ar ay am;fun H nx u1=>match H with|⟨h1,h2,h3,h4,h5,h6⟩=>let s1:=Z.row y0 6;zG [.g,.g,.l (qh y0),.g,.l (qh y0),.c (.slice q1 l1 c1) Z2,.c (.slice q3 l3 c3) Z4,.g,.b false,.g] (kd (an6 ((zC _ _ _).rw.ldN xV xB (k:=0) rfl rfl (nle rfl):lz s1 34 (qg Z.y 0) (qh y0)) ((zC _ _ _).rw.ldN xV xB (k:=0) rfl rfl (nle rfl):lz s1 34 (qg Z.y 0) (qh y0)) h1 h2 (yD u1) ((zE (zO (nlt Z.y 0 1 rfl)) zI):zH s1.y [pq Z.y 0]) (an6 ((zE (zO (nlt Z.y 0 1 rfl)) zI):zH s1.y [pq Z.y 0]) h3 h4 h5 (⟨⟨(nlt Z.y 0 1 rfl),rfl⟩,((zC _ _ _).rw.ldN xV xB (k:=0) rfl rfl (nle rfl))⟩:(zLq s1 34 (qg Z.y 0) (qh y0))) h6 nx)))
theorem yBS:let s1:=Z.row (wkc ao af ac ad ae aa ab ar ay am) 6;∀ (h1:qo 16 [qh (wkc ao af ac ad ae aa ab ar ay am)] s1 (iV n1) s1) (h2:qo 52 [qh (wkc ao af ac ad ae aa ab ar ay am),.slice roster aE aF] s1 (.bool true) s1) (h3:qo 62 [qh (wkc ao af ac ad ae aa ab ar ay am),.slice roster aE aF] s1 (.bool true) s1) (h4:qo 63 [.slice roster aE aF] s1 (iV n4) s1) (nx:Q (.bool true) s1) (u1:n1=0:=by omega) (u2:eQ<=n4:=by omega),qi 35 [qh (wkc ao af ac ad ae aa ab ar ay am),.slice roster aE aF,iV eQ] Z Q:=
 let s1:=Z.row (wkc ao af ac ad ae aa ab ar ay am) 6;fun h1 h2 h3 h4 nx u1 u2=>zG [.g,.g,.l (qh (wkc ao af ac ad ae aa ab ar ay am)),.c (iV n1) s1,.b true,.g,.l (qh (wkc ao af ac ad ae aa ab ar ay am)),.g,.c (.bool true) s1,.g,.g,.l (qh (wkc ao af ac ad ae aa ab ar ay am)),.g,.c (.bool true) s1,.g,.g,.g,.c (iV n4) s1,.g,.b true,.g,.g] (kd (an3 ((zC _ _ _).rw.ldN xV xB (k:=0) rfl rfl (nle rfl):lz s1 34 (qg Z.y 0) (qh (wkc ao af ac ad ae aa ab ar ay am))) h1 (xH u1) (an6 ((zC _ _ _).rw.ldN xV xB (k:=0) rfl rfl (nle rfl):lz s1 34 (qg Z.y 0) (qh (wkc ao af ac ad ae aa ab ar ay am))) h2 ((zC _ _ _).rw.ldN xV xB (k:=0) rfl rfl (nle rfl):lz s1 34 (qg Z.y 0) (qh (wkc ao af ac ad ae aa ab ar ay am))) h3 h4 (yE u2) nx)))
theorem yBR:let s1:=Z.row (wkc ao af ac ad ae aa ab ar ay am) 6;∀ (h1:qo 16 [qh (wkc ao af ac ad ae aa ab ar ay am)] s1 (iV n1) s1) (h2:qo 52 [qh (wkc ao af ac ad ae aa ab ar ay am),.slice roster aE aF] s1 (.bool true) s1) (h3:qo 62 [qh (wkc ao af ac ad ae aa ab ar ay am),.slice roster aE aF] s1 (.bool true) s1) (h4:qo 63 [.slice roster aE aF] s1 (iV n4) s1) (nx:Q (.bool false) s1) (u1:n1=0:=by omega) (u2:¬ eQ<=n4:=by omega),qi 35 [qh (wkc ao af ac ad ae aa ab ar ay am),.slice roster aE aF,iV eQ] Z Q:=
 let s1:=Z.row (wkc ao af ac ad ae aa ab ar ay am) 6;fun h1 h2 h3 h4 nx u1 u2=>zG [.g,.g,.l (qh (wkc ao af ac ad ae aa ab ar ay am)),.c (iV n1) s1,.b true,.g,.l (qh (wkc ao af ac ad ae aa ab ar ay am)),.g,.c (.bool true) s1,.g,.g,.l (qh (wkc ao af ac ad ae aa ab ar ay am)),.g,.c (.bool true) s1,.g,.g,.g,.c (iV n4) s1,.g,.b false,.g,.g] (kd (an3 ((zC _ _ _).rw.ldN xV xB (k:=0) rfl rfl (nle rfl):lz s1 34 (qg Z.y 0) (qh (wkc ao af ac ad ae aa ab ar ay am))) h1 (xH u1) (an6 ((zC _ _ _).rw.ldN xV xB (k:=0) rfl rfl (nle rfl):lz s1 34 (qg Z.y 0) (qh (wkc ao af ac ad ae aa ab ar ay am))) h2 ((zC _ _ _).rw.ldN xV xB (k:=0) rfl rfl (nle rfl):lz s1 34 (qg Z.y 0) (qh (wkc ao af ac ad ae aa ab ar ay am))) h3 h4 (yH u2) nx)))
theorem yBQ:let s1:=Z.row (wkc ao af ac ad ae aa ab ar ay am) 6;∀ (h1:qo 16 [qh (wkc ao af ac ad ae aa ab ar ay am)] s1 (iV n1) s1) (h2:qo 52 [qh (wkc ao af ac ad ae aa ab ar ay am),.slice roster aE aF] s1 (.bool true) s1) (h3:qo 62 [qh (wkc ao af ac ad ae aa ab ar ay am),.slice roster aE aF] s1 (.bool false) s1) (nx:Q (.bool false) s1) (u1:n1=0:=by omega),qi 35 [qh (wkc ao af ac ad ae aa ab ar ay am),.slice roster aE aF,iV eQ] Z Q:=
 let s1:=Z.row (wkc ao af ac ad ae aa ab ar ay am) 6;fun h1 h2 h3 nx u1=>zG [.g,.g,.l (qh (wkc ao af ac ad ae aa ab ar ay am)),.c (iV n1) s1,.b true,.g,.l (qh (wkc ao af ac ad ae aa ab ar ay am)),.g,.c (.bool true) s1,.g,.g,.l (qh (wkc ao af ac ad ae aa ab ar ay am)),.g,.c (.bool false) s1,.g,.g,.g,.g] (kd (ai ((zC _ _ _).rw.ldN xV xB (k:=0) rfl rfl (nle rfl):lz s1 34 (qg Z.y 0) (qh (wkc ao af ac ad ae aa ab ar ay am))) (an6 h1 (xH u1) ((zC _ _ _).rw.ldN xV xB (k:=0) rfl rfl (nle rfl):lz s1 34 (qg Z.y 0) (qh (wkc ao af ac ad ae aa ab ar ay am))) h2 ((zC _ _ _).rw.ldN xV xB (k:=0) rfl rfl (nle rfl):lz s1 34 (qg Z.y 0) (qh (wkc ao af ac ad ae aa ab ar ay am))) h3 nx)))
theorem yBP:let s1:=Z.row (wkc ao af ac ad ae aa ab ar ay am) 6;∀ (h1:qo 16 [qh (wkc ao af ac ad ae aa ab ar ay am)] s1 (iV n1) s1) (h2:qo 52 [qh (wkc ao af ac ad ae aa ab ar ay am),.slice roster aE aF] s1 (.bool false) s1) (nx:Q (.bool false) s1) (u1:n1=0:=by omega),qi 35 [qh (wkc ao af ac ad ae aa ab ar ay am),.slice roster aE aF,iV eQ] Z Q:=
 let s1:=Z.row (wkc ao af ac ad ae aa ab ar ay am) 6;fun h1 h2 nx u1=>zG [.g,.g,.l (qh (wkc ao af ac ad ae aa ab ar ay am)),.c (iV n1) s1,.b true,.g,.l (qh (wkc ao af ac ad ae aa ab ar ay am)),.g,.c (.bool false) s1,.g,.g,.g,.g,.g,.g] (kd (an5 ((zC _ _ _).rw.ldN xV xB (k:=0) rfl rfl (nle rfl):lz s1 34 (qg Z.y 0) (qh (wkc ao af ac ad ae aa ab ar ay am))) h1 (xH u1) ((zC _ _ _).rw.ldN xV xB (k:=0) rfl rfl (nle rfl):lz s1 34 (qg Z.y 0) (qh (wkc ao af ac ad ae aa ab ar ay am))) h2 nx))
theorem yBO:let s1:=Z.row (wkc ao af ac ad ae aa ab ar ay am) 6;∀ (h1:qo 16 [qh (wkc ao af ac ad ae aa ab ar ay am)] s1 (iV n1) s1) (nx:Q (.bool false) s1) (u1:¬ n1=0:=by omega),qi 35 [qh (wkc ao af ac ad ae aa ab ar ay am),.slice roster aE aF,iV eQ] Z Q:=
 let s1:=Z.row (wkc ao af ac ad ae aa ab ar ay am) 6;fun h1 nx u1=>zG [.g,.g,.l (qh (wkc ao af ac ad ae aa ab ar ay am)),.c (iV n1) s1,.b false,.g,.g,.g,.g,.g,.g,.g] (kd (an3 ((zC _ _ _).rw.ldN xV xB (k:=0) rfl rfl (nle rfl):lz s1 34 (qg Z.y 0) (qh (wkc ao af ac ad ae aa ab ar ay am))) h1 (yD u1) nx))
theorem yJO (hb:∀ k aK bG Z,Inv k aK bG Z->zLW roster aE aF aK bG Z (NX2 Inv k) Q0):∀ k aK bG Z,Inv k aK bG Z->yGH roster aE aF aK bG Z Q0 :=
 zDU (ai (xZ 0) trivial) hb
theorem yXB (h1:lz Z 3 (zJ fe (Int.toNat bG*1)) (iV nA)) (nx:Nx (aK+1) (bG+1) Z) (u1:bG<(aE:Int):=by omega) (u2:Ix bG aE:=by omega) (u3:¬ nA=(-1):=by omega) (u4:I6 (aK+1):=by omega) (u5:I6 (bG+1):=by omega):zLW (some fe) aE aF aK bG Z Nx Q0 :=
 kO 0 (aK+1,bG+1) [.b true,.i,.l (iV nA),.g,.g,.b true,.g,.n (aK+1),.g,.n (bG+1),.g] (fun _ f=>an6 (zR u1) u2 h1 (zGX u3) (w64 u4) (w64 u5) f) nx
theorem yXA (h1:lz Z 3 (zJ fe (Int.toNat bG*1)) (iV nA)) (nx:Nx aK (bG+1) Z) (u1:bG<(aE:Int):=by omega) (u2:Ix bG aE:=by omega) (u3:nA=(-1):=by omega) (u4:I6 (bG+1):=by omega):zLW (some fe) aE aF aK bG Z Nx Q0 :=
 kO 0 (aK,bG+1) [.b true,.i,.l (iV nA),.g,.g,.b false,.n (bG+1),.g] (fun _ f=>an5 (zR u1) u2 h1 (vG u3) (w64 u4) f) nx
theorem yWZ (nx:Q0 aK Z) (u1:¬ bG<(aE:Int):=by omega):zLW roster aE aF aK bG Z Nx Q0 :=
 kO 1 aK [.b false] (fun _ f=>ai (zS u1) f) nx
theorem xGM (hL:yGH roster aE aF 0 0 Z P0) (k0:∀ i2_1' Z',P0 i2_1' Z'->zUY roster aE aF i2_1' Z' Q):qi 63 [.slice roster aE aF] Z Q :=
 zG [.g,.g,.g,.g,.lf 17 (zFX roster aE aF 0 0) [zKG roster aE aF P0]] (kd (ai (ai tt (ai (arf (zFX roster aE aF 0 0)) hL)) (ai (kz1 k0) trivial)))
theorem yJN (nx:Q (iV aK) Z):zUY roster aE aF aK Z Q :=
 sK [.g,.g] nx
theorem yKJ {Inv:Nat->(Option Addr)->Nat->Nat->Int->St->Prop} {Q0:(Option Addr)->Nat->Nat->St->Prop} (hb:∀ k ew eC eE dY Z,Inv k ew eC eE dY Z->zMG roster aE aF duty ao af ac ad ae aa ab ar ay am ew eC eE dY Z (NX4 Inv k) Q0):∀ k ew eC eE dY Z,Inv k ew eC eE dY Z->yGX roster aE aF duty ao af ac ad ae aa ab ar ay am ew eC eE dY Z Q0 :=
 yIT (ai (xZ 0) trivial) hb
theorem yZB {Nx:(Option Addr)->Nat->Nat->Int->St->Prop} {Q0:(Option Addr)->Nat->Nat->St->Prop} (h1:qo 60 [.slice roster aE aF] Z (.slice (some dC) lE cE) ZB) (h2:qq (evL [pz (zJ dC (Int.toNat duty*1)),iV dY]) ZB (.store 3 (.tmp 0) (.tmp 1))=some (undef,ZC)) (h3:qo 62 [qh (wkc ao af ac ad ae aa ab ar ay am),.slice (some dC) lE cE] ZC (.bool true) ZC) (h4:yC Pg 26 26 (.slice ew eC eE) (.slice (some (qg ZC.y 0)) 1 1) (ZC.row [iV dY] 1)=some (.slice qN lQ cO,ZI)) (nx:Nx qN lQ cO (dY+1) ZI) (u1:dY<(aa:Int):=by omega) (u2:Ix duty lE:=by omega) (u3:I6 (dY+1):=by omega):zMG roster aE aF duty ao af ac ad ae aa ab ar ay am ew eC eE dY Z Nx Q0 :=
 kO 0 (qN,lQ,cO,dY+1) [.b true,.g,.g,.g,.c (.slice (some dC) lE cE) ZB,.g,.g,.g,.g,.i,.e undef ZC,.g,.g,.c (.bool true) ZC,.g,.g,.g,.e (.slice qN lQ cO) ZI,.g,.n (dY+1),.g] (fun _ f=>ai (zR u1) (an6 h1 u2 h2 h3 h4 (w64 u3) f)) nx
theorem yZA {Nx:(Option Addr)->Nat->Nat->Int->St->Prop} {Q0:(Option Addr)->Nat->Nat->St->Prop} (h1:qo 60 [.slice roster aE aF] Z (.slice (some dC) lE cE) ZB) (h2:qq (evL [pz (zJ dC (Int.toNat duty*1)),iV dY]) ZB (.store 3 (.tmp 0) (.tmp 1))=some (undef,ZC)) (h3:qo 62 [qh (wkc ao af ac ad ae aa ab ar ay am),.slice (some dC) lE cE] ZC (.bool false) ZC) (nx:Nx ew eC eE (dY+1) ZC) (u1:dY<(aa:Int):=by omega) (u2:Ix duty lE:=by omega) (u3:I6 (dY+1):=by omega):zMG roster aE aF duty ao af ac ad ae aa ab ar ay am ew eC eE dY Z Nx Q0 :=
 kO 0 (ew,eC,eE,dY+1) [.b true,.g,.g,.g,.c (.slice (some dC) lE cE) ZB,.g,.g,.g,.g,.i,.e undef ZC,.g,.g,.c (.bool false) ZC,.n (dY+1),.g] (fun _ f=>an6 (zR u1) h1 u2 h2 h3 (w64 u3) f) nx
theorem yYZ {Nx:(Option Addr)->Nat->Nat->Int->St->Prop} {Q0:(Option Addr)->Nat->Nat->St->Prop} (nx:Q0 ew eC eE Z) (u1:¬ dY<(aa:Int):=by omega):zMG roster aE aF duty ao af ac ad ae aa ab ar ay am ew eC eE dY Z Nx Q0 :=
 kO 1 (ew,eC,eE) [.b false] (fun _ f=>ai (zS u1) f) nx
theorem xHV {P0:(Option Addr)->Nat->Nat->St->Prop}:let s1:=Z.row (wkc ao af ac ad ae aa ab ar ay am) 6;let y0:=wkc ao af ac ad ae aa ab ar ay am;∀ (h1:qo 16 [qh y0] s1 (iV n1) s1) (h2:qo 52 [qh y0,.slice roster aE aF] s1 (.bool true) s1) (h3:qo 47 [iV duty,iV 0,iV ((ac:Int)-1)] s1 (.bool true) s1) (hL:yGX roster aE aF duty ao af ac ad ae aa ab ar ay am none 0 0 0 s1 P0) (k0:∀ p10_1' l10_1' c10_1' Z',P0 p10_1' l10_1' c10_1' Z'->zVJ roster aE aF duty ao af ac ad ae aa ab ar ay am p10_1' l10_1' c10_1' Z' Q) (u1:n1=0:=by omega) (u2:I6 ((ac:Int)-1):=by omega),qi 32 [qh y0,.slice roster aE aF,iV duty] Z Q:=
 let s1:=Z.row (wkc ao af ac ad ae aa ab ar ay am) 6;let y0:=wkc ao af ac ad ae aa ab ar ay am;fun h1 h2 h3 hL k0 u1 u2=>zG [.g,.g,.g,.l (qh y0),.c (iV n1) s1,.g,.g,.b false,.l (qh y0),.g,.c (.bool true) s1,.g,.g,.g,.g,.l (.slice af ac ad),.g,.n ((ac:Int)-1),.c (.bool true) s1,.g,.g,.l (qh y0),.g,.g,.g,.g,.l (.slice ae aa ab),.g,.g,.lf 54 (zGD roster aE aF duty ao af ac ad ae aa ab ar ay am none 0 0 0) [zKU roster aE aF duty ao af ac ad ae aa ab ar ay am P0]] (kd (an4 ((zC _ _ _).rw.ldN xV xB (k:=0) rfl rfl (nle rfl):lz s1 34 (qg Z.y 0) (qh y0)) h1 (vG u1) ((zC _ _ _).rw.ldN xV xB (k:=0) rfl rfl (nle rfl):lz s1 34 (qg Z.y 0) (qh y0)) (an6 h2 ((zC _ _ _).rw.ld zAV (k:=1) rfl:lz s1 31 (qg Z.y 1) (.slice af ac ad)) (w64 u2) h3 ((zC _ _ _).rw.ldN xV xB (k:=0) rfl rfl (nle rfl):lz s1 34 (qg Z.y 0) (qh y0)) ((zC _ _ _).rw.ld zAU (k:=2) rfl:lz s1 32 (qg Z.y 2) (.slice ae aa ab)) (ai (ai tt (ai (arf (zGD roster aE aF duty ao af ac ad ae aa ab ar ay am none 0 0 0)) hL)) (ai (kz3 k0) trivial)))))
theorem yKI (nx:Q (.tuple ⟨[.slice ew eC eE,iV 0]⟩) Z):zVJ roster aE aF duty ao af ac ad ae aa ab ar ay am ew eC eE Z Q :=
 sK [.g,.g,.g] nx
theorem xOT (h1:vP Pg .eql 26 (.tmp 3) (.const (.slice none 0 0)) (.slice s s_l s_c) (.slice none 0 0)=some (.bool false)) (h2:yC Pg 26 26 (.slice (some (qg Z.y 0)) 0 0) (.slice s s_l s_c) (Z.row [] 1)=some (.slice q2 l2 c2,Z1)) (nx:Q (.slice q2 l2 c2) Z1):qi 60 [.slice s s_l s_c] Z Q :=
 zG [.g,.g,.v (.bool false),.g,.g,.e (.slice q2 l2 c2) Z1,.g] (kd (an2 h1 h2 nx))
end
section
variable {Z:St}
theorem xXY {p:Option Addr} {len cap:Nat} {g:FuncId} {ga:List Value} {gc:List Value} {xs:List Dty} {f:Dty->Bool} (hs:SlV Pg Z 85 5 p len (xs.map zBT)) (hlen:len<=1073741824)
  (hc:∀ x∈xs,∀ τ,Le Z τ->zD Pg g (ga++(zBT x::gc)) τ (.bool (f x)) τ):∃ r:Int,zD Pg 87 [.slice p len cap,.func (.func g) ⟨ga⟩ ⟨gc⟩] Z (iV r) Z/\(0<=r↔xs.any f=true):=by
 have hl:xs.length=len:=by have:=hs.2.1;simpa using this
 have key:zP Pg 87 [.slice p len cap,.func (.func g) ⟨ga⟩ ⟨gc⟩] Z.re fun v s=>(∃ r:Int,v=iV r/\(0<=r↔xs.any f=true))/\s=Z.re:=by
  refine xTJ (yWK (Inv:=fun k i τ=>τ=Z.re/\∃ j:Nat,i=j/\j+k=len/\(xs.take j).any f=false) (Qr:=fun i τ=>τ=Z.re/\0<=i/\xs.any f=true) (Q0:=fun τ=>τ=Z.re/\xs.any f=false) ?_ len 0 Z.re ⟨rfl,0,rfl,by omega,by simp⟩) ?_ ?_
  ·rintro k i τ ⟨rfl,j,rfl,hk,ha⟩;by_cases hj:j<len
   ·obtain ⟨a,rfl,x,hx,ld⟩:=wZ hs.re hj;have c:=hc x (List.mem_of_getElem? hx) Z.re (le0 Z);cases hf:f x with
    | true =>
     rw [hf] at c;exact xNI ld c ⟨rfl,by omega,List.any_eq_true.2 ⟨x,List.mem_of_getElem? hx,hf⟩⟩
    | false =>
     rw [hf] at c;exact xNH ld c ⟨k-1,by omega,rfl,j+1,by omega,by omega,by rw [wD hx,List.any_append,ha];simp [hf]⟩
   ·exact xNG ⟨rfl,by rwa [List.take_of_length_le (by omega)] at ha⟩
  ·rintro i τ ⟨rfl,h1,h2⟩;exact yWI ⟨⟨i,rfl,by simp [h1,h2]⟩,rfl⟩
  ·rintro τ ⟨rfl,h⟩;exact yWJ ⟨⟨-1,rfl,by simp [h]⟩,rfl⟩
 obtain ⟨v,s,h1,⟨r,rfl,h2⟩,rfl⟩:=key;exact ⟨r,zRS h1 (Nat.le_refl _) rfl,h2⟩
theorem xYG {p:Option Addr} {len cap:Nat} {g:FuncId} {ga:List Value} {gc:List Value} {xs:List Dty} {f:Dty->Bool} (hs:SlV Pg Z 85 5 p len (xs.map zBT)) (hlen:len<=1073741824)
  (hc:∀ x∈xs,∀ τ,Le Z τ->zD Pg g (ga++(zBT x::gc)) τ (.bool (f x)) τ):zD Pg 67 [.slice p len cap,.func (.func g) ⟨ga⟩ ⟨gc⟩] Z (.bool (xs.any f)) Z:=by
 obtain ⟨r,h1,h2⟩:=xXY (Z:=Z.re) (cap:=cap) hs.re hlen (fun x hx τ hτ=>hc x hx τ ((le0 Z).trans hτ));cases ha:xs.any f with
 | true=>exact (xUE h1 ⟨rfl,Nat.le_refl _⟩ (h2.2 ha)).pure
 | false=>exact (xUD h1 ⟨rfl,Nat.le_refl _⟩ (fun h=>by rw [h2.1 h] at ha;cases ha)).pure
theorem xVC {x:Dty} {a:Addr} {g:FuncId} {ga:List Value} {gc:List Value} {b:Bool} (hr:Row Z a [.func (.func g) ⟨ga⟩ ⟨gc⟩]) (hc:∀ τ,Le Z τ->zD Pg g (ga++(zBT x::gc)) τ (.bool b) τ) :
  zD Pg 68 [zBT x,.pointer (some a)] Z (.bool (!b)) Z:=by
 cases b with
 | true=>exact (xPS (hr.re.row.ld1 xVZ) (hc _ ((le0 Z).trans (Le.row _ _ _))) ⟨rfl,Nat.le_refl _⟩).pure
 | false=>exact (xPR (hr.re.row.ld1 xVZ) (hc _ ((le0 Z).trans (Le.row _ _ _))) ⟨rfl,Nat.le_refl _⟩).pure
theorem xYN {p:Option Addr} {len cap:Nat} {g:FuncId} {ga:List Value} {gc:List Value} {xs:List Dty} {f:Dty->Bool} (hs:SlV Pg Z 85 5 p len (xs.map zBT)) (hlen:len<=1073741824)
  (hc:∀ x∈xs,∀ τ,Le Z τ->zD Pg g (ga++(zBT x::gc)) τ (.bool (f x)) τ):zD Pg 48 [.slice p len cap,.func (.func g) ⟨ga⟩ ⟨gc⟩] Z (.bool (xs.all f)) Z:=by
 have c:=xYG (Z:=Z.re.row [.func (.func g) ⟨ga⟩ ⟨gc⟩] 1) (g:=68) (ga:=[]) (gc:=[.pointer (some ⟨Z.re.y,0,none⟩)]) (f:=fun x=>!f x) (cap:=cap) hs.re.row hlen
  (fun x hx τ hτ=>xVC ((xP _ _ _).le hτ) (fun τ' hτ'=>hc x hx τ' ((((le0 Z).trans (Le.row _ _ _)).trans hτ).trans hτ')))
 have e:(xs.any fun x=>!f x)=!xs.all f:=by rw [List.not_all_eq_any_not]
 rw [e] at c;cases ha:xs.all f with
 | true=>rw [ha] at c;exact (xVA c ⟨rfl,Nat.le_refl _⟩).pure
 | false=>rw [ha] at c;exact (xVB c ⟨rfl,Nat.le_refl _⟩).pure
theorem xXX {p:Option Addr} {len cap:Nat} {g:FuncId} {gc:List Value} {xs:List Int} {f:Int->Bool} (hs:SlV Pg Z 3 1 p len (xs.map zY)) (hlen:len<=1073741824)
  (hc:∀ x∈xs,∀ τ,Le Z τ->zD Pg g (zY x::gc) τ (.bool (f x)) τ):∃ r:Int,zD Pg 105 [.slice p len cap,.func (.func g) ⟨[]⟩ ⟨gc⟩] Z (iV r) Z/\(0<=r↔xs.any f=true):=by
 have hl:xs.length=len:=by have:=hs.2.1;simpa using this
 have key:zP Pg 105 [.slice p len cap,.func (.func g) ⟨[]⟩ ⟨gc⟩] Z.re fun v s=>(∃ r:Int,v=iV r/\(0<=r↔xs.any f=true))/\s=Z.re:=by
  refine xTI (yWH (Inv:=fun k i τ=>τ=Z.re/\∃ j:Nat,i=j/\j+k=len/\(xs.take j).any f=false) (Qr:=fun i τ=>τ=Z.re/\0<=i/\xs.any f=true) (Q0:=fun τ=>τ=Z.re/\xs.any f=false) ?_ len 0 Z.re ⟨rfl,0,rfl,by omega,by simp⟩) ?_ ?_
  ·rintro k i τ ⟨rfl,j,rfl,hk,ha⟩;by_cases hj:j<len
   ·obtain ⟨a,rfl,x,hx,ld⟩:=wZ hs.re hj;have c:=hc x (List.mem_of_getElem? hx) Z.re (le0 Z);cases hf:f x with
    | true =>
     rw [hf] at c;exact xNE ld c ⟨rfl,by omega,List.any_eq_true.2 ⟨x,List.mem_of_getElem? hx,hf⟩⟩
    | false =>
     rw [hf] at c;exact xND ld c ⟨k-1,by omega,rfl,j+1,by omega,by omega,by rw [wD hx,List.any_append,ha];simp [hf]⟩
   ·exact xNC ⟨rfl,by rwa [List.take_of_length_le (by omega)] at ha⟩
  ·rintro i τ ⟨rfl,h1,h2⟩;exact yWF ⟨⟨i,rfl,by simp [h1,h2]⟩,rfl⟩
  ·rintro τ ⟨rfl,h⟩;exact yWG ⟨⟨-1,rfl,by simp [h]⟩,rfl⟩
 obtain ⟨v,s,h1,⟨r,rfl,h2⟩,rfl⟩:=key;exact ⟨r,zRS h1 (Nat.le_refl _) rfl,h2⟩
theorem xYF {p:Option Addr} {len cap:Nat} {g:FuncId} {gc:List Value} {xs:List Int} {f:Int->Bool} (hs:SlV Pg Z 3 1 p len (xs.map zY)) (hlen:len<=1073741824)
  (hc:∀ x∈xs,∀ τ,Le Z τ->zD Pg g (zY x::gc) τ (.bool (f x)) τ):zD Pg 89 [.slice p len cap,.func (.func g) ⟨[]⟩ ⟨gc⟩] Z (.bool (xs.any f)) Z:=by
 obtain ⟨r,h1,h2⟩:=xXX (Z:=Z.re) (cap:=cap) hs.re hlen (fun x hx τ hτ=>hc x hx τ ((le0 Z).trans hτ));cases ha:xs.any f with
 | true=>exact (xUA h1 ⟨rfl,Nat.le_refl _⟩ (h2.2 ha)).pure
 | false=>exact (xTZ h1 ⟨rfl,Nat.le_refl _⟩ (fun h=>by rw [h2.1 h] at ha;cases ha)).pure
theorem xUZ {x:Int} {a:Addr} {g:FuncId} {gc:List Value} {b:Bool} (hr:Row Z a [.func (.func g) ⟨[]⟩ ⟨gc⟩]) (hc:∀ τ,Le Z τ->zD Pg g (zY x::gc) τ (.bool b) τ) :
  zD Pg 90 [zY x,.pointer (some a)] Z (.bool (!b)) Z:=by
 cases b with
 | true=>exact (xPQ (hr.re.ld1 xPW) (hc _ (le0 Z)) ⟨rfl,Nat.le_refl _⟩).pure
 | false=>exact (xPP (hr.re.ld1 xPW) (hc _ (le0 Z)) ⟨rfl,Nat.le_refl _⟩).pure
theorem xYM {p:Option Addr} {len cap:Nat} {g:FuncId} {gc:List Value} {xs:List Int} {f:Int->Bool} (hs:SlV Pg Z 3 1 p len (xs.map zY)) (hlen:len<=1073741824)
  (hc:∀ x∈xs,∀ τ,Le Z τ->zD Pg g (zY x::gc) τ (.bool (f x)) τ):zD Pg 72 [.slice p len cap,.func (.func g) ⟨[]⟩ ⟨gc⟩] Z (.bool (xs.all f)) Z:=by
 have c:=xYF (Z:=Z.re.row [.func (.func g) ⟨[]⟩ ⟨gc⟩] 1) (g:=90) (gc:=[.pointer (some ⟨Z.re.y,0,none⟩)]) (f:=fun x=>!f x) (cap:=cap) hs.re.row hlen
  (fun x hx τ hτ=>xUZ ((xP _ _ _).le hτ) (fun τ' hτ'=>hc x hx τ' ((((le0 Z).trans (Le.row _ _ _)).trans hτ).trans hτ')))
 have e:(xs.any fun x=>!f x)=!xs.all f:=by rw [List.not_all_eq_any_not]
 rw [e] at c;cases ha:xs.all f with
 | true=>rw [ha] at c;exact (xUX c ⟨rfl,Nat.le_refl _⟩).pure
 | false=>rw [ha] at c;exact (xUY c ⟨rfl,Nat.le_refl _⟩).pure
theorem xXV {p:Option Addr} {len cap:Nat} {g:FuncId} {ga:List Value} {gc:List Value} {xs:List Drv} {f:Drv->Bool} (hs:zVO Z 88 p len xs) (hlen:len<=1073741824)
  (hc:∀ x∈xs,∀ v τ,Le Z τ->zTO τ v x->zD Pg g (ga++(v::gc)) τ (.bool (f x)) τ):∃ r:Int,zD Pg 88 [.slice p len cap,.func (.func g) ⟨ga⟩ ⟨gc⟩] Z (iV r) Z/\(0<=r↔xs.any f=true):=by
 obtain ⟨vs,hv1,hl,hv3⟩:=hs.le (le0 Z);have key:zP Pg 88 [.slice p len cap,.func (.func g) ⟨ga⟩ ⟨gc⟩] Z.re fun v s=>(∃ r:Int,v=iV r/\(0<=r↔xs.any f=true))/\s=Z.re:=by
  refine xTH (yWC (Inv:=fun k i τ=>τ=Z.re/\∃ j:Nat,i=j/\j+k=len/\(xs.take j).any f=false) (Qr:=fun i τ=>τ=Z.re/\0<=i/\xs.any f=true) (Q0:=fun τ=>τ=Z.re/\xs.any f=false) ?_ len 0 Z.re ⟨rfl,0,rfl,by omega,by simp⟩) ?_ ?_
  ·rintro k i τ ⟨rfl,j,rfl,hk,ha⟩;by_cases hj:j<len
   ·obtain ⟨a,rfl,_⟩:=hv1.some hj;obtain ⟨x,hxe⟩:∃ x,x=xs[j]:=⟨_,rfl⟩;have hx:xs[j]?=some x:=by rw [hxe];simp
    obtain ⟨v,g1,hv⟩:=hv3 j x hx;have c:=hc x (List.mem_of_getElem? hx) v Z.re (le0 Z) hv;obtain ⟨p',l',c',r',n',d',s',j',e',rfl,_⟩:=hv;have ld:zB Pg Z.re 88 (zJ a (Int.toNat (j:Int)*6))=some (.agg ⟨zN p' l' c' r' n' d' s' j' e' x.off x.row x.used⟩):=hv1.at rfl g1;cases hf:f x with
    | true =>
     rw [hf] at c;exact xMW ld c ⟨rfl,by omega,List.any_eq_true.2 ⟨x,List.mem_of_getElem? hx,hf⟩⟩
    | false =>
     rw [hf] at c;exact xMV ld c ⟨k-1,by omega,rfl,j+1,by omega,by omega,by rw [wD hx,List.any_append,ha];simp [hf]⟩
   ·exact xMU ⟨rfl,by rwa [List.take_of_length_le (by omega)] at ha⟩
  ·rintro i τ ⟨rfl,h1,h2⟩;exact yWA ⟨⟨i,rfl,by simp [h1,h2]⟩,rfl⟩
  ·rintro τ ⟨rfl,h⟩;exact yWB ⟨⟨-1,rfl,by simp [h]⟩,rfl⟩
 obtain ⟨v,s,h1,⟨r,rfl,h2⟩,rfl⟩:=key;exact ⟨r,zRS h1 (Nat.le_refl _) rfl,h2⟩
theorem xYD {p:Option Addr} {len cap:Nat} {g:FuncId} {ga:List Value} {gc:List Value} {xs:List Drv} {f:Drv->Bool} (hs:zVO Z 88 p len xs) (hlen:len<=1073741824)
  (hc:∀ x∈xs,∀ v τ,Le Z τ->zTO τ v x->zD Pg g (ga++(v::gc)) τ (.bool (f x)) τ):zD Pg 69 [.slice p len cap,.func (.func g) ⟨ga⟩ ⟨gc⟩] Z (.bool (xs.any f)) Z:=by
 obtain ⟨r,h1,h2⟩:=xXV (Z:=Z.re) (cap:=cap) (hs.le (le0 Z)) hlen (fun x hx v τ hτ=>hc x hx v τ ((le0 Z).trans hτ));cases ha:xs.any f with
 | true=>exact (xTW h1 ⟨rfl,Nat.le_refl _⟩ (h2.2 ha)).pure
 | false=>exact (xTV h1 ⟨rfl,Nat.le_refl _⟩ (fun h=>by rw [h2.1 h] at ha;cases ha)).pure
theorem xUU {x:Drv} {v:Value} {a:Addr} {g:FuncId} {ga:List Value} {gc:List Value} {b:Bool} (hv:zTO Z v x) (hr:Row Z a [.func (.func g) ⟨ga⟩ ⟨gc⟩]) (hc:∀ τ,Le Z τ->zTO τ v x->zD Pg g (ga++(v::gc)) τ (.bool b) τ) :
  zD Pg 70 [v,.pointer (some a)] Z (.bool (!b)) Z:=by
 have hc2:=fun τ (hτ:Le Z τ)=>hc τ hτ (hv.le hτ)
 obtain ⟨p',l',c',r',n',d',s',j',e',rfl,_⟩:=hv;cases b with
 | true=>exact (xPM (hr.re.row.ld1 xVY) (hc2 _ ((le0 Z).trans (Le.row _ _ _))) ⟨rfl,Nat.le_refl _⟩).pure
 | false=>exact (xPL (hr.re.row.ld1 xVY) (hc2 _ ((le0 Z).trans (Le.row _ _ _))) ⟨rfl,Nat.le_refl _⟩).pure
theorem xYK {p:Option Addr} {len cap:Nat} {g:FuncId} {ga:List Value} {gc:List Value} {xs:List Drv} {f:Drv->Bool} (hs:zVO Z 88 p len xs) (hlen:len<=1073741824)
  (hc:∀ x∈xs,∀ v τ,Le Z τ->zTO τ v x->zD Pg g (ga++(v::gc)) τ (.bool (f x)) τ):zD Pg 50 [.slice p len cap,.func (.func g) ⟨ga⟩ ⟨gc⟩] Z (.bool (xs.all f)) Z:=by
 have c:=xYD (Z:=Z.re.row [.func (.func g) ⟨ga⟩ ⟨gc⟩] 1) (g:=70) (ga:=[]) (gc:=[.pointer (some ⟨Z.re.y,0,none⟩)]) (f:=fun x=>!f x) (cap:=cap) (hs.le ((le0 Z).trans (Le.row _ _ _))) hlen
  (fun x hx v τ hτ hv=>xUU hv ((xP _ _ _).le hτ) (fun τ' hτ'=>hc x hx v τ' ((((le0 Z).trans (Le.row _ _ _)).trans hτ).trans hτ')))
 have e:(xs.any fun x=>!f x)=!xs.all f:=by rw [List.not_all_eq_any_not]
 rw [e] at c;cases ha:xs.all f with
 | true=>rw [ha] at c;exact (xUS c ⟨rfl,Nat.le_refl _⟩).pure
 | false=>rw [ha] at c;exact (xUT c ⟨rfl,Nat.le_refl _⟩).pure
section
variable {w:Wk} {p q:Option Addr} {l m c d:Nat}
theorem xQU {x:Dty} (hd:1<=w.days/\w.days<=7):zD Pg 49 [.agg ⟨wkc w.days p l c q m d w.rest w.run w.hours⟩,zBT x] Z (.bool (vW w x)) Z:=by
 have cin:∀ {τ:St} {n lo hi:Int} {b:Bool},inB n lo hi=b->zD Pg 47 [iV n,iV lo,iV hi] τ (.bool b) τ:=fun e=>e ▸ zFD
 unfold vW;cases c1:inB x.day 0 (w.days-1) with
 | false=>exact (xIF (cin c1) ⟨rfl,Nat.le_refl _⟩ (by omega)).pure
 | true =>
 cases c2:inB x.on 0 1439 with
 | false=>exact (xIG (cin c1) (cin c2) ⟨rfl,Nat.le_refl _⟩ (by omega)).pure
 | true =>
 have hon:=vK.1 c2;by_cases h1:x.on<=x.lo;rotate_left
 ·have:inB x.lo x.on x.hi=false:=yFD.2 (fun h=>h1 h.1);rw [this];exact (xIH (cin c1) (cin c2) ⟨rfl,Nat.le_refl _⟩ (by omega) h1).pure
 by_cases h2:x.lo<=x.hi;rotate_left
 ·have:inB x.lo x.on x.hi=false:=yFD.2 (fun h=>h2 h.2);rw [this];exact (xII (cin c1) (cin c2) ⟨rfl,Nat.le_refl _⟩ (by omega) h1 h2).pure
 have c3:inB x.lo x.on x.hi=true:=vK.2 ⟨h1,h2⟩;rw [c3];by_cases h3:x.hi<=x.on+1440
 ·rw [decide_eq_false (by omega:¬ x.on+1440<x.hi)];exact (xIK (cin c1) (cin c2) (cin rfl) ⟨by simp,Nat.le_refl _⟩ (by omega) h1 h2 (by omega) h3).pure
 ·rw [decide_eq_true (by omega:x.on+1440<x.hi)];exact (xIJ (cin c1) (cin c2) ⟨rfl,Nat.le_refl _⟩ (by omega) h1 h2 (by omega) h3).pure
theorem xCI {x:Drv} {v:Value} (hv:zTO Z v x) (hl:x.knows.length<=1000/\x.leave.length<=1000/\x.wish.length<=1000) (hd:1<=w.days/\w.days<=7):zD Pg 51 [.agg ⟨wkc w.days p l c q m d w.rest w.run w.hours⟩,v] Z (.bool (uN w x)) Z:=by
 have cin:∀ {τ:St} {n lo hi:Int} {b:Bool},inB n lo hi=b->zD Pg 47 [iV n,iV lo,iV hi] τ (.bool b) τ:=fun e=>e ▸ zFD
 obtain ⟨p',l',c',r',n',d',s',j',e',rfl,hkn,hlv,hws⟩:=hv;have L2:Le Z ((Z.re.row (wkc w.days p l c q m d w.rest w.run w.hours) 6).row (zN p' l' c' r' n' d' s' j' e' x.off x.row x.used) 6):=((le0 Z).trans (Le.row _ _ _)).trans (Le.row _ _ _);have k1:=yHO (c:=c') (lo:=0) (hi:=15) (SlV.le hkn L2) (by have:=hkn.len;omega);have k2:=yHO (c:=d') (lo:=0) (hi:=w.days-1) (SlV.le hlv L2) (by have:=hlv.len;omega);have k3:=yHO (c:=e') (lo:=0) (hi:=w.days-1) (SlV.le hws L2) (by have:=hws.len;omega);unfold uN;cases c1:xW x.knows 0 15 with
 | false=>rw [c1] at k1;exact (yRY k1 ⟨rfl,Nat.le_refl _⟩).pure
 | true =>
 rw [c1] at k1;cases c2:xW x.leave 0 (w.days-1) with
 | false=>rw [c2] at k2;exact (yRZ k1 k2 ⟨rfl,Nat.le_refl _⟩ (by omega)).pure
 | true =>
 rw [c2] at k2;cases c3:xW x.wish 0 (w.days-1) with
 | false=>rw [c3] at k3;exact (ySA k1 k2 k3 ⟨rfl,Nat.le_refl _⟩ (by omega)).pure
 | true =>
 rw [c3] at k3;cases c4:inB x.off (-10080) 1440 with
 | false=>exact (ySB k1 k2 k3 (cin c4) ⟨rfl,Nat.le_refl _⟩ (by omega)).pure
 | true =>
 cases c5:inB x.row 0 14 with
 | false=>exact (ySC k1 k2 k3 (cin c4) (cin c5) ⟨rfl,Nat.le_refl _⟩ (by omega)).pure
 | true=>exact (ySD k1 k2 k3 (cin c4) (cin c5) (cin rfl) ⟨by simp,Nat.le_refl _⟩ (by omega)).pure
theorem zKY (h:WkP Z 85 88 w p l q m) (hsh:zBC w):zD Pg 16 [.agg ⟨wkc w.days p l c q m d w.rest w.run w.hours⟩] Z (iV (xC w)) Z:=by
 have hn:=h.len.1;have hm:=h.len.2;by_cases h12:12<l
 ·have:xC w=3:=by unfold xC;rw [if_pos (.inl (by omega))]
  rw [this];exact (yKU ⟨rfl,Nat.le_refl _⟩ (by omega)).pure
 by_cases h6:6<m
 ·have:xC w=3:=by unfold xC;rw [if_pos (.inr (by omega))]
  rw [this];exact (yKT ⟨rfl,Nat.le_refl _⟩ (by omega) (by omega)).pure
 have hf0:xC w=if vC w && (w.duties.all (vW w) && w.drivers.all (uN w)) then 0 else 1:=by unfold xC;rw [if_neg (by omega)]
 have cin:∀ {τ:St} {n lo hi:Int} {b:Bool},inB n lo hi=b->zD Pg 47 [iV n,iV lo,iV hi] τ (.bool b) τ:=fun e=>e ▸ zFD
 have no:vC w=false->xC w=1:=fun e=>by rw [hf0,e];rfl
 cases b1:inB w.days 1 7 with
 | false=>rw [no (by unfold vC;rw [b1];rfl)];exact (yKM (cin b1) ⟨rfl,Nat.le_refl _⟩ (by omega) (by omega)).pure
 | true =>
 cases b2:inB w.rest 0 3000 with
 | false=>rw [no (by unfold vC;rw [b1,b2];rfl)];exact (yKN (cin b1) (cin b2) ⟨rfl,Nat.le_refl _⟩ (by omega) (by omega)).pure
 | true =>
 cases b3:inB w.run 1 14 with
 | false=>rw [no (by unfold vC;rw [b1,b2,b3];rfl)];exact (yKO (cin b1) (cin b2) (cin b3) ⟨rfl,Nat.le_refl _⟩ (by omega) (by omega)).pure
 | true =>
 cases b4:inB w.hours 0 20000 with
 | false=>rw [no (by unfold vC;rw [b1,b2,b3,b4];rfl)];exact (yKP (cin b1) (cin b2) (cin b3) (cin b4) ⟨rfl,Nat.le_refl _⟩ (by omega) (by omega)).pure
 | true =>
 have hh:vC w=true:=by unfold vC;rw [b1,b2,b3,b4];rfl
 have hd:=vK.1 b1;have L1:Le Z (Z.re.row (wkc w.days p l c q m d w.rest w.run w.hours) 6):=(le0 Z).trans (Le.row _ _ _);have cd:=xYN (cap:=c) (g:=49) (ga:=[.agg ⟨wkc w.days p l c q m d w.rest w.run w.hours⟩]) (gc:=[]) (f:=vW w) (SlV.le h.dty L1) (by omega) (fun x _ τ _=>xQU hd);have cv:=xYK (cap:=d) (g:=51) (ga:=[.agg ⟨wkc w.days p l c q m d w.rest w.run w.hours⟩]) (gc:=[]) (f:=uN w) (h.drv.le L1) (by omega) (fun x hx v τ _ hv=>xCI hv (hsh x hx) hd);cases e1:w.duties.all (vW w) with
 | false=>rw [e1] at cd;rw [hf0,hh,e1];exact (yKQ (cin b1) (cin b2) (cin b3) (cin b4) cd ⟨rfl,Nat.le_refl _⟩ (by omega) (by omega)).pure
 | true =>
 rw [e1] at cd;cases e2:w.drivers.all (uN w) with
 | false=>rw [e2] at cv;rw [hf0,hh,e1,e2];exact (yKR ⟨(cin b1),(cin b2),(cin b3),(cin b4),cd⟩ cv ⟨rfl,Nat.le_refl _⟩ (by omega) (by omega)).pure
 | true=>rw [e2] at cv;rw [hf0,hh,e1,e2];exact (yKS ⟨(cin b1),(cin b2),(cin b3),(cin b4),cd⟩ cv ⟨rfl,Nat.le_refl _⟩ (by omega) (by omega)).pure
end
end
def zZ (rs:List Int) (i:Nat):Int:=rs.getD i 0
section
variable {w:Wk} {ros tru:Nat->Int} {k D i:Nat}
end
section
variable {Z:St} {w:Wk} {p q r t:Option Addr} {l m c d rc tc:Nat} {rs ts:List Int} {k D:Nat}
end
structure Sane (w:Wk) (l m:Nat):Prop where
 l12:l<=12
 m6:m<=6
 duty:∀ i,i<l->0<=(dtQ w i).day/\(dtQ w i).day<=6/\0<=(dtQ w i).on/\(dtQ w i).on<=1439/\(dtQ w i).on<=(dtQ w i).lo/\(dtQ w i).lo<=(dtQ w i).hi/\(dtQ w i).hi<=(dtQ w i).on+1440
 dr:∀ k,k<m->-10080<=(drQ w k).off/\(drQ w k).off<=1440/\0<=(drQ w k).row/\(drQ w k).row<=14/\0<=(drQ w k).used/\(drQ w k).used<=20000
 kn:∀ k,k<m->(drQ w k).knows.length<=1000/\(drQ w k).leave.length<=1000/\(drQ w k).wish.length<=1000
 rest:0<=w.rest/\w.rest<=3000
 run:1<=w.run/\w.run<=14
 hours:0<=w.hours/\w.hours<=20000
theorem yYI {n:Nat} {p q r:Option Addr} {l c m d j e:Nat} {x y z:Int} (h1:∀ a,p=some a->a.block<n) (h2:∀ a,q=some a->a.block<n) (h3:∀ a,r=some a->a.block<n):yX RD n (.agg ⟨zN p l c q m d r j e x y z⟩)=true:=by
 have e1:∀ a b:Nat,a<b->Nat.blt a b=true:=fun a b h=>by rw [Nat.blt_eq];exact h
 show List.all (zN p l c q m d r j e x y z) (yX (RD-1) n)=true;rcases p with _ | p <;> rcases q with _ | q <;> rcases r with _ | r <;> simp [yX,RD] <;> simp_all
theorem zMD {n:Nat} {p q:Option Addr} {l c m d:Nat} {a x y z:Int} (h1:∀ a,p=some a->a.block<n) (h2:∀ a,q=some a->a.block<n):yX RD n (.agg ⟨wkc a p l c q m d x y z⟩)=true:=by
 have e1:∀ a b:Nat,a<b->Nat.blt a b=true:=fun a b h=>by rw [Nat.blt_eq];exact h
 show List.all (wkc a p l c q m d x y z) (yX (RD-1) n)=true;rcases p with _ | p <;> rcases q with _ | q <;> simp [yX,RD] <;> simp_all
section
variable {Z:St} {w:Wk} {p q r t:Option Addr} {l m c d rc tc:Nat} {rs ts:List Int} {k i:Nat}
end
abbrev yRB (b:Bch):Value:=.agg ⟨rcd b.kind b.drv b.dut⟩
section
variable {w:Wk} {ros tru:Nat->Int} {k q j:Nat}
end
section
variable {Z:St} {w:Wk} {p q r t:Option Addr} {l m c d rc tc:Nat} {rs ts:List Int} {k i:Nat}
end
def zIG (w:Wk) (rs:List Int):Bool:=rs.all (fun x=>inB x (-1) ((w.drivers.length:Int)-1)) && decide (rs.length=w.duties.length)
def zAR (w:Wk):List Int:=w.duties.map Dty.hi
section
variable {Z:St} {w:Wk} {p q r t:Option Addr} {l m c d rl rc tl tc:Nat} {rs ts:List Int} {td tv:Nat}
end
section
noncomputable section
variable (BA:Nat) (af vals ae:oAa) (f1:FuncId) (ac bP aa ad bT ab:Nat) (d8:lVa) (q2:(Option Addr)->Nat->Nat->St->Prop) (q0:(Option Addr)->Nat->Nat->Int->St->Prop) (fy:oAa) (aK:Int) (q6:St->Prop) (q5:Int->St->Prop) (ms:List Nat) (g:Nat->Value) (fK fR:Nat) (st:LoopState) (aI:Int) (pend:Option Code) (Z:St) (db:Nat) (Qn:St->Prop) (Q:vPa) (q3:(Option Addr)->Nat->Nat->Int->St->Prop) (Nx Qr:Int->St->Prop) (q4:(Option Addr)->Nat->Nat->St->Prop) (Q0:St->Prop)
def zHL:Code:=(Code.part [1,0,1,0,0] (qj 85))
def zHK:Code:=(Code.part [1,0,1,0,1] (qj 85))
def zFW:lNa:=[(4,pq BA 0),(8,.func (.func f1) ⟨[]⟩ ⟨d8⟩)]
def yGD:Blk:=.loop (Fm 16 (ov (zFW BA f1 d8) g)) [9,10] zHL zHK st pend db
def xGK:Prop:=zTM Pg ql (.tmp 8) ⟨[9,10]⟩ zHL zHK 16 (zFW BA f1 d8) [(.normal,Qn)] Z
def zUV:Prop:=∀ g:Nat->Value,∃ an,Hid (kAt Pg ql none (qj 85) [1,0,1,0] (qn 85 Q) .normal ⟨Fm 16 (ov (zFW BA f1 d8) g),ms⟩ Z an)
def xBR:Code:=(Code.part [1,0,1,0,0] (qj 86))
def zQN:lNa:=[(2,.slice fy fK fR),(6,.slice af ac ad),(7,iV (ac:Int)),(8,iV aI)]
def xOH:Alt:=⟨(Option Addr) × Nat × Nat × Int,.normal,fun t=>zQN af ac ad t.1 t.2.1 t.2.2.1 t.2.2.2,fun t=>[],fun t Z=>q0 t.1 t.2.1 t.2.2.1 t.2.2.2 Z⟩
def yGB (af:oAa) (ac ad:Nat) (fy:oAa) (fK fR:Nat):lNa:=[(2,.slice fy fK fR)]
def zST:Alt:=⟨(Option Addr) × Nat × Nat,(.exit 0),fun t=>yGB af ac ad t.1 t.2.1 t.2.2,fun t=>[],fun t Z=>q2 t.1 t.2.1 t.2.2 Z⟩
def yJG:Prop:=qk ql none xBR 20 (zQN af ac ad fy fK fR aI) [] [xOH af ac ad q3,zST af ac ad q4] Z
def xBS:Prop:=qm ql none xBR 20 (zQN af ac ad fy fK fR aI) [] [zST af ac ad q4] Z
def yGC:Prop:=kZ ql (qj 86) [1,0,1,0] (qn 86 Q) (.exit 0) 20 (yGB af ac ad fy fK fR) Z
def zWY:Code:=(Code.part [1,0,1,0,0] (qj 74))
def zGL:lNa:=[(2,pq BA 0),(6,.slice ae aa ab),(7,iV (aa:Int)),(8,iV aI)]
def yLB:Alt:=⟨Int,.normal,fun t=>zGL BA ae aa ab t,fun t=>[],fun t Z=>q5 t Z⟩
def zOU (BA:Nat) (ae:oAa) (aa ab:Nat):lNa:=[(2,pq BA 0)]
def zGM:Alt:=⟨Unit,(.exit 0),fun t=>zOU BA ae aa ab,fun t=>[],fun t Z=>q6 Z⟩
def zNG:Prop:=qk ql none zWY 24 (zGL BA ae aa ab aI) [] [yLB BA ae aa ab Nx,zGM BA ae aa ab Q0] Z
def zWZ:Prop:=qm ql none zWY 24 (zGL BA ae aa ab aI) [] [zGM BA ae aa ab Q0] Z
def zOV:Prop:=kZ ql (qj 74) [1,0,1,0] (qn 74 Q) (.exit 0) 24 (zOU BA ae aa ab) Z
def yQO:Code:=(Code.part [1,1,0,1,0,0] (qj 80))
def zKJ:lNa:=[(3,iV 0),(6,.slice vals bP bT),(7,iV (bP:Int)),(8,iV aI)]
def xGW:Alt:=⟨Int,.normal,fun t=>zKJ vals bP bT t,fun t=>[],fun t Z=>q5 t Z⟩
def yAY (vals:oAa) (bP bT:Nat) (aK:Int):lNa:=[(2,iV aK)]
def zOJ:Alt:=⟨Int,.ret,fun t=>yAY vals bP bT t,fun t=>[],fun t Z=>q5 t Z⟩
def yAZ (vals:oAa) (bP bT:Nat):lNa:=[(3,iV 0)]
def zOK:Alt:=⟨Unit,(.exit 0),fun t=>yAZ vals bP bT,fun t=>[],fun t Z=>q6 Z⟩
def zQT:Prop:=qk ql none yQO 18 (zKJ vals bP bT aI) [] [xGW vals bP bT Nx,zOJ vals bP bT Qr,zOK vals bP bT Q0] Z
def yQP:Prop:=qm ql none yQO 18 (zKJ vals bP bT aI) [] [zOJ vals bP bT Qr,zOK vals bP bT Q0] Z
def yBA:Prop:=kZ ql (qj 80) [1,1,0,1,0] (qn 80 Q) .ret 18 (yAY vals bP bT aK) Z
def yBB:Prop:=kZ ql (qj 80) [1,1,0,1,0] (qn 80 Q) (.exit 0) 18 (yAZ vals bP bT) Z
end
variable {ao ar ay am day y aC aP az aA aG aI nA nH nF nG nE nI bZ dT eL dS eM x1 aU bF ba a9 n1 n2 n3 n4 eg aK dZ dE eH fh eG ft:Int} {af ae qLB qMB qR qEB fy qI qD qE qF q1 vals:oAa} {ac ad aa ab BA lo lPB cMB lQB cNB db lM cS lIB cEB fK fR lJ cJ lE cE lG cG lH cF l1 c1 bP bT:Nat} {Z ZRB ZSB τ Z2 ZH fX ZQ ZDB:St} {Q:vPa} {f1:FuncId} {d8 cs1838 cs1840:lVa} {g:Nat->Value} {Qn Pn Q0 P0:St->Prop} {ms:List Nat} {Inv:Nat->Int->St->Prop} {w_Duties_a bu vals_a:Addr} {Nx Qr Pr:Int->St->Prop} {b2:Bool}
theorem xZF:let y0:=wkc ao af ac ad ae aa ab ar ay am;∀ (nx:Q (.func (.func 91) ⟨[]⟩ ⟨[pq Z.y 0,pq ((Z.y+1)) 0]⟩) ((Z.row y0 6).row [iV day] 1)),qi 75 [qh y0,iV day] Z Q :=
 fun nx=>zG [.g,.g,.g,.g,.g] (kd nx)
theorem yWV (hl:yJ τ.heap lo=some (yGD BA f1 d8 g .ready none db)) (hZ:Z=τ.re.put lo (yGD BA f1 d8 g .busy none db)) (h1:lz Z 26 (qg BA 0) (.slice qLB lPB cMB)) (h2:yC Pg 26 26 (.slice qLB lPB cMB) (.slice (some (qg Z.y 0)) 1 1) (Z.row [iV y] 1)=some (.slice qMB lQB cNB,ZRB)) (h3:qq (evL [pq BA 0,.slice qMB lQB cNB]) ZRB (.store 26 (.tmp 0) (.tmp 1))=some (undef,ZSB)) (nx:Qn ZSB):zFB Pg lo [iV y,qh (zF aC aP az aA aG)] τ (Fm 16 (ov (zFW BA f1 d8) g)) [9,10] zHL zHK db [⟨Unit,.normal,fun _=>[],fun _=>[],fun _ Z=>Qn Z⟩] :=
 xJF hl rfl hZ [.g,.l (.slice qLB lPB cMB),.g,.g,.e (.slice qMB lQB cNB) ZRB,.e undef ZSB,.fin ⟨Unit,.normal,fun _=>[],fun _=>[],fun _ Z=>Qn Z⟩ ()] (kc (by kernel_rfl) (ai (ai (rfl:Exit.normal=Exit.normal) (rfl:τ.re=τ.re)) (an3 h1 h2 h3 (xXZ (alts:=[⟨Unit,.normal,fun _=>[],fun _=>[],fun _ Z=>Qn Z⟩]) ⟨Unit,.normal,fun _=>[],fun _=>[],fun _ Z=>Qn Z⟩ () nx in0))))
theorem xGJ:let y0:=wkc ao af ac ad ae aa ab ar ay am;∀ (h1:qo 75 [qh y0,iV day] ((Z.row y0 6).row [.slice none 0 0] 1) (.func (.func f1) ⟨[]⟩ ⟨d8⟩) Z2) (hL:xGK (Z.y+1) f1 d8 Z2 Pn) (kn:∀ Z',Pn Z'->zUV (Z.y+1) f1 d8 [Z2.y] Z' Q),qi 85 [qh y0,iV day] Z Q :=
 let s1:=zFW (Z.y+1) f1 d8;let y0:=wkc ao af ac ad ae aa ab ar ay am;fun h1 hL kn=>zG [.g,.g,.l (qh y0),.g,.c (.func (.func f1) ⟨[]⟩ ⟨d8⟩) Z2,.rf 16 s1 [(.normal,Pn)]] (kd (an2 ((zC _ _ _).row.rw.ldN xV xB (k:=0) rfl rfl (nle rfl):lz ((Z.row y0 6).row [.slice none 0 0] 1) 34 (qg Z.y 0) (qh y0)) h1 (ai (ai tt (ai (arf s1) hL)) (ai (kz kn) trivial))))
theorem yJI (h1:lz Z 26 (qg BA 0) (.slice qR lM cS)) (h2:qq (evL [pq BA 0,.slice qR lM cS]) Z (.store 26 (.tmp 0) (.tmp 1))=some (undef,ZH)) (h3:xCF ms ZH fX) (h4:lz fX 26 (qg BA 0) (.slice qEB lIB cEB)) (nx:Q (.slice qEB lIB cEB) fX):zUV BA f1 d8 ms Z Q :=
 sK [.l (.slice qR lM cS),.e undef ZH,.l (.slice qEB lIB cEB)] (an2 h1 h2 (zNF (K:=(fun fX=>lz fX 26 (qg BA 0) (.slice qEB lIB cEB)/\Q (.slice qEB lIB cEB) fX)) h3 (ai h4 nx)))
theorem yWR {Inv:Nat->(Option Addr)->Nat->Nat->Int->St->Prop} {Q0:(Option Addr)->Nat->Nat->St->Prop} (hb:∀ k fy fK fR aI Z,Inv k fy fK fR aI Z->yJG af ac ad fy fK fR aI Z (NX4 Inv k) Q0):∀ k fy fK fR aI Z,Inv k fy fK fR aI Z->xBS af ac ad fy fK fR aI Z Q0 :=
 yIT (ai (xZ 0) trivial) hb
theorem xOG {Nx:(Option Addr)->Nat->Nat->Int->St->Prop} {Q0:(Option Addr)->Nat->Nat->St->Prop}:let y0:=zF nA nH nF nG nE;∀ (h1:lz Z 85 (zJ w_Duties_a (Int.toNat aI*5)) (qh y0)) (h2:yC Pg 26 26 (.slice fy fK fR) (.slice (some ⟨(Z.y+1),0,none⟩) 1 1) (((Z.row (zF 0 0 0 0 0) 5).own Z.y y0 5).row [iV nG] 1)=some (.slice qI lJ cJ,ZQ)) (nx:Nx qI lJ cJ (aI+1) ZQ) (u1:aI<(ac:Int):=by omega) (u2:Ix aI ac:=by omega) (u3:I6 (aI+1):=by omega),yJG (some w_Duties_a) ac ad fy fK fR aI Z Nx Q0 :=
 let s1:=Z.row (zF 0 0 0 0 0) 5;let s2:=s1.own Z.y (zF nA nH nF nG nE) 5;let y0:=zF nA nH nF nG nE;fun h1 h2 nx u1 u2 u3=>kO 0 (qI,lJ,cJ,aI+1) [.b true,.i,.l (qh y0),.g,.e undef s2,.g,.g,.g,.l (iV nG),.g,.e (.slice qI lJ cJ) ZQ,.g,.n (aI+1),.g] (fun _ f=>ai (zR u1) (an6 u2 h1 ((zC _ _ _).store (vs:=y0) rfl uK rfl (nle rfl) rfl:qq (evL [pq Z.y 0,qh y0]) s1 (.store 85 (.tmp 0) (.tmp 1))=some (undef,s2)) ((zC _ _ _).put.rw.ld zU (k:=3) rfl:lz s2 3 (qg Z.y 3) (iV nG)) h2 (w64 u3) f)) nx
theorem xOF {Nx:(Option Addr)->Nat->Nat->Int->St->Prop} {Q0:(Option Addr)->Nat->Nat->St->Prop} (nx:Q0 fy fK fR Z) (u1:¬ aI<(ac:Int):=by omega):yJG af ac ad fy fK fR aI Z Nx Q0 :=
 kO 1 (fy,fK,fR) [.b false] (fun _ f=>ai (zS u1) f) nx
theorem xTR {P0:(Option Addr)->Nat->Nat->St->Prop} (hL:xBS af ac ad none 0 0 0 (Z.row (wkc ao af ac ad ae aa ab ar ay am) 6) P0) (k0:∀ p2_1' l2_1' c2_1' Z',P0 p2_1' l2_1' c2_1' Z'->yGC af ac ad p2_1' l2_1' c2_1' Z' Q):qi 86 [qh (wkc ao af ac ad ae aa ab ar ay am)] Z Q :=
 zG [.g,.g,.g,.l (.slice af ac ad),.g,.g,.lf 20 (zQN af ac ad none 0 0 0) [zST af ac ad P0]] (kd (ai ((zC _ _ _).rw.ld zAV (k:=1) rfl:lz (Z.row (wkc ao af ac ad ae aa ab ar ay am) 6) 31 (qg Z.y 1) (.slice af ac ad)) (ai (ai tt (ai (arf (zQN af ac ad none 0 0 0)) hL)) (ai (kz3 k0) trivial))))
theorem yWQ (nx:Q (.slice fy fK fR) Z):yGC af ac ad fy fK fR Z Q :=
 sK [.g,.g] nx
theorem yCB (hb:∀ k aI Z,Inv k aI Z->zNG BA ae aa ab aI Z (NX1 Inv k) Q0):∀ k aI Z,Inv k aI Z->zWZ BA ae aa ab aI Z Q0 :=
 xL (ai (xZ 0) trivial) hb
theorem yLA:let y0:=zN qD lE cE qE lG cG qF lH cF nG nE nI;∀ (h1:lz Z 88 (zJ bu (Int.toNat aI*6)) (qh y0)) (h2:qq (evL [pq BA (0+Int.toNat aI*4),qh (zL nG nE nI (-1))]) ((Z.row (zN none 0 0 none 0 0 none 0 0 0 0 0) 6).own Z.y y0 6) (.store 107 (.tmp 0) (.tmp 1))=some (undef,ZDB)) (nx:Nx (aI+1) ZDB) (u1:aI<(aa:Int):=by omega) (u2:Ix aI aa:=by omega) (u3:Ix aI 6:=by omega) (u4:I6 (aI+1):=by omega),zNG BA (some bu) aa ab aI Z Nx Q0 :=
 let s1:=Z.row (zN none 0 0 none 0 0 none 0 0 0 0 0) 6;let s2:=s1.own Z.y (zN qD lE cE qE lG cG qF lH cF nG nE nI) 6;let y0:=zN qD lE cE qE lG cG qF lH cF nG nE nI;fun h1 h2 nx u1 u2 u3 u4=>kO 0 (aI+1) [.b true,.g,.i,.l (qh y0),.g,.g,.e undef s2,.g,.g,.l (iV nG),.g,.l (iV nE),.g,.l (iV nI),.g,.i,.e undef ZDB,.n (aI+1),.g] (fun _ f=>an4 (zR u1) u2 h1 ((zC _ _ _).store (vs:=y0) rfl zRI rfl (nle rfl) rfl:qq (evL [pq Z.y 0,qh y0]) s1 (.store 88 (.tmp 0) (.tmp 1))=some (undef,s2)) (an6 ((zC _ _ _).put.rw.ld zU (k:=3) rfl:lz s2 3 (qg Z.y 3) (iV nG)) ((zC _ _ _).put.rw.ld zU (k:=4) rfl:lz s2 3 (qg Z.y 4) (iV nE)) ((zC _ _ _).put.rw.ld zU (k:=5) rfl:lz s2 3 (qg Z.y 5) (iV nI)) u3 h2 (w64 u4) f)) nx
theorem yKZ (nx:Q0 Z) (u1:¬ aI<(aa:Int):=by omega):zNG BA ae aa ab aI Z Nx Q0 :=
 kO 1 () [.b false] (fun _ f=>ai (zS u1) f) nx
theorem ySE (hL:zWZ (Z.y+1) ae aa ab 0 ((Z.row (wkc ao af ac ad ae aa ab ar ay am) 6).row [iV 0,iV 0,iV 0,iV 0,iV 0,iV 0,iV 0,iV 0,iV 0,iV 0,iV 0,iV 0,iV 0,iV 0,iV 0,iV 0,iV 0,iV 0,iV 0,iV 0,iV 0,iV 0,iV 0,iV 0] 4) P0) (k0:∀ Z',P0 Z'->zOV (Z.y+1) ae aa ab Z' Q):qi 74 [qh (wkc ao af ac ad ae aa ab ar ay am)] Z Q :=
 let s1:=zGL (Z.y+1) ae aa ab 0;zG [.g,.g,.g,.l (.slice ae aa ab),.g,.g,.lf 24 s1 [zGM (Z.y+1) ae aa ab P0]] (kd (ai ((zC _ _ _).row.rw.ld zAU (k:=2) rfl:lz ((Z.row (wkc ao af ac ad ae aa ab ar ay am) 6).row [iV 0,iV 0,iV 0,iV 0,iV 0,iV 0,iV 0,iV 0,iV 0,iV 0,iV 0,iV 0,iV 0,iV 0,iV 0,iV 0,iV 0,iV 0,iV 0,iV 0,iV 0,iV 0,iV 0,iV 0] 4) 32 (qg Z.y 2) (.slice ae aa ab)) (ai (ai tt (ai (arf s1) hL)) (ai (kz0 k0) trivial))))
theorem yCA (h1:lz Z 109 (qg BA 0) (qh cs1838)) (h2:qq (evL [pq BA 0,qh cs1838]) Z (.store 109 (.tmp 0) (.tmp 1))=some (undef,ZH)) (h3:lz ZH 109 (qg BA 0) (qh cs1840)) (nx:Q (qh cs1840) ZH):zOV BA ae aa ab Z Q :=
 sK [.l (qh cs1838),.e undef ZH,.l (qh cs1840)] (an3 h1 h2 h3 nx)
theorem yIB (nx:Q (.slice (some (qg Z.y 0)) 5 5) (Z.row [.int .u8 0,.func (.func 92) ⟨[]⟩ ⟨[]⟩,.int .u8 1,.func (.func 93) ⟨[]⟩ ⟨[]⟩,.int .u8 2,.func (.func 94) ⟨[]⟩ ⟨[]⟩,.int .u8 3,.func (.func 95) ⟨[]⟩ ⟨[]⟩,.int .u8 4,.func (.func 96) ⟨[]⟩ ⟨[]⟩] 2)):qi 76 [] Z Q :=
 zG [.g,.g,.g,.g,.g,.g,.g,.g] (kd nx)
theorem xDQ:let s1:=Z.row (wkc ao af ac ad (some bu) aa ab ar ay am) 6;let s2:=s1.row (zF aC aP az aA aG) 5;let s3:=s2.row (zL dT eL dS eM) 4;∀ (h1:lz s3 26 (zJ bu ((Int.toNat bZ*6)+0)) (.slice q1 l1 c1)) (h2:qo 58 [.slice q1 l1 c1,iV aG] s3 (.bool b2) s3) (nx:Q (.bool b2) s3) (u1:Ix bZ aa:=by omega),qi 92 [qh (wkc ao af ac ad (some bu) aa ab ar ay am),iV bZ,qh (zF aC aP az aA aG),qh (zL dT eL dS eM)] Z Q:=
 let s1:=Z.row (wkc ao af ac ad (some bu) aa ab ar ay am) 6;let s2:=s1.row (zF aC aP az aA aG) 5;let s3:=s2.row (zL dT eL dS eM) 4;fun h1 h2 nx u1=>zG [.g,.g,.g,.g,.g,.l (.slice (some bu) aa ab),.g,.i,.g,.l (.slice q1 l1 c1),.g,.l (iV aG),.c (.bool b2) s3,.g] (kd (an5 ((zC _ _ _).row.row.rw.ld zAU (k:=2) rfl:lz s3 32 (qg Z.y 2) (.slice (some bu) aa ab)) u1 h1 ((zC _ _ _).row.rw.ld zU (k:=4) rfl:lz s3 3 ⟨(Z.y+1),4,none⟩ (iV aG)) h2 nx))
theorem xJW:let s1:=Z.row (wkc ao af ac ad (some bu) aa ab ar ay am) 6;let s2:=s1.row (zF aC aP az aA aG) 5;let s3:=s2.row (zL dT eL dS eM) 4;∀ (h1:lz s3 26 (zJ bu ((Int.toNat bZ*6)+1)) (.slice q1 l1 c1)) (h2:qo 58 [.slice q1 l1 c1,iV aC] s3 (.bool true) s3) (nx:Q (.bool false) s3) (u1:Ix bZ aa:=by omega),qi 93 [qh (wkc ao af ac ad (some bu) aa ab ar ay am),iV bZ,qh (zF aC aP az aA aG),qh (zL dT eL dS eM)] Z Q:=
 let s1:=Z.row (wkc ao af ac ad (some bu) aa ab ar ay am) 6;let s2:=s1.row (zF aC aP az aA aG) 5;let s3:=s2.row (zL dT eL dS eM) 4;fun h1 h2 nx u1=>zG [.g,.g,.g,.g,.g,.l (.slice (some bu) aa ab),.g,.i,.g,.l (.slice q1 l1 c1),.g,.l (iV aC),.c (.bool true) s3,.g,.g] (kd (an5 ((zC _ _ _).row.row.rw.ld zAU (k:=2) rfl:lz s3 32 (qg Z.y 2) (.slice (some bu) aa ab)) u1 h1 ((zC _ _ _).row.rw.ld zU (k:=0) rfl:lz s3 3 ⟨(Z.y+1),0,none⟩ (iV aC)) h2 nx))
theorem xJV:let s1:=Z.row (wkc ao af ac ad (some bu) aa ab ar ay am) 6;let s2:=s1.row (zF aC aP az aA aG) 5;let s3:=s2.row (zL dT eL dS eM) 4;∀ (h1:lz s3 26 (zJ bu ((Int.toNat bZ*6)+1)) (.slice q1 l1 c1)) (h2:qo 58 [.slice q1 l1 c1,iV aC] s3 (.bool false) s3) (nx:Q (.bool true) s3) (u1:Ix bZ aa:=by omega),qi 93 [qh (wkc ao af ac ad (some bu) aa ab ar ay am),iV bZ,qh (zF aC aP az aA aG),qh (zL dT eL dS eM)] Z Q:=
 let s1:=Z.row (wkc ao af ac ad (some bu) aa ab ar ay am) 6;let s2:=s1.row (zF aC aP az aA aG) 5;let s3:=s2.row (zL dT eL dS eM) 4;fun h1 h2 nx u1=>zG [.g,.g,.g,.g,.g,.l (.slice (some bu) aa ab),.g,.i,.g,.l (.slice q1 l1 c1),.g,.l (iV aC),.c (.bool false) s3,.g,.g] (kd (an5 ((zC _ _ _).row.row.rw.ld zAU (k:=2) rfl:lz s3 32 (qg Z.y 2) (.slice (some bu) aa ab)) u1 h1 ((zC _ _ _).row.rw.ld zU (k:=0) rfl:lz s3 3 ⟨(Z.y+1),0,none⟩ (iV aC)) h2 nx))
theorem yUD:let y0:=wkc ao af ac ad ae aa ab ar ay am;let y1:=zF aC aP az aA aG;∀ (nx:Q (.bool true) (((Z.row y0 6).row y1 5).row (zL aU bF ba a9) 4)) (u1:¬ a9=aC:=by omega),qi 94 [qh y0,iV x1,qh y1,qh (zL aU bF ba a9)] Z Q :=
 let s1:=Z.row (wkc ao af ac ad ae aa ab ar ay am) 6;let s2:=s1.row (zF aC aP az aA aG) 5;let s3:=s2.row (zL aU bF ba a9) 4;fun nx u1=>zG [.g,.g,.g,.g,.g,.l (iV a9),.g,.l (iV aC),.b true,.g] (kd (an3 ((zC _ _ _).rw.ld zU (k:=3) rfl:lz s3 3 ⟨(Z.y+2),3,none⟩ (iV a9)) ((zC _ _ _).row.rw.ld zU (k:=0) rfl:lz s3 3 ⟨(Z.y+1),0,none⟩ (iV aC)) (zGX u1) nx))
theorem yUC:let y0:=wkc ao af ac ad ae aa ab ar ay am;let y1:=zF aC aP az aA aG;∀ (nx:Q (.bool false) (((Z.row y0 6).row y1 5).row (zL aU bF ba a9) 4)) (u1:a9=aC:=by omega),qi 94 [qh y0,iV x1,qh y1,qh (zL aU bF ba a9)] Z Q :=
 let s1:=Z.row (wkc ao af ac ad ae aa ab ar ay am) 6;let s2:=s1.row (zF aC aP az aA aG) 5;let s3:=s2.row (zL aU bF ba a9) 4;fun nx u1=>zG [.g,.g,.g,.g,.g,.l (iV a9),.g,.l (iV aC),.b false,.g] (kd (an3 ((zC _ _ _).rw.ld zU (k:=3) rfl:lz s3 3 ⟨(Z.y+2),3,none⟩ (iV a9)) ((zC _ _ _).row.rw.ld zU (k:=0) rfl:lz s3 3 ⟨(Z.y+1),0,none⟩ (iV aC)) (vG u1) nx))
theorem yUG:let y0:=wkc ao af ac ad ae aa ab ar ay am;let y1:=zF aC aP az aA aG;∀ (nx:Q (.bool true) (((Z.row y0 6).row y1 5).row (zL aU bF ba a9) 4)) (u1:a9=aC:=by omega),qi 95 [qh y0,iV x1,qh y1,qh (zL aU bF ba a9)] Z Q :=
 let s1:=Z.row (wkc ao af ac ad ae aa ab ar ay am) 6;let s2:=s1.row (zF aC aP az aA aG) 5;let s3:=s2.row (zL aU bF ba a9) 4;fun nx u1=>zG [.g,.g,.g,.g,.g,.l (iV a9),.g,.l (iV aC),.b true,.g,.g,.g] (kd (an3 ((zC _ _ _).rw.ld zU (k:=3) rfl:lz s3 3 ⟨(Z.y+2),3,none⟩ (iV a9)) ((zC _ _ _).row.rw.ld zU (k:=0) rfl:lz s3 3 ⟨(Z.y+1),0,none⟩ (iV aC)) (xH u1) nx))
theorem yUF:let y0:=wkc ao af ac ad ae aa ab ar ay am;let y1:=(aC*1440)+aP;let y2:=zF aC aP az aA aG;∀ (nx:Q (.bool true) (((Z.row y0 6).row y2 5).row (zL aU bF ba a9) 4)) (u1:¬ a9=aC:=by omega) (u2:I6 (aC*1440):=by omega) (u3:I6 y1:=by omega) (u4:I6 (y1-aU):=by omega) (u5:ar<=(y1-aU):=by omega),qi 95 [qh y0,iV x1,qh y2,qh (zL aU bF ba a9)] Z Q :=
 let s1:=Z.row (wkc ao af ac ad ae aa ab ar ay am) 6;let s2:=s1.row (zF aC aP az aA aG) 5;let s3:=s2.row (zL aU bF ba a9) 4;let s4:=aC*1440;let s5:=Z.y+1;fun nx u1 u2 u3 u4 u5=>zG [.g,.g,.g,.g,.g,.l (iV a9),.g,.l (iV aC),.b false,.g,.g,.l (iV aC),.n s4,.g,.l (iV aP),.n (s4+aP),.g,.l (iV aU),.n ((s4+aP)-aU),.g,.l (iV ar),.b true,.g,.g] (kd (an5 ((zC _ _ _).rw.ld zU (k:=3) rfl:lz s3 3 ⟨(Z.y+2),3,none⟩ (iV a9)) ((zC _ _ _).row.rw.ld zU (k:=0) rfl:lz s3 3 (qg s5 0) (iV aC)) (yD u1) ((zC _ _ _).row.rw.ld zU (k:=0) rfl:lz s3 3 (qg s5 0) (iV aC)) (w64 u2) (an6 ((zC _ _ _).row.rw.ld zU (k:=1) rfl:lz s3 3 (qg s5 1) (iV aP)) (w64 u3) ((zC _ _ _).rw.ld zU (k:=0) rfl:lz s3 3 ⟨(Z.y+2),0,none⟩ (iV aU)) (w64 u4) ((zC _ _ _).row.row.rw.ld zU (k:=3) rfl:lz s3 3 (qg Z.y 3) (iV ar)) (yE u5) nx)))
theorem yUE:let y0:=wkc ao af ac ad ae aa ab ar ay am;let y1:=(aC*1440)+aP;let y2:=zF aC aP az aA aG;∀ (nx:Q (.bool false) (((Z.row y0 6).row y2 5).row (zL aU bF ba a9) 4)) (u1:¬ a9=aC:=by omega) (u2:I6 (aC*1440):=by omega) (u3:I6 y1:=by omega) (u4:I6 (y1-aU):=by omega) (u5:¬ ar<=(y1-aU):=by omega),qi 95 [qh y0,iV x1,qh y2,qh (zL aU bF ba a9)] Z Q :=
 let s1:=Z.row (wkc ao af ac ad ae aa ab ar ay am) 6;let s2:=s1.row (zF aC aP az aA aG) 5;let s3:=s2.row (zL aU bF ba a9) 4;let s4:=aC*1440;let s5:=Z.y+1;fun nx u1 u2 u3 u4 u5=>zG [.g,.g,.g,.g,.g,.l (iV a9),.g,.l (iV aC),.b false,.g,.g,.l (iV aC),.n s4,.g,.l (iV aP),.n (s4+aP),.g,.l (iV aU),.n ((s4+aP)-aU),.g,.l (iV ar),.b false,.g,.g] (kd (an5 ((zC _ _ _).rw.ld zU (k:=3) rfl:lz s3 3 ⟨(Z.y+2),3,none⟩ (iV a9)) ((zC _ _ _).row.rw.ld zU (k:=0) rfl:lz s3 3 (qg s5 0) (iV aC)) (yD u1) ((zC _ _ _).row.rw.ld zU (k:=0) rfl:lz s3 3 (qg s5 0) (iV aC)) (w64 u2) (an6 ((zC _ _ _).row.rw.ld zU (k:=1) rfl:lz s3 3 (qg s5 1) (iV aP)) (w64 u3) ((zC _ _ _).rw.ld zU (k:=0) rfl:lz s3 3 ⟨(Z.y+2),0,none⟩ (iV aU)) (w64 u4) ((zC _ _ _).row.row.rw.ld zU (k:=3) rfl:lz s3 3 (qg Z.y 3) (iV ar)) (yH u5) nx)))
theorem xDT:let y0:=wkc ao af ac ad ae aa ab ar ay am;let y1:=zF aC aP az aA aG;∀ (nx:Q (.bool true) (((Z.row y0 6).row y1 5).row (zL aU bF ba a9) 4)) (u1:a9=aC:=by omega),qi 96 [qh y0,iV x1,qh y1,qh (zL aU bF ba a9)] Z Q :=
 let s1:=Z.row (wkc ao af ac ad ae aa ab ar ay am) 6;let s2:=s1.row (zF aC aP az aA aG) 5;let s3:=s2.row (zL aU bF ba a9) 4;fun nx u1=>zG [.g,.g,.g,.g,.g,.l (iV a9),.g,.l (iV aC),.b true,.g,.g,.g] (kd (an5 ((zC _ _ _).rw.ld zU (k:=3) rfl:lz s3 3 ⟨(Z.y+2),3,none⟩ (iV a9)) ((zC _ _ _).row.rw.ld zU (k:=0) rfl:lz s3 3 ⟨(Z.y+1),0,none⟩ (iV aC)) (xH u1) ((zE (zO (nlt Z.y 2 3 rfl)) zI):zH s3.y [pq ((Z.y+2)) 3]) ((zE (zO (nlt Z.y 1 3 rfl)) zI):zH s3.y [pq ((Z.y+1)) 0]) nx))
theorem xDS:let s1:=Z.row (wkc ao af ac ad ae aa ab ar ay am) 6;let s2:=s1.row (zF aC aP az aA aG) 5;let s3:=s2.row (zL aU bF ba a9) 4;∀ (h1:qo 77 [qh (zL aU bF ba a9),qh (zF aC aP az aA aG),iV aP] s3 (qh (zL n1 n2 n3 n4)) s3) (nx:Q (.bool true) s3) (u1:¬ a9=aC:=by omega) (u2:n2<=ay:=by omega),qi 96 [qh (wkc ao af ac ad ae aa ab ar ay am),iV x1,qh (zF aC aP az aA aG),qh (zL aU bF ba a9)] Z Q:=
 let s1:=Z.row (wkc ao af ac ad ae aa ab ar ay am) 6;let s2:=s1.row (zF aC aP az aA aG) 5;let s3:=s2.row (zL aU bF ba a9) 4;let s4:=Z.y+1;let s5:=Z.y+2;fun h1 nx u1 u2=>zG [.g,.g,.g,.g,.g,.l (iV a9),.g,.l (iV aC),.b false,.g,.l (qh (zL aU bF ba a9)),.l (qh (zF aC aP az aA aG)),.g,.l (iV aP),.c (qh (zL n1 n2 n3 n4)) s3,.g,.g,.l (iV ay),.b true,.g,.g] (kd (an6 ((zC _ _ _).rw.ld zU (k:=3) rfl:lz s3 3 (qg s5 3) (iV a9)) ((zC _ _ _).row.rw.ld zU (k:=0) rfl:lz s3 3 (qg s4 0) (iV aC)) (yD u1) ((zC _ _ _).rw.ldN vX xG (k:=0) rfl rfl (nle rfl):lz s3 107 (qg s5 0) (qh (zL aU bF ba a9))) ((zC _ _ _).row.rw.ldN zNB uK (k:=0) rfl rfl (nle rfl):lz s3 85 (qg s4 0) (qh (zF aC aP az aA aG))) ((zC _ _ _).row.rw.ld zU (k:=1) rfl:lz s3 3 (qg s4 1) (iV aP)) (an6 h1 ((zC _ _ _).row.row.rw.ld zU (k:=4) rfl:lz s3 3 (qg Z.y 4) (iV ay)) (yE u2) ((zE (zO (nlt Z.y 2 3 rfl)) zI):zH s3.y [pq s5 3]) ((zE (zO (nlt Z.y 1 3 rfl)) zI):zH s3.y [pq s4 0]) ((zE (zO (nlt Z.y 2 3 rfl)) zI):zH s3.y [pq s5 0]) (an6 ((zE (zO (nlt Z.y 1 3 rfl)) zI):zH s3.y [pq s4 0]) ((zE (zO (nlt Z.y 1 3 rfl)) zI):zH s3.y [pq s4 1]) ((zE (yK rfl) (zE (yK rfl) (zE (yK rfl) zI))):zH s3.y [qh (zL aU bF ba a9),qh (zF aC aP az aA aG),iV aP]) ((zE (zO (nlt Z.y 0 3 rfl)) zI):zH s3.y [pq Z.y 4]) (⟨⟨(nlt Z.y 0 3 rfl),rfl⟩,((zC _ _ _).row.row.rw.ld zU (k:=4) rfl)⟩:(zLq s3 3 (qg Z.y 4) (iV ay))) (⟨⟨(nlt Z.y 0 3 rfl),rfl⟩,((zC _ _ _).row.row.rw.ld zU (k:=4) rfl)⟩:(zLq s3 3 (qg Z.y 4) (iV ay))) nx))))
theorem xDR:let s1:=Z.row (wkc ao af ac ad ae aa ab ar ay am) 6;let s2:=s1.row (zF aC aP az aA aG) 5;let s3:=s2.row (zL aU bF ba a9) 4;∀ (h1:qo 77 [qh (zL aU bF ba a9),qh (zF aC aP az aA aG),iV aP] s3 (qh (zL n1 n2 n3 n4)) s3) (nx:Q (.bool false) s3) (u1:¬ a9=aC:=by omega) (u2:¬ n2<=ay:=by omega),qi 96 [qh (wkc ao af ac ad ae aa ab ar ay am),iV x1,qh (zF aC aP az aA aG),qh (zL aU bF ba a9)] Z Q:=
 let s1:=Z.row (wkc ao af ac ad ae aa ab ar ay am) 6;let s2:=s1.row (zF aC aP az aA aG) 5;let s3:=s2.row (zL aU bF ba a9) 4;let s4:=Z.y+1;let s5:=Z.y+2;fun h1 nx u1 u2=>zG [.g,.g,.g,.g,.g,.l (iV a9),.g,.l (iV aC),.b false,.g,.l (qh (zL aU bF ba a9)),.l (qh (zF aC aP az aA aG)),.g,.l (iV aP),.c (qh (zL n1 n2 n3 n4)) s3,.g,.g,.l (iV ay),.b false,.g,.g] (kd (an6 ((zC _ _ _).rw.ld zU (k:=3) rfl:lz s3 3 (qg s5 3) (iV a9)) ((zC _ _ _).row.rw.ld zU (k:=0) rfl:lz s3 3 (qg s4 0) (iV aC)) (yD u1) ((zC _ _ _).rw.ldN vX xG (k:=0) rfl rfl (nle rfl):lz s3 107 (qg s5 0) (qh (zL aU bF ba a9))) ((zC _ _ _).row.rw.ldN zNB uK (k:=0) rfl rfl (nle rfl):lz s3 85 (qg s4 0) (qh (zF aC aP az aA aG))) ((zC _ _ _).row.rw.ld zU (k:=1) rfl:lz s3 3 (qg s4 1) (iV aP)) (an6 h1 ((zC _ _ _).row.row.rw.ld zU (k:=4) rfl:lz s3 3 (qg Z.y 4) (iV ay)) (yH u2) ((zE (zO (nlt Z.y 2 3 rfl)) zI):zH s3.y [pq s5 3]) ((zE (zO (nlt Z.y 1 3 rfl)) zI):zH s3.y [pq s4 0]) ((zE (zO (nlt Z.y 2 3 rfl)) zI):zH s3.y [pq s5 0]) (an6 ((zE (zO (nlt Z.y 1 3 rfl)) zI):zH s3.y [pq s4 0]) ((zE (zO (nlt Z.y 1 3 rfl)) zI):zH s3.y [pq s4 1]) ((zE (yK rfl) (zE (yK rfl) (zE (yK rfl) zI))):zH s3.y [qh (zL aU bF ba a9),qh (zF aC aP az aA aG),iV aP]) ((zE (zO (nlt Z.y 0 3 rfl)) zI):zH s3.y [pq Z.y 4]) (⟨⟨(nlt Z.y 0 3 rfl),rfl⟩,((zC _ _ _).row.row.rw.ld zU (k:=4) rfl)⟩:(zLq s3 3 (qg Z.y 4) (iV ay))) (⟨⟨(nlt Z.y 0 3 rfl),rfl⟩,((zC _ _ _).row.row.rw.ld zU (k:=4) rfl)⟩:(zLq s3 3 (qg Z.y 4) (iV ay))) nx))))
theorem xIQ:let y0:=zL aU bF (ba+(eg-aP)) a9;let y1:=zF aC aP az aA aG;∀ (nx:Q (qh y0) (((((Z.row (zL aU bF ba a9) 4).row y1 5).row (zL 0 0 0 0) 4).own Z.y y0 4).own (Z.y+2) y0 4)) (u1:I6 (eg-aP):=by omega) (u2:I6 (ba+(eg-aP)):=by omega) (u3:a9=aC:=by omega),qi 77 [qh (zL aU bF ba a9),qh y1,iV eg] Z Q :=
 let s1:=Z.row (zL aU bF ba a9) 4;let s2:=s1.row (zF aC aP az aA aG) 5;let s3:=s2.row (zL 0 0 0 0) 4;let s6:=ba+(eg-aP);let s4:=s3.own Z.y (zL aU bF s6 a9) 4;let s5:=s4.own (Z.y+2) (zL aU bF s6 a9) 4;fun nx u1 u2 u3=>zG [.g,.g,.g,.g,.l (iV ba),.g,.g,.l (iV aP),.n (eg-aP),.n s6,.g,.e undef s4,.g,.l (iV a9),.g,.l (iV aC),.b true,.l (qh (zL aU bF s6 a9)),.e undef s5,.l (qh (zL aU bF s6 a9))] (kd (an5 ((zC _ _ _).row.row.rw.ld zU (k:=2) rfl:lz s3 3 (qg Z.y 2) (iV ba)) ((zC _ _ _).row.rw.ld zU (k:=1) rfl:lz s3 3 ⟨(Z.y+1),1,none⟩ (iV aP)) (w64 u1) (w64 u2) ((zC _ _ _).row.row.store (vs:=[iV s6]) rfl wE rfl (nle rfl) rfl:qq (evL [pq Z.y 2,iV s6]) s3 (.store 3 (.tmp 0) (.tmp 1))=some (undef,s4)) (an6 ((zC _ _ _).row.row.put.rw.ld zU (k:=3) rfl:lz s4 3 (qg Z.y 3) (iV a9)) (((zC _ _ _).row.own (nne Z.y 1 0 rfl)).rw.ld zU (k:=0) rfl:lz s4 3 ⟨(Z.y+1),0,none⟩ (iV aC)) (xH u3) ((zC _ _ _).row.row.put.rw.ldN vX xG (k:=0) rfl rfl (nle rfl):lz s4 107 (qg Z.y 0) (qh (zL aU bF s6 a9))) (((zC _ _ _).own (nne Z.y 2 0 rfl)).store (vs:=(zL aU bF s6 a9)) rfl xG rfl (nle rfl) rfl:qq (evL [pq ((Z.y+2)) 0,qh (zL aU bF s6 a9)]) s4 (.store 107 (.tmp 0) (.tmp 1))=some (undef,s5)) (((zC _ _ _).own (nne Z.y 2 0 rfl)).put.rw.ldN vX xG (k:=0) rfl rfl (nle rfl):lz s5 107 ⟨(Z.y+2),0,none⟩ (qh (zL aU bF s6 a9))) nx)))
theorem xIP:let y1:=ba+(eg-aP);let y0:=zL ((aC*1440)+eg) 1 y1 aC;let y2:=zF aC aP az aA aG;∀ (nx:Q (qh y0) (((((((((Z.row (zL aU bF ba a9) 4).row y2 5).row (zL 0 0 0 0) 4).own Z.y (zL aU bF y1 a9) 4).own Z.y (zL aU 0 y1 a9) 4).own Z.y (zL aU 1 y1 a9) 4).own Z.y (zL aU 1 y1 aC) 4).own Z.y y0 4).own (Z.y+2) y0 4)) (u1:I6 (eg-aP):=by omega) (u2:I6 y1:=by omega) (u3:¬ a9=aC:=by omega) (u4:I6 (aC-1):=by omega) (u5:¬ a9=(aC-1):=by omega) (u6:I6 (aC*1440):=by omega) (u7:I6 ((aC*1440)+eg):=by omega),qi 77 [qh (zL aU bF ba a9),qh y2,iV eg] Z Q :=
 let s1:=Z.row (zL aU bF ba a9) 4;let s2:=s1.row (zF aC aP az aA aG) 5;let s3:=s2.row (zL 0 0 0 0) 4;let s10:=ba+(eg-aP);let s4:=s3.own Z.y (zL aU bF s10 a9) 4;let s5:=s4.own Z.y (zL aU 0 s10 a9) 4;let s6:=s5.own Z.y (zL aU 1 s10 a9) 4;let s7:=s6.own Z.y (zL aU 1 s10 aC) 4;let s11:=(aC*1440)+eg;let s8:=s7.own Z.y (zL s11 1 s10 aC) 4;let s9:=s8.own (Z.y+2) (zL s11 1 s10 aC) 4;let s12:=Z.y+1;fun nx u1 u2 u3 u4 u5 u6 u7=>zG [.g,.g,.g,.g,.l (iV ba),.g,.g,.l (iV aP),.n (eg-aP),.n s10,.g,.e undef s4,.g,.l (iV a9),.g,.l (iV aC),.b false,.g,.l (iV a9),.g,.l (iV aC),.n (aC-1),.b true,.g,.e undef s5,.g,.l (iV 0),.g,.g,.e undef s6,.g,.l (iV aC),.g,.e undef s7,.g,.l (iV aC),.n (aC*1440),.g,.n s11,.g,.e undef s8,.l (qh (zL s11 1 s10 aC)),.e undef s9,.l (qh (zL s11 1 s10 aC))] (kd (an6 ((zC _ _ _).row.row.rw.ld zU (k:=2) rfl:lz s3 3 (qg Z.y 2) (iV ba)) ((zC _ _ _).row.rw.ld zU (k:=1) rfl:lz s3 3 (qg s12 1) (iV aP)) (w64 u1) (w64 u2) ((zC _ _ _).row.row.store (vs:=[iV s10]) rfl wE rfl (nle rfl) rfl:qq (evL [pq Z.y 2,iV s10]) s3 (.store 3 (.tmp 0) (.tmp 1))=some (undef,s4)) ((zC _ _ _).row.row.put.rw.ld zU (k:=3) rfl:lz s4 3 (qg Z.y 3) (iV a9)) (an6 (((zC _ _ _).row.own (nne Z.y 1 0 rfl)).rw.ld zU (k:=0) rfl:lz s4 3 (qg s12 0) (iV aC)) (yD u3) ((zC _ _ _).row.row.put.rw.ld zU (k:=3) rfl:lz s4 3 (qg Z.y 3) (iV a9)) (((zC _ _ _).row.own (nne Z.y 1 0 rfl)).rw.ld zU (k:=0) rfl:lz s4 3 (qg s12 0) (iV aC)) (w64 u4) (zGX u5) (an6 ((zC _ _ _).row.row.put.store (vs:=[iV 0]) rfl wE rfl (nle rfl) rfl:qq (evL [pq Z.y 1,iV 0]) s4 (.store 3 (.tmp 0) (.tmp 1))=some (undef,s5)) ((zC _ _ _).row.row.put.put.rw.ld zU (k:=1) rfl:lz s5 3 (qg Z.y 1) (iV 0)) ((zC _ _ _).row.row.put.put.store (vs:=[iV 1]) rfl wE rfl (nle rfl) rfl:qq (evL [pq Z.y 1,iV 1]) s5 (.store 3 (.tmp 0) (.tmp 1))=some (undef,s6)) (((((zC _ _ _).row.own (nne Z.y 1 0 rfl)).own (nne Z.y 1 0 rfl)).own (nne Z.y 1 0 rfl)).rw.ld zU (k:=0) rfl:lz s6 3 (qg s12 0) (iV aC)) ((zC _ _ _).row.row.put.put.put.store (vs:=[iV aC]) rfl wE rfl (nle rfl) rfl:qq (evL [pq Z.y 3,iV aC]) s6 (.store 3 (.tmp 0) (.tmp 1))=some (undef,s7)) ((((((zC _ _ _).row.own (nne Z.y 1 0 rfl)).own (nne Z.y 1 0 rfl)).own (nne Z.y 1 0 rfl)).own (nne Z.y 1 0 rfl)).rw.ld zU (k:=0) rfl:lz s7 3 (qg s12 0) (iV aC)) (an6 (w64 u6) (w64 u7) ((zC _ _ _).row.row.put.put.put.put.store (vs:=[iV s11]) rfl wE rfl (nle rfl) rfl:qq (evL [pq Z.y 0,iV s11]) s7 (.store 3 (.tmp 0) (.tmp 1))=some (undef,s8)) ((zC _ _ _).row.row.put.put.put.put.put.rw.ldN vX xG (k:=0) rfl rfl (nle rfl):lz s8 107 (qg Z.y 0) (qh (zL s11 1 s10 aC))) (((((((zC _ _ _).own (nne Z.y 2 0 rfl)).own (nne Z.y 2 0 rfl)).own (nne Z.y 2 0 rfl)).own (nne Z.y 2 0 rfl)).own (nne Z.y 2 0 rfl)).store (vs:=(zL s11 1 s10 aC)) rfl xG rfl (nle rfl) rfl:qq (evL [pq ((Z.y+2)) 0,qh (zL s11 1 s10 aC)]) s8 (.store 107 (.tmp 0) (.tmp 1))=some (undef,s9)) (((((((zC _ _ _).own (nne Z.y 2 0 rfl)).own (nne Z.y 2 0 rfl)).own (nne Z.y 2 0 rfl)).own (nne Z.y 2 0 rfl)).own (nne Z.y 2 0 rfl)).put.rw.ldN vX xG (k:=0) rfl rfl (nle rfl):lz s9 107 ⟨(Z.y+2),0,none⟩ (qh (zL s11 1 s10 aC))) nx)))))
theorem xIO:let y1:=ba+(eg-aP);let y0:=zL ((aC*1440)+eg) (bF+1) y1 aC;let y2:=zF aC aP az aA aG;∀ (nx:Q (qh y0) ((((((((Z.row (zL aU bF ba a9) 4).row y2 5).row (zL 0 0 0 0) 4).own Z.y (zL aU bF y1 a9) 4).own Z.y (zL aU (bF+1) y1 a9) 4).own Z.y (zL aU (bF+1) y1 aC) 4).own Z.y y0 4).own (Z.y+2) y0 4)) (u1:I6 (eg-aP):=by omega) (u2:I6 y1:=by omega) (u3:¬ a9=aC:=by omega) (u4:I6 (aC-1):=by omega) (u5:a9=(aC-1):=by omega) (u6:I6 (bF+1):=by omega) (u7:I6 (aC*1440):=by omega) (u8:I6 ((aC*1440)+eg):=by omega),qi 77 [qh (zL aU bF ba a9),qh y2,iV eg] Z Q :=
 let s1:=Z.row (zL aU bF ba a9) 4;let s2:=s1.row (zF aC aP az aA aG) 5;let s3:=s2.row (zL 0 0 0 0) 4;let s9:=ba+(eg-aP);let s4:=s3.own Z.y (zL aU bF s9 a9) 4;let s10:=(aC*1440)+eg;let s11:=bF+1;let s5:=s4.own Z.y (zL aU s11 s9 a9) 4;let s6:=s5.own Z.y (zL aU s11 s9 aC) 4;let s7:=s6.own Z.y (zL s10 s11 s9 aC) 4;let s8:=s7.own (Z.y+2) (zL s10 s11 s9 aC) 4;let s12:=Z.y+1;fun nx u1 u2 u3 u4 u5 u6 u7 u8=>zG [.g,.g,.g,.g,.l (iV ba),.g,.g,.l (iV aP),.n (eg-aP),.n s9,.g,.e undef s4,.g,.l (iV a9),.g,.l (iV aC),.b false,.g,.l (iV a9),.g,.l (iV aC),.n (aC-1),.b false,.g,.l (iV bF),.n s11,.g,.e undef s5,.g,.l (iV aC),.g,.e undef s6,.g,.l (iV aC),.n (aC*1440),.g,.n s10,.g,.e undef s7,.l (qh (zL s10 s11 s9 aC)),.e undef s8,.l (qh (zL s10 s11 s9 aC))] (kd (an6 ((zC _ _ _).row.row.rw.ld zU (k:=2) rfl:lz s3 3 (qg Z.y 2) (iV ba)) ((zC _ _ _).row.rw.ld zU (k:=1) rfl:lz s3 3 (qg s12 1) (iV aP)) (w64 u1) (w64 u2) ((zC _ _ _).row.row.store (vs:=[iV s9]) rfl wE rfl (nle rfl) rfl:qq (evL [pq Z.y 2,iV s9]) s3 (.store 3 (.tmp 0) (.tmp 1))=some (undef,s4)) ((zC _ _ _).row.row.put.rw.ld zU (k:=3) rfl:lz s4 3 (qg Z.y 3) (iV a9)) (an6 (((zC _ _ _).row.own (nne Z.y 1 0 rfl)).rw.ld zU (k:=0) rfl:lz s4 3 (qg s12 0) (iV aC)) (yD u3) ((zC _ _ _).row.row.put.rw.ld zU (k:=3) rfl:lz s4 3 (qg Z.y 3) (iV a9)) (((zC _ _ _).row.own (nne Z.y 1 0 rfl)).rw.ld zU (k:=0) rfl:lz s4 3 (qg s12 0) (iV aC)) (w64 u4) (vG u5) (an6 ((zC _ _ _).row.row.put.rw.ld zU (k:=1) rfl:lz s4 3 (qg Z.y 1) (iV bF)) (w64 u6) ((zC _ _ _).row.row.put.store (vs:=[iV s11]) rfl wE rfl (nle rfl) rfl:qq (evL [pq Z.y 1,iV s11]) s4 (.store 3 (.tmp 0) (.tmp 1))=some (undef,s5)) ((((zC _ _ _).row.own (nne Z.y 1 0 rfl)).own (nne Z.y 1 0 rfl)).rw.ld zU (k:=0) rfl:lz s5 3 (qg s12 0) (iV aC)) ((zC _ _ _).row.row.put.put.store (vs:=[iV aC]) rfl wE rfl (nle rfl) rfl:qq (evL [pq Z.y 3,iV aC]) s5 (.store 3 (.tmp 0) (.tmp 1))=some (undef,s6)) (((((zC _ _ _).row.own (nne Z.y 1 0 rfl)).own (nne Z.y 1 0 rfl)).own (nne Z.y 1 0 rfl)).rw.ld zU (k:=0) rfl:lz s6 3 (qg s12 0) (iV aC)) (an6 (w64 u7) (w64 u8) ((zC _ _ _).row.row.put.put.put.store (vs:=[iV s10]) rfl wE rfl (nle rfl) rfl:qq (evL [pq Z.y 0,iV s10]) s6 (.store 3 (.tmp 0) (.tmp 1))=some (undef,s7)) ((zC _ _ _).row.row.put.put.put.put.rw.ldN vX xG (k:=0) rfl rfl (nle rfl):lz s7 107 (qg Z.y 0) (qh (zL s10 s11 s9 aC))) ((((((zC _ _ _).own (nne Z.y 2 0 rfl)).own (nne Z.y 2 0 rfl)).own (nne Z.y 2 0 rfl)).own (nne Z.y 2 0 rfl)).store (vs:=(zL s10 s11 s9 aC)) rfl xG rfl (nle rfl) rfl:qq (evL [pq ((Z.y+2)) 0,qh (zL s10 s11 s9 aC)]) s7 (.store 107 (.tmp 0) (.tmp 1))=some (undef,s8)) ((((((zC _ _ _).own (nne Z.y 2 0 rfl)).own (nne Z.y 2 0 rfl)).own (nne Z.y 2 0 rfl)).own (nne Z.y 2 0 rfl)).put.rw.ldN vX xG (k:=0) rfl rfl (nle rfl):lz s8 107 ⟨(Z.y+2),0,none⟩ (qh (zL s10 s11 s9 aC))) nx)))))
theorem yQN (hb:∀ k aI Z,Inv k aI Z->zQT vals bP bT aI Z (NX1 Inv k) Qr Q0):∀ k aI Z,Inv k aI Z->yQP vals bP bT aI Z Qr Q0 :=
 xL (ai zBE (ai (xZ 0) trivial)) hb
theorem zSX (h1:lz Z 3 (zJ vals_a (Int.toNat aI*1)) (iV nA)) (nx:Qr nA Z) (u1:aI<(bP:Int):=by omega) (u2:Ix aI bP:=by omega) (u3:¬ nA=0:=by omega):zQT (some vals_a) bP bT aI Z Nx Qr Q0 :=
 kO 1 nA [.b true,.i,.l (iV nA),.g,.g,.g,.b true,.g,.g] (fun _ f=>an4 (zR u1) u2 h1 (zGX u3) f) nx
theorem zSW (h1:lz Z 3 (zJ vals_a (Int.toNat aI*1)) (iV nA)) (nx:Nx (aI+1) Z) (u1:aI<(bP:Int):=by omega) (u2:Ix aI bP:=by omega) (u3:nA=0:=by omega) (u4:I6 (aI+1):=by omega):zQT (some vals_a) bP bT aI Z Nx Qr Q0 :=
 kO 0 (aI+1) [.b true,.i,.l (iV nA),.g,.g,.g,.b false,.n (aI+1),.g] (fun _ f=>an5 (zR u1) u2 h1 (vG u3) (w64 u4) f) nx
theorem xGV (nx:Q0 Z) (u1:¬ aI<(bP:Int):=by omega):zQT vals bP bT aI Z Nx Qr Q0 :=
 kO 2 () [.b false] (fun _ f=>ai (zS u1) f) nx
theorem xOS (hL:yQP vals bP bT 0 Z Pr P0) (kr:∀ i2_1' Z',Pr i2_1' Z'->yBA vals bP bT i2_1' Z' Q) (k0:∀ Z',P0 Z'->yBB vals bP bT Z' Q):qi 80 [.slice vals bP bT] Z Q :=
 zG [.g,.g,.g,.g,.g,.lf 18 (zKJ vals bP bT 0) [zOJ vals bP bT Pr,zOK vals bP bT P0]] (kd (ai (ai tt (ai (arf (zKJ vals bP bT 0)) hL)) (ai (kz1 kr) (ai (kz0 k0) trivial))))
theorem yQL (nx:Q (iV aK) Z):yBA vals bP bT aK Z Q :=
 sK [] nx
theorem yQM (nx:Q (iV 0) Z):yBB vals bP bT Z Q :=
 sK [.g,.g] nx
theorem xUJ:let s1:=Z.row (rcd dZ dE eH) 3;let s2:=s1.row (rcd fh eG ft) 3;let s3:=dE-eG;let s5:=dZ-fh;let s6:=eH-ft;let Y1:=s2.row [iV s3,iV s5,iV s6] 1;∀ (h1:qo 80 [.slice (some ⟨(Z.y+2),0,none⟩) 3 3] Y1 (iV n1) Y1) (nx:Q (iV n1) Y1) (u1:I6 s3:=by omega) (u2:I6 dZ:=by omega) (u3:I6 fh:=by omega) (u4:I6 s5:=by omega) (u5:I6 s6:=by omega),qi 79 [qh (rcd dZ dE eH),qh (rcd fh eG ft)] Z Q:=
 let s1:=Z.row (rcd dZ dE eH) 3;let s2:=s1.row (rcd fh eG ft) 3;let s3:=dE-eG;let s4:=Z.y+1;let s5:=dZ-fh;let s6:=eH-ft;fun h1 nx u1 u2 u3 u4 u5=>zG [.g,.g,.g,.g,.l (iV dE),.g,.l (iV eG),.n s3,.g,.l (.int .u8 dZ),.n dZ,.g,.l (.int .u8 fh),.n fh,.n s5,.g,.l (iV eH),.g,.l (iV ft),.n s6,.g,.c (iV n1) (s2.row [iV s3,iV s5,iV s6] 1),.g] (kd (an6 ((zC _ _ _).row.rw.ld zU (k:=1) rfl:lz s2 3 (qg Z.y 1) (iV dE)) ((zC _ _ _).rw.ld zU (k:=1) rfl:lz s2 3 (qg s4 1) (iV eG)) (w64 u1) ((zC _ _ _).row.rw.ld xVD (k:=0) rfl:lz s2 5 (qg Z.y 0) (.int .u8 dZ)) (w64 u2) ((zC _ _ _).rw.ld xVD (k:=0) rfl:lz s2 5 (qg s4 0) (.int .u8 fh)) (an6 (w64 u3) (w64 u4) ((zC _ _ _).row.rw.ld zU (k:=2) rfl:lz s2 3 (qg Z.y 2) (iV eH)) ((zC _ _ _).rw.ld zU (k:=2) rfl:lz s2 3 (qg s4 2) (iV ft)) (w64 u5) h1 nx)))
end
theorem wH (xs:List Int):∀ (_:IntKind),xF (xs.map zY)=xs.map zY:=by
 intro _;induction xs with
 | nil=>rfl
 | cons x xs ih=>simp only [xF,List.map_cons,List.flatMap_cons] at ih ⊢;rw [ih];rfl
section
variable {Z:St}
theorem zNY {p:Option Addr} {l c:Nat} {xs:List Int} (h:yG Z p l xs) (hl:l<=1073741824) :
  ∃ p' c' Z',zD Pg 19 [.slice p l c] Z (.slice p' l c') Z'/\New Z Z'/\yG Z' p' l xs/\∀ b,AtP p' b->Z.y<=b:=by
 have hc:(xF (xs.map zY)).all cellB=true:=by rw [wH xs .i64];simp [List.all_eq_true];intro a _;rfl
 have N1:New Z.re (Z.re.row [] 1):=New.row _ _ _;obtain ⟨p6,c6,s5,ap1,A6,O6,b6⟩:=Ax.append (P:=Pg) (k:=c) (n0:=Z.re.y) uJ (Ax.lit (len:=0) (zC Z.re [] 1) rfl ((yS 0).2 wO) (Nat.le_refl _)) (SlV.le h ((le0 Z).trans N1.le)).1 (by omega) hc N1.nx;rw [Nat.zero_add] at ap1 A6;have N5:New Z.re s5:=N1.of_only O6 (by rintro b ⟨a,e,rfl⟩;cases e;exact Nat.le_refl _);exact zP.newSl (xAX ap1 ⟨N5,p6,c6,rfl,Ax.slv (by simpa using A6) (by simpa using h.2.1) h.2.2,fun b hb=>(A6.bd b hb).1⟩)
theorem xYX {p:Option Addr} {l c:Nat} {xs:List Int} (h:yG Z p l xs) (hl:l<=1073741824):zD Pg 27 [.slice p l c] Z (iV ((xs.filter fun x=>decide (0<=x)).length:Nat)) Z:=by
 have h1:=h.re;have e1:=h.len;refine (yUB (yCI (Inv:=fun k i3 i4 τ=>τ=Z.re/\∃ j:Nat,i4=j/\j+k=l/\i3=(((xs.take j).filter fun x=>decide (0<=x)).length:Nat)/\((xs.take j).filter fun x=>decide (0<=x)).length<=j) (Q0:=fun i3 τ=>τ=Z.re/\i3=((xs.filter fun x=>decide (0<=x)).length:Nat)) ?_ l 0 0 Z.re ⟨rfl,0,rfl,by omega,rfl,Nat.le_refl _⟩) ?_).pure
 ·rintro k i3 i4 τ ⟨rfl,j,rfl,hk,rfl,hle⟩;by_cases hj:j<l
  ·obtain ⟨a,rfl,x,hx,l1⟩:=wZ h1 hj;have es:(xs.take (j+1)).filter (fun x=>decide (0<=x))=(xs.take j).filter (fun x=>decide (0<=x))++if 0<=x then [x] else []:=by
    rw [wD hx,List.filter_append];by_cases e:0<=x <;> simp [e]
   by_cases e:0<=x
   ·rw [if_pos e] at es;exact yMI l1 ⟨k-1,by omega,rfl,j+1,by omega,by omega,by rw [es,List.length_append];simp,by rw [es,List.length_append];show _+1<=_;omega⟩ (by omega) (by omega) e (by omega) (by omega)
   ·rw [if_neg e,List.append_nil] at es;exact yMH l1 ⟨k-1,by omega,rfl,j+1,by omega,by omega,by rw [es],by rw [es];omega⟩ (by omega) (by omega) e (by omega)
  ·rw [List.take_of_length_le (by omega)];exact yMG ⟨rfl,rfl⟩ (by omega)
 ·rintro i3 τ ⟨rfl,rfl⟩;exact yCH ⟨rfl,Nat.le_refl _⟩
theorem yPY {p:Option Addr} {l c:Nat} {xs:List Int} (h:yG Z p l xs) (hl:l<=1073741824):zD Pg 63 [.slice p l c] Z (iV ((xs.filter fun x=>decide (x≠-1)).length:Nat)) Z:=by
 have h1:=h.re;have e1:=h.len;refine (xGM (yJO (Inv:=fun k i3 i4 τ=>τ=Z.re/\∃ j:Nat,i4=j/\j+k=l/\i3=(((xs.take j).filter fun x=>decide (x≠-1)).length:Nat)/\((xs.take j).filter fun x=>decide (x≠-1)).length<=j) (Q0:=fun i3 τ=>τ=Z.re/\i3=((xs.filter fun x=>decide (x≠-1)).length:Nat)) ?_ l 0 0 Z.re ⟨rfl,0,rfl,by omega,rfl,Nat.le_refl _⟩) ?_).pure
 ·rintro k i3 i4 τ ⟨rfl,j,rfl,hk,rfl,hle⟩;by_cases hj:j<l
  ·obtain ⟨a,rfl,x,hx,l1⟩:=wZ h1 hj;have es:(xs.take (j+1)).filter (fun x=>decide (x≠-1))=(xs.take j).filter (fun x=>decide (x≠-1))++if x≠-1 then [x] else []:=by
    rw [wD hx,List.filter_append];by_cases e:x≠-1 <;> simp [e]
   by_cases e:x≠-1
   ·rw [if_pos e] at es;exact yXB l1 ⟨k-1,by omega,rfl,j+1,by omega,by omega,by rw [es,List.length_append];simp,by rw [es,List.length_append];show _+1<=_;omega⟩ (by omega) (by omega) e (by omega) (by omega)
   ·rw [if_neg e,List.append_nil] at es;exact yXA l1 ⟨k-1,by omega,rfl,j+1,by omega,by omega,by rw [es],by rw [es];omega⟩ (by omega) (by omega) (Decidable.not_not.1 e) (by omega)
  ·rw [List.take_of_length_le (by omega)];exact yWZ ⟨rfl,rfl⟩ (by omega)
 ·rintro i3 τ ⟨rfl,rfl⟩;exact yJN ⟨rfl,Nat.le_refl _⟩
section
variable {w:Wk} {p q r t:Option Addr} {l m c d rl rc tl tc:Nat} {rs ts:List Int}
theorem xYA (h:WkP Z 85 88 w p l q m) (hl:l<=1000):∃ p' c' Z',zD Pg 86 [.agg ⟨wkc w.days p l c q m d w.rest w.run w.hours⟩] Z (.slice p' l c') Z'/\New Z Z'/\yG Z' p' l (zAR w)/\∀ b,AtP p' b->Z.y<=b:=by
 have hn:=h.len.1;obtain ⟨Z1,hZ1⟩:∃ Z1,Z1=Z.re.row (wkc w.days p l c q m d w.rest w.run w.hours) 6:=⟨_,rfl⟩;have N1:New Z.re Z1:=by rw [hZ1];exact New.row _ _ _
 have L1:Le Z Z1:=(le0 Z).trans N1.le;refine zP.newSl (xTR (yWR (Inv:=fun k p' l' c' i τ=>New Z1 τ/\∃ j:Nat,i=j/\j+k=l/\l'=j/\Gr Pg τ Z1.y 3 1 p' l' c' (((zAR w).take j).map zY))
  (Q0:=fun p' l' c' τ=>New Z1 τ/\l'=l/\Gr Pg τ Z1.y 3 1 p' l' c' ((zAR w).map zY)) ?_ l none 0 0 0 _ ⟨by rw [<- hZ1];exact New.refl _,0,rfl,by omega,rfl,Gr.nil⟩) ?_)
 ·rintro k p' l' c' i τ ⟨hN,j,rfl,hk,rfl,hg⟩;by_cases hj:l' < l
  ·obtain ⟨a,rfl,x,hx,lx⟩:=wZ (SlV.le h.dty (L1.trans hN.le)) hj;have hN2:New τ ((τ.row (zF 0 0 0 0 0) 5).own τ.y (zF x.day x.on x.lo x.hi x.route) 5):=(New.row _ _ _).own (Nat.le_refl _);obtain ⟨q7,d7,τ',g1,g2,g3,_,_⟩:=xZO (zY x.hi) uJ hg hN hN2 (vV _) (by omega);have hx2:(zAR w)[l']?=some x.hi:=by unfold zAR;rw [List.getElem?_map,hx];rfl
   refine xOG lx g1 ⟨k-1,by omega,g3,l'+1,by omega,by omega,rfl, ?_⟩ (by omega) (by omega) (by omega);rw [wD hx2,List.map_append];exact g2
  ·have:l'=l:=by omega
   subst this;refine xOF ⟨hN,rfl, ?_⟩ (by omega);rwa [List.take_of_length_le (by unfold zAR;rw [List.length_map];omega)] at hg
 ·rintro p' l' c' τ ⟨hN,rfl,hg⟩;refine yWQ ⟨N1.trans hN,p',c',rfl,hg.slv,fun b hb=>?_⟩;have:=(hg.bd hb).1;have:=N1.nx;show Z.re.y<=b;omega
theorem yCX (h:WkP Z 85 88 w p l q m) (hr:yG Z r rl rs) (hl:rl<=1073741824) (hm:m<=1073741824):zD Pg 52 [.agg ⟨wkc w.days p l c q m d w.rest w.run w.hours⟩,.slice r rl rc] Z (.bool (zIG w rs)) Z:=by
 have hn:=h.len.1;have hmm:=h.len.2;have el:=hr.len;by_cases hh:rl=l;rotate_left
 ·have:zIG w rs=false:=by unfold zIG;rw [decide_eq_false (by omega),Bool.and_false]
  rw [this];exact (yRU ⟨rfl,Nat.le_refl _⟩ (by omega)).pure
 have L1:Le Z (Z.re.row (wkc w.days p l c q m d w.rest w.run w.hours) 6):=(le0 Z).trans (Le.row _ _ _);have hk0:=xP Z.re (wkc w.days p l c q m d w.rest w.run w.hours) 6;have ca:=xYM (cap:=rc) (g:=73) (gc:=[.pointer (some ⟨Z.re.y,0,none⟩)]) (f:=fun x=>inB x (-1) ((w.drivers.length:Int)-1)) (SlV.le hr L1) hl (fun x _ τ hτ=>by
  have ld:zB Pg τ.re 32 (zJ ⟨Z.re.y,0,none⟩ 2)=some (.slice q m d):=((hk0.le hτ).re).load1 zAU rfl;rw [hmm];exact (ySU ld zFD ⟨rfl,Nat.le_refl _⟩ (by omega)).pure)
 have:zIG w rs=rs.all (fun x=>inB x (-1) ((w.drivers.length:Int)-1)):=by unfold zIG;rw [decide_eq_true (by omega),Bool.and_true]
 rw [this];exact (yRV ca ⟨rfl,Nat.le_refl _⟩ (by omega)).pure
end
end
section
open Go.Sort (swp)
def zAZ (d:Array Rec):List Value:=d.toList.flatMap zBD
theorem zRM:∀ l:List Rec,(l.flatMap zBD).length=l.length*3
 | []=>rfl
 | x::l=>by rw [List.flatMap_cons,List.length_append,zRM l];simp;omega
theorem yBD (d:Array Rec):(zAZ d).length=d.size*3:=by unfold zAZ;rw [zRM];simp
def Dt (Z:St) (b:Nat) (s:Option Nat) (d:Array Rec):Prop:=b<Z.y/\∃ log nx,yJ Z.heap b=some (.cells (zAZ d) 3 ((s.getD 0,d.size*3)::log) nx false)
section
variable {Z τ:St} {b:Nat} {s:Option Nat} {d d0:Array Rec}
theorem Dt.le (h:Dt Z b s d) (k:Le Z τ):Dt τ b s d:=by
 obtain ⟨h1,log,nx,h2⟩:=h;exact ⟨Nat.lt_of_lt_of_le h1 k.y,log,nx,by rw [k.get b h1];exact h2⟩
theorem Dt.only {S:Nat->Prop} (h:Dt Z b s d) (k:Only S Z τ) (hs:¬ S b):Dt τ b s d:=by
 obtain ⟨h1,log,nx,h2⟩:=h;exact ⟨Nat.lt_of_lt_of_le h1 k.y,log,nx,by rw [k.get b h1 hs];exact h2⟩
theorem yDJ:∀ (l:List Rec) (i:Nat) (x:Rec),l[i]?=some x->((l.flatMap zBD).drop (i*3)).take 3=zBD x
 | [],i,x,h=>by simp at h
 | y::l,0,x,h=>by
  cases h
  rw [List.flatMap_cons,Nat.zero_mul,List.drop_zero];exact List.take_left' rfl
 | y::l,i+1,x,h=>by
  rw [List.flatMap_cons,Nat.add_mul,Nat.one_mul,Nat.add_comm (i*3),<- List.drop_drop,show List.drop 3 (zBD y++l.flatMap zBD)=l.flatMap zBD from rfl];exact yDJ l i x (by simpa using h)
theorem yMF:∀ (l:List Rec) (i:Nat) (x:Rec),i<l.length->(l.flatMap zBD).take (i*3)++(zBD x++(l.flatMap zBD).drop (i*3+3))=(l.set i x).flatMap zBD
 | [],i,x,h=>by simp at h
 | y::l,0,x,h=>by
  rw [List.set_cons_zero,List.flatMap_cons,List.flatMap_cons,Nat.zero_mul,List.take_zero,List.nil_append,Nat.zero_add,show List.drop 3 (zBD y++l.flatMap zBD)=l.flatMap zBD from rfl]
 | y::l,i+1,x,h=>by
  rw [List.set_cons_succ,List.flatMap_cons,List.flatMap_cons,<- yMF l i x (by simpa using h),show (i+1)*3=3+i*3 by omega,List.take_append,List.drop_append,show 3+i*3+3-(zBD y).length=i*3+3 by simp;omega,show 3+i*3-(zBD y).length=i*3 by simp];rw [List.take_of_length_le (by simp),List.drop_of_length_le (by simp),List.nil_append,List.append_assoc]
theorem xTN {i:Nat} (h:i<d.size):d.toList[i]?=some d[i]! := by
 rw [Array.getElem?_toList,getElem!_pos d i h,Array.getElem?_eq_getElem h]
theorem Dt.ld (h:Dt Z b s d) {i:Int} (h0:0<=i) (hi:i<(d.size:Int)):zB Tryz.prog Z 45 (zJ ⟨b,0,s⟩ (Int.toNat i*3))=some (zEL d[i.toNat]!):=by
 obtain ⟨h1,log,nx,h2⟩:=h;have hlt:i.toNat<d.size:=by omega
 have hr:yO Z ⟨b,0+i.toNat*3,s⟩ 3=some (zBD d[i.toNat]!):=by
  have hle:Nat.ble (0+i.toNat*3+3) (d.size*3)=true:=(zV _ _).2 (by omega);unfold yO;simp only [h2,yB,wW,Nat.beq_refl,cond_true,hle];rw [Nat.zero_add];unfold zAZ;rw [yDJ _ _ _ (xTN hlt)]
 have hR:Row Z ⟨b,0+i.toNat*3,s⟩ (zBD d[i.toNat]!):=⟨hr,h1⟩;exact hR.loadN (P:=Tryz.prog) (t:=45) (k:=0) xPT yHJ rfl rfl (by simp)
theorem Dt.st (h:Dt Z b s d) {i:Int} (x:Rec) (h0:0<=i) (hi:i<(d.size:Int)) :
  ∃ Z',zQ Tryz.prog (evL [.pointer (some (zJ ⟨b,0,s⟩ (Int.toNat i*3))),zEL x]) Z (.store 45 (.tmp 0) (.tmp 1))=some (undef,Z')/\Dt Z' b s (d.setIfInBounds i.toNat x)/\Only (·=b) Z Z'/\Z'.low<=b:=by
 obtain ⟨h1,log,nx,h2⟩:=h;have hlt:i.toNat<d.size:=by omega
 have hw:wM Z ⟨b,0+i.toNat*3,s⟩ (zBD x)=some (Z.put b (.cells (zAZ (d.setIfInBounds i.toNat x)) 3 [(s.getD 0,d.size*3)] nx false)):=by
  have e6:(zBD x).length=3:=rfl;have hc:(Nat.beq (s.getD 0) (s.getD 0) && Nat.ble (0+i.toNat*3+3) (d.size*3) && !false && (zBD x).all cellB)=true:=by
   rw [Nat.beq_refl,(zV _ _).2 (show 0+i.toNat*3+3<=d.size*3 by omega)];rfl
  unfold wM;simp only [h2,yB,e6,hc,cond_true,zCR,St.write_eq];have e:(zAZ d).take (0+i.toNat*3)++(zBD x++(zAZ d).drop (0+i.toNat*3+3))=zAZ (d.setIfInBounds i.toNat x):=by
   rw [Nat.zero_add];unfold zAZ;rw [Array.toList_setIfInBounds];exact yMF d.toList i.toNat x (by simpa using hlt)
  rw [e]
 refine ⟨Z.put b (.cells (zAZ (d.setIfInBounds i.toNat x)) 3 [(s.getD 0,d.size*3)] nx false), ?_,⟨h1,[],nx, ?_⟩,Only.put (.inr rfl),by simp;omega⟩
 ·have e0:zQ Tryz.prog (evL [.pointer (some (zJ ⟨b,0,s⟩ (Int.toNat i*3))),zEL x]) Z (.store 45 (.tmp 0) (.tmp 1))=(wM Z ⟨b,0+i.toNat*3,s⟩ (zBD x)).map fun Z'=>(undef,Z'):=by
   have e1:∀ l:List Value,evL l (.tmp 0)=l.getD 0 undef:=fun _=>rfl
   have e2:∀ l:List Value,evL l (.tmp 1)=l.getD 1 undef:=fun _=>rfl
   have e3:yU Tryz.prog 45=some 3:=yHJ;unfold zQ;simp only [e1,e2,List.getD_cons_zero,List.getD_cons_succ,zCO,e3];rfl
  rw [e0,hw];rfl
 ·rw [St.put_get,if_pos rfl,Array.size_setIfInBounds]
end
end
section
noncomputable section
variable (data:oAa) (ax:Addr) (ah aj:Nat) (hi a_1 first b:Int) (aB:FuncId) (au:lVa) (kB aI bX aJ aD a7 aS bi bW bO aH bf bY:Int) (q7:Bool->St->Prop) (t8_1:Bool) (q4:Int->Int->St->Prop) (q0:St->Prop) (Q:Int->St->Prop) (Z:St) (q2:vPa) (q5:Int->Int->St->Prop) (Nx Q4 Q8 Q2 q6 Q6:Int->St->Prop) (q1 Q0 q3:St->Prop) (Qr:Bool->St->Prop)
def yIZ:Code:=(Code.part [1,0,0] (qj 106))
def zWJ:lNa:=[(0,.slice data ah aj),(1,iV a_1),(2,iV b),(3,.func (.func aB) ⟨[]⟩ ⟨au⟩),(8,iV aI)]
def yOP:Alt:=⟨Int,.normal,fun t=>zWJ data ah aj a_1 b aB au t,fun t=>[],fun t Z=>Q t Z⟩
def yFA (data:oAa) (ah aj:Nat) (a_1 b:Int) (aB:FuncId) (au:lVa):lNa:=[]
def zLQ:Alt:=⟨Unit,(.exit 0),fun t=>yFA data ah aj a_1 b aB au,fun t=>[],fun t Z=>q0 Z⟩
def yJA:Prop:=qk ql none yIZ 53 (zWJ data ah aj a_1 b aB au aI) [] [yOP data ah aj a_1 b aB au Nx,zLQ data ah aj a_1 b aB au Q0] Z
def xBE:Prop:=qm ql none yIZ 53 (zWJ data ah aj a_1 b aB au aI) [] [zLQ data ah aj a_1 b aB au Q0] Z
def xBC:Code:=(Code.part [1,0,0,1,0,0,1,0,0] (qj 106))
def zQB:lNa:=[(0,.slice data ah aj),(1,iV a_1),(2,iV b),(3,.func (.func aB) ⟨[]⟩ ⟨au⟩),(8,iV aI),(9,iV aS)]
def xMS:Alt:=⟨Int,.normal,fun t=>zQB data ah aj a_1 b aB au aI t,fun t=>[],fun t Z=>Q t Z⟩
def yEZ:lNa:=[(0,.slice data ah aj),(1,iV a_1),(2,iV b),(3,.func (.func aB) ⟨[]⟩ ⟨au⟩),(8,iV aI)]
def zSE:Alt:=⟨Unit,(.exit 2),fun t=>yEZ data ah aj a_1 b aB au aI,fun t=>[],fun t Z=>q0 Z⟩
def zWK:Prop:=qk ql none xBC 53 (zQB data ah aj a_1 b aB au aI aS) [] [xMS data ah aj a_1 b aB au aI Nx,zSE data ah aj a_1 b aB au aI q1] Z
def xBD:Prop:=qm ql none xBC 53 (zQB data ah aj a_1 b aB au aI aS) [] [zSE data ah aj a_1 b aB au aI q1] Z
def yFB:Prop:=kZ ql yIZ [1,0,0,1,0] (zGF 53 [yOP data ah aj a_1 b aB au Nx,zLQ data ah aj a_1 b aB au Q0]) (.exit 2) 53 (yEZ data ah aj a_1 b aB au aI) Z
def yFC:Prop:=kZ ql (qj 106) [1,0] (qn 106 q2) (.exit 0) 53 (yFA data ah aj a_1 b aB au) Z
def yLO:Code:=(Code.part [1,0,0] (qj 121))
def zIV:lNa:=[(0,.slice data ah aj),(2,iV hi),(3,iV first),(4,.func (.func aB) ⟨[]⟩ ⟨au⟩),(10,iV aD)]
def xCV:Alt:=⟨Int,.normal,fun t=>zIV data ah aj hi first aB au t,fun t=>[],fun t Z=>Q t Z⟩
def zXJ (data:oAa) (ah aj:Nat) (hi first:Int) (aB:FuncId) (au:lVa):lNa:=[]
def zNJ:Alt:=⟨Unit,(.exit 0),fun t=>zXJ data ah aj hi first aB au,fun t=>[],fun t Z=>q0 Z⟩
def zXI (data:oAa) (ah aj:Nat) (hi first:Int) (aB:FuncId) (au:lVa):lNa:=[]
def zNI:Alt:=⟨Unit,.ret,fun t=>zXI data ah aj hi first aB au,fun t=>[],fun t Z=>q0 Z⟩
def zCE:Prop:=qk ql none yLO 82 (zIV data ah aj hi first aB au aD) [] [xCV data ah aj hi first aB au Nx,zNJ data ah aj hi first aB au Q0,zNI data ah aj hi first aB au q3] Z
def yLP:Prop:=qm ql none yLO 82 (zIV data ah aj hi first aB au aD) [] [zNJ data ah aj hi first aB au Q0,zNI data ah aj hi first aB au q3] Z
def zXL:Prop:=kZ ql (qj 121) [1,0] (qn 121 q2) (.exit 0) 82 (zXJ data ah aj hi first aB au) Z
def zXK:Prop:=kZ ql (qj 121) [1,0] (qn 121 q2) .ret 82 (zXI data ah aj hi first aB au) Z
def yPB:Code:=(Code.part [1,1,1,0,1,0,0] (qj 107))
def zQJ (data:oAa) (ah aj:Nat) (aB:FuncId) (au:lVa) (a_1 kB aJ:Int):lNa:=[(0,.slice data ah aj),(3,.func (.func aB) ⟨[]⟩ ⟨au⟩),(8,iV a_1),(9,iV 0),(10,iV kB),(11,iV aJ)]
def xFY (data:oAa) (ah aj:Nat) (aB:FuncId) (au:lVa) (a_1 kB:Int) (Q:Int->St->Prop):Alt:=⟨Int,.normal,fun t=>zQJ data ah aj aB au a_1 kB t,fun t=>[],fun t Z=>Q t Z⟩
def zZY (data:oAa) (ah aj:Nat) (aB:FuncId) (au:lVa) (a_1 kB:Int):lNa:=[(0,.slice data ah aj),(3,.func (.func aB) ⟨[]⟩ ⟨au⟩),(8,iV a_1),(9,iV 0),(10,iV kB)]
def zOD (data:oAa) (ah aj:Nat) (aB:FuncId) (au:lVa) (a_1 kB:Int) (Q:St->Prop):Alt:=⟨Unit,(.exit 0),fun t=>zZY data ah aj aB au a_1 kB,fun t=>[],fun t Z=>Q Z⟩
def yAC (data:oAa) (ah aj:Nat) (aB:FuncId) (au:lVa) (a_1 kB aJ:Int) (Z:St) (Nx:Int->St->Prop) (Q0:St->Prop):Prop:=qk ql none yPB 60 (zQJ data ah aj aB au a_1 kB aJ) [] [xFY data ah aj aB au a_1 kB Nx,zOD data ah aj aB au a_1 kB Q0] Z
def yPD (data:oAa) (ah aj:Nat) (aB:FuncId) (au:lVa) (a_1 kB aJ:Int) (Z:St) (Q0:St->Prop):Prop:=qm ql none yPB 60 (zQJ data ah aj aB au a_1 kB aJ) [] [zOD data ah aj aB au a_1 kB Q0] Z
def yAA (data:oAa) (ah aj:Nat) (aB:FuncId) (au:lVa) (a_1 kB:Int) (Z:St) (Q:vPa):Prop:=kZ ql (qj 107) [1,1,1,0,1,0] (qn 107 Q) (.exit 0) 60 (zZY data ah aj aB au a_1 kB) Z
def yPA:Code:=(Code.part [1,1,1,1,1,0,0] (qj 107))
def zQI (data:oAa) (ah aj:Nat) (aB:FuncId) (au:lVa) (a_1 ee:Int):lNa:=[(0,.slice data ah aj),(3,.func (.func aB) ⟨[]⟩ ⟨au⟩),(8,iV a_1),(9,iV 0),(12,iV ee)]
def xFX (data:oAa) (ah aj:Nat) (aB:FuncId) (au:lVa) (a_1:Int) (Q:Int->St->Prop):Alt:=⟨Int,.normal,fun t=>zQI data ah aj aB au a_1 t,fun t=>[],fun t Z=>Q t Z⟩
def zZX (data:oAa) (ah aj:Nat) (aB:FuncId) (au:lVa) (a_1:Int):lNa:=[]
def zOC (data:oAa) (ah aj:Nat) (aB:FuncId) (au:lVa) (a_1:Int) (Q:St->Prop):Alt:=⟨Unit,(.exit 2),fun t=>zZX data ah aj aB au a_1,fun t=>[],fun t Z=>Q Z⟩
def yAB (data:oAa) (ah aj:Nat) (aB:FuncId) (au:lVa) (a_1 ee:Int) (Z:St) (Nx:Int->St->Prop) (Q2:St->Prop):Prop:=qk ql none yPA 60 (zQI data ah aj aB au a_1 ee) [] [xFX data ah aj aB au a_1 Nx,zOC data ah aj aB au a_1 Q2] Z
def yPC (data:oAa) (ah aj:Nat) (aB:FuncId) (au:lVa) (a_1 ee:Int) (Z:St) (Q2:St->Prop):Prop:=qm ql none yPA 60 (zQI data ah aj aB au a_1 ee) [] [zOC data ah aj aB au a_1 Q2] Z
def zZZ (data:oAa) (ah aj:Nat) (aB:FuncId) (au:lVa) (a_1:Int) (Z:St) (Q:vPa):Prop:=kZ ql (qj 107) [1,1,1,1,1,0] (qn 107 Q) (.exit 2) 60 (zZX data ah aj aB au a_1) Z
def zLJ:Code:=(Code.part [1,1,1,0,0,0] (qj 112))
def zLI:lNa:=[(0,.slice (some ax) ah aj),(1,iV a_1),(4,.func (.func aB) ⟨[]⟩ ⟨au⟩),(11,iV aJ),(12,iV a7)]
def zNT:Alt:=⟨Int × Int,.normal,fun t=>zLI ax ah aj a_1 aB au t.1 t.2,fun t=>[],fun t Z=>q4 t.1 t.2 Z⟩
def zUM (ax:Addr) (ah aj:Nat) (a_1:Int) (aB:FuncId) (au:lVa) (aJ:Int):lNa:=[(11,iV aJ)]
def zCH:Alt:=⟨Int,(.exit 0),fun t=>zUM ax ah aj a_1 aB au t,fun t=>[],fun t Z=>Q t Z⟩
def yER:Prop:=qk ql none zLJ 90 (zLI ax ah aj a_1 aB au aJ a7) [] [zNT ax ah aj a_1 aB au q5,zCH ax ah aj a_1 aB au q6] Z
def yEQ:Prop:=qm ql none zLJ 90 (zLI ax ah aj a_1 aB au aJ a7) [] [zCH ax ah aj a_1 aB au q6] Z
def yEN:Code:=(Code.part [1,1,1,0,0,0,0,0,0,0] (qj 112))
def zFP:lNa:=[(0,.slice (some ax) ah aj),(1,iV a_1),(4,.func (.func aB) ⟨[]⟩ ⟨au⟩),(11,iV bi),(12,iV a7)]
def yVI:Alt:=⟨Int,.normal,fun t=>zFP ax ah aj a_1 aB au a7 t,fun t=>[],fun t Z=>Q t Z⟩
def zUL:lNa:=[(0,.slice (some ax) ah aj),(1,iV a_1),(4,.func (.func aB) ⟨[]⟩ ⟨au⟩),(11,iV bi),(12,iV a7)]
def zJQ:Alt:=⟨Int,(.exit 2),fun t=>zUL ax ah aj a_1 aB au a7 t,fun t=>[],fun t Z=>Q t Z⟩
def zLL:Prop:=qk ql none yEN 90 (zFP ax ah aj a_1 aB au a7 bi) [] [yVI ax ah aj a_1 aB au a7 Nx,zJQ ax ah aj a_1 aB au a7 Q2] Z
def yEP:Prop:=qm ql none yEN 90 (zFP ax ah aj a_1 aB au a7 bi) [] [zJQ ax ah aj a_1 aB au a7 Q2] Z
def zUN:Prop:=kZ ql zLJ [0,0,0] (zGF 90 [zNT ax ah aj a_1 aB au q5,zCH ax ah aj a_1 aB au q6]) (.exit 2) 90 (zUL ax ah aj a_1 aB au a7 bi) Z
def yEM:Code:=(Code.part [1,1,1,0,0,0,0,1,0,0,0] (qj 112))
def zFO:lNa:=[(0,.slice (some ax) ah aj),(1,iV a_1),(4,.func (.func aB) ⟨[]⟩ ⟨au⟩),(11,iV bi),(12,iV bO)]
def yVH:Alt:=⟨Int,.normal,fun t=>zFO ax ah aj a_1 aB au bi t,fun t=>[],fun t Z=>Q t Z⟩
def zUK:lNa:=[(0,.slice (some ax) ah aj),(1,iV a_1),(4,.func (.func aB) ⟨[]⟩ ⟨au⟩),(11,iV bi),(12,iV bO)]
def zJP:Alt:=⟨Int,(.exit 4),fun t=>zUK ax ah aj a_1 aB au bi t,fun t=>[],fun t Z=>Q t Z⟩
def zLK:Prop:=qk ql none yEM 90 (zFO ax ah aj a_1 aB au bi bO) [] [yVH ax ah aj a_1 aB au bi Nx,zJP ax ah aj a_1 aB au bi Q4] Z
def yEO:Prop:=qm ql none yEM 90 (zFO ax ah aj a_1 aB au bi bO) [] [zJP ax ah aj a_1 aB au bi Q4] Z
def zJR:Prop:=kZ ql zLJ [0,1,0,0] (zGF 90 [zNT ax ah aj a_1 aB au q5,zCH ax ah aj a_1 aB au q6]) (.exit 4) 90 (zUK ax ah aj a_1 aB au bi bO) Z
def zUO:Prop:=kZ ql (qj 112) [1,1,1,0,0] (qn 112 q2) (.exit 0) 90 (zUM ax ah aj a_1 aB au aJ) Z
def xAI:Code:=(Code.part [1,1,1,0,0,0] (qj 113))
def zWC:lNa:=[(0,.slice (some ax) ah aj),(1,iV a_1),(4,.func (.func aB) ⟨[]⟩ ⟨au⟩),(12,iV a7),(13,iV kB)]
def xLC:Alt:=⟨Int,.normal,fun t=>zWC ax ah aj a_1 aB au kB t,fun t=>[],fun t Z=>Q t Z⟩
def yEI:lNa:=[(0,.slice (some ax) ah aj),(1,iV a_1),(4,.func (.func aB) ⟨[]⟩ ⟨au⟩),(12,iV a7),(13,iV kB)]
def zRZ:Alt:=⟨Int,(.exit 0),fun t=>yEI ax ah aj a_1 aB au kB t,fun t=>[],fun t Z=>Q t Z⟩
def zWH:Prop:=qk ql none xAI 178 (zWC ax ah aj a_1 aB au kB a7) [] [xLC ax ah aj a_1 aB au kB Nx,zRZ ax ah aj a_1 aB au kB q6] Z
def xAN:Prop:=qm ql none xAI 178 (zWC ax ah aj a_1 aB au kB a7) [] [zRZ ax ah aj a_1 aB au kB q6] Z
def yEL:Prop:=kZ ql (qj 113) [1,1,1,0,0] (qn 113 q2) (.exit 0) 178 (yEI ax ah aj a_1 aB au kB a7) Z
def xAH:Code:=(Code.part [1,1,1,1,0,0,0] (qj 113))
def zPN:lNa:=[(0,.slice (some ax) ah aj),(1,iV a_1),(4,.func (.func aB) ⟨[]⟩ ⟨au⟩),(12,iV a7),(13,iV bW)]
def xLB:Alt:=⟨Int,.normal,fun t=>zPN ax ah aj a_1 aB au a7 t,fun t=>[],fun t Z=>Q t Z⟩
def yEH:lNa:=[(0,.slice (some ax) ah aj),(1,iV a_1),(4,.func (.func aB) ⟨[]⟩ ⟨au⟩),(12,iV a7),(13,iV bW)]
def zRY:Alt:=⟨Int,(.exit 2),fun t=>yEH ax ah aj a_1 aB au a7 t,fun t=>[],fun t Z=>Q t Z⟩
def zWG:Prop:=qk ql none xAH 178 (zPN ax ah aj a_1 aB au a7 bW) [] [xLB ax ah aj a_1 aB au a7 Nx,zRY ax ah aj a_1 aB au a7 Q2] Z
def xAM:Prop:=qm ql none xAH 178 (zPN ax ah aj a_1 aB au a7 bW) [] [zRY ax ah aj a_1 aB au a7 Q2] Z
def zSB:Prop:=kZ ql (qj 113) [1,1,1,1,0,0] (qn 113 q2) (.exit 2) 178 (yEH ax ah aj a_1 aB au a7 bW) Z
def zWD:Code:=(Code.part [1,1,1,1,1,1,1,1,1,0,0,0] (qj 113))
def zWB:lNa:=[(0,.slice (some ax) ah aj),(1,iV a_1),(4,.func (.func aB) ⟨[]⟩ ⟨au⟩),(12,iV bO),(13,iV aH)]
def zYR:Alt:=⟨Int × Int,.normal,fun t=>zWB ax ah aj a_1 aB au t.1 t.2,fun t=>[],fun t Z=>q4 t.1 t.2 Z⟩
def yEG (ax:Addr) (ah aj:Nat) (a_1:Int) (aB:FuncId) (au:lVa) (aH:Int):lNa:=[(0,.slice (some ax) ah aj),(1,iV a_1),(13,iV aH)]
def zFN:Alt:=⟨Int,(.exit 4),fun t=>yEG ax ah aj a_1 aB au t,fun t=>[],fun t Z=>Q t Z⟩
def xAO:Prop:=qk ql none zWD 178 (zWB ax ah aj a_1 aB au bO aH) [] [zYR ax ah aj a_1 aB au q5,zFN ax ah aj a_1 aB au Q4] Z
def xAL:Prop:=qm ql none zWD 178 (zWB ax ah aj a_1 aB au bO aH) [] [zFN ax ah aj a_1 aB au Q4] Z
def xAG:Code:=(Code.part [1,1,1,1,1,1,1,1,1,0,0,0,0,0,0,0] (qj 113))
def zPM:lNa:=[(0,.slice (some ax) ah aj),(1,iV a_1),(4,.func (.func aB) ⟨[]⟩ ⟨au⟩),(12,iV bf),(13,iV aH)]
def xLA:Alt:=⟨Int,.normal,fun t=>zPM ax ah aj a_1 aB au aH t,fun t=>[],fun t Z=>Q t Z⟩
def yEF:lNa:=[(0,.slice (some ax) ah aj),(1,iV a_1),(4,.func (.func aB) ⟨[]⟩ ⟨au⟩),(12,iV bf),(13,iV aH)]
def zRX:Alt:=⟨Int,(.exit 6),fun t=>yEF ax ah aj a_1 aB au aH t,fun t=>[],fun t Z=>Q t Z⟩
def zWF:Prop:=qk ql none xAG 178 (zPM ax ah aj a_1 aB au aH bf) [] [xLA ax ah aj a_1 aB au aH Nx,zRX ax ah aj a_1 aB au aH Q6] Z
def xAK:Prop:=qm ql none xAG 178 (zPM ax ah aj a_1 aB au aH bf) [] [zRX ax ah aj a_1 aB au aH Q6] Z
def yEJ:Prop:=kZ ql zWD [0,0,0] (zGF 178 [zYR ax ah aj a_1 aB au q5,zFN ax ah aj a_1 aB au Q4]) (.exit 6) 178 (yEF ax ah aj a_1 aB au aH bf) Z
def xAF:Code:=(Code.part [1,1,1,1,1,1,1,1,1,0,0,0,0,1,0,0,0] (qj 113))
def zPL:lNa:=[(0,.slice (some ax) ah aj),(1,iV a_1),(4,.func (.func aB) ⟨[]⟩ ⟨au⟩),(12,iV bf),(13,iV bY)]
def xKZ:Alt:=⟨Int,.normal,fun t=>zPL ax ah aj a_1 aB au bf t,fun t=>[],fun t Z=>Q t Z⟩
def yEE:lNa:=[(0,.slice (some ax) ah aj),(1,iV a_1),(4,.func (.func aB) ⟨[]⟩ ⟨au⟩),(12,iV bf),(13,iV bY)]
def zRW:Alt:=⟨Int,(.exit 8),fun t=>yEE ax ah aj a_1 aB au bf t,fun t=>[],fun t Z=>Q t Z⟩
def zWE:Prop:=qk ql none xAF 178 (zPL ax ah aj a_1 aB au bf bY) [] [xKZ ax ah aj a_1 aB au bf Nx,zRW ax ah aj a_1 aB au bf Q8] Z
def xAJ:Prop:=qm ql none xAF 178 (zPL ax ah aj a_1 aB au bf bY) [] [zRW ax ah aj a_1 aB au bf Q8] Z
def zSA:Prop:=kZ ql zWD [0,1,0,0] (zGF 178 [zYR ax ah aj a_1 aB au q5,zFN ax ah aj a_1 aB au Q4]) (.exit 8) 178 (yEE ax ah aj a_1 aB au bf bY) Z
def yEK:Prop:=kZ ql (qj 113) [1,1,1,1,1,1,1,1,1,0,0] (qn 113 q2) (.exit 4) 178 (yEG ax ah aj a_1 aB au aH) Z
def zJN:Code:=(Code.part [1,1,0,1,0,0] (qj 111))
def zPP:lNa:=[(0,.slice data ah aj),(1,iV a_1),(2,iV b),(3,.func (.func aB) ⟨[]⟩ ⟨au⟩),(9,iV bX),(10,iV aD)]
def zLH:Alt:=⟨Int × Int,.normal,fun t=>zPP data ah aj a_1 b aB au t.1 t.2,fun t=>[],fun t Z=>q4 t.1 t.2 Z⟩
def zYW (data:oAa) (ah aj:Nat) (a_1 b:Int) (aB:FuncId) (au:lVa):lNa:=[]
def zBN:Alt:=⟨Unit,(.exit 0),fun t=>zYW data ah aj a_1 b aB au,fun t=>[],fun t Z=>q0 Z⟩
def zYV (data:oAa) (ah aj:Nat) (a_1 b:Int) (aB:FuncId) (au:lVa) (t8_1:Bool):lNa:=[(8,.bool t8_1)]
def zBM:Alt:=⟨Bool,.ret,fun t=>zYV data ah aj a_1 b aB au t,fun t=>[],fun t Z=>q7 t Z⟩
def zZA:Prop:=qk ql none zJN 141 (zPP data ah aj a_1 b aB au bX aD) [] [zLH data ah aj a_1 b aB au q5,zBN data ah aj a_1 b aB au Q0,zBM data ah aj a_1 b aB au Qr] Z
def yNN:Prop:=qm ql none zJN 141 (zPP data ah aj a_1 b aB au bX aD) [] [zBN data ah aj a_1 b aB au Q0,zBM data ah aj a_1 b aB au Qr] Z
def yNL:Code:=(Code.part [1,1,0,1,0,0,1,0,0,0,0,0] (qj 111))
def zJM:lNa:=[(0,.slice data ah aj),(1,iV a_1),(2,iV b),(3,.func (.func aB) ⟨[]⟩ ⟨au⟩),(9,iV aS),(10,iV aD)]
def xFG:Alt:=⟨Int,.normal,fun t=>zJM data ah aj a_1 b aB au aD t,fun t=>[],fun t Z=>Q t Z⟩
def zYU:lNa:=[(0,.slice data ah aj),(1,iV a_1),(2,iV b),(3,.func (.func aB) ⟨[]⟩ ⟨au⟩),(9,iV aS),(10,iV aD)]
def zNQ:Alt:=⟨Int,(.exit 2),fun t=>zYU data ah aj a_1 b aB au aD t,fun t=>[],fun t Z=>Q t Z⟩
def zPS:Prop:=qk ql none yNL 141 (zJM data ah aj a_1 b aB au aD aS) [] [xFG data ah aj a_1 b aB au aD Nx,zNQ data ah aj a_1 b aB au aD Q2] Z
def yNM:Prop:=qm ql none yNL 141 (zJM data ah aj a_1 b aB au aD aS) [] [zNQ data ah aj a_1 b aB au aD Q2] Z
def zBO:Prop:=kZ ql zJN [1,0,0,0,0] (zGF 141 [zLH data ah aj a_1 b aB au q5,zBN data ah aj a_1 b aB au Q0,zBM data ah aj a_1 b aB au Qr]) (.exit 2) 141 (zYU data ah aj a_1 b aB au aD aS) Z
def yNK:Code:=(Code.part [1,1,0,1,0,0,1,0,0,1,1,1,1,0,1,0,1,0,0] (qj 111))
def zPO (ax:Addr) (ah aj:Nat) (a_1 b:Int) (aB:FuncId) (au:lVa) (aS aD dG:Int):lNa:=[(0,.slice (some ax) ah aj),(1,iV a_1),(2,iV b),(3,.func (.func aB) ⟨[]⟩ ⟨au⟩),(9,iV aS),(10,iV aD),(11,iV dG)]
def xFF (ax:Addr) (ah aj:Nat) (a_1 b:Int) (aB:FuncId) (au:lVa) (aS aD:Int) (Q:Int->St->Prop):Alt:=⟨Int,.normal,fun t=>zPO ax ah aj a_1 b aB au aS aD t,fun t=>[],fun t Z=>Q t Z⟩
def zYT (ax:Addr) (ah aj:Nat) (a_1 b:Int) (aB:FuncId) (au:lVa) (aS aD:Int):lNa:=[(0,.slice (some ax) ah aj),(1,iV a_1),(2,iV b),(3,.func (.func aB) ⟨[]⟩ ⟨au⟩),(9,iV aS),(10,iV aD)]
def zNP (ax:Addr) (ah aj:Nat) (a_1 b:Int) (aB:FuncId) (au:lVa) (aS aD:Int) (Q:St->Prop):Alt:=⟨Unit,(.exit 4),fun t=>zYT ax ah aj a_1 b aB au aS aD,fun t=>[],fun t Z=>Q Z⟩
def zPR (ax:Addr) (ah aj:Nat) (a_1 b:Int) (aB:FuncId) (au:lVa) (aS aD dG:Int) (Z:St) (Nx:Int->St->Prop) (Q4:St->Prop):Prop:=qk ql none yNK 141 (zPO ax ah aj a_1 b aB au aS aD dG) [] [xFF ax ah aj a_1 b aB au aS aD Nx,zNP ax ah aj a_1 b aB au aS aD Q4] Z
def zYX (ax:Addr) (ah aj:Nat) (a_1 b:Int) (aB:FuncId) (au:lVa) (aS aD dG:Int) (Z:St) (Q4:St->Prop):Prop:=qm ql none yNK 141 (zPO ax ah aj a_1 b aB au aS aD dG) [] [zNP ax ah aj a_1 b aB au aS aD Q4] Z
def zNS (data:oAa) (ax:Addr) (ah aj:Nat) (a_1 b:Int) (aB:FuncId) (au:lVa) (aS aD:Int) (Z:St) (Nx:Int->Int->St->Prop) (Q0:St->Prop) (Qr:Bool->St->Prop):Prop:=kZ ql zJN [1,0,0,1,1,1,1,0,1,0,1,0] (zGF 141 [zLH data ah aj a_1 b aB au Nx,zBN data ah aj a_1 b aB au Q0,zBM data ah aj a_1 b aB au Qr]) (.exit 4) 141 (zYT ax ah aj a_1 b aB au aS aD) Z
def yNJ:Code:=(Code.part [1,1,0,1,0,0,1,0,0,1,1,1,1,1,1,0,1,0,0] (qj 111))
def zJL (ax:Addr) (ah aj:Nat) (a_1 b:Int) (aB:FuncId) (au:lVa) (aS aD bf:Int):lNa:=[(0,.slice (some ax) ah aj),(1,iV a_1),(2,iV b),(3,.func (.func aB) ⟨[]⟩ ⟨au⟩),(9,iV aS),(10,iV aD),(12,iV bf)]
def xFE (ax:Addr) (ah aj:Nat) (a_1 b:Int) (aB:FuncId) (au:lVa) (aS aD:Int) (Q:Int->St->Prop):Alt:=⟨Int,.normal,fun t=>zJL ax ah aj a_1 b aB au aS aD t,fun t=>[],fun t Z=>Q t Z⟩
def zYS (ax:Addr) (ah aj:Nat) (a_1 b:Int) (aB:FuncId) (au:lVa) (aS aD:Int):lNa:=[(0,.slice (some ax) ah aj),(1,iV a_1),(2,iV b),(3,.func (.func aB) ⟨[]⟩ ⟨au⟩),(9,iV aS),(10,iV aD)]
def zGV (ax:Addr) (ah aj:Nat) (a_1 b:Int) (aB:FuncId) (au:lVa) (aS aD:Int) (Q:St->Prop):Alt:=⟨Unit,(.exit 6),fun t=>zYS ax ah aj a_1 b aB au aS aD,fun t=>[],fun t Z=>Q Z⟩
def zPQ (ax:Addr) (ah aj:Nat) (a_1 b:Int) (aB:FuncId) (au:lVa) (aS aD bf:Int) (Z:St) (Nx:Int->St->Prop) (Q6:St->Prop):Prop:=qk ql none yNJ 141 (zJL ax ah aj a_1 b aB au aS aD bf) [] [xFE ax ah aj a_1 b aB au aS aD Nx,zGV ax ah aj a_1 b aB au aS aD Q6] Z
def zJO (ax:Addr) (ah aj:Nat) (a_1 b:Int) (aB:FuncId) (au:lVa) (aS aD bf:Int) (Z:St) (Q6:St->Prop):Prop:=qm ql none yNJ 141 (zJL ax ah aj a_1 b aB au aS aD bf) [] [zGV ax ah aj a_1 b aB au aS aD Q6] Z
def zNR (data:oAa) (ax:Addr) (ah aj:Nat) (a_1 b:Int) (aB:FuncId) (au:lVa) (aS aD:Int) (Z:St) (Nx:Int->Int->St->Prop) (Q0:St->Prop) (Qr:Bool->St->Prop):Prop:=kZ ql zJN [1,0,0,1,1,1,1,1,1,0,1,0] (zGF 141 [zLH data ah aj a_1 b aB au Nx,zBN data ah aj a_1 b aB au Q0,zBM data ah aj a_1 b aB au Qr]) (.exit 6) 141 (zYS ax ah aj a_1 b aB au aS aD) Z
def zYZ:Prop:=kZ ql (qj 111) [1,1,0,1,0] (qn 111 q2) (.exit 0) 141 (zYW data ah aj a_1 b aB au) Z
def zYY:Prop:=kZ ql (qj 111) [1,1,0,1,0] (qn 111 q2) .ret 141 (zYV data ah aj a_1 b aB au t8_1) Z
end
variable {data:oAa} {ah aj:Nat} {a_1 b aI aS nQ nW nX nV nJ nK nL hi first aD nA nH nF nG nE nI nM nR nS nT nY nJC nBA nBE lo_1 kB aJ ee a7 bi bO nU nNB nHB nOB nPB nIB nLB nFB nGB nZ nAB nBB nCB dH n1 n2 n3 n4 n5 n6 bW nZB nBF nBG nAC nBC nCC aH bf nEB nJB nQB nRB nSB nTB nXB bY nBH nBI nBJ nBK nBL nBM nBN nBj nBk nBl nBm nBn nBo nBp nBq nBr nBs nBt nBu bX dG nMB nKB nDC nEC nFC nGC:Int} {aB:FuncId} {au:lVa} {Inv:Nat->Int->St->Prop} {Q0 P0 Pr P6:St->Prop} {Q2 Nx P2 Q4 P4 Q6 Q8 P8:Int->St->Prop} {ax:Addr} {ZEB ZFB Z ZBB ZJ ZR ZA ZF ZCB ZS ZTB ZUB ZVB Z7 Z8 ZP ZGB ZWB ZXB ZYB ZZB ZAC ZBC ZT ZU ZCC ZDC:St} {Q:vPa} {Qr:Bool->St->Prop} {t8_1:Bool}
theorem zZP (hb:∀ k aI Z,Inv k aI Z->yJA data ah aj a_1 b aB au aI Z (NX1 Inv k) Q0):∀ k aI Z,Inv k aI Z->xBE data ah aj a_1 b aB au aI Z Q0 :=
 xL (ai (xZ 0) trivial) hb
theorem yVY {Q2:St->Prop} (hb:∀ k aS Z,Inv k aS Z->zWK data ah aj a_1 b aB au aI aS Z (NX1 Inv k) Q2):∀ k aS Z,Inv k aS Z->xBD data ah aj a_1 b aB au aI aS Z Q2 :=
 xL (ai (xZ 2) trivial) hb
theorem xMP {Q2:St->Prop}:let y0:=rcd nQ nW nX;let y1:=rcd nV nJ nK;let y2:=zJ ax (Int.toNat (aS-1)*3);let y3:=zJ ax (Int.toNat aS*3);∀ (h1:lz Z 45 y3 (qh y0)) (h2:lz Z 45 y2 (qh y1)) (h3:qo aB (qh y0::(qh y1)::au) Z (iV nL) Z) (h4:qq (evL [pz y3,qh y1]) Z (.store 45 (.tmp 0) (.tmp 1))=some (undef,ZEB)) (h5:qq (evL [pz y2,qh y0]) ZEB (.store 45 (.tmp 0) (.tmp 1))=some (undef,ZFB)) (nx:Nx (aS-1) ZFB) (u1:a_1<aS:=by omega) (u2:Ix aS ah:=by omega) (u3:I6 (aS-1):=by omega) (u4:Ix (aS-1) ah:=by omega) (u5:nL<0:=by omega),zWK (some ax) ah aj a_1 b aB au aI aS Z Nx Q2 :=
 let y0:=rcd nQ nW nX;let y1:=rcd nV nJ nK;fun h1 h2 h3 h4 h5 nx u1 u2 u3 u4 u5=>kO 0 (aS-1) [.g,.g,.b true,.g,.g,.g,.g,.i,.l (qh y0),.g,.g,.n (aS-1),.i,.l (qh y1),.c (iV nL) Z,.b true,.g,.g,.g,.g,.g,.n (aS-1),.g,.g,.n (aS-1),.i,.l (qh y1),.g,.g,.i,.l (qh y0),.i,.e undef ZEB,.i,.e undef ZFB,.g,.n (aS-1),.g] (fun _ f=>ai (zR u1) (an6 u2 h1 (w64 u3) u4 h2 h3 (an6 (zR u5) (w64 u3) (w64 u3) u4 h2 u2 (an6 h1 u2 h4 u4 h5 (w64 u3) f)))) nx
theorem xMO {Q2:St->Prop} (h1:lz Z 45 (zJ ax (Int.toNat aS*3)) (qh (rcd nQ nW nX))) (h2:lz Z 45 (zJ ax (Int.toNat (aS-1)*3)) (qh (rcd nV nJ nK))) (h3:qo aB (qh (rcd nQ nW nX)::(qh (rcd nV nJ nK))::au) Z (iV nL) Z) (nx:Q2 Z) (u1:a_1<aS:=by omega) (u2:Ix aS ah:=by omega) (u3:I6 (aS-1):=by omega) (u4:Ix (aS-1) ah:=by omega) (u5:¬ nL<0:=by omega):zWK (some ax) ah aj a_1 b aB au aI aS Z Nx Q2 :=
 kO 1 () [.g,.g,.b true,.g,.g,.g,.g,.i,.l (qh (rcd nQ nW nX)),.g,.g,.n (aS-1),.i,.l (qh (rcd nV nJ nK)),.c (iV nL) Z,.b false,.g] (fun _ f=>an2 (zR u1) u2 (an6 h1 (w64 u3) u4 h2 h3 (zS u5) f)) nx
theorem xMN {Q2:St->Prop} (nx:Q2 Z) (u1:¬ a_1<aS:=by omega):zWK data ah aj a_1 b aB au aI aS Z Nx Q2 :=
 kO 1 () [.g,.g,.b false,.g,.g] (fun _ f=>ai (zS u1) f) nx
theorem xMQ {P2:St->Prop} (hL:xBD data ah aj a_1 b aB au aI aI Z P2) (k2:∀ Z',P2 Z'->yFB data ah aj a_1 b aB au aI Z' Nx Q0) (u1:aI<b:=by omega):yJA data ah aj a_1 b aB au aI Z Nx Q0 :=
 zDC [.g,.g,.b true,.g,.g,.lf 53 (zQB data ah aj a_1 b aB au aI aI) [zSE data ah aj a_1 b aB au aI P2]] (fun g=>kd (ai (zR u1) (ai (ai tt (ai (arf (zQB data ah aj a_1 b aB au aI aI)) hL)) (ai (kz0 k2) trivial))))
theorem yOO (nx:Q0 Z) (u1:¬ aI<b:=by omega):yJA data ah aj a_1 b aB au aI Z Nx Q0 :=
 kO 1 () [.g,.g,.b false] (fun _ f=>ai (zS u1) f) nx
theorem yVX (nx:Nx (aI+1) Z) (u1:I6 (aI+1):=by omega):yFB data ah aj a_1 b aB au aI Z Nx Q0 :=
 sF 0 (aI+1) [.g,.n (aI+1),.g] (fun _ f=>ai (w64 u1) f) nx
theorem xBB (hL:xBE data ah aj a_1 b aB au (a_1+1) Z P0) (k0:∀ Z',P0 Z'->yFC data ah aj a_1 b aB au Z' Q) (u1:I6 (a_1+1):=by omega):qi 106 [.slice data ah aj,iV a_1,iV b,.func (.func aB) ⟨[]⟩ ⟨au⟩] Z Q :=
 let s1:=zWJ data ah aj a_1 b aB au (a_1+1);zG [.g,.n (a_1+1),.g,.lf 53 s1 [zLQ data ah aj a_1 b aB au P0]] (kd (ai (w64 u1) (ai (ai tt (ai (arf s1) hL)) (ai (kz0 k0) trivial))))
theorem zZO (nx:Q (.tuple ⟨[]⟩) Z):yFC data ah aj a_1 b aB au Z Q :=
 sK [] nx
theorem yLN {Qr:St->Prop} (hb:∀ k aD Z,Inv k aD Z->zCE data ah aj hi first aB au aD Z (NX1 Inv k) Q0 Qr):∀ k aD Z,Inv k aD Z->yLP data ah aj hi first aB au aD Z Q0 Qr :=
 xL (ai (xZ 0) (ai zBE trivial)) hb
theorem xCU {Qr:St->Prop} (nx:Q0 Z) (u1:I6 (2*aD):=by omega) (u2:I6 ((2*aD)+1):=by omega) (u3:hi<=((2*aD)+1):=by omega):zCE data ah aj hi first aB au aD Z Nx Q0 Qr :=
 kO 1 () [.g,.n (2*aD),.n ((2*aD)+1),.g,.g,.g,.b true] (fun _ f=>an3 (w64 u1) (w64 u2) (yE u3) f) nx
@[reducible] def Ha2 (Z:St) (ax:Addr) (first aD nA nH nF nG nE nI nM nR nS nT nY nJC nBA nBE:Int) (aB:FuncId) (au:lVa):Prop:=qp Z 45 (zJ ax (Int.toNat (first+((2*aD)+1))*3))=some (.agg ⟨rcd nA nH nF⟩)/\qp Z 45 (zJ ax (Int.toNat ((first+((2*aD)+1))+1)*3))=some (.agg ⟨rcd nG nE nI⟩)/\qo aB (.agg ⟨rcd nA nH nF⟩::.agg ⟨rcd nG nE nI⟩::au) Z (iV nM) Z/\qp Z 45 (zJ ax (Int.toNat (first+aD)*3))=some (.agg ⟨rcd nR nS nT⟩)/\qp Z 45 (zJ ax (Int.toNat (first+(((2*aD)+1)+1))*3))=some (.agg ⟨rcd nY nJC nBA⟩)/\qo aB (.agg ⟨rcd nR nS nT⟩::.agg ⟨rcd nY nJC nBA⟩::au) Z (iV nBE) Z
theorem xCT {Qr:St->Prop}:let y0:=(2*aD)+1;let y1:=first+aD;∀ (H:Ha2 Z ax first aD nA nH nF nG nE nI nM nR nS nT nY nJC nBA nBE aB au) (h7:qq (evL [pz (zJ ax (Int.toNat y1*3)),qh (rcd nY nJC nBA)]) Z (.store 45 (.tmp 0) (.tmp 1))=some (undef,ZBB)) (h8:qq (evL [pz (zJ ax (Int.toNat (first+(y0+1))*3)),qh (rcd nR nS nT)]) ZBB (.store 45 (.tmp 0) (.tmp 1))=some (undef,ZJ)) (nx:Nx (y0+1) ZJ) (u1:I6 (2*aD):=by omega) (u2:I6 y0:=by omega) (u3:¬ hi<=y0:=by omega) (u4:I6 (y0+1):=by omega) (u5:(y0+1)<hi:=by omega) (u6:I6 (first+y0):=by omega) (u7:Ix (first+y0) ah:=by omega) (u8:I6 ((first+y0)+1):=by omega) (u9:Ix ((first+y0)+1) ah:=by omega) (u10:nM<0:=by omega) (u11:I6 y1:=by omega) (u12:Ix y1 ah:=by omega) (u13:I6 (first+(y0+1)):=by omega) (u14:Ix (first+(y0+1)) ah:=by omega) (u15:nBE<0:=by omega),zCE (some ax) ah aj hi first aB au aD Z Nx Q0 Qr :=
 fun H h7 h8 nx u1 u2 u3 u4 u5 u6 u7 u8 u9 u10 u11 u12 u13 u14 u15=>match H with|⟨h1,h2,h3,h4,h5,h6⟩=>let s1:=(2*aD)+1;let s2:=first+(s1+1);let s3:=first+aD;let s4:=first+s1;kO 0 (s1+1) [.g,.n (2*aD),.n s1,.g,.g,.g,.b false,.g,.n (s1+1),.g,.b true,.g,.g,.g,.g,.g,.n s4,.i,.l (qh (rcd nA nH nF)),.g,.g,.g,.n s4,.n (s4+1),.i,.l (qh (rcd nG nE nI)),.c (iV nM) Z,.b true,.g,.g,.n (s1+1),.g,.g,.g,.g,.g,.n s3,.i,.l (qh (rcd nR nS nT)),.g,.g,.g,.n s2,.i,.l (qh (rcd nY nJC nBA)),.c (iV nBE) Z,.b true,.g,.g,.g,.g,.n s3,.g,.g,.g,.n s2,.g,.g,.g,.n s2,.i,.l (qh (rcd nY nJC nBA)),.g,.g,.g,.n s3,.i,.l (qh (rcd nR nS nT)),.i,.e undef ZBB,.i,.e undef ZJ,.g,.g] (fun _ f=>an5 (w64 u1) (w64 u2) (yH u3) (w64 u4) (zR u5) (an6 (w64 u6) u7 h1 (w64 u6) (w64 u8) u9 (an6 h2 h3 (zR u10) (w64 u4) (w64 u11) u12 (an6 h4 (w64 u13) u14 h5 h6 (zR u15) (an6 (w64 u11) (w64 u13) (w64 u13) u14 h5 (w64 u11) (an6 u12 h4 u12 h7 u14 h8 f)))))) nx
theorem xCS {Qr:St->Prop} (H:Ha2 Z ax first aD nA nH nF nG nE nI nM nR nS nT nY nJC nBA nBE aB au) (nx:Qr Z) (u1:I6 (2*aD):=by omega) (u2:I6 ((2*aD)+1):=by omega) (u3:¬ hi<=((2*aD)+1):=by omega) (u4:I6 (((2*aD)+1)+1):=by omega) (u5:(((2*aD)+1)+1)<hi:=by omega) (u6:I6 (first+((2*aD)+1)):=by omega) (u7:Ix (first+((2*aD)+1)) ah:=by omega) (u8:I6 ((first+((2*aD)+1))+1):=by omega) (u9:Ix ((first+((2*aD)+1))+1) ah:=by omega) (u10:nM<0:=by omega) (u11:I6 (first+aD):=by omega) (u12:Ix (first+aD) ah:=by omega) (u13:I6 (first+(((2*aD)+1)+1)):=by omega) (u14:Ix (first+(((2*aD)+1)+1)) ah:=by omega) (u15:¬ nBE<0:=by omega):zCE (some ax) ah aj hi first aB au aD Z Nx Q0 Qr :=
 match H with|⟨h1,h2,h3,h4,h5,h6⟩=>let s1:=(2*aD)+1;let s2:=first+s1;kO 2 () [.g,.n (2*aD),.n s1,.g,.g,.g,.b false,.g,.n (s1+1),.g,.b true,.g,.g,.g,.g,.g,.n s2,.i,.l (qh (rcd nA nH nF)),.g,.g,.g,.n s2,.n (s2+1),.i,.l (qh (rcd nG nE nI)),.c (iV nM) Z,.b true,.g,.g,.n (s1+1),.g,.g,.g,.g,.g,.n (first+aD),.i,.l (qh (rcd nR nS nT)),.g,.g,.g,.n (first+(s1+1)),.i,.l (qh (rcd nY nJC nBA)),.c (iV nBE) Z,.b false,.g] (fun _ f=>an5 (w64 u1) (w64 u2) (yH u3) (w64 u4) (zR u5) (an6 (w64 u6) u7 h1 (w64 u6) (w64 u8) u9 (an6 h2 h3 (zR u10) (w64 u4) (w64 u11) u12 (an6 h4 (w64 u13) u14 h5 h6 (zS u15) f)))) nx
theorem xCR {Qr:St->Prop}:let s2:=(2*aD)+1;let s1:=first+s2;let s3:=first+aD;let y0:=rcd nA nH nF;let y1:=rcd nR nS nT;let y2:=zJ ax (Int.toNat s1*3);let y3:=zJ ax (Int.toNat s3*3);∀ (h1:lz Z 45 y2 (qh y0)) (h2:lz Z 45 (zJ ax (Int.toNat (s1+1)*3)) (qh (rcd nG nE nI))) (h3:qo aB (qh y0::(qh (rcd nG nE nI))::au) Z (iV nM) Z) (h4:lz Z 45 y3 (qh y1)) (h5:qo aB (qh y1::(qh y0)::au) Z (iV nY) Z) (h6:qq (evL [pz y3,qh y0]) Z (.store 45 (.tmp 0) (.tmp 1))=some (undef,ZR)) (h7:qq (evL [pz y2,qh y1]) ZR (.store 45 (.tmp 0) (.tmp 1))=some (undef,ZA)) (nx:Nx s2 ZA) (u1:I6 (2*aD):=by omega) (u2:I6 s2:=by omega) (u3:¬ hi<=s2:=by omega) (u4:I6 (s2+1):=by omega) (u5:(s2+1)<hi:=by omega) (u6:I6 s1:=by omega) (u7:Ix s1 ah:=by omega) (u8:I6 (s1+1):=by omega) (u9:Ix (s1+1) ah:=by omega) (u10:¬ nM<0:=by omega) (u11:I6 s3:=by omega) (u12:Ix s3 ah:=by omega) (u13:nY<0:=by omega),zCE (some ax) ah aj hi first aB au aD Z Nx Q0 Qr:=
 let s2:=(2*aD)+1;let s1:=first+s2;let s3:=first+aD;let y0:=rcd nA nH nF;let y1:=rcd nR nS nT;fun h1 h2 h3 h4 h5 h6 h7 nx u1 u2 u3 u4 u5 u6 u7 u8 u9 u10 u11 u12 u13=>kO 0 s2 [.g,.n (2*aD),.n s2,.g,.g,.g,.b false,.g,.n (s2+1),.g,.b true,.g,.g,.g,.g,.g,.n s1,.i,.l (qh y0),.g,.g,.g,.n s1,.n (s1+1),.i,.l (qh (rcd nG nE nI)),.c (iV nM) Z,.b false,.g,.g,.g,.g,.g,.n s3,.i,.l (qh y1),.g,.g,.g,.n s1,.i,.l (qh y0),.c (iV nY) Z,.b true,.g,.g,.g,.g,.n s3,.g,.g,.g,.n s1,.g,.g,.g,.n s1,.i,.l (qh y0),.g,.g,.g,.n s3,.i,.l (qh y1),.i,.e undef ZR,.i,.e undef ZA,.g,.g] (fun _ f=>an4 (w64 u1) (w64 u2) (yH u3) (w64 u4) (an6 (zR u5) (w64 u6) u7 h1 (w64 u6) (w64 u8) (an6 u9 h2 h3 (zS u10) (w64 u11) u12 (an6 h4 (w64 u6) u7 h1 h5 (zR u13) (an6 (w64 u11) (w64 u6) (w64 u6) u7 h1 (w64 u11) (an6 u12 h4 u12 h6 u7 h7 f)))))) nx
theorem xCQ {Qr:St->Prop}:let s2:=2*aD;let s1:=first+(s2+1);let y0:=rcd nA nH nF;∀ (h1:lz Z 45 (zJ ax (Int.toNat s1*3)) (qh y0)) (h2:lz Z 45 (zJ ax (Int.toNat (s1+1)*3)) (qh (rcd nG nE nI))) (h3:qo aB (qh y0::(qh (rcd nG nE nI))::au) Z (iV nM) Z) (h4:lz Z 45 (zJ ax (Int.toNat (first+aD)*3)) (qh (rcd nR nS nT))) (h5:qo aB (qh (rcd nR nS nT)::(qh y0)::au) Z (iV nY) Z) (nx:Qr Z) (u1:I6 s2:=by omega) (u2:I6 (s2+1):=by omega) (u3:¬ hi<=(s2+1):=by omega) (u4:I6 ((s2+1)+1):=by omega) (u5:((s2+1)+1)<hi:=by omega) (u6:I6 s1:=by omega) (u7:Ix s1 ah:=by omega) (u8:I6 (s1+1):=by omega) (u9:Ix (s1+1) ah:=by omega) (u10:¬ nM<0:=by omega) (u11:I6 (first+aD):=by omega) (u12:Ix (first+aD) ah:=by omega) (u13:¬ nY<0:=by omega),zCE (some ax) ah aj hi first aB au aD Z Nx Q0 Qr:=
 let s2:=2*aD;let s1:=first+(s2+1);let y0:=rcd nA nH nF;fun h1 h2 h3 h4 h5 nx u1 u2 u3 u4 u5 u6 u7 u8 u9 u10 u11 u12 u13=>kO 2 () [.g,.n s2,.n (s2+1),.g,.g,.g,.b false,.g,.n ((s2+1)+1),.g,.b true,.g,.g,.g,.g,.g,.n s1,.i,.l (qh y0),.g,.g,.g,.n s1,.n (s1+1),.i,.l (qh (rcd nG nE nI)),.c (iV nM) Z,.b false,.g,.g,.g,.g,.g,.n (first+aD),.i,.l (qh (rcd nR nS nT)),.g,.g,.g,.n s1,.i,.l (qh y0),.c (iV nY) Z,.b false,.g] (fun _ f=>an4 (w64 u1) (w64 u2) (yH u3) (w64 u4) (an6 (zR u5) (w64 u6) u7 h1 (w64 u6) (w64 u8) (an6 u9 h2 h3 (zS u10) (w64 u11) u12 (an6 h4 (w64 u6) u7 h1 h5 (zS u13) f)))) nx
theorem xCP {Qr:St->Prop}:let s1:=(2*aD)+1;let s2:=first+aD;let s3:=first+s1;let y0:=rcd nA nH nF;let y1:=rcd nG nE nI;let y2:=zJ ax (Int.toNat s2*3);let y3:=zJ ax (Int.toNat s3*3);∀ (h1:lz Z 45 y2 (qh y0)) (h2:lz Z 45 y3 (qh y1)) (h3:qo aB (qh y0::(qh y1)::au) Z (iV nM) Z) (h4:qq (evL [pz y2,qh y1]) Z (.store 45 (.tmp 0) (.tmp 1))=some (undef,ZF)) (h5:qq (evL [pz y3,qh y0]) ZF (.store 45 (.tmp 0) (.tmp 1))=some (undef,ZCB)) (nx:Nx s1 ZCB) (u1:I6 (2*aD):=by omega) (u2:I6 s1:=by omega) (u3:¬ hi<=s1:=by omega) (u4:I6 (s1+1):=by omega) (u5:¬ (s1+1)<hi:=by omega) (u6:I6 s2:=by omega) (u7:Ix s2 ah:=by omega) (u8:I6 s3:=by omega) (u9:Ix s3 ah:=by omega) (u10:nM<0:=by omega),zCE (some ax) ah aj hi first aB au aD Z Nx Q0 Qr:=
 let s1:=(2*aD)+1;let s2:=first+aD;let s3:=first+s1;let y0:=rcd nA nH nF;let y1:=rcd nG nE nI;fun h1 h2 h3 h4 h5 nx u1 u2 u3 u4 u5 u6 u7 u8 u9 u10=>kO 0 s1 [.g,.n (2*aD),.n s1,.g,.g,.g,.b false,.g,.n (s1+1),.g,.b false,.g,.g,.g,.g,.g,.g,.n s2,.i,.l (qh y0),.g,.g,.g,.n s3,.i,.l (qh y1),.c (iV nM) Z,.b true,.g,.g,.g,.g,.n s2,.g,.g,.g,.n s3,.g,.g,.g,.n s3,.i,.l (qh y1),.g,.g,.g,.n s2,.i,.l (qh y0),.i,.e undef ZF,.i,.e undef ZCB,.g,.g] (fun _ f=>ai (w64 u1) (an6 (w64 u2) (yH u3) (w64 u4) (zS u5) (w64 u6) u7 (an6 h1 (w64 u8) u9 h2 h3 (zR u10) (an6 (w64 u6) (w64 u8) (w64 u8) u9 h2 (w64 u6) (an6 u7 h1 u7 h4 u9 h5 f))))) nx
theorem xCO {Qr:St->Prop} (h1:lz Z 45 (zJ ax (Int.toNat (first+aD)*3)) (qh (rcd nA nH nF))) (h2:lz Z 45 (zJ ax (Int.toNat (first+((2*aD)+1))*3)) (qh (rcd nG nE nI))) (h3:qo aB (qh (rcd nA nH nF)::(qh (rcd nG nE nI))::au) Z (iV nM) Z) (nx:Qr Z) (u1:I6 (2*aD):=by omega) (u2:I6 ((2*aD)+1):=by omega) (u3:¬ hi<=((2*aD)+1):=by omega) (u4:I6 (((2*aD)+1)+1):=by omega) (u5:¬ (((2*aD)+1)+1)<hi:=by omega) (u6:I6 (first+aD):=by omega) (u7:Ix (first+aD) ah:=by omega) (u8:I6 (first+((2*aD)+1)):=by omega) (u9:Ix (first+((2*aD)+1)) ah:=by omega) (u10:¬ nM<0:=by omega):zCE (some ax) ah aj hi first aB au aD Z Nx Q0 Qr :=
 let s1:=(2*aD)+1;kO 2 () [.g,.n (2*aD),.n s1,.g,.g,.g,.b false,.g,.n (s1+1),.g,.b false,.g,.g,.g,.g,.g,.g,.n (first+aD),.i,.l (qh (rcd nA nH nF)),.g,.g,.g,.n (first+s1),.i,.l (qh (rcd nG nE nI)),.c (iV nM) Z,.b false,.g] (fun _ f=>ai (w64 u1) (an6 (w64 u2) (yH u3) (w64 u4) (zS u5) (w64 u6) u7 (an6 h1 (w64 u8) u9 h2 h3 (zS u10) f))) nx
theorem xJA (hL:yLP data ah aj hi first aB au lo_1 Z P0 Pr) (k0:∀ Z',P0 Z'->zXL data ah aj hi first aB au Z' Q) (kr:∀ Z',Pr Z'->zXK data ah aj hi first aB au Z' Q):qi 121 [.slice data ah aj,iV lo_1,iV hi,iV first,.func (.func aB) ⟨[]⟩ ⟨au⟩] Z Q :=
 zG [.g,.g,.lf 82 (zIV data ah aj hi first aB au lo_1) [zNJ data ah aj hi first aB au P0,zNI data ah aj hi first aB au Pr]] (kd (ai (ai tt (ai (arf (zIV data ah aj hi first aB au lo_1)) hL)) (ai (kz0 k0) (ai (kz0 kr) trivial))))
theorem yLM (nx:Q (.tuple ⟨[]⟩) Z):zXL data ah aj hi first aB au Z Q :=
 sK [] nx
theorem yLL (nx:Q (.tuple ⟨[]⟩) Z):zXK data ah aj hi first aB au Z Q :=
 sK [] nx
theorem yOZ (hb:∀ k aJ Z,Inv k aJ Z->yAC data ah aj aB au a_1 kB aJ Z (NX1 Inv k) Q0):∀ k aJ Z,Inv k aJ Z->yPD data ah aj aB au a_1 kB aJ Z Q0 :=
 xL (ai (xZ 0) trivial) hb
theorem xFW (h1:qo 121 [.slice data ah aj,iV aJ,iV kB,iV a_1,.func (.func aB) ⟨[]⟩ ⟨au⟩] Z (.tuple ⟨[]⟩) ZS) (nx:Nx (aJ-1) ZS) (u1:0<=aJ:=by omega) (u2:I6 (aJ-1):=by omega):yAC data ah aj aB au a_1 kB aJ Z Nx Q0 :=
 kO 0 (aJ-1) [.g,.b true,.g,.g,.g,.g,.g,.c (.tuple ⟨[]⟩) ZS,.g,.n (aJ-1),.g] (fun _ f=>an3 (yE u1) h1 (w64 u2) f) nx
theorem xFV (nx:Q0 Z) (u1:¬ 0<=aJ:=by omega):yAC data ah aj aB au a_1 kB aJ Z Nx Q0 :=
 kO 1 () [.g,.b false] (fun _ f=>ai (yH u1) f) nx
theorem xNK (h1:IntKind.wrap .i64 (Int.tdiv ((b-a_1)-1) 2)=Int.tdiv ((b-a_1)-1) 2) (hL:yPD data ah aj aB au a_1 (b-a_1) (Int.tdiv ((b-a_1)-1) 2) Z P0) (k0:∀ Z',P0 Z'->yAA data ah aj aB au a_1 (b-a_1) Z' Q) (u1:I6 (b-a_1):=by omega) (u2:I6 ((b-a_1)-1):=by omega):qi 107 [.slice data ah aj,iV a_1,iV b,.func (.func aB) ⟨[]⟩ ⟨au⟩] Z Q :=
 let s1:=zQJ data ah aj aB au a_1 (b-a_1) (Int.tdiv ((b-a_1)-1) 2);zG [.g,.g,.g,.g,.g,.n (b-a_1),.g,.g,.n ((b-a_1)-1),.n (Int.tdiv ((b-a_1)-1) 2),.g,.lf 60 s1 [zOD data ah aj aB au a_1 (b-a_1) P0]] (kd (an3 (w64 u1) (w64 u2) h1 (ai (ai tt (ai (arf s1) hL)) (ai (kz0 k0) trivial))))
theorem yOY {Q2:St->Prop} (hb:∀ k ee Z,Inv k ee Z->yAB data ah aj aB au a_1 ee Z (NX1 Inv k) Q2):∀ k ee Z,Inv k ee Z->yPC data ah aj aB au a_1 ee Z Q2 :=
 xL (ai (xZ 2) trivial) hb
theorem xFU {Q2:St->Prop} (h1:lz Z 45 (zJ ax (Int.toNat (a_1+ee)*3)) (qh (rcd nQ nW nX))) (h2:lz Z 45 (zJ ax (Int.toNat a_1*3)) (qh (rcd nV nJ nK))) (h3:qq (evL [pz (zJ ax (Int.toNat a_1*3)),qh (rcd nQ nW nX)]) Z (.store 45 (.tmp 0) (.tmp 1))=some (undef,ZTB)) (h4:qq (evL [pz (zJ ax (Int.toNat (a_1+ee)*3)),qh (rcd nV nJ nK)]) ZTB (.store 45 (.tmp 0) (.tmp 1))=some (undef,ZEB)) (h5:qo 121 [.slice (some ax) ah aj,iV 0,iV ee,iV a_1,.func (.func aB) ⟨[]⟩ ⟨au⟩] ZEB (.tuple ⟨[]⟩) ZFB) (nx:Nx (ee-1) ZFB) (u1:0<=ee:=by omega) (u2:I6 (a_1+ee):=by omega) (u3:Ix (a_1+ee) ah:=by omega) (u4:Ix a_1 ah:=by omega) (u5:I6 (ee-1):=by omega):yAB (some ax) ah aj aB au a_1 ee Z Nx Q2 :=
 kO 0 (ee-1) [.g,.b true,.g,.g,.g,.g,.g,.n (a_1+ee),.g,.g,.g,.n (a_1+ee),.i,.l (qh (rcd nQ nW nX)),.g,.g,.i,.l (qh (rcd nV nJ nK)),.i,.e undef ZTB,.i,.e undef ZEB,.g,.g,.g,.g,.g,.c (.tuple ⟨[]⟩) ZFB,.g,.n (ee-1),.g] (fun _ f=>ai (yE u1) (an6 (w64 u2) (w64 u2) u3 h1 u4 h2 (an6 u4 h3 u3 h4 h5 (w64 u5) f))) nx
theorem xFT {Q2:St->Prop} (nx:Q2 Z) (u1:¬ 0<=ee:=by omega):yAB data ah aj aB au a_1 ee Z Nx Q2 :=
 kO 1 () [.g,.b false] (fun _ f=>ai (yH u1) f) nx
theorem yOX {P2:St->Prop} (hL:yPC data ah aj aB au a_1 (kB-1) Z P2) (k2:∀ Z',P2 Z'->zZZ data ah aj aB au a_1 Z' Q) (u1:I6 (kB-1):=by omega):yAA data ah aj aB au a_1 kB Z Q :=
 let s1:=zQI data ah aj aB au a_1 (kB-1);sK [.g,.n (kB-1),.g,.lf 60 s1 [zOC data ah aj aB au a_1 P2]] (ai (w64 u1) (ai (ai tt (ai (arf s1) hL)) (ai (kz0 k2) trivial)))
theorem yOW (nx:Q (.tuple ⟨[]⟩) Z):zZZ data ah aj aB au a_1 Z Q :=
 sK [] nx
theorem yIN {Inv:Nat->Int->Int->St->Prop} {Q0:Int->St->Prop} (hb:∀ k aJ a7 Z,Inv k aJ a7 Z->yER ax ah aj a_1 aB au aJ a7 Z (NX2 Inv k) Q0):∀ k aJ a7 Z,Inv k aJ a7 Z->yEQ ax ah aj a_1 aB au aJ a7 Z Q0 :=
 zDU (ai (xZ 0) trivial) hb
theorem yIM (hb:∀ k bi Z,Inv k bi Z->zLL ax ah aj a_1 aB au a7 bi Z (NX1 Inv k) Q2):∀ k bi Z,Inv k bi Z->yEP ax ah aj a_1 aB au a7 bi Z Q2 :=
 xL (ai (xZ 2) trivial) hb
theorem yVF (h1:lz Z 45 (zJ ax (Int.toNat a_1*3)) (qh (rcd nQ nW nX))) (h2:lz Z 45 (zJ ax (Int.toNat bi*3)) (qh (rcd nV nJ nK))) (h3:qo aB (qh (rcd nQ nW nX)::(qh (rcd nV nJ nK))::au) Z (iV nL) Z) (nx:Q2 bi Z) (u1:bi<=a7:=by omega) (u2:Ix a_1 ah:=by omega) (u3:Ix bi ah:=by omega) (u4:nL<0:=by omega):zLL ax ah aj a_1 aB au a7 bi Z Nx Q2 :=
 kO 1 bi [.g,.g,.b true,.g,.g,.g,.g,.i,.l (qh (rcd nQ nW nX)),.g,.g,.i,.l (qh (rcd nV nJ nK)),.c (iV nL) Z,.b true,.g,.g] (fun _ f=>ai (yE u1) (an6 u2 h1 u3 h2 h3 (zR u4) f)) nx
theorem yVE (h1:lz Z 45 (zJ ax (Int.toNat a_1*3)) (qh (rcd nQ nW nX))) (h2:lz Z 45 (zJ ax (Int.toNat bi*3)) (qh (rcd nV nJ nK))) (h3:qo aB (qh (rcd nQ nW nX)::(qh (rcd nV nJ nK))::au) Z (iV nL) Z) (nx:Nx (bi+1) Z) (u1:bi<=a7:=by omega) (u2:Ix a_1 ah:=by omega) (u3:Ix bi ah:=by omega) (u4:¬ nL<0:=by omega) (u5:I6 (bi+1):=by omega):zLL ax ah aj a_1 aB au a7 bi Z Nx Q2 :=
 kO 0 (bi+1) [.g,.g,.b true,.g,.g,.g,.g,.i,.l (qh (rcd nQ nW nX)),.g,.g,.i,.l (qh (rcd nV nJ nK)),.c (iV nL) Z,.b false,.g,.g,.g,.n (bi+1),.g] (fun _ f=>an2 (yE u1) u2 (an6 h1 u3 h2 h3 (zS u4) (w64 u5) f)) nx
theorem yVD (nx:Q2 bi Z) (u1:¬ bi<=a7:=by omega):zLL ax ah aj a_1 aB au a7 bi Z Nx Q2 :=
 kO 1 bi [.g,.g,.b false,.g,.g] (fun _ f=>ai (yH u1) f) nx
theorem yVG {Nx:Int->Int->St->Prop} {Q0:Int->St->Prop} (hL:yEP ax ah aj a_1 aB au a7 aJ Z P2) (k2:∀ i11_2' Z',P2 i11_2' Z'->zUN ax ah aj a_1 aB au a7 i11_2' Z' Nx Q0):yER ax ah aj a_1 aB au aJ a7 Z Nx Q0 :=
 zDC [.lf 90 (zFP ax ah aj a_1 aB au a7 aJ) [zJQ ax ah aj a_1 aB au a7 P2]] (fun g=>kd (ai (ai tt (ai (arf (zFP ax ah aj a_1 aB au a7 aJ)) hL)) (ai (kz1 k2) trivial)))
theorem yIL (hb:∀ k bO Z,Inv k bO Z->zLK ax ah aj a_1 aB au bi bO Z (NX1 Inv k) Q4):∀ k bO Z,Inv k bO Z->yEO ax ah aj a_1 aB au bi bO Z Q4 :=
 xL (ai (xZ 4) trivial) hb
theorem yVC (h1:lz Z 45 (zJ ax (Int.toNat a_1*3)) (qh (rcd nU nNB nHB))) (h2:lz Z 45 (zJ ax (Int.toNat bO*3)) (qh (rcd nOB nPB nIB))) (h3:qo aB (qh (rcd nU nNB nHB)::(qh (rcd nOB nPB nIB))::au) Z (iV nLB) Z) (nx:Nx (bO-1) Z) (u1:bi<=bO:=by omega) (u2:Ix a_1 ah:=by omega) (u3:Ix bO ah:=by omega) (u4:nLB<0:=by omega) (u5:I6 (bO-1):=by omega):zLK ax ah aj a_1 aB au bi bO Z Nx Q4 :=
 kO 0 (bO-1) [.g,.g,.b true,.g,.g,.g,.g,.i,.l (qh (rcd nU nNB nHB)),.g,.g,.i,.l (qh (rcd nOB nPB nIB)),.c (iV nLB) Z,.b true,.g,.g,.n (bO-1),.g] (fun _ f=>an2 (yE u1) u2 (an6 h1 u3 h2 h3 (zR u4) (w64 u5) f)) nx
theorem yVB (h1:lz Z 45 (zJ ax (Int.toNat a_1*3)) (qh (rcd nU nNB nHB))) (h2:lz Z 45 (zJ ax (Int.toNat bO*3)) (qh (rcd nOB nPB nIB))) (h3:qo aB (qh (rcd nU nNB nHB)::(qh (rcd nOB nPB nIB))::au) Z (iV nLB) Z) (nx:Q4 bO Z) (u1:bi<=bO:=by omega) (u2:Ix a_1 ah:=by omega) (u3:Ix bO ah:=by omega) (u4:¬ nLB<0:=by omega):zLK ax ah aj a_1 aB au bi bO Z Nx Q4 :=
 kO 1 bO [.g,.g,.b true,.g,.g,.g,.g,.i,.l (qh (rcd nU nNB nHB)),.g,.g,.i,.l (qh (rcd nOB nPB nIB)),.c (iV nLB) Z,.b false,.g] (fun _ f=>ai (yE u1) (an6 u2 h1 u3 h2 h3 (zS u4) f)) nx
theorem yVA (nx:Q4 bO Z) (u1:¬ bi<=bO:=by omega):zLK ax ah aj a_1 aB au bi bO Z Nx Q4 :=
 kO 1 bO [.g,.g,.b false,.g,.g] (fun _ f=>ai (yH u1) f) nx
theorem yIJ {Nx:Int->Int->St->Prop} {Q0:Int->St->Prop} (hL:yEO ax ah aj a_1 aB au bi a7 Z P4) (k4:∀ i12_3' Z',P4 i12_3' Z'->zJR ax ah aj a_1 aB au bi i12_3' Z' Nx Q0):zUN ax ah aj a_1 aB au a7 bi Z Nx Q0 :=
 sK [.lf 90 (zFO ax ah aj a_1 aB au bi a7) [zJP ax ah aj a_1 aB au bi P4]] (ai (ai tt (ai (arf (zFO ax ah aj a_1 aB au bi a7)) hL)) (ai (kz1 k4) trivial))
theorem yII {Nx:Int->Int->St->Prop} {Q0:Int->St->Prop} (nx:Q0 bi Z) (u1:bO<bi:=by omega):zJR ax ah aj a_1 aB au bi bO Z Nx Q0 :=
 sF 1 bi [.g,.g,.b true] (fun _ f=>ai (zR u1) f) nx
theorem yIH {Nx:Int->Int->St->Prop} {Q0:Int->St->Prop} (h1:lz Z 45 (zJ ax (Int.toNat bO*3)) (qh (rcd nFB nGB nZ))) (h2:lz Z 45 (zJ ax (Int.toNat bi*3)) (qh (rcd nAB nBB nCB))) (h3:qq (evL [pz (zJ ax (Int.toNat bi*3)),qh (rcd nFB nGB nZ)]) Z (.store 45 (.tmp 0) (.tmp 1))=some (undef,ZUB)) (h4:qq (evL [pz (zJ ax (Int.toNat bO*3)),qh (rcd nAB nBB nCB)]) ZUB (.store 45 (.tmp 0) (.tmp 1))=some (undef,ZVB)) (nx:Nx (bi+1) (bO-1) ZVB) (u1:¬ bO<bi:=by omega) (u2:Ix bO ah:=by omega) (u3:Ix bi ah:=by omega) (u4:I6 (bi+1):=by omega) (u5:I6 (bO-1):=by omega):zJR ax ah aj a_1 aB au bi bO Z Nx Q0 :=
 sF 0 (bi+1,bO-1) [.g,.g,.b false,.g,.g,.g,.g,.g,.g,.i,.l (qh (rcd nFB nGB nZ)),.g,.g,.i,.l (qh (rcd nAB nBB nCB)),.i,.e undef ZUB,.i,.e undef ZVB,.g,.n (bi+1),.g,.g,.n (bO-1),.g] (fun _ f=>an5 (zS u1) u2 h1 u3 h2 (an6 u3 h3 u2 h4 (w64 u4) (w64 u5) f)) nx
theorem xFH {P0:Int->St->Prop} (h1:lz Z 45 (zJ ax (Int.toNat dH*3)) (qh (rcd n1 n2 n3))) (h2:lz Z 45 (zJ ax (Int.toNat a_1*3)) (qh (rcd n4 n5 n6))) (h3:qq (evL [pz (zJ ax (Int.toNat a_1*3)),qh (rcd n1 n2 n3)]) Z (.store 45 (.tmp 0) (.tmp 1))=some (undef,Z7)) (h4:qq (evL [pz (zJ ax (Int.toNat dH*3)),qh (rcd n4 n5 n6)]) Z7 (.store 45 (.tmp 0) (.tmp 1))=some (undef,Z8)) (hL:yEQ ax ah aj a_1 aB au (a_1+1) (b-1) Z8 P0) (k0:∀ i11_1' Z',P0 i11_1' Z'->zUO ax ah aj a_1 aB au i11_1' Z' Q) (u1:Ix dH ah:=by omega) (u2:Ix a_1 ah:=by omega) (u3:I6 (a_1+1):=by omega) (u4:I6 (b-1):=by omega):qi 112 [.slice (some ax) ah aj,iV a_1,iV b,iV dH,.func (.func aB) ⟨[]⟩ ⟨au⟩] Z Q :=
 let s1:=zLI ax ah aj a_1 aB au (a_1+1) (b-1);zG [.g,.g,.g,.g,.g,.g,.g,.i,.l (qh (rcd n1 n2 n3)),.g,.g,.i,.l (qh (rcd n4 n5 n6)),.i,.e undef Z7,.i,.e undef Z8,.g,.n (a_1+1),.g,.n (b-1),.g,.g,.lf 90 s1 [zCH ax ah aj a_1 aB au P0]] (kd (an4 u1 h1 u2 h2 (an6 u2 h3 u1 h4 (w64 u3) (w64 u4) (ai (ai tt (ai (arf s1) hL)) (ai (kz1 k0) trivial)))))
theorem yIK (nx:Q (iV aJ) Z):zUO ax ah aj a_1 aB au aJ Z Q :=
 sK [.g,.g] nx
theorem yUY {Q0:Int->St->Prop} (hb:∀ k a7 Z,Inv k a7 Z->zWH ax ah aj a_1 aB au kB a7 Z (NX1 Inv k) Q0):∀ k a7 Z,Inv k a7 Z->xAN ax ah aj a_1 aB au kB a7 Z Q0 :=
 xL (ai (xZ 0) trivial) hb
theorem xKY {Q0:Int->St->Prop} (h1:lz Z 45 (zJ ax (Int.toNat a7*3)) (qh (rcd nA nH nF))) (h2:lz Z 45 (zJ ax (Int.toNat a_1*3)) (qh (rcd nG nE nI))) (h3:qo aB (qh (rcd nA nH nF)::(qh (rcd nG nE nI))::au) Z (iV nM) Z) (nx:Nx (a7+1) Z) (u1:a7<=kB:=by omega) (u2:Ix a7 ah:=by omega) (u3:Ix a_1 ah:=by omega) (u4:nM<0:=by omega) (u5:I6 (a7+1):=by omega):zWH ax ah aj a_1 aB au kB a7 Z Nx Q0 :=
 kO 0 (a7+1) [.g,.g,.b true,.g,.g,.g,.g,.i,.l (qh (rcd nA nH nF)),.g,.g,.i,.l (qh (rcd nG nE nI)),.c (iV nM) Z,.b true,.g,.g,.n (a7+1),.g] (fun _ f=>an2 (yE u1) u2 (an6 h1 u3 h2 h3 (zR u4) (w64 u5) f)) nx
theorem xKX {Q0:Int->St->Prop} (h1:lz Z 45 (zJ ax (Int.toNat a7*3)) (qh (rcd nA nH nF))) (h2:lz Z 45 (zJ ax (Int.toNat a_1*3)) (qh (rcd nG nE nI))) (h3:qo aB (qh (rcd nA nH nF)::(qh (rcd nG nE nI))::au) Z (iV nM) Z) (nx:Q0 a7 Z) (u1:a7<=kB:=by omega) (u2:Ix a7 ah:=by omega) (u3:Ix a_1 ah:=by omega) (u4:¬ nM<0:=by omega):zWH ax ah aj a_1 aB au kB a7 Z Nx Q0 :=
 kO 1 a7 [.g,.g,.b true,.g,.g,.g,.g,.i,.l (qh (rcd nA nH nF)),.g,.g,.i,.l (qh (rcd nG nE nI)),.c (iV nM) Z,.b false,.g] (fun _ f=>ai (yE u1) (an6 u2 h1 u3 h2 h3 (zS u4) f)) nx
theorem xKW {Q0:Int->St->Prop} (nx:Q0 a7 Z) (u1:¬ a7<=kB:=by omega):zWH ax ah aj a_1 aB au kB a7 Z Nx Q0 :=
 kO 1 a7 [.g,.g,.b false,.g,.g] (fun _ f=>ai (yH u1) f) nx
theorem xSP {P0:Int->St->Prop} (h1:lz Z 45 (zJ ax (Int.toNat dH*3)) (qh (rcd n1 n2 n3))) (h2:lz Z 45 (zJ ax (Int.toNat a_1*3)) (qh (rcd n4 n5 n6))) (h3:qq (evL [pz (zJ ax (Int.toNat a_1*3)),qh (rcd n1 n2 n3)]) Z (.store 45 (.tmp 0) (.tmp 1))=some (undef,Z7)) (h4:qq (evL [pz (zJ ax (Int.toNat dH*3)),qh (rcd n4 n5 n6)]) Z7 (.store 45 (.tmp 0) (.tmp 1))=some (undef,Z8)) (hL:xAN ax ah aj a_1 aB au (b-1) (a_1+1) Z8 P0) (k0:∀ i12_1' Z',P0 i12_1' Z'->yEL ax ah aj a_1 aB au (b-1) i12_1' Z' Q) (u1:Ix dH ah:=by omega) (u2:Ix a_1 ah:=by omega) (u3:I6 (a_1+1):=by omega) (u4:I6 (b-1):=by omega):qi 113 [.slice (some ax) ah aj,iV a_1,iV b,iV dH,.func (.func aB) ⟨[]⟩ ⟨au⟩] Z Q :=
 let s1:=zWC ax ah aj a_1 aB au (b-1) (a_1+1);zG [.g,.g,.g,.g,.g,.g,.g,.g,.i,.l (qh (rcd n1 n2 n3)),.g,.g,.i,.l (qh (rcd n4 n5 n6)),.i,.e undef Z7,.i,.e undef Z8,.g,.n (a_1+1),.g,.n (b-1),.g,.g,.lf 178 s1 [zRZ ax ah aj a_1 aB au (b-1) P0]] (kd (an4 u1 h1 u2 h2 (an6 u2 h3 u1 h4 (w64 u3) (w64 u4) (ai (ai tt (ai (arf s1) hL)) (ai (kz1 k0) trivial)))))
theorem yUX (hb:∀ k bW Z,Inv k bW Z->zWG ax ah aj a_1 aB au a7 bW Z (NX1 Inv k) Q2):∀ k bW Z,Inv k bW Z->xAM ax ah aj a_1 aB au a7 bW Z Q2 :=
 xL (ai (xZ 2) trivial) hb
theorem xKV (h1:lz Z 45 (zJ ax (Int.toNat bW*3)) (qh (rcd nQ nW nX))) (h2:lz Z 45 (zJ ax (Int.toNat a_1*3)) (qh (rcd nV nJ nK))) (h3:qo aB (qh (rcd nQ nW nX)::(qh (rcd nV nJ nK))::au) Z (iV nL) Z) (nx:Q2 bW Z) (u1:a7<=bW:=by omega) (u2:Ix bW ah:=by omega) (u3:Ix a_1 ah:=by omega) (u4:nL<0:=by omega):zWG ax ah aj a_1 aB au a7 bW Z Nx Q2 :=
 kO 1 bW [.g,.g,.b true,.g,.g,.g,.g,.i,.l (qh (rcd nQ nW nX)),.g,.g,.i,.l (qh (rcd nV nJ nK)),.c (iV nL) Z,.b true,.g,.g] (fun _ f=>ai (yE u1) (an6 u2 h1 u3 h2 h3 (zR u4) f)) nx
theorem xKU (h1:lz Z 45 (zJ ax (Int.toNat bW*3)) (qh (rcd nQ nW nX))) (h2:lz Z 45 (zJ ax (Int.toNat a_1*3)) (qh (rcd nV nJ nK))) (h3:qo aB (qh (rcd nQ nW nX)::(qh (rcd nV nJ nK))::au) Z (iV nL) Z) (nx:Nx (bW-1) Z) (u1:a7<=bW:=by omega) (u2:Ix bW ah:=by omega) (u3:Ix a_1 ah:=by omega) (u4:¬ nL<0:=by omega) (u5:I6 (bW-1):=by omega):zWG ax ah aj a_1 aB au a7 bW Z Nx Q2 :=
 kO 0 (bW-1) [.g,.g,.b true,.g,.g,.g,.g,.i,.l (qh (rcd nQ nW nX)),.g,.g,.i,.l (qh (rcd nV nJ nK)),.c (iV nL) Z,.b false,.g,.g,.g,.n (bW-1),.g] (fun _ f=>an2 (yE u1) u2 (an6 h1 u3 h2 h3 (zS u4) (w64 u5) f)) nx
theorem xKT (nx:Q2 bW Z) (u1:¬ a7<=bW:=by omega):zWG ax ah aj a_1 aB au a7 bW Z Nx Q2 :=
 kO 1 bW [.g,.g,.b false,.g,.g] (fun _ f=>ai (yH u1) f) nx
theorem yUT (hL:xAM ax ah aj a_1 aB au a7 kB Z P2) (k2:∀ i13_2' Z',P2 i13_2' Z'->zSB ax ah aj a_1 aB au a7 i13_2' Z' Q):yEL ax ah aj a_1 aB au kB a7 Z Q :=
 sK [.lf 178 (zPN ax ah aj a_1 aB au a7 kB) [zRY ax ah aj a_1 aB au a7 P2]] (ai (ai tt (ai (arf (zPN ax ah aj a_1 aB au a7 kB)) hL)) (ai (kz1 k2) trivial))
theorem yUS (h1:lz Z 45 (zJ ax (Int.toNat a_1*3)) (qh (rcd nZB nBF nBG))) (h2:lz Z 45 (zJ ax (Int.toNat bW*3)) (qh (rcd nAC nBC nCC))) (h3:qq (evL [pz (zJ ax (Int.toNat bW*3)),qh (rcd nZB nBF nBG)]) Z (.store 45 (.tmp 0) (.tmp 1))=some (undef,ZP)) (h4:qq (evL [pz (zJ ax (Int.toNat a_1*3)),qh (rcd nAC nBC nCC)]) ZP (.store 45 (.tmp 0) (.tmp 1))=some (undef,ZGB)) (nx:Q (.tuple ⟨[iV bW,.bool true]⟩) ZGB) (u1:bW<a7:=by omega) (u2:Ix a_1 ah:=by omega) (u3:Ix bW ah:=by omega):zSB ax ah aj a_1 aB au a7 bW Z Q :=
 sK [.g,.g,.b true,.g,.g,.g,.g,.g,.g,.i,.l (qh (rcd nZB nBF nBG)),.g,.g,.i,.l (qh (rcd nAC nBC nCC)),.i,.e undef ZP,.i,.e undef ZGB,.g,.g,.g] (an3 (zR u1) u2 h1 (an6 u3 h2 u3 h3 u2 h4 nx))
theorem yUW {Inv:Nat->Int->Int->St->Prop} (hb:∀ k bO aH Z,Inv k bO aH Z->xAO ax ah aj a_1 aB au bO aH Z (NX2 Inv k) Q4):∀ k bO aH Z,Inv k bO aH Z->xAL ax ah aj a_1 aB au bO aH Z Q4 :=
 zDU (ai (xZ 4) trivial) hb
theorem yUV (hb:∀ k bf Z,Inv k bf Z->zWF ax ah aj a_1 aB au aH bf Z (NX1 Inv k) Q6):∀ k bf Z,Inv k bf Z->xAK ax ah aj a_1 aB au aH bf Z Q6 :=
 xL (ai (xZ 6) trivial) hb
theorem xKR (h1:lz Z 45 (zJ ax (Int.toNat bf*3)) (qh (rcd nEB nJB nQB))) (h2:lz Z 45 (zJ ax (Int.toNat a_1*3)) (qh (rcd nRB nSB nTB))) (h3:qo aB (qh (rcd nEB nJB nQB)::(qh (rcd nRB nSB nTB))::au) Z (iV nXB) Z) (nx:Nx (bf+1) Z) (u1:bf<=aH:=by omega) (u2:Ix bf ah:=by omega) (u3:Ix a_1 ah:=by omega) (u4:nXB<0:=by omega) (u5:I6 (bf+1):=by omega):zWF ax ah aj a_1 aB au aH bf Z Nx Q6 :=
 kO 0 (bf+1) [.g,.g,.b true,.g,.g,.g,.g,.i,.l (qh (rcd nEB nJB nQB)),.g,.g,.i,.l (qh (rcd nRB nSB nTB)),.c (iV nXB) Z,.b true,.g,.g,.n (bf+1),.g] (fun _ f=>an2 (yE u1) u2 (an6 h1 u3 h2 h3 (zR u4) (w64 u5) f)) nx
theorem xKQ (h1:lz Z 45 (zJ ax (Int.toNat bf*3)) (qh (rcd nEB nJB nQB))) (h2:lz Z 45 (zJ ax (Int.toNat a_1*3)) (qh (rcd nRB nSB nTB))) (h3:qo aB (qh (rcd nEB nJB nQB)::(qh (rcd nRB nSB nTB))::au) Z (iV nXB) Z) (nx:Q6 bf Z) (u1:bf<=aH:=by omega) (u2:Ix bf ah:=by omega) (u3:Ix a_1 ah:=by omega) (u4:¬ nXB<0:=by omega):zWF ax ah aj a_1 aB au aH bf Z Nx Q6 :=
 kO 1 bf [.g,.g,.b true,.g,.g,.g,.g,.i,.l (qh (rcd nEB nJB nQB)),.g,.g,.i,.l (qh (rcd nRB nSB nTB)),.c (iV nXB) Z,.b false,.g] (fun _ f=>ai (yE u1) (an6 u2 h1 u3 h2 h3 (zS u4) f)) nx
theorem xKP (nx:Q6 bf Z) (u1:¬ bf<=aH:=by omega):zWF ax ah aj a_1 aB au aH bf Z Nx Q6 :=
 kO 1 bf [.g,.g,.b false,.g,.g] (fun _ f=>ai (yH u1) f) nx
theorem xKS {Nx:Int->Int->St->Prop} {P6:Int->St->Prop} (hL:xAK ax ah aj a_1 aB au aH bO Z P6) (k6:∀ i12_4' Z',P6 i12_4' Z'->yEJ ax ah aj a_1 aB au aH i12_4' Z' Nx Q4):xAO ax ah aj a_1 aB au bO aH Z Nx Q4 :=
 zDC [.lf 178 (zPM ax ah aj a_1 aB au aH bO) [zRX ax ah aj a_1 aB au aH P6]] (fun g=>kd (ai (ai tt (ai (arf (zPM ax ah aj a_1 aB au aH bO)) hL)) (ai (kz1 k6) trivial)))
theorem yUU (hb:∀ k bY Z,Inv k bY Z->zWE ax ah aj a_1 aB au bf bY Z (NX1 Inv k) Q8):∀ k bY Z,Inv k bY Z->xAJ ax ah aj a_1 aB au bf bY Z Q8 :=
 xL (ai (xZ 8) trivial) hb
theorem xKO (h1:lz Z 45 (zJ ax (Int.toNat bY*3)) (qh (rcd nBH nBI nBJ))) (h2:lz Z 45 (zJ ax (Int.toNat a_1*3)) (qh (rcd nBK nBL nBM))) (h3:qo aB (qh (rcd nBH nBI nBJ)::(qh (rcd nBK nBL nBM))::au) Z (iV nBN) Z) (nx:Q8 bY Z) (u1:bf<=bY:=by omega) (u2:Ix bY ah:=by omega) (u3:Ix a_1 ah:=by omega) (u4:nBN<0:=by omega):zWE ax ah aj a_1 aB au bf bY Z Nx Q8 :=
 kO 1 bY [.g,.g,.b true,.g,.g,.g,.g,.i,.l (qh (rcd nBH nBI nBJ)),.g,.g,.i,.l (qh (rcd nBK nBL nBM)),.c (iV nBN) Z,.b true,.g,.g] (fun _ f=>ai (yE u1) (an6 u2 h1 u3 h2 h3 (zR u4) f)) nx
theorem xKN (h1:lz Z 45 (zJ ax (Int.toNat bY*3)) (qh (rcd nBH nBI nBJ))) (h2:lz Z 45 (zJ ax (Int.toNat a_1*3)) (qh (rcd nBK nBL nBM))) (h3:qo aB (qh (rcd nBH nBI nBJ)::(qh (rcd nBK nBL nBM))::au) Z (iV nBN) Z) (nx:Nx (bY-1) Z) (u1:bf<=bY:=by omega) (u2:Ix bY ah:=by omega) (u3:Ix a_1 ah:=by omega) (u4:¬ nBN<0:=by omega) (u5:I6 (bY-1):=by omega):zWE ax ah aj a_1 aB au bf bY Z Nx Q8 :=
 kO 0 (bY-1) [.g,.g,.b true,.g,.g,.g,.g,.i,.l (qh (rcd nBH nBI nBJ)),.g,.g,.i,.l (qh (rcd nBK nBL nBM)),.c (iV nBN) Z,.b false,.g,.g,.g,.n (bY-1),.g] (fun _ f=>an2 (yE u1) u2 (an6 h1 u3 h2 h3 (zS u4) (w64 u5) f)) nx
theorem xKM (nx:Q8 bY Z) (u1:¬ bf<=bY:=by omega):zWE ax ah aj a_1 aB au bf bY Z Nx Q8 :=
 kO 1 bY [.g,.g,.b false,.g,.g] (fun _ f=>ai (yH u1) f) nx
theorem yUP {Nx:Int->Int->St->Prop} (hL:xAJ ax ah aj a_1 aB au bf aH Z P8) (k8:∀ i13_5' Z',P8 i13_5' Z'->zSA ax ah aj a_1 aB au bf i13_5' Z' Nx Q4):yEJ ax ah aj a_1 aB au aH bf Z Nx Q4 :=
 sK [.lf 178 (zPL ax ah aj a_1 aB au bf aH) [zRW ax ah aj a_1 aB au bf P8]] (ai (ai tt (ai (arf (zPL ax ah aj a_1 aB au bf aH)) hL)) (ai (kz1 k8) trivial))
theorem yUO {Nx:Int->Int->St->Prop} (nx:Q4 bY Z) (u1:bY<bf:=by omega):zSA ax ah aj a_1 aB au bf bY Z Nx Q4 :=
 sF 1 bY [.g,.g,.b true] (fun _ f=>ai (zR u1) f) nx
theorem yUN {Nx:Int->Int->St->Prop} (h1:lz Z 45 (zJ ax (Int.toNat bY*3)) (qh (rcd nBj nBk nBl))) (h2:lz Z 45 (zJ ax (Int.toNat bf*3)) (qh (rcd nBm nBn nBo))) (h3:qq (evL [pz (zJ ax (Int.toNat bf*3)),qh (rcd nBj nBk nBl)]) Z (.store 45 (.tmp 0) (.tmp 1))=some (undef,ZWB)) (h4:qq (evL [pz (zJ ax (Int.toNat bY*3)),qh (rcd nBm nBn nBo)]) ZWB (.store 45 (.tmp 0) (.tmp 1))=some (undef,ZXB)) (nx:Nx (bf+1) (bY-1) ZXB) (u1:¬ bY<bf:=by omega) (u2:Ix bY ah:=by omega) (u3:Ix bf ah:=by omega) (u4:I6 (bf+1):=by omega) (u5:I6 (bY-1):=by omega):zSA ax ah aj a_1 aB au bf bY Z Nx Q4 :=
 sF 0 (bf+1,bY-1) [.g,.g,.b false,.g,.g,.g,.g,.g,.g,.i,.l (qh (rcd nBj nBk nBl)),.g,.g,.i,.l (qh (rcd nBm nBn nBo)),.i,.e undef ZWB,.i,.e undef ZXB,.g,.n (bf+1),.g,.g,.n (bY-1),.g] (fun _ f=>an5 (zS u1) u2 h1 u3 h2 (an6 u3 h3 u2 h4 (w64 u4) (w64 u5) f)) nx
theorem yUR (h1:lz Z 45 (zJ ax (Int.toNat bW*3)) (qh (rcd nZB nBF nBG))) (h2:lz Z 45 (zJ ax (Int.toNat a7*3)) (qh (rcd nAC nBC nCC))) (h3:qq (evL [pz (zJ ax (Int.toNat a7*3)),qh (rcd nZB nBF nBG)]) Z (.store 45 (.tmp 0) (.tmp 1))=some (undef,ZP)) (h4:qq (evL [pz (zJ ax (Int.toNat bW*3)),qh (rcd nAC nBC nCC)]) ZP (.store 45 (.tmp 0) (.tmp 1))=some (undef,ZGB)) (hL:xAL ax ah aj a_1 aB au (a7+1) (bW-1) ZGB P4) (k4:∀ i13_3' Z',P4 i13_3' Z'->yEK ax ah aj a_1 aB au i13_3' Z' Q) (u1:¬ bW<a7:=by omega) (u2:Ix bW ah:=by omega) (u3:Ix a7 ah:=by omega) (u4:I6 (a7+1):=by omega) (u5:I6 (bW-1):=by omega):zSB ax ah aj a_1 aB au a7 bW Z Q :=
 let s1:=zWB ax ah aj a_1 aB au (a7+1) (bW-1);sK [.g,.g,.b false,.g,.g,.g,.g,.g,.g,.i,.l (qh (rcd nZB nBF nBG)),.g,.g,.i,.l (qh (rcd nAC nBC nCC)),.i,.e undef ZP,.i,.e undef ZGB,.g,.n (a7+1),.g,.g,.n (bW-1),.g,.lf 178 s1 [zFN ax ah aj a_1 aB au P4]] (an5 (zS u1) u2 h1 u3 h2 (an6 u3 h3 u2 h4 (w64 u4) (w64 u5) (ai (ai tt (ai (arf s1) hL)) (ai (kz1 k4) trivial))))
theorem yUQ (h1:lz Z 45 (zJ ax (Int.toNat a_1*3)) (qh (rcd nBp nBq nBr))) (h2:lz Z 45 (zJ ax (Int.toNat aH*3)) (qh (rcd nBs nBt nBu))) (h3:qq (evL [pz (zJ ax (Int.toNat aH*3)),qh (rcd nBp nBq nBr)]) Z (.store 45 (.tmp 0) (.tmp 1))=some (undef,ZYB)) (h4:qq (evL [pz (zJ ax (Int.toNat a_1*3)),qh (rcd nBs nBt nBu)]) ZYB (.store 45 (.tmp 0) (.tmp 1))=some (undef,ZZB)) (nx:Q (.tuple ⟨[iV aH,.bool false]⟩) ZZB) (u1:Ix a_1 ah:=by omega) (u2:Ix aH ah:=by omega):yEK ax ah aj a_1 aB au aH Z Q :=
 sK [.g,.g,.g,.g,.g,.g,.i,.l (qh (rcd nBp nBq nBr)),.g,.g,.i,.l (qh (rcd nBs nBt nBu)),.i,.e undef ZYB,.i,.e undef ZZB,.g,.g,.g] (an2 u1 h1 (an6 u2 h2 u2 h3 u1 h4 nx))
theorem yNI {Inv:Nat->Int->Int->St->Prop} (hb:∀ k bX aD Z,Inv k bX aD Z->zZA data ah aj a_1 b aB au bX aD Z (NX2 Inv k) Q0 Qr):∀ k bX aD Z,Inv k bX aD Z->yNN data ah aj a_1 b aB au bX aD Z Q0 Qr :=
 zDU (ai (xZ 0) (ai zBE trivial)) hb
theorem yNH (hb:∀ k aS Z,Inv k aS Z->zPS data ah aj a_1 b aB au aD aS Z (NX1 Inv k) Q2):∀ k aS Z,Inv k aS Z->yNM data ah aj a_1 b aB au aD aS Z Q2 :=
 xL (ai (xZ 2) trivial) hb
theorem xFB (h1:lz Z 45 (zJ ax (Int.toNat aS*3)) (qh (rcd nQ nW nX))) (h2:lz Z 45 (zJ ax (Int.toNat (aS-1)*3)) (qh (rcd nV nJ nK))) (h3:qo aB (qh (rcd nQ nW nX)::(qh (rcd nV nJ nK))::au) Z (iV nL) Z) (nx:Q2 aS Z) (u1:aS<b:=by omega) (u2:Ix aS ah:=by omega) (u3:I6 (aS-1):=by omega) (u4:Ix (aS-1) ah:=by omega) (u5:nL<0:=by omega):zPS (some ax) ah aj a_1 b aB au aD aS Z Nx Q2 :=
 kO 1 aS [.g,.g,.b true,.g,.g,.g,.g,.i,.l (qh (rcd nQ nW nX)),.g,.g,.n (aS-1),.i,.l (qh (rcd nV nJ nK)),.c (iV nL) Z,.b true,.g,.g] (fun _ f=>an2 (zR u1) u2 (an6 h1 (w64 u3) u4 h2 h3 (zR u5) f)) nx
theorem xFA (h1:lz Z 45 (zJ ax (Int.toNat aS*3)) (qh (rcd nQ nW nX))) (h2:lz Z 45 (zJ ax (Int.toNat (aS-1)*3)) (qh (rcd nV nJ nK))) (h3:qo aB (qh (rcd nQ nW nX)::(qh (rcd nV nJ nK))::au) Z (iV nL) Z) (nx:Nx (aS+1) Z) (u1:aS<b:=by omega) (u2:Ix aS ah:=by omega) (u3:I6 (aS-1):=by omega) (u4:Ix (aS-1) ah:=by omega) (u5:¬ nL<0:=by omega) (u6:I6 (aS+1):=by omega):zPS (some ax) ah aj a_1 b aB au aD aS Z Nx Q2 :=
 kO 0 (aS+1) [.g,.g,.b true,.g,.g,.g,.g,.i,.l (qh (rcd nQ nW nX)),.g,.g,.n (aS-1),.i,.l (qh (rcd nV nJ nK)),.c (iV nL) Z,.b false,.g,.g,.g,.n (aS+1),.g] (fun _ f=>an3 (zR u1) u2 h1 (an6 (w64 u3) u4 h2 h3 (zS u5) (w64 u6) f)) nx
theorem xEZ (nx:Q2 aS Z) (u1:¬ aS<b:=by omega):zPS data ah aj a_1 b aB au aD aS Z Nx Q2 :=
 kO 1 aS [.g,.g,.b false,.g,.g] (fun _ f=>ai (zS u1) f) nx
theorem xFD {Nx:Int->Int->St->Prop} (hL:yNM data ah aj a_1 b aB au aD bX Z P2) (k2:∀ i9_2' Z',P2 i9_2' Z'->zBO data ah aj a_1 b aB au aD i9_2' Z' Nx Q0 Qr) (u1:aD<5:=by omega):zZA data ah aj a_1 b aB au bX aD Z Nx Q0 Qr :=
 zDC [.g,.b true,.lf 141 (zJM data ah aj a_1 b aB au aD bX) [zNQ data ah aj a_1 b aB au aD P2]] (fun g=>kd (ai (zR u1) (ai (ai tt (ai (arf (zJM data ah aj a_1 b aB au aD bX)) hL)) (ai (kz1 k2) trivial))))
theorem xFC {Nx:Int->Int->St->Prop} (nx:Q0 Z) (u1:¬ aD<5:=by omega):zZA data ah aj a_1 b aB au bX aD Z Nx Q0 Qr :=
 kO 1 () [.g,.b false] (fun _ f=>ai (zS u1) f) nx
theorem yNB {Nx:Int->Int->St->Prop} (nx:Qr true Z) (u1:aS=b:=by omega):zBO data ah aj a_1 b aB au aD aS Z Nx Q0 Qr :=
 sF 2 true [.g,.g,.b true,.g] (fun _ f=>ai (xH u1) f) nx
theorem yNA {Nx:Int->Int->St->Prop} (nx:Qr false Z) (u1:¬ aS=b:=by omega) (u2:I6 (b-a_1):=by omega) (u3:(b-a_1)<50:=by omega):zBO data ah aj a_1 b aB au aD aS Z Nx Q0 Qr :=
 sF 2 false [.g,.g,.b false,.g,.g,.n (b-a_1),.b true,.g] (fun _ f=>an3 (yD u1) (w64 u2) (zR u3) f) nx
theorem yNG {Q4:St->Prop} (hb:∀ k dG Z,Inv k dG Z->zPR ax ah aj a_1 b aB au aS aD dG Z (NX1 Inv k) Q4):∀ k dG Z,Inv k dG Z->zYX ax ah aj a_1 b aB au aS aD dG Z Q4 :=
 xL (ai (xZ 4) trivial) hb
theorem xEY {Q4:St->Prop}:let y0:=rcd nOB nPB nIB;let y1:=rcd nU nNB nHB;let y2:=zJ ax (Int.toNat (dG-1)*3);let y3:=zJ ax (Int.toNat dG*3);∀ (h1:lz Z 45 y3 (qh y1)) (h2:lz Z 45 y2 (qh y0)) (h3:qo aB (qh y1::(qh y0)::au) Z (iV nLB) Z) (h4:qq (evL [pz y3,qh y0]) Z (.store 45 (.tmp 0) (.tmp 1))=some (undef,ZAC)) (h5:qq (evL [pz y2,qh y1]) ZAC (.store 45 (.tmp 0) (.tmp 1))=some (undef,ZBC)) (nx:Nx (dG-1) ZBC) (u1:1<=dG:=by omega) (u2:Ix dG ah:=by omega) (u3:I6 (dG-1):=by omega) (u4:Ix (dG-1) ah:=by omega) (u5:nLB<0:=by omega),zPR ax ah aj a_1 b aB au aS aD dG Z Nx Q4 :=
 let s1:=dG-1;let y0:=rcd nOB nPB nIB;let y1:=rcd nU nNB nHB;fun h1 h2 h3 h4 h5 nx u1 u2 u3 u4 u5=>kO 0 s1 [.g,.b true,.g,.g,.g,.i,.l (qh y1),.g,.g,.n s1,.i,.l (qh y0),.c (iV nLB) Z,.b true,.g,.g,.g,.g,.g,.n s1,.g,.g,.n s1,.i,.l (qh y0),.g,.g,.i,.l (qh y1),.i,.e undef ZAC,.i,.e undef ZBC,.g,.n s1,.g] (fun _ f=>ai (yE u1) (an6 u2 h1 (w64 u3) u4 h2 h3 (an6 (zR u5) (w64 u3) (w64 u3) u4 h2 u2 (an6 h1 u2 h4 u4 h5 (w64 u3) f)))) nx
theorem xEX {Q4:St->Prop} (h1:lz Z 45 (zJ ax (Int.toNat dG*3)) (qh (rcd nU nNB nHB))) (h2:lz Z 45 (zJ ax (Int.toNat (dG-1)*3)) (qh (rcd nOB nPB nIB))) (h3:qo aB (qh (rcd nU nNB nHB)::(qh (rcd nOB nPB nIB))::au) Z (iV nLB) Z) (nx:Q4 Z) (u1:1<=dG:=by omega) (u2:Ix dG ah:=by omega) (u3:I6 (dG-1):=by omega) (u4:Ix (dG-1) ah:=by omega) (u5:¬ nLB<0:=by omega):zPR ax ah aj a_1 b aB au aS aD dG Z Nx Q4 :=
 kO 1 () [.g,.b true,.g,.g,.g,.i,.l (qh (rcd nU nNB nHB)),.g,.g,.n (dG-1),.i,.l (qh (rcd nOB nPB nIB)),.c (iV nLB) Z,.b false,.g] (fun _ f=>an2 (yE u1) u2 (an6 h1 (w64 u3) u4 h2 h3 (zS u5) f)) nx
theorem xEW {Q4:St->Prop} (nx:Q4 Z) (u1:¬ 1<=dG:=by omega):zPR ax ah aj a_1 b aB au aS aD dG Z Nx Q4 :=
 kO 1 () [.g,.b false] (fun _ f=>ai (yH u1) f) nx
theorem yMZ {Nx:Int->Int->St->Prop} {P4:St->Prop} (h1:lz Z 45 (zJ ax (Int.toNat (aS-1)*3)) (qh (rcd nMB nKB nDC))) (h2:lz Z 45 (zJ ax (Int.toNat aS*3)) (qh (rcd nEC nFC nGC))) (h3:qq (evL [pz (zJ ax (Int.toNat aS*3)),qh (rcd nMB nKB nDC)]) Z (.store 45 (.tmp 0) (.tmp 1))=some (undef,ZT)) (h4:qq (evL [pz (zJ ax (Int.toNat (aS-1)*3)),qh (rcd nEC nFC nGC)]) ZT (.store 45 (.tmp 0) (.tmp 1))=some (undef,ZU)) (hL:zYX ax ah aj a_1 b aB au aS aD (aS-1) ZU P4) (k4:∀ Z',P4 Z'->zNS (some ax) ax ah aj a_1 b aB au aS aD Z' Nx Q0 Qr) (u1:¬ aS=b:=by omega) (u2:I6 (b-a_1):=by omega) (u3:¬ (b-a_1)<50:=by omega) (u4:I6 (aS-1):=by omega) (u5:Ix (aS-1) ah:=by omega) (u6:Ix aS ah:=by omega) (u7:I6 (aS-a_1):=by omega) (u8:2<=(aS-a_1):=by omega):zBO (some ax) ah aj a_1 b aB au aD aS Z Nx Q0 Qr :=
 let s1:=zPO ax ah aj a_1 b aB au aS aD (aS-1);sK [.g,.g,.b false,.g,.g,.n (b-a_1),.b false,.g,.g,.g,.g,.n (aS-1),.g,.g,.n (aS-1),.i,.l (qh (rcd nMB nKB nDC)),.g,.g,.i,.l (qh (rcd nEC nFC nGC)),.i,.e undef ZT,.i,.e undef ZU,.g,.g,.n (aS-a_1),.b true,.g,.n (aS-1),.g,.lf 141 s1 [zNP ax ah aj a_1 b aB au aS aD P4]] (an4 (yD u1) (w64 u2) (zS u3) (w64 u4) (an6 (w64 u4) u5 h1 u6 h2 u6 (an6 h3 u5 h4 (w64 u7) (yE u8) (w64 u4) (ai (ai tt (ai (arf s1) hL)) (ai (kz0 k4) trivial)))))
theorem yNF {Q6:St->Prop} (hb:∀ k bf Z,Inv k bf Z->zPQ ax ah aj a_1 b aB au aS aD bf Z (NX1 Inv k) Q6):∀ k bf Z,Inv k bf Z->zJO ax ah aj a_1 b aB au aS aD bf Z Q6 :=
 xL (ai (xZ 6) trivial) hb
theorem xEV {Q6:St->Prop}:let y0:=rcd nEB nJB nQB;let y1:=rcd nRB nSB nTB;let y2:=zJ ax (Int.toNat (bf-1)*3);let y3:=zJ ax (Int.toNat bf*3);∀ (h1:lz Z 45 y3 (qh y0)) (h2:lz Z 45 y2 (qh y1)) (h3:qo aB (qh y0::(qh y1)::au) Z (iV nXB) Z) (h4:qq (evL [pz y3,qh y1]) Z (.store 45 (.tmp 0) (.tmp 1))=some (undef,ZCC)) (h5:qq (evL [pz y2,qh y0]) ZCC (.store 45 (.tmp 0) (.tmp 1))=some (undef,ZDC)) (nx:Nx (bf+1) ZDC) (u1:bf<b:=by omega) (u2:Ix bf ah:=by omega) (u3:I6 (bf-1):=by omega) (u4:Ix (bf-1) ah:=by omega) (u5:nXB<0:=by omega) (u6:I6 (bf+1):=by omega),zPQ ax ah aj a_1 b aB au aS aD bf Z Nx Q6 :=
 let s1:=bf-1;let y0:=rcd nEB nJB nQB;let y1:=rcd nRB nSB nTB;fun h1 h2 h3 h4 h5 nx u1 u2 u3 u4 u5 u6=>kO 0 (bf+1) [.g,.g,.b true,.g,.g,.g,.i,.l (qh y0),.g,.g,.n s1,.i,.l (qh y1),.c (iV nXB) Z,.b true,.g,.g,.g,.g,.g,.n s1,.g,.g,.n s1,.i,.l (qh y1),.g,.g,.i,.l (qh y0),.i,.e undef ZCC,.i,.e undef ZDC,.g,.n (bf+1),.g] (fun _ f=>ai (zR u1) (an6 u2 h1 (w64 u3) u4 h2 h3 (an6 (zR u5) (w64 u3) (w64 u3) u4 h2 u2 (an6 h1 u2 h4 u4 h5 (w64 u6) f)))) nx
theorem xEU {Q6:St->Prop} (h1:lz Z 45 (zJ ax (Int.toNat bf*3)) (qh (rcd nEB nJB nQB))) (h2:lz Z 45 (zJ ax (Int.toNat (bf-1)*3)) (qh (rcd nRB nSB nTB))) (h3:qo aB (qh (rcd nEB nJB nQB)::(qh (rcd nRB nSB nTB))::au) Z (iV nXB) Z) (nx:Q6 Z) (u1:bf<b:=by omega) (u2:Ix bf ah:=by omega) (u3:I6 (bf-1):=by omega) (u4:Ix (bf-1) ah:=by omega) (u5:¬ nXB<0:=by omega):zPQ ax ah aj a_1 b aB au aS aD bf Z Nx Q6 :=
 kO 1 () [.g,.g,.b true,.g,.g,.g,.i,.l (qh (rcd nEB nJB nQB)),.g,.g,.n (bf-1),.i,.l (qh (rcd nRB nSB nTB)),.c (iV nXB) Z,.b false,.g] (fun _ f=>an2 (zR u1) u2 (an6 h1 (w64 u3) u4 h2 h3 (zS u5) f)) nx
theorem xET {Q6:St->Prop} (nx:Q6 Z) (u1:¬ bf<b:=by omega):zPQ ax ah aj a_1 b aB au aS aD bf Z Nx Q6 :=
 kO 1 () [.g,.g,.b false] (fun _ f=>ai (zS u1) f) nx
theorem yMY {Nx:Int->Int->St->Prop} (h1:lz Z 45 (zJ ax (Int.toNat (aS-1)*3)) (qh (rcd nMB nKB nDC))) (h2:lz Z 45 (zJ ax (Int.toNat aS*3)) (qh (rcd nEC nFC nGC))) (h3:qq (evL [pz (zJ ax (Int.toNat aS*3)),qh (rcd nMB nKB nDC)]) Z (.store 45 (.tmp 0) (.tmp 1))=some (undef,ZT)) (h4:qq (evL [pz (zJ ax (Int.toNat (aS-1)*3)),qh (rcd nEC nFC nGC)]) ZT (.store 45 (.tmp 0) (.tmp 1))=some (undef,ZU)) (hL:zJO ax ah aj a_1 b aB au aS aD (aS+1) ZU P6) (k6:∀ Z',P6 Z'->zNR (some ax) ax ah aj a_1 b aB au aS aD Z' Nx Q0 Qr) (u1:¬ aS=b:=by omega) (u2:I6 (b-a_1):=by omega) (u3:¬ (b-a_1)<50:=by omega) (u4:I6 (aS-1):=by omega) (u5:Ix (aS-1) ah:=by omega) (u6:Ix aS ah:=by omega) (u7:I6 (aS-a_1):=by omega) (u8:¬ 2<=(aS-a_1):=by omega) (u9:I6 (b-aS):=by omega) (u10:2<=(b-aS):=by omega) (u11:I6 (aS+1):=by omega):zBO (some ax) ah aj a_1 b aB au aD aS Z Nx Q0 Qr :=
 let s1:=zJL ax ah aj a_1 b aB au aS aD (aS+1);sK [.g,.g,.b false,.g,.g,.n (b-a_1),.b false,.g,.g,.g,.g,.n (aS-1),.g,.g,.n (aS-1),.i,.l (qh (rcd nMB nKB nDC)),.g,.g,.i,.l (qh (rcd nEC nFC nGC)),.i,.e undef ZT,.i,.e undef ZU,.g,.g,.n (aS-a_1),.b false,.g,.g,.n (b-aS),.b true,.g,.n (aS+1),.g,.lf 141 s1 [zGV ax ah aj a_1 b aB au aS aD P6]] (an6 (yD u1) (w64 u2) (zS u3) (w64 u4) (w64 u4) u5 (an6 h1 u6 h2 u6 h3 u5 (an6 h4 (w64 u7) (yH u8) (w64 u9) (yE u10) (w64 u11) (ai (ai tt (ai (arf s1) hL)) (ai (kz0 k6) trivial)))))
theorem yMX {Nx:Int->Int->St->Prop} (h1:lz Z 45 (zJ ax (Int.toNat (aS-1)*3)) (qh (rcd nMB nKB nDC))) (h2:lz Z 45 (zJ ax (Int.toNat aS*3)) (qh (rcd nEC nFC nGC))) (h3:qq (evL [pz (zJ ax (Int.toNat aS*3)),qh (rcd nMB nKB nDC)]) Z (.store 45 (.tmp 0) (.tmp 1))=some (undef,ZT)) (h4:qq (evL [pz (zJ ax (Int.toNat (aS-1)*3)),qh (rcd nEC nFC nGC)]) ZT (.store 45 (.tmp 0) (.tmp 1))=some (undef,ZU)) (nx:Nx aS (aD+1) ZU) (u1:¬ aS=b:=by omega) (u2:I6 (b-a_1):=by omega) (u3:¬ (b-a_1)<50:=by omega) (u4:I6 (aS-1):=by omega) (u5:Ix (aS-1) ah:=by omega) (u6:Ix aS ah:=by omega) (u7:I6 (aS-a_1):=by omega) (u8:¬ 2<=(aS-a_1):=by omega) (u9:I6 (b-aS):=by omega) (u10:¬ 2<=(b-aS):=by omega) (u11:I6 (aD+1):=by omega):zBO (some ax) ah aj a_1 b aB au aD aS Z Nx Q0 Qr :=
 sF 0 (aS,aD+1) [.g,.g,.b false,.g,.g,.n (b-a_1),.b false,.g,.g,.g,.g,.n (aS-1),.g,.g,.n (aS-1),.i,.l (qh (rcd nMB nKB nDC)),.g,.g,.i,.l (qh (rcd nEC nFC nGC)),.i,.e undef ZT,.i,.e undef ZU,.g,.g,.n (aS-a_1),.b false,.g,.g,.n (b-aS),.b false,.g,.n (aD+1),.g] (fun _ f=>an6 (yD u1) (w64 u2) (zS u3) (w64 u4) (w64 u4) u5 (an6 h1 u6 h2 u6 h3 u5 (an6 h4 (w64 u7) (yH u8) (w64 u9) (yH u10) (w64 u11) f))) nx
theorem yMW {Nx:Int->Int->St->Prop} (hL:zJO ax ah aj a_1 b aB au aS aD (aS+1) Z P6) (k6:∀ Z',P6 Z'->zNR data ax ah aj a_1 b aB au aS aD Z' Nx Q0 Qr) (u1:I6 (b-aS):=by omega) (u2:2<=(b-aS):=by omega) (u3:I6 (aS+1):=by omega):zNS data ax ah aj a_1 b aB au aS aD Z Nx Q0 Qr :=
 let s1:=zJL ax ah aj a_1 b aB au aS aD (aS+1);sK [.g,.g,.n (b-aS),.b true,.g,.n (aS+1),.g,.lf 141 s1 [zGV ax ah aj a_1 b aB au aS aD P6]] (an3 (w64 u1) (yE u2) (w64 u3) (ai (ai tt (ai (arf s1) hL)) (ai (kz0 k6) trivial)))
theorem yMV {Nx:Int->Int->St->Prop} (nx:Nx aS (aD+1) Z) (u1:I6 (b-aS):=by omega) (u2:¬ 2<=(b-aS):=by omega) (u3:I6 (aD+1):=by omega):zNS (some ax) ax ah aj a_1 b aB au aS aD Z Nx Q0 Qr :=
 sF 0 (aS,aD+1) [.g,.g,.n (b-aS),.b false,.g,.n (aD+1),.g] (fun _ f=>an3 (w64 u1) (yH u2) (w64 u3) f) nx
theorem zUJ {Nx:Int->Int->St->Prop} (nx:Nx aS (aD+1) Z) (u1:I6 (aD+1):=by omega):zNR (some ax) ax ah aj a_1 b aB au aS aD Z Nx Q0 Qr :=
 sF 0 (aS,aD+1) [.g,.n (aD+1),.g] (fun _ f=>ai (w64 u1) f) nx
theorem xLD {Pr:Bool->St->Prop} (hL:yNN data ah aj a_1 b aB au (a_1+1) 0 Z P0 Pr) (k0:∀ Z',P0 Z'->zYZ data ah aj a_1 b aB au Z' Q) (kr:∀ t8_1' Z',Pr t8_1' Z'->zYY data ah aj a_1 b aB au t8_1' Z' Q) (u1:I6 (a_1+1):=by omega):qi 111 [.slice data ah aj,iV a_1,iV b,.func (.func aB) ⟨[]⟩ ⟨au⟩] Z Q :=
 let s1:=zPP data ah aj a_1 b aB au (a_1+1) 0;zG [.g,.g,.n (a_1+1),.g,.g,.lf 141 s1 [zBN data ah aj a_1 b aB au P0,zBM data ah aj a_1 b aB au Pr]] (kd (ai (w64 u1) (ai (ai tt (ai (arf s1) hL)) (ai (kz0 k0) (ai (kz1 kr) trivial)))))
theorem yND (nx:Q (.bool false) Z):zYZ data ah aj a_1 b aB au Z Q :=
 sK [.g] nx
theorem yNC (nx:Q (.bool t8_1) Z):zYY data ah aj a_1 b aB au t8_1 Z Q :=
 sK [] nx
end
end Go.Proofs.YtgfiniccfpfplaaGreat
