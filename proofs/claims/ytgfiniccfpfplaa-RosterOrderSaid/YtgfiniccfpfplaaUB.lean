import Derived.Test.YtgfiniccfpfplaaXA
import Derived.Test.YtgfiniccfpfplaaPF
import Derived.Test.YtgfiniccfpfplaaTy
import Derived.Sort.AssemblyPlain
set_option linter.unusedVariables false
set_option linter.unusedSimpArgs false
set_option maxRecDepth 20000
namespace Go.Proofs.Ytgfiniccfpfplaa
open Go Go.Lay
open Try renaming prog → Pg
theorem zAU:AppT Pg 29 29 3 1:=zLR (by kernel_rfl)
theorem uN (x:Int):zBT Pg 3 1 (zZ x):=.inl ⟨zS,rfl,rfl⟩
abbrev yF (σ:St) (p:Option Addr) (l:Nat) (xs:List Int):Prop:=SlV Pg σ 3 1 p l (xs.map zZ)
theorem yF.len {σ:St} {p:Option Addr} {l:Nat} {xs:List Int} (h:yF σ p l xs):xs.length=l:=by have:=h.2.1;simpa using this
theorem vQ {σ:St} {α:Type} {t n len i:Nat} {p:Option Addr} {xs:List α} {f:α→Value} (h:SlV Pg σ t n p len (xs.map f)) (hi:i<len):∃ a,p=some a∧∃ x,xs[i]?=some x∧zB Pg σ t (zN a (Int.toNat (i:Int)*n))=some (f x):=by
 obtain ⟨a,rfl,_⟩:=h.some hi;have hl:i<xs.length:=by have:=h.2.1;simp at this;omega
 exact ⟨a,rfl,xs[i],by simp,h.at rfl (by simp [hl])⟩
abbrev uO (d:Dty):Value:=.agg ⟨zF d.day d.on d.lo d.hi d.route⟩
abbrev zQG (σ:St) (t:Nat) (p:Option Addr) (l:Nat) (xs:List Dty):Prop:=SlV Pg σ t 5 p l (xs.map uO)
def zUO (σ:St) (v:Value) (x:Drv):Prop:=∃ p l c q m d r n e,v=.agg ⟨zM p l c q m d r n e x.off x.row x.used⟩∧yF σ p l x.J∧yF σ q m x.qa∧yF σ r n x.qb
def zUK (σ:St) (t:Nat) (p:Option Addr) (l:Nat) (xs:List Drv):Prop:=∃ vs:List Value,SlV Pg σ t 6 p l vs∧xs.length=l∧∀ (i:Nat) (x:Drv),xs[i]?=some x→∃ v,vs[i]?=some v∧zUO σ v x
section
variable {σ σ':St} {td tv:Nat} {p q:Option Addr} {l m c d:Nat} {w:Wk}
theorem zUO.le {v:Value} {x:Drv} (h:zUO σ v x) (k:Le σ σ'):zUO σ' v x:=by
 obtain ⟨p,l,c,q,m,d,r,n,e,h1,h2,h3,h4⟩:=h;exact ⟨p,l,c,q,m,d,r,n,e,h1,h2.le k,h3.le k,h4.le k⟩
theorem zUK.le {xs:List Drv} (h:zUK σ tv p l xs) (k:Le σ σ'):zUK σ' tv p l xs:=by
 obtain ⟨vs,h1,h2,h3⟩:=h;exact ⟨vs,h1.le k,h2,fun i x hi=>by obtain ⟨v,g1,g2⟩:=h3 i x hi;exact ⟨v,g1,g2.le k⟩⟩
structure WkP (σ:St) (td tv:Nat) (w:Wk) (p:Option Addr) (l:Nat) (q:Option Addr) (m:Nat):Prop where
 dty:zQG σ td p l w.N
 drv:zUK σ tv q m w.L
theorem WkP.le (h:WkP σ td tv w p l q m) (k:Le σ σ'):WkP σ' td tv w p l q m:=⟨h.dty.le k,h.drv.le k⟩
theorem WkP.len (h:WkP σ td tv w p l q m):w.N.length=l∧w.L.length=m:=by
 have h1:=h.dty.2.1;exact ⟨by simpa using h1,h.drv.choose_spec.2.1⟩
theorem yEI {n k:Nat} {x v:Value} (hk:k<n) (hv:x.cells.toList[k]?=some v):∀ {vs:List Value} {i:Nat},(∀ y∈vs,y.cells.toList.length=n)→vs[i]?=some x→(xF vs)[i*n+k]?=some v
 | [],i,_,h=>by simp at h
 | y::ys,0,hn,h=>by
  have:y=x:=by simpa using h
  subst this;have hl:=hn y List.mem_cons_self;simp only [xF,List.flatMap_cons,Nat.zero_mul,Nat.zero_add];rw [List.getElem?_append_left (by omega)];exact hv
 | y::ys,i+1,hn,h=>by
  have ih:=yEI hk hv (vs:=ys) (i:=i) (fun z hz=>hn z (List.mem_cons_of_mem _ hz)) (by simpa using h);have hl:=hn y List.mem_cons_self;have e:(i+1)*n+k=y.cells.toList.length+(i*n+k):=by rw [hl,Nat.add_mul,Nat.one_mul];omega
  simp only [xF,List.flatMap_cons] at ih ⊢;rw [e,List.getElem?_append_right (by omega),Nat.add_sub_cancel_left];exact ih
theorem WkP.vld (h:WkP σ td tv w p l q m) (ht:wN Pg tv=some true) (hs:yT Pg tv=some 6) {i:Nat} (hi:i<m):∃ a,q=some a∧∃ p l c r n d s j e,zB Pg σ tv (zN a (Int.toNat (i:Int)*6))=some (.agg ⟨zM p l c r n d s j e (drQ w i).off (drQ w i).row (drQ w i).used⟩) ∧
  yF σ p l (drQ w i).J∧yF σ r n (drQ w i).qa∧yF σ s j (drQ w i).qb ∧
  ∀ (k:Nat) (v:Value),(zM p l c r n d s j e (drQ w i).off (drQ w i).row (drQ w i).used)[k]?=some v→∀ t,wN Pg t=some false→zB Pg σ t (zN a (Int.toNat (i:Int)*6+k))=some v:=by
 obtain ⟨vs,h1,h2,h3⟩:=h.drv;obtain ⟨a,rfl,hr⟩:=h1.some hi;have hx:w.L[i]?=some (drQ w i):=by
  unfold drQ;rw [List.getD_eq_getElem?_getD,List.getElem?_eq_getElem (by omega)];rfl
 obtain ⟨v,g1,p,l,c,r,n,d,s,j,e,rfl,g2,g3,g4⟩:=h3 i _ hx;refine ⟨a,rfl,p,l,c,r,n,d,s,j,e,h1.at rfl g1,g2,g3,g4, ?_⟩
 intro k v hk t htt;rw [Int.toNat_natCast];refine hr.load1 htt ?_
 have hk6:k<6:=by
  rcases Nat.lt_or_ge k 6 with h | h
  ·exact h
  ·rw [List.getElem?_eq_none (by simpa using h)] at hk;cases hk
 exact yEI hk6 (by exact hk) (fun y hy=>(h1.2.2 y hy).len) g1
theorem zIG {n lo hi:Int}:zD Pg 30 [iV n,iV lo,iV hi] σ (.bool (inB n lo hi)) σ:=by
 by_cases h1:lo≤n <;> by_cases h2:n≤hi
 ·exact (yZO ⟨by simp [inB,h1,h2],Nat.le_refl _⟩).pure
 ·exact (yZN ⟨by simp [inB,h1,h2],Nat.le_refl _⟩).pure
 ·exact (yBK ⟨by simp [inB,h1],Nat.le_refl _⟩).pure
 ·exact (yBK ⟨by simp [inB,h1],Nat.le_refl _⟩).pure
theorem xTJ {n lo hi:Int}:zD Pg 13 [iV n,iV lo,iV hi] σ (.bool (inB n lo hi)) σ:=by
 by_cases h1:lo≤n <;> by_cases h2:n≤hi
 ·exact (xUR ⟨by simp [inB,h1,h2],Nat.le_refl _⟩).pure
 ·exact (xUQ ⟨by simp [inB,h1,h2],Nat.le_refl _⟩).pure
 ·exact (xHG ⟨by simp [inB,h1],Nat.le_refl _⟩).pure
 ·exact (xHG ⟨by simp [inB,h1],Nat.le_refl _⟩).pure
def wO (xs:List Int) (lo hi:Int):Bool:=(List.range xs.length).all fun i=>inB (xs.getD i 0) lo hi && (i == 0 || decide (xs.getD (i-1) 0<xs.getD i 0))
theorem yP {xs:List Int} {i:Nat} {x:Int} (h:xs[i]?=some x):xs.getD i 0=x:=by rw [List.getD_eq_getElem?_getD,h];rfl
theorem zBL {f:Nat→Bool} {n:Nat}:(List.range n).all f=true↔∀ i,i<n→f i=true:=by simp
theorem zWX {xs:List Int} {lo hi:Int} (h:yF σ p l xs) (hl:l≤1073741824):zD Pg 42 [.slice p l c,iV lo,iV hi] σ (.bool (wO xs lo hi)) σ:=by
 have h1:=h.re;have e1:=h.len;have no:∀ j,j<l→(inB (xs.getD j 0) lo hi && (j == 0 || decide (xs.getD (j-1) 0<xs.getD j 0)))=false→wO xs lo hi=false:=by
  intro j hj hf;cases hr:wO xs lo hi with
  | false=>rfl
  | true=>rw [zBL.1 hr j (by omega)] at hf;cases hf
 refine (xAR (yGD (Inv:=fun k i τ=>τ=σ.re∧∃ j:Nat,i=j∧j+k=l∧∀ i,i<j→(inB (xs.getD i 0) lo hi && (i == 0 || decide (xs.getD (i-1) 0<xs.getD i 0)))=true) (Qr:=fun b τ=>τ=σ.re∧b=false∧wO xs lo hi=false) (Q0:=fun τ=>τ=σ.re∧wO xs lo hi=true) ?_ l 0 σ.re ⟨rfl,0,rfl,by omega,fun i h=>by omega⟩) ?_ ?_).pure
 ·rintro k i τ ⟨rfl,j,rfl,hk,he⟩;by_cases hj:j<l
  ·obtain ⟨a,rfl,x,hx,l1⟩:=vQ h1 hj;have cin:=xTJ (σ:=σ.re) (n:=x) (lo:=lo) (hi:=hi);have gx:=yP hx;cases hb:inB x lo hi with
   | false =>
    rw [hb] at cin
    exact yQW l1 cin ⟨rfl,rfl,no j hj (by rw [gx,hb];rfl)⟩
   | true =>
    rw [hb] at cin
    by_cases h0:0<j
    ·obtain ⟨a',ea,y,hy,l2⟩:=vQ h1 (show j-1<l by omega);cases ea
     have gy:=yP hy;have e:((j:Int)-1)=((j-1:Nat):Int):=by omega
     rw [← e] at l2;by_cases hxy:x≤y
     ·exact yQZ l1 cin l2 ⟨rfl,rfl,no j hj (by rw [gx,gy,hb];simp;omega)⟩
     ·refine yQY l1 cin l2 ⟨k-1,by omega,rfl,j+1,by omega,by omega, ?_⟩;intro i hi2;by_cases e2:i=j
      ·subst e2;rw [gx,gy,hb];simp;omega
      ·exact he i (by omega)
    ·refine yQX l1 cin ⟨k-1,by omega,rfl,j+1,by omega,by omega, ?_⟩
     intro i hi2;have e2:i=j:=by omega
     subst e2;have:i=0:=by omega
     rw [gx,hb,this];rfl
  ·exact yQV ⟨rfl,zBL.2 fun i hi2=>he i (by omega)⟩
 ·rintro b τ ⟨rfl,rfl,hn⟩;exact yGB ⟨by rw [hn],Nat.le_refl _⟩
 ·rintro τ ⟨rfl,hn⟩;exact yGC ⟨by rw [hn],Nat.le_refl _⟩
theorem yFX {xs:List Int} {lo hi:Int} (h:yF σ p l xs) (hl:l≤1073741824):zD Pg 60 [.slice p l c,iV lo,iV hi] σ (.bool (wO xs lo hi)) σ:=by
 have h1:=h.re;have e1:=h.len;have no:∀ j,j<l→(inB (xs.getD j 0) lo hi && (j == 0 || decide (xs.getD (j-1) 0<xs.getD j 0)))=false→wO xs lo hi=false:=by
  intro j hj hf;cases hr:wO xs lo hi with
  | false=>rfl
  | true=>rw [zBL.1 hr j (by omega)] at hf;cases hf
 refine (xGY (yKI (Inv:=fun k i τ=>τ=σ.re∧∃ j:Nat,i=j∧j+k=l∧∀ i,i<j→(inB (xs.getD i 0) lo hi && (i == 0 || decide (xs.getD (i-1) 0<xs.getD i 0)))=true) (Qr:=fun b τ=>τ=σ.re∧b=false∧wO xs lo hi=false) (Q0:=fun τ=>τ=σ.re∧wO xs lo hi=true) ?_ l 0 σ.re ⟨rfl,0,rfl,by omega,fun i h=>by omega⟩) ?_ ?_).pure
 ·rintro k i τ ⟨rfl,j,rfl,hk,he⟩;by_cases hj:j<l
  ·obtain ⟨a,rfl,x,hx,l1⟩:=vQ h1 hj;have cin:=zIG (σ:=σ.re) (n:=x) (lo:=lo) (hi:=hi);have gx:=yP hx;cases hb:inB x lo hi with
   | false =>
    rw [hb] at cin
    exact xAL l1 cin ⟨rfl,rfl,no j hj (by rw [gx,hb];rfl)⟩
   | true =>
    rw [hb] at cin
    by_cases h0:0<j
    ·obtain ⟨a',ea,y,hy,l2⟩:=vQ h1 (show j-1<l by omega);cases ea
     have gy:=yP hy;have e:((j:Int)-1)=((j-1:Nat):Int):=by omega
     rw [← e] at l2;by_cases hxy:x≤y
     ·exact xAO l1 cin l2 ⟨rfl,rfl,no j hj (by rw [gx,gy,hb];simp;omega)⟩
     ·refine xAN l1 cin l2 ⟨k-1,by omega,rfl,j+1,by omega,by omega, ?_⟩;intro i hi2;by_cases e2:i=j
      ·subst e2;rw [gx,gy,hb];simp;omega
      ·exact he i (by omega)
    ·refine xAM l1 cin ⟨k-1,by omega,rfl,j+1,by omega,by omega, ?_⟩
     intro i hi2;have e2:i=j:=by omega
     subst e2;have:i=0:=by omega
     rw [gx,hb,this];rfl
  ·exact xAK ⟨rfl,zBL.2 fun i hi2=>he i (by omega)⟩
 ·rintro b τ ⟨rfl,rfl,hn⟩;exact yKG ⟨by rw [hn],Nat.le_refl _⟩
 ·rintro τ ⟨rfl,hn⟩;exact yKH ⟨by rw [hn],Nat.le_refl _⟩
end
section
noncomputable section
variable (BA:Nat) (bh dS aH i2_2:Int) (Q:Int→St→Prop) (q0:St→Prop) (σ:St) (q1:vPa) (Nx Qr:Int→St→Prop) (Q0 Q2:St→Prop)
def yBZ:Code:=(Code.part [1,1,1,0,1,0,0] (qj 25))
def zFJ:lNa:=[(1,pq BA 0),(3,iV bh)]
def yRR:Alt:=⟨Int,.normal,fun t=>zFJ BA t,fun t=>[],fun t σ=>Q t σ⟩
def zTA (BA:Nat) (aH:Int):lNa:=[(2,iV aH)]
def zIW:Alt:=⟨Int,.ret,fun t=>zTA BA t,fun t=>[],fun t σ=>Q t σ⟩
def zTB:lNa:=[(1,pq BA 0)]
def zIX:Alt:=⟨Unit,(.exit 0),fun t=>zTB BA,fun t=>[],fun t σ=>q0 σ⟩
def zAR:Prop:=qk ql none yBZ 145 (zFJ BA bh) [] [yRR BA Nx,zIW BA Qr,zIX BA Q0] σ
def yCB:Prop:=qm ql none yBZ 145 (zFJ BA bh) [] [zIW BA Qr,zIX BA Q0] σ
def zTE:Prop:=kZ ql (qj 25) [1,1,1,0,1,0] (qo 25 q1) .ret 145 (zTA BA aH) σ
def zTF:Prop:=kZ ql (qj 25) [1,1,1,0,1,0] (qo 25 q1) (.exit 0) 145 (zTB BA) σ
def yBY:Code:=(Code.part [1,1,1,1,0,1,0,0] (qj 25))
def zFI:lNa:=[(1,pq BA 0),(5,iV dS)]
def yRQ:Alt:=⟨Int,.normal,fun t=>zFI BA t,fun t=>[],fun t σ=>Q t σ⟩
def zSY (BA:Nat) (i2_2:Int):lNa:=[(2,iV i2_2)]
def zIU:Alt:=⟨Int,.ret,fun t=>zSY BA t,fun t=>[],fun t σ=>Q t σ⟩
def zSZ (BA:Nat):lNa:=[]
def zIV:Alt:=⟨Unit,(.exit 2),fun t=>zSZ BA,fun t=>[],fun t σ=>q0 σ⟩
def uV:Prop:=qk ql none yBY 145 (zFI BA dS) [] [yRQ BA Nx,zIU BA Qr,zIV BA Q2] σ
def yCA:Prop:=qm ql none yBY 145 (zFI BA dS) [] [zIU BA Qr,zIV BA Q2] σ
def zTC:Prop:=kZ ql (qj 25) [1,1,1,1,0,1,0] (qo 25 q1) .ret 145 (zSY BA i2_2) σ
def zTD:Prop:=kZ ql (qj 25) [1,1,1,1,0,1,0] (qo 25 q1) (.exit 2) 145 (zSZ BA) σ
end
variable {am ao au aj bh nF nD nB nA nE nK aH dS nH nI nJ nM nBE i2_2:Int} {af ae qD qB qA qC qH:oAa} {ab ad aa ac BA lA cE lI cI lE cB lB cA lF cD:Nat} {σ:St} {Q:vPa} {Inv:Nat→Int→St→Prop} {Qr Nx Pr:Int→St→Prop} {Q0 P0 Q2 P2:St→Prop} {dV eK:Addr}
theorem xAY (nx:Q (iV 3) (σ.row (wkc am af ab ad ae aa ac ao au aj) 6)) (u1:12<(ab:Int):=by omega):qi 25 [qh (wkc am af ab ad ae aa ac ao au aj)] σ Q :=
 zI [.g,.g,.g,.l (.slice af ab ad),.g,.b true,.g,.g,.g] (kd (an2 ((zC _ _ _).rw.ld vI (k:=1) rfl:lz (σ.row (wkc am af ab ad ae aa ac ao au aj) 6) 22 (qg σ.y 1) (.slice af ab ad)) (zR u1) nx))
theorem xAX:let y0:=wkc am af ab ad ae aa ac ao au aj;∀ (nx:Q (iV 3) (σ.row y0 6)) (u1:¬ 12<(ab:Int):=by omega) (u2:6<(aa:Int):=by omega),qi 25 [qh y0] σ Q :=
 let s1:=σ.row (wkc am af ab ad ae aa ac ao au aj) 6;fun nx u1 u2=>zI [.g,.g,.g,.l (.slice af ab ad),.g,.b false,.g,.g,.l (.slice ae aa ac),.g,.b true,.g,.g] (kd (an4 ((zC _ _ _).rw.ld vI (k:=1) rfl:lz s1 22 (qg σ.y 1) (.slice af ab ad)) (zT u1) ((zC _ _ _).rw.ld zGA (k:=2) rfl:lz s1 23 (qg σ.y 2) (.slice ae aa ac)) (zR u2) nx))
theorem yGJ (hb:∀ k bh σ,Inv k bh σ→zAR BA bh σ (NX1 Inv k) Qr Q0):∀ k bh σ,Inv k bh σ→yCB BA bh σ Qr Q0 :=
 xJ (ai zCK (ai (wI 0) trivial)) hb
@[reducible] def Ha0 (σ:St) (BA lA cE:Nat) (dV:Addr) (bh nF nD nB nA nE nK:Int):Prop:=qp σ 22 ⟨BA,1,none⟩=some (.slice (some dV) lA cE)∧qp σ 35 (zN dV (Int.toNat bh*5))=some (.agg ⟨zF nF nD nB nA nE⟩)∧qp ((σ.row (zF 0 0 0 0 0) 5).own σ.y (zF nF nD nB nA nE) 5) 3 ⟨BA,0,none⟩=some (iV nK)∧(qn 13 [iV nF,iV 0,iV (nK-1)] ((σ.row (zF 0 0 0 0 0) 5).own σ.y (zF nF nD nB nA nE) 5) (.bool true) ((σ.row (zF 0 0 0 0 0) 5).own σ.y (zF nF nD nB nA nE) 5))∧qn 13 [iV nD,iV 0,iV 1439] ((σ.row (zF 0 0 0 0 0) 5).own σ.y (zF nF nD nB nA nE) 5) (.bool true) ((σ.row (zF 0 0 0 0 0) 5).own σ.y (zF nF nD nB nA nE) 5)
theorem yRP:let Y1:=σ.row (zF 0 0 0 0 0) 5;let Y2:=Y1.own σ.y (zF nF nD nB nA nE) 5;∀ (H:Ha0 σ BA lA cE dV bh nF nD nB nA nE nK) (h6:qn 13 [iV nB,iV nD,iV nA] Y2 (.bool true) Y2) (nx:Qr (1:Int) Y2) (u1:bh<(lA:Int):=by omega) (u2:Ix bh lA:=by omega) (u3:I6 (nK-1):=by omega) (u4:I6 (nD+1440):=by omega) (u5:(nD+1440)<nA:=by omega),zAR BA bh σ Nx Qr Q0:=
 fun H h6 nx u1 u2 u3 u4 u5=>match H with|⟨h1,h2,h3,h4,h5⟩=>let s1:=σ.row (zF 0 0 0 0 0) 5;let s2:=s1.own σ.y (zF nF nD nB nA nE) 5;kO 1 (1:Int) [.g,.g,.l (.slice (some dV) lA cE),.g,.b true,.g,.l (.slice (some dV) lA cE),.g,.i,.l (qh (zF nF nD nB nA nE)),.g,.e undef s2,.g,.l (iV nF),.g,.l (iV nK),.n (nK-1),.c (.bool true) s2,.g,.g,.g,.l (iV nD),.c (.bool true) s2,.g,.g,.g,.g,.g,.l (iV nB),.g,.l (iV nD),.g,.g,.l (iV nA),.c (.bool true) s2,.g,.g,.g,.g,.g,.l (iV nA),.g,.l (iV nD),.n (nD+1440),.b true,.g,.g,.g,.g] (fun _ f=>an2 h1 (zR u1) (an6 h1 u2 h2 ((zC _ _ _).store (vs:=(zF nF nD nB nA nE)) rfl zDL rfl (nle rfl) rfl:qq (evL [pq σ.y 0,qh (zF nF nD nB nA nE)]) s1 (.store 35 (.tmp 0) (.tmp 1))=some (undef,s2)) ((zC _ _ _).put.rw.ld zS (k:=0) rfl:lz s2 3 (qg σ.y 0) (iV nF)) h3 (an6 (w64 u3) h4 ((zC _ _ _).put.rw.ld zS (k:=1) rfl:lz s2 3 (qg σ.y 1) (iV nD)) h5 ((zC _ _ _).put.rw.ld zS (k:=2) rfl:lz s2 3 (qg σ.y 2) (iV nB)) ((zC _ _ _).put.rw.ld zS (k:=1) rfl:lz s2 3 (qg σ.y 1) (iV nD)) (an6 ((zC _ _ _).put.rw.ld zS (k:=3) rfl:lz s2 3 (qg σ.y 3) (iV nA)) h6 ((zC _ _ _).put.rw.ld zS (k:=3) rfl:lz s2 3 (qg σ.y 3) (iV nA)) ((zC _ _ _).put.rw.ld zS (k:=1) rfl:lz s2 3 (qg σ.y 1) (iV nD)) (w64 u4) (zR u5) f)))) nx
theorem yRO:let Y1:=σ.row (zF 0 0 0 0 0) 5;let Y2:=Y1.own σ.y (zF nF nD nB nA nE) 5;∀ (H:Ha0 σ BA lA cE dV bh nF nD nB nA nE nK) (h6:qn 13 [iV nB,iV nD,iV nA] Y2 (.bool true) Y2) (h7:qn 13 [iV nE,iV 0,iV 15] Y2 (.bool true) Y2) (nx:Nx (bh+1) Y2) (u1:bh<(lA:Int):=by omega) (u2:Ix bh lA:=by omega) (u3:I6 (nK-1):=by omega) (u4:I6 (nD+1440):=by omega) (u5:¬ (nD+1440)<nA:=by omega) (u6:I6 (bh+1):=by omega),zAR BA bh σ Nx Qr Q0:=
 fun H h6 h7 nx u1 u2 u3 u4 u5 u6=>match H with|⟨h1,h2,h3,h4,h5⟩=>let s1:=σ.row (zF 0 0 0 0 0) 5;let s2:=s1.own σ.y (zF nF nD nB nA nE) 5;kO 0 (bh+1) [.g,.g,.l (.slice (some dV) lA cE),.g,.b true,.g,.l (.slice (some dV) lA cE),.g,.i,.l (qh (zF nF nD nB nA nE)),.g,.e undef s2,.g,.l (iV nF),.g,.l (iV nK),.n (nK-1),.c (.bool true) s2,.g,.g,.g,.l (iV nD),.c (.bool true) s2,.g,.g,.g,.g,.g,.l (iV nB),.g,.l (iV nD),.g,.g,.l (iV nA),.c (.bool true) s2,.g,.g,.g,.g,.g,.l (iV nA),.g,.l (iV nD),.n (nD+1440),.b false,.g,.g,.g,.l (iV nE),.c (.bool true) s2,.g,.g,.g,.n (bh+1),.g] (fun _ f=>an5 h1 (zR u1) h1 u2 h2 (an6 ((zC _ _ _).store (vs:=(zF nF nD nB nA nE)) rfl zDL rfl (nle rfl) rfl:qq (evL [pq σ.y 0,qh (zF nF nD nB nA nE)]) s1 (.store 35 (.tmp 0) (.tmp 1))=some (undef,s2)) ((zC _ _ _).put.rw.ld zS (k:=0) rfl:lz s2 3 (qg σ.y 0) (iV nF)) h3 (w64 u3) h4 ((zC _ _ _).put.rw.ld zS (k:=1) rfl:lz s2 3 (qg σ.y 1) (iV nD)) (an6 h5 ((zC _ _ _).put.rw.ld zS (k:=2) rfl:lz s2 3 (qg σ.y 2) (iV nB)) ((zC _ _ _).put.rw.ld zS (k:=1) rfl:lz s2 3 (qg σ.y 1) (iV nD)) ((zC _ _ _).put.rw.ld zS (k:=3) rfl:lz s2 3 (qg σ.y 3) (iV nA)) h6 ((zC _ _ _).put.rw.ld zS (k:=3) rfl:lz s2 3 (qg σ.y 3) (iV nA)) (an6 ((zC _ _ _).put.rw.ld zS (k:=1) rfl:lz s2 3 (qg σ.y 1) (iV nD)) (w64 u4) (zT u5) ((zC _ _ _).put.rw.ld zS (k:=4) rfl:lz s2 3 (qg σ.y 4) (iV nE)) h7 (w64 u6) f)))) nx
theorem yRN:let Y1:=σ.row (zF 0 0 0 0 0) 5;let Y2:=Y1.own σ.y (zF nF nD nB nA nE) 5;∀ (H:Ha0 σ BA lA cE dV bh nF nD nB nA nE nK) (h6:qn 13 [iV nB,iV nD,iV nA] Y2 (.bool true) Y2) (h7:qn 13 [iV nE,iV 0,iV 15] Y2 (.bool false) Y2) (nx:Qr (1:Int) Y2) (u1:bh<(lA:Int):=by omega) (u2:Ix bh lA:=by omega) (u3:I6 (nK-1):=by omega) (u4:I6 (nD+1440):=by omega) (u5:¬ (nD+1440)<nA:=by omega),zAR BA bh σ Nx Qr Q0:=
 fun H h6 h7 nx u1 u2 u3 u4 u5=>match H with|⟨h1,h2,h3,h4,h5⟩=>let s1:=σ.row (zF 0 0 0 0 0) 5;let s2:=s1.own σ.y (zF nF nD nB nA nE) 5;kO 1 (1:Int) [.g,.g,.l (.slice (some dV) lA cE),.g,.b true,.g,.l (.slice (some dV) lA cE),.g,.i,.l (qh (zF nF nD nB nA nE)),.g,.e undef s2,.g,.l (iV nF),.g,.l (iV nK),.n (nK-1),.c (.bool true) s2,.g,.g,.g,.l (iV nD),.c (.bool true) s2,.g,.g,.g,.g,.g,.l (iV nB),.g,.l (iV nD),.g,.g,.l (iV nA),.c (.bool true) s2,.g,.g,.g,.g,.g,.l (iV nA),.g,.l (iV nD),.n (nD+1440),.b false,.g,.g,.g,.l (iV nE),.c (.bool false) s2,.g,.g,.g] (fun _ f=>an4 h1 (zR u1) h1 u2 (an6 h2 ((zC _ _ _).store (vs:=(zF nF nD nB nA nE)) rfl zDL rfl (nle rfl) rfl:qq (evL [pq σ.y 0,qh (zF nF nD nB nA nE)]) s1 (.store 35 (.tmp 0) (.tmp 1))=some (undef,s2)) ((zC _ _ _).put.rw.ld zS (k:=0) rfl:lz s2 3 (qg σ.y 0) (iV nF)) h3 (w64 u3) h4 (an6 ((zC _ _ _).put.rw.ld zS (k:=1) rfl:lz s2 3 (qg σ.y 1) (iV nD)) h5 ((zC _ _ _).put.rw.ld zS (k:=2) rfl:lz s2 3 (qg σ.y 2) (iV nB)) ((zC _ _ _).put.rw.ld zS (k:=1) rfl:lz s2 3 (qg σ.y 1) (iV nD)) ((zC _ _ _).put.rw.ld zS (k:=3) rfl:lz s2 3 (qg σ.y 3) (iV nA)) h6 (an6 ((zC _ _ _).put.rw.ld zS (k:=3) rfl:lz s2 3 (qg σ.y 3) (iV nA)) ((zC _ _ _).put.rw.ld zS (k:=1) rfl:lz s2 3 (qg σ.y 1) (iV nD)) (w64 u4) (zT u5) ((zC _ _ _).put.rw.ld zS (k:=4) rfl:lz s2 3 (qg σ.y 4) (iV nE)) h7 f)))) nx
theorem yRM:let Y1:=σ.row (zF 0 0 0 0 0) 5;let Y2:=Y1.own σ.y (zF nF nD nB nA nE) 5;∀ (H:Ha0 σ BA lA cE dV bh nF nD nB nA nE nK) (h6:qn 13 [iV nB,iV nD,iV nA] Y2 (.bool false) Y2) (nx:Qr (1:Int) Y2) (u1:bh<(lA:Int):=by omega) (u2:Ix bh lA:=by omega) (u3:I6 (nK-1):=by omega),zAR BA bh σ Nx Qr Q0:=
 fun H h6 nx u1 u2 u3=>match H with|⟨h1,h2,h3,h4,h5⟩=>let s1:=σ.row (zF 0 0 0 0 0) 5;let s2:=s1.own σ.y (zF nF nD nB nA nE) 5;kO 1 (1:Int) [.g,.g,.l (.slice (some dV) lA cE),.g,.b true,.g,.l (.slice (some dV) lA cE),.g,.i,.l (qh (zF nF nD nB nA nE)),.g,.e undef s2,.g,.l (iV nF),.g,.l (iV nK),.n (nK-1),.c (.bool true) s2,.g,.g,.g,.l (iV nD),.c (.bool true) s2,.g,.g,.g,.g,.g,.l (iV nB),.g,.l (iV nD),.g,.g,.l (iV nA),.c (.bool false) s2,.g,.g,.g,.g,.g,.g,.g] (fun _ f=>an4 h1 (zR u1) h1 u2 (an6 h2 ((zC _ _ _).store (vs:=(zF nF nD nB nA nE)) rfl zDL rfl (nle rfl) rfl:qq (evL [pq σ.y 0,qh (zF nF nD nB nA nE)]) s1 (.store 35 (.tmp 0) (.tmp 1))=some (undef,s2)) ((zC _ _ _).put.rw.ld zS (k:=0) rfl:lz s2 3 (qg σ.y 0) (iV nF)) h3 (w64 u3) h4 (an6 ((zC _ _ _).put.rw.ld zS (k:=1) rfl:lz s2 3 (qg σ.y 1) (iV nD)) h5 ((zC _ _ _).put.rw.ld zS (k:=2) rfl:lz s2 3 (qg σ.y 2) (iV nB)) ((zC _ _ _).put.rw.ld zS (k:=1) rfl:lz s2 3 (qg σ.y 1) (iV nD)) ((zC _ _ _).put.rw.ld zS (k:=3) rfl:lz s2 3 (qg σ.y 3) (iV nA)) h6 f))) nx
theorem yRL:let s1:=σ.row (zF 0 0 0 0 0) 5;let s2:=s1.own σ.y (zF nF nD nB nA nE) 5;∀ (h1:lz σ 22 (qg BA 1) (.slice (some dV) lA cE)) (h2:lz σ 35 (zN dV (Int.toNat bh*5)) (qh (zF nF nD nB nA nE))) (h3:lz s2 3 (qg BA 0) (iV nK)) (h4:qn 13 [iV nF,iV 0,iV (nK-1)] s2 (.bool true) s2) (h5:qn 13 [iV nD,iV 0,iV 1439] s2 (.bool false) s2) (nx:Qr (1:Int) s2) (u1:bh<(lA:Int):=by omega) (u2:Ix bh lA:=by omega) (u3:I6 (nK-1):=by omega),zAR BA bh σ Nx Qr Q0:=
 let s1:=σ.row (zF 0 0 0 0 0) 5;let s2:=s1.own σ.y (zF nF nD nB nA nE) 5;fun h1 h2 h3 h4 h5 nx u1 u2 u3=>kO 1 (1:Int) [.g,.g,.l (.slice (some dV) lA cE),.g,.b true,.g,.l (.slice (some dV) lA cE),.g,.i,.l (qh (zF nF nD nB nA nE)),.g,.e undef s2,.g,.l (iV nF),.g,.l (iV nK),.n (nK-1),.c (.bool true) s2,.g,.g,.g,.l (iV nD),.c (.bool false) s2,.g,.g,.g,.g,.g,.g,.g,.g,.g] (fun _ f=>an6 h1 (zR u1) h1 u2 h2 ((zC _ _ _).store (vs:=(zF nF nD nB nA nE)) rfl zDL rfl (nle rfl) rfl:qq (evL [pq σ.y 0,qh (zF nF nD nB nA nE)]) s1 (.store 35 (.tmp 0) (.tmp 1))=some (undef,s2)) (an6 ((zC _ _ _).put.rw.ld zS (k:=0) rfl:lz s2 3 (qg σ.y 0) (iV nF)) h3 (w64 u3) h4 ((zC _ _ _).put.rw.ld zS (k:=1) rfl:lz s2 3 (qg σ.y 1) (iV nD)) h5 f)) nx
theorem yRK:let s1:=σ.row (zF 0 0 0 0 0) 5;let s2:=s1.own σ.y (zF nF nD nB nA nE) 5;∀ (h1:lz σ 22 (qg BA 1) (.slice (some dV) lA cE)) (h2:lz σ 35 (zN dV (Int.toNat bh*5)) (qh (zF nF nD nB nA nE))) (h3:lz s2 3 (qg BA 0) (iV nK)) (h4:qn 13 [iV nF,iV 0,iV (nK-1)] s2 (.bool false) s2) (nx:Qr (1:Int) s2) (u1:bh<(lA:Int):=by omega) (u2:Ix bh lA:=by omega) (u3:I6 (nK-1):=by omega),zAR BA bh σ Nx Qr Q0:=
 let s1:=σ.row (zF 0 0 0 0 0) 5;let s2:=s1.own σ.y (zF nF nD nB nA nE) 5;fun h1 h2 h3 h4 nx u1 u2 u3=>kO 1 (1:Int) [.g,.g,.l (.slice (some dV) lA cE),.g,.b true,.g,.l (.slice (some dV) lA cE),.g,.i,.l (qh (zF nF nD nB nA nE)),.g,.e undef s2,.g,.l (iV nF),.g,.l (iV nK),.n (nK-1),.c (.bool false) s2,.g,.g,.g,.g,.g,.g,.g,.g,.g,.g] (fun _ f=>an4 h1 (zR u1) h1 u2 (an6 h2 ((zC _ _ _).store (vs:=(zF nF nD nB nA nE)) rfl zDL rfl (nle rfl) rfl:qq (evL [pq σ.y 0,qh (zF nF nD nB nA nE)]) s1 (.store 35 (.tmp 0) (.tmp 1))=some (undef,s2)) ((zC _ _ _).put.rw.ld zS (k:=0) rfl:lz s2 3 (qg σ.y 0) (iV nF)) h3 (w64 u3) h4 f)) nx
theorem yRJ (h1:lz σ 22 (qg BA 1) (.slice qD lA cE)) (nx:Q0 σ) (u1:¬ bh<(lA:Int):=by omega):zAR BA bh σ Nx Qr Q0 :=
 kO 2 () [.g,.g,.l (.slice qD lA cE),.g,.b false] (fun _ f=>an2 h1 (zT u1) f) nx
theorem xAW:let s1:=σ.row (wkc am af ab ad ae aa ac ao au aj) 6;∀ (h1:qn 13 [iV am,iV 1,iV 7] s1 (.bool true) s1) (h2:qn 13 [iV ao,iV 0,iV 3000] s1 (.bool true) s1) (h3:qn 13 [iV au,iV 1,iV 14] s1 (.bool true) s1) (h4:qn 13 [iV aj,iV 0,iV 20000] s1 (.bool true) s1) (hL:yCB σ.y 0 s1 Pr P0) (kr:∀ i2_1' σ',Pr i2_1' σ'→zTE σ.y i2_1' σ' Q) (k0:∀ σ',P0 σ'→zTF σ.y σ' Q) (u1:¬ 12<(ab:Int):=by omega) (u2:¬ 6<(aa:Int):=by omega),qi 25 [qh (wkc am af ab ad ae aa ac ao au aj)] σ Q:=
 let s1:=σ.row (wkc am af ab ad ae aa ac ao au aj) 6;fun h1 h2 h3 h4 hL kr k0 u1 u2=>zI [.g,.g,.g,.l (.slice af ab ad),.g,.b false,.g,.g,.l (.slice ae aa ac),.g,.b false,.g,.g,.l (iV am),.c (.bool true) s1,.g,.g,.g,.l (iV ao),.c (.bool true) s1,.g,.g,.g,.g,.l (iV au),.c (.bool true) s1,.g,.g,.g,.g,.l (iV aj),.c (.bool true) s1,.g,.g,.g,.lf 145 (zFJ σ.y 0) [zIW σ.y Pr,zIX σ.y P0]] (kd (an6 ((zC _ _ _).rw.ld vI (k:=1) rfl:lz s1 22 (qg σ.y 1) (.slice af ab ad)) (zT u1) ((zC _ _ _).rw.ld zGA (k:=2) rfl:lz s1 23 (qg σ.y 2) (.slice ae aa ac)) (zT u2) ((zC _ _ _).rw.ld zS (k:=0) rfl:lz s1 3 (qg σ.y 0) (iV am)) h1 (an6 ((zC _ _ _).rw.ld zS (k:=3) rfl:lz s1 3 (qg σ.y 3) (iV ao)) h2 ((zC _ _ _).rw.ld zS (k:=4) rfl:lz s1 3 (qg σ.y 4) (iV au)) h3 ((zC _ _ _).rw.ld zS (k:=5) rfl:lz s1 3 (qg σ.y 5) (iV aj)) h4 (ai (ai tt (ai (arf (zFJ σ.y 0)) hL)) (ai (kz1 kr) (ai (kz0 k0) trivial))))))
theorem xAV:let s1:=σ.row (wkc am af ab ad ae aa ac ao au aj) 6;∀ (h1:qn 13 [iV am,iV 1,iV 7] s1 (.bool true) s1) (h2:qn 13 [iV ao,iV 0,iV 3000] s1 (.bool true) s1) (h3:qn 13 [iV au,iV 1,iV 14] s1 (.bool true) s1) (h4:qn 13 [iV aj,iV 0,iV 20000] s1 (.bool false) s1) (nx:Q (iV 1) s1) (u1:¬ 12<(ab:Int):=by omega) (u2:¬ 6<(aa:Int):=by omega),qi 25 [qh (wkc am af ab ad ae aa ac ao au aj)] σ Q:=
 let s1:=σ.row (wkc am af ab ad ae aa ac ao au aj) 6;fun h1 h2 h3 h4 nx u1 u2=>zI [.g,.g,.g,.l (.slice af ab ad),.g,.b false,.g,.g,.l (.slice ae aa ac),.g,.b false,.g,.g,.l (iV am),.c (.bool true) s1,.g,.g,.g,.l (iV ao),.c (.bool true) s1,.g,.g,.g,.g,.l (iV au),.c (.bool true) s1,.g,.g,.g,.g,.l (iV aj),.c (.bool false) s1,.g,.g,.g] (kd (an6 ((zC _ _ _).rw.ld vI (k:=1) rfl:lz s1 22 (qg σ.y 1) (.slice af ab ad)) (zT u1) ((zC _ _ _).rw.ld zGA (k:=2) rfl:lz s1 23 (qg σ.y 2) (.slice ae aa ac)) (zT u2) ((zC _ _ _).rw.ld zS (k:=0) rfl:lz s1 3 (qg σ.y 0) (iV am)) h1 (an6 ((zC _ _ _).rw.ld zS (k:=3) rfl:lz s1 3 (qg σ.y 3) (iV ao)) h2 ((zC _ _ _).rw.ld zS (k:=4) rfl:lz s1 3 (qg σ.y 4) (iV au)) h3 ((zC _ _ _).rw.ld zS (k:=5) rfl:lz s1 3 (qg σ.y 5) (iV aj)) h4 nx)))
theorem xAU:let s1:=σ.row (wkc am af ab ad ae aa ac ao au aj) 6;∀ (h1:qn 13 [iV am,iV 1,iV 7] s1 (.bool true) s1) (h2:qn 13 [iV ao,iV 0,iV 3000] s1 (.bool true) s1) (h3:qn 13 [iV au,iV 1,iV 14] s1 (.bool false) s1) (nx:Q (iV 1) s1) (u1:¬ 12<(ab:Int):=by omega) (u2:¬ 6<(aa:Int):=by omega),qi 25 [qh (wkc am af ab ad ae aa ac ao au aj)] σ Q:=
 let s1:=σ.row (wkc am af ab ad ae aa ac ao au aj) 6;fun h1 h2 h3 nx u1 u2=>zI [.g,.g,.g,.l (.slice af ab ad),.g,.b false,.g,.g,.l (.slice ae aa ac),.g,.b false,.g,.g,.l (iV am),.c (.bool true) s1,.g,.g,.g,.l (iV ao),.c (.bool true) s1,.g,.g,.g,.g,.l (iV au),.c (.bool false) s1,.g,.g,.g,.g,.g] (kd (an4 ((zC _ _ _).rw.ld vI (k:=1) rfl:lz s1 22 (qg σ.y 1) (.slice af ab ad)) (zT u1) ((zC _ _ _).rw.ld zGA (k:=2) rfl:lz s1 23 (qg σ.y 2) (.slice ae aa ac)) (zT u2) (an6 ((zC _ _ _).rw.ld zS (k:=0) rfl:lz s1 3 (qg σ.y 0) (iV am)) h1 ((zC _ _ _).rw.ld zS (k:=3) rfl:lz s1 3 (qg σ.y 3) (iV ao)) h2 ((zC _ _ _).rw.ld zS (k:=4) rfl:lz s1 3 (qg σ.y 4) (iV au)) h3 nx)))
theorem xAT:let s1:=σ.row (wkc am af ab ad ae aa ac ao au aj) 6;∀ (h1:qn 13 [iV am,iV 1,iV 7] s1 (.bool true) s1) (h2:qn 13 [iV ao,iV 0,iV 3000] s1 (.bool false) s1) (nx:Q (iV 1) s1) (u1:¬ 12<(ab:Int):=by omega) (u2:¬ 6<(aa:Int):=by omega),qi 25 [qh (wkc am af ab ad ae aa ac ao au aj)] σ Q:=
 let s1:=σ.row (wkc am af ab ad ae aa ac ao au aj) 6;fun h1 h2 nx u1 u2=>zI [.g,.g,.g,.l (.slice af ab ad),.g,.b false,.g,.g,.l (.slice ae aa ac),.g,.b false,.g,.g,.l (iV am),.c (.bool true) s1,.g,.g,.g,.l (iV ao),.c (.bool false) s1,.g,.g,.g,.g,.g,.g,.g] (kd (an2 ((zC _ _ _).rw.ld vI (k:=1) rfl:lz s1 22 (qg σ.y 1) (.slice af ab ad)) (zT u1) (an6 ((zC _ _ _).rw.ld zGA (k:=2) rfl:lz s1 23 (qg σ.y 2) (.slice ae aa ac)) (zT u2) ((zC _ _ _).rw.ld zS (k:=0) rfl:lz s1 3 (qg σ.y 0) (iV am)) h1 ((zC _ _ _).rw.ld zS (k:=3) rfl:lz s1 3 (qg σ.y 3) (iV ao)) h2 nx)))
theorem xAS:let s1:=σ.row (wkc am af ab ad ae aa ac ao au aj) 6;∀ (h1:qn 13 [iV am,iV 1,iV 7] s1 (.bool false) s1) (nx:Q (iV 1) s1) (u1:¬ 12<(ab:Int):=by omega) (u2:¬ 6<(aa:Int):=by omega),qi 25 [qh (wkc am af ab ad ae aa ac ao au aj)] σ Q:=
 let s1:=σ.row (wkc am af ab ad ae aa ac ao au aj) 6;fun h1 nx u1 u2=>zI [.g,.g,.g,.l (.slice af ab ad),.g,.b false,.g,.g,.l (.slice ae aa ac),.g,.b false,.g,.g,.l (iV am),.c (.bool false) s1,.g,.g,.g,.g,.g,.g,.g,.g] (kd (an6 ((zC _ _ _).rw.ld vI (k:=1) rfl:lz s1 22 (qg σ.y 1) (.slice af ab ad)) (zT u1) ((zC _ _ _).rw.ld zGA (k:=2) rfl:lz s1 23 (qg σ.y 2) (.slice ae aa ac)) (zT u2) ((zC _ _ _).rw.ld zS (k:=0) rfl:lz s1 3 (qg σ.y 0) (iV am)) h1 nx))
theorem yGG (nx:Q (iV aH) σ):zTE BA aH σ Q :=
 sK [] nx
theorem yGI (hb:∀ k dS σ,Inv k dS σ→uV BA dS σ (NX1 Inv k) Qr Q2):∀ k dS σ,Inv k dS σ→yCA BA dS σ Qr Q2 :=
 xJ (ai zCK (ai (wI 2) trivial)) hb
@[reducible] def Ha1 (σ:St) (BA lI cI lE cB lB cA lF cD:Nat) (eK:Addr) (dS nH nI nJ nM:Int) (qB qA qC:oAa):Prop:=qp σ 23 ⟨BA,2,none⟩=some (.slice (some eK) lI cI)∧qp σ 70 (zN eK (Int.toNat dS*6))=some (.agg ⟨zM qB lE cB qA lB cA qC lF cD nH nI nJ⟩)∧qn 42 [.slice qB lE cB,iV 0,iV 15] ((σ.row (zM none 0 0 none 0 0 none 0 0 0 0 0) 6).own σ.y (zM qB lE cB qA lB cA qC lF cD nH nI nJ) 6) (.bool true) ((σ.row (zM none 0 0 none 0 0 none 0 0 0 0 0) 6).own σ.y (zM qB lE cB qA lB cA qC lF cD nH nI nJ) 6)∧qp ((σ.row (zM none 0 0 none 0 0 none 0 0 0 0 0) 6).own σ.y (zM qB lE cB qA lB cA qC lF cD nH nI nJ) 6) 3 ⟨BA,0,none⟩=some (iV nM)∧(qn 42 [.slice qA lB cA,iV 0,iV (nM-1)] ((σ.row (zM none 0 0 none 0 0 none 0 0 0 0 0) 6).own σ.y (zM qB lE cB qA lB cA qC lF cD nH nI nJ) 6) (.bool true) ((σ.row (zM none 0 0 none 0 0 none 0 0 0 0 0) 6).own σ.y (zM qB lE cB qA lB cA qC lF cD nH nI nJ) 6))
theorem yRI:let Y1:=σ.row (zM none 0 0 none 0 0 none 0 0 0 0 0) 6;let Y2:=Y1.own σ.y (zM qB lE cB qA lB cA qC lF cD nH nI nJ) 6;∀ (H:Ha1 σ BA lI cI lE cB lB cA lF cD eK dS nH nI nJ nM qB qA qC) (h6:qn 42 [.slice qC lF cD,iV 0,iV (nM-1)] Y2 (.bool true) Y2) (h7:qn 13 [iV nH,iV (-10080),iV 1440] Y2 (.bool true) Y2) (h8:qn 13 [iV nI,iV 0,iV 14] Y2 (.bool true) Y2) (h9:lz Y2 3 (qg BA 5) (iV nBE)) (h10:qn 13 [iV nJ,iV 0,iV nBE] Y2 (.bool true) Y2) (nx:Nx (dS+1) Y2) (u1:dS<(lI:Int):=by omega) (u2:Ix dS lI:=by omega) (u3:I6 (nM-1):=by omega) (u4:I6 (dS+1):=by omega),uV BA dS σ Nx Qr Q2:=
 fun H h6 h7 h8 h9 h10 nx u1 u2 u3 u4=>match H with|⟨h1,h2,h3,h4,h5⟩=>let s1:=σ.row (zM none 0 0 none 0 0 none 0 0 0 0 0) 6;let s2:=s1.own σ.y (zM qB lE cB qA lB cA qC lF cD nH nI nJ) 6;kO 0 (dS+1) [.g,.g,.l (.slice (some eK) lI cI),.g,.b true,.g,.l (.slice (some eK) lI cI),.g,.i,.l (qh (zM qB lE cB qA lB cA qC lF cD nH nI nJ)),.g,.e undef s2,.g,.l (.slice qB lE cB),.c (.bool true) s2,.g,.g,.g,.l (.slice qA lB cA),.g,.l (iV nM),.n (nM-1),.c (.bool true) s2,.g,.g,.g,.g,.l (.slice qC lF cD),.g,.l (iV nM),.n (nM-1),.c (.bool true) s2,.g,.g,.g,.g,.l (iV nH),.c (.bool true) s2,.g,.g,.g,.g,.l (iV nI),.c (.bool true) s2,.g,.g,.g,.g,.l (iV nJ),.g,.l (iV nBE),.c (.bool true) s2,.g,.g,.g,.n (dS+1),.g] (fun _ f=>an6 h1 (zR u1) h1 u2 h2 ((zC _ _ _).store (vs:=(zM qB lE cB qA lB cA qC lF cD nH nI nJ)) rfl zAI rfl (nle rfl) rfl:qq (evL [pq σ.y 0,qh (zM qB lE cB qA lB cA qC lF cD nH nI nJ)]) s1 (.store 70 (.tmp 0) (.tmp 1))=some (undef,s2)) (an6 ((zC _ _ _).put.rw.ld yV (k:=0) rfl:lz s2 29 (qg σ.y 0) (.slice qB lE cB)) h3 ((zC _ _ _).put.rw.ld yV (k:=1) rfl:lz s2 29 (qg σ.y 1) (.slice qA lB cA)) h4 (w64 u3) h5 (an6 ((zC _ _ _).put.rw.ld yV (k:=2) rfl:lz s2 29 (qg σ.y 2) (.slice qC lF cD)) h4 (w64 u3) h6 ((zC _ _ _).put.rw.ld zS (k:=3) rfl:lz s2 3 (qg σ.y 3) (iV nH)) h7 (an6 ((zC _ _ _).put.rw.ld zS (k:=4) rfl:lz s2 3 (qg σ.y 4) (iV nI)) h8 ((zC _ _ _).put.rw.ld zS (k:=5) rfl:lz s2 3 (qg σ.y 5) (iV nJ)) h9 h10 (w64 u4) f)))) nx
theorem yRH:let Y1:=σ.row (zM none 0 0 none 0 0 none 0 0 0 0 0) 6;let Y2:=Y1.own σ.y (zM qB lE cB qA lB cA qC lF cD nH nI nJ) 6;∀ (H:Ha1 σ BA lI cI lE cB lB cA lF cD eK dS nH nI nJ nM qB qA qC) (h6:qn 42 [.slice qC lF cD,iV 0,iV (nM-1)] Y2 (.bool true) Y2) (h7:qn 13 [iV nH,iV (-10080),iV 1440] Y2 (.bool true) Y2) (h8:qn 13 [iV nI,iV 0,iV 14] Y2 (.bool true) Y2) (h9:lz Y2 3 (qg BA 5) (iV nBE)) (h10:qn 13 [iV nJ,iV 0,iV nBE] Y2 (.bool false) Y2) (nx:Qr (1:Int) Y2) (u1:dS<(lI:Int):=by omega) (u2:Ix dS lI:=by omega) (u3:I6 (nM-1):=by omega),uV BA dS σ Nx Qr Q2:=
 fun H h6 h7 h8 h9 h10 nx u1 u2 u3=>match H with|⟨h1,h2,h3,h4,h5⟩=>let s1:=σ.row (zM none 0 0 none 0 0 none 0 0 0 0 0) 6;let s2:=s1.own σ.y (zM qB lE cB qA lB cA qC lF cD nH nI nJ) 6;kO 1 (1:Int) [.g,.g,.l (.slice (some eK) lI cI),.g,.b true,.g,.l (.slice (some eK) lI cI),.g,.i,.l (qh (zM qB lE cB qA lB cA qC lF cD nH nI nJ)),.g,.e undef s2,.g,.l (.slice qB lE cB),.c (.bool true) s2,.g,.g,.g,.l (.slice qA lB cA),.g,.l (iV nM),.n (nM-1),.c (.bool true) s2,.g,.g,.g,.g,.l (.slice qC lF cD),.g,.l (iV nM),.n (nM-1),.c (.bool true) s2,.g,.g,.g,.g,.l (iV nH),.c (.bool true) s2,.g,.g,.g,.g,.l (iV nI),.c (.bool true) s2,.g,.g,.g,.g,.l (iV nJ),.g,.l (iV nBE),.c (.bool false) s2,.g,.g,.g] (fun _ f=>an5 h1 (zR u1) h1 u2 h2 (an6 ((zC _ _ _).store (vs:=(zM qB lE cB qA lB cA qC lF cD nH nI nJ)) rfl zAI rfl (nle rfl) rfl:qq (evL [pq σ.y 0,qh (zM qB lE cB qA lB cA qC lF cD nH nI nJ)]) s1 (.store 70 (.tmp 0) (.tmp 1))=some (undef,s2)) ((zC _ _ _).put.rw.ld yV (k:=0) rfl:lz s2 29 (qg σ.y 0) (.slice qB lE cB)) h3 ((zC _ _ _).put.rw.ld yV (k:=1) rfl:lz s2 29 (qg σ.y 1) (.slice qA lB cA)) h4 (w64 u3) (an6 h5 ((zC _ _ _).put.rw.ld yV (k:=2) rfl:lz s2 29 (qg σ.y 2) (.slice qC lF cD)) h4 (w64 u3) h6 ((zC _ _ _).put.rw.ld zS (k:=3) rfl:lz s2 3 (qg σ.y 3) (iV nH)) (an6 h7 ((zC _ _ _).put.rw.ld zS (k:=4) rfl:lz s2 3 (qg σ.y 4) (iV nI)) h8 ((zC _ _ _).put.rw.ld zS (k:=5) rfl:lz s2 3 (qg σ.y 5) (iV nJ)) h9 h10 f)))) nx
theorem yRG:let Y1:=σ.row (zM none 0 0 none 0 0 none 0 0 0 0 0) 6;let Y2:=Y1.own σ.y (zM qB lE cB qA lB cA qC lF cD nH nI nJ) 6;∀ (H:Ha1 σ BA lI cI lE cB lB cA lF cD eK dS nH nI nJ nM qB qA qC) (h6:qn 42 [.slice qC lF cD,iV 0,iV (nM-1)] Y2 (.bool true) Y2) (h7:qn 13 [iV nH,iV (-10080),iV 1440] Y2 (.bool true) Y2) (h8:qn 13 [iV nI,iV 0,iV 14] Y2 (.bool false) Y2) (nx:Qr (1:Int) Y2) (u1:dS<(lI:Int):=by omega) (u2:Ix dS lI:=by omega) (u3:I6 (nM-1):=by omega),uV BA dS σ Nx Qr Q2:=
 fun H h6 h7 h8 nx u1 u2 u3=>match H with|⟨h1,h2,h3,h4,h5⟩=>let s1:=σ.row (zM none 0 0 none 0 0 none 0 0 0 0 0) 6;let s2:=s1.own σ.y (zM qB lE cB qA lB cA qC lF cD nH nI nJ) 6;kO 1 (1:Int) [.g,.g,.l (.slice (some eK) lI cI),.g,.b true,.g,.l (.slice (some eK) lI cI),.g,.i,.l (qh (zM qB lE cB qA lB cA qC lF cD nH nI nJ)),.g,.e undef s2,.g,.l (.slice qB lE cB),.c (.bool true) s2,.g,.g,.g,.l (.slice qA lB cA),.g,.l (iV nM),.n (nM-1),.c (.bool true) s2,.g,.g,.g,.g,.l (.slice qC lF cD),.g,.l (iV nM),.n (nM-1),.c (.bool true) s2,.g,.g,.g,.g,.l (iV nH),.c (.bool true) s2,.g,.g,.g,.g,.l (iV nI),.c (.bool false) s2,.g,.g,.g,.g,.g] (fun _ f=>an2 h1 (zR u1) (an6 h1 u2 h2 ((zC _ _ _).store (vs:=(zM qB lE cB qA lB cA qC lF cD nH nI nJ)) rfl zAI rfl (nle rfl) rfl:qq (evL [pq σ.y 0,qh (zM qB lE cB qA lB cA qC lF cD nH nI nJ)]) s1 (.store 70 (.tmp 0) (.tmp 1))=some (undef,s2)) ((zC _ _ _).put.rw.ld yV (k:=0) rfl:lz s2 29 (qg σ.y 0) (.slice qB lE cB)) h3 (an6 ((zC _ _ _).put.rw.ld yV (k:=1) rfl:lz s2 29 (qg σ.y 1) (.slice qA lB cA)) h4 (w64 u3) h5 ((zC _ _ _).put.rw.ld yV (k:=2) rfl:lz s2 29 (qg σ.y 2) (.slice qC lF cD)) h4 (an6 (w64 u3) h6 ((zC _ _ _).put.rw.ld zS (k:=3) rfl:lz s2 3 (qg σ.y 3) (iV nH)) h7 ((zC _ _ _).put.rw.ld zS (k:=4) rfl:lz s2 3 (qg σ.y 4) (iV nI)) h8 f)))) nx
theorem yRF:let Y1:=σ.row (zM none 0 0 none 0 0 none 0 0 0 0 0) 6;let Y2:=Y1.own σ.y (zM qB lE cB qA lB cA qC lF cD nH nI nJ) 6;∀ (H:Ha1 σ BA lI cI lE cB lB cA lF cD eK dS nH nI nJ nM qB qA qC) (h6:qn 42 [.slice qC lF cD,iV 0,iV (nM-1)] Y2 (.bool true) Y2) (h7:qn 13 [iV nH,iV (-10080),iV 1440] Y2 (.bool false) Y2) (nx:Qr (1:Int) Y2) (u1:dS<(lI:Int):=by omega) (u2:Ix dS lI:=by omega) (u3:I6 (nM-1):=by omega),uV BA dS σ Nx Qr Q2:=
 fun H h6 h7 nx u1 u2 u3=>match H with|⟨h1,h2,h3,h4,h5⟩=>let s1:=σ.row (zM none 0 0 none 0 0 none 0 0 0 0 0) 6;let s2:=s1.own σ.y (zM qB lE cB qA lB cA qC lF cD nH nI nJ) 6;kO 1 (1:Int) [.g,.g,.l (.slice (some eK) lI cI),.g,.b true,.g,.l (.slice (some eK) lI cI),.g,.i,.l (qh (zM qB lE cB qA lB cA qC lF cD nH nI nJ)),.g,.e undef s2,.g,.l (.slice qB lE cB),.c (.bool true) s2,.g,.g,.g,.l (.slice qA lB cA),.g,.l (iV nM),.n (nM-1),.c (.bool true) s2,.g,.g,.g,.g,.l (.slice qC lF cD),.g,.l (iV nM),.n (nM-1),.c (.bool true) s2,.g,.g,.g,.g,.l (iV nH),.c (.bool false) s2,.g,.g,.g,.g,.g,.g,.g] (fun _ f=>an6 h1 (zR u1) h1 u2 h2 ((zC _ _ _).store (vs:=(zM qB lE cB qA lB cA qC lF cD nH nI nJ)) rfl zAI rfl (nle rfl) rfl:qq (evL [pq σ.y 0,qh (zM qB lE cB qA lB cA qC lF cD nH nI nJ)]) s1 (.store 70 (.tmp 0) (.tmp 1))=some (undef,s2)) (an6 ((zC _ _ _).put.rw.ld yV (k:=0) rfl:lz s2 29 (qg σ.y 0) (.slice qB lE cB)) h3 ((zC _ _ _).put.rw.ld yV (k:=1) rfl:lz s2 29 (qg σ.y 1) (.slice qA lB cA)) h4 (w64 u3) h5 (an6 ((zC _ _ _).put.rw.ld yV (k:=2) rfl:lz s2 29 (qg σ.y 2) (.slice qC lF cD)) h4 (w64 u3) h6 ((zC _ _ _).put.rw.ld zS (k:=3) rfl:lz s2 3 (qg σ.y 3) (iV nH)) h7 f))) nx
theorem yRE:let Y1:=σ.row (zM none 0 0 none 0 0 none 0 0 0 0 0) 6;let Y2:=Y1.own σ.y (zM qB lE cB qA lB cA qC lF cD nH nI nJ) 6;∀ (H:Ha1 σ BA lI cI lE cB lB cA lF cD eK dS nH nI nJ nM qB qA qC) (h6:qn 42 [.slice qC lF cD,iV 0,iV (nM-1)] Y2 (.bool false) Y2) (nx:Qr (1:Int) Y2) (u1:dS<(lI:Int):=by omega) (u2:Ix dS lI:=by omega) (u3:I6 (nM-1):=by omega),uV BA dS σ Nx Qr Q2:=
 fun H h6 nx u1 u2 u3=>match H with|⟨h1,h2,h3,h4,h5⟩=>let s1:=σ.row (zM none 0 0 none 0 0 none 0 0 0 0 0) 6;let s2:=s1.own σ.y (zM qB lE cB qA lB cA qC lF cD nH nI nJ) 6;kO 1 (1:Int) [.g,.g,.l (.slice (some eK) lI cI),.g,.b true,.g,.l (.slice (some eK) lI cI),.g,.i,.l (qh (zM qB lE cB qA lB cA qC lF cD nH nI nJ)),.g,.e undef s2,.g,.l (.slice qB lE cB),.c (.bool true) s2,.g,.g,.g,.l (.slice qA lB cA),.g,.l (iV nM),.n (nM-1),.c (.bool true) s2,.g,.g,.g,.g,.l (.slice qC lF cD),.g,.l (iV nM),.n (nM-1),.c (.bool false) s2,.g,.g,.g,.g,.g,.g,.g,.g,.g] (fun _ f=>an4 h1 (zR u1) h1 u2 (an6 h2 ((zC _ _ _).store (vs:=(zM qB lE cB qA lB cA qC lF cD nH nI nJ)) rfl zAI rfl (nle rfl) rfl:qq (evL [pq σ.y 0,qh (zM qB lE cB qA lB cA qC lF cD nH nI nJ)]) s1 (.store 70 (.tmp 0) (.tmp 1))=some (undef,s2)) ((zC _ _ _).put.rw.ld yV (k:=0) rfl:lz s2 29 (qg σ.y 0) (.slice qB lE cB)) h3 ((zC _ _ _).put.rw.ld yV (k:=1) rfl:lz s2 29 (qg σ.y 1) (.slice qA lB cA)) h4 (an6 (w64 u3) h5 ((zC _ _ _).put.rw.ld yV (k:=2) rfl:lz s2 29 (qg σ.y 2) (.slice qC lF cD)) h4 (w64 u3) h6 f))) nx
theorem yRD:let s1:=σ.row (zM none 0 0 none 0 0 none 0 0 0 0 0) 6;let s2:=s1.own σ.y (zM qB lE cB qA lB cA qC lF cD nH nI nJ) 6;∀ (h1:lz σ 23 (qg BA 2) (.slice (some eK) lI cI)) (h2:lz σ 70 (zN eK (Int.toNat dS*6)) (qh (zM qB lE cB qA lB cA qC lF cD nH nI nJ))) (h3:qn 42 [.slice qB lE cB,iV 0,iV 15] s2 (.bool true) s2) (h4:lz s2 3 (qg BA 0) (iV nM)) (h5:qn 42 [.slice qA lB cA,iV 0,iV (nM-1)] s2 (.bool false) s2) (nx:Qr (1:Int) s2) (u1:dS<(lI:Int):=by omega) (u2:Ix dS lI:=by omega) (u3:I6 (nM-1):=by omega),uV BA dS σ Nx Qr Q2:=
 let s1:=σ.row (zM none 0 0 none 0 0 none 0 0 0 0 0) 6;let s2:=s1.own σ.y (zM qB lE cB qA lB cA qC lF cD nH nI nJ) 6;fun h1 h2 h3 h4 h5 nx u1 u2 u3=>kO 1 (1:Int) [.g,.g,.l (.slice (some eK) lI cI),.g,.b true,.g,.l (.slice (some eK) lI cI),.g,.i,.l (qh (zM qB lE cB qA lB cA qC lF cD nH nI nJ)),.g,.e undef s2,.g,.l (.slice qB lE cB),.c (.bool true) s2,.g,.g,.g,.l (.slice qA lB cA),.g,.l (iV nM),.n (nM-1),.c (.bool false) s2,.g,.g,.g,.g,.g,.g,.g,.g,.g,.g,.g] (fun _ f=>an6 h1 (zR u1) h1 u2 h2 ((zC _ _ _).store (vs:=(zM qB lE cB qA lB cA qC lF cD nH nI nJ)) rfl zAI rfl (nle rfl) rfl:qq (evL [pq σ.y 0,qh (zM qB lE cB qA lB cA qC lF cD nH nI nJ)]) s1 (.store 70 (.tmp 0) (.tmp 1))=some (undef,s2)) (an6 ((zC _ _ _).put.rw.ld yV (k:=0) rfl:lz s2 29 (qg σ.y 0) (.slice qB lE cB)) h3 ((zC _ _ _).put.rw.ld yV (k:=1) rfl:lz s2 29 (qg σ.y 1) (.slice qA lB cA)) h4 (w64 u3) h5 f)) nx
theorem yRC:let s1:=σ.row (zM none 0 0 none 0 0 none 0 0 0 0 0) 6;let s2:=s1.own σ.y (zM qB lE cB qA lB cA qC lF cD nH nI nJ) 6;∀ (h1:lz σ 23 (qg BA 2) (.slice (some eK) lI cI)) (h2:lz σ 70 (zN eK (Int.toNat dS*6)) (qh (zM qB lE cB qA lB cA qC lF cD nH nI nJ))) (h3:qn 42 [.slice qB lE cB,iV 0,iV 15] s2 (.bool false) s2) (nx:Qr (1:Int) s2) (u1:dS<(lI:Int):=by omega) (u2:Ix dS lI:=by omega),uV BA dS σ Nx Qr Q2:=
 let s1:=σ.row (zM none 0 0 none 0 0 none 0 0 0 0 0) 6;let s2:=s1.own σ.y (zM qB lE cB qA lB cA qC lF cD nH nI nJ) 6;fun h1 h2 h3 nx u1 u2=>kO 1 (1:Int) [.g,.g,.l (.slice (some eK) lI cI),.g,.b true,.g,.l (.slice (some eK) lI cI),.g,.i,.l (qh (zM qB lE cB qA lB cA qC lF cD nH nI nJ)),.g,.e undef s2,.g,.l (.slice qB lE cB),.c (.bool false) s2,.g,.g,.g,.g,.g,.g,.g,.g,.g,.g,.g,.g] (fun _ f=>an2 h1 (zR u1) (an6 h1 u2 h2 ((zC _ _ _).store (vs:=(zM qB lE cB qA lB cA qC lF cD nH nI nJ)) rfl zAI rfl (nle rfl) rfl:qq (evL [pq σ.y 0,qh (zM qB lE cB qA lB cA qC lF cD nH nI nJ)]) s1 (.store 70 (.tmp 0) (.tmp 1))=some (undef,s2)) ((zC _ _ _).put.rw.ld yV (k:=0) rfl:lz s2 29 (qg σ.y 0) (.slice qB lE cB)) h3 f)) nx
theorem yRB (h1:lz σ 23 (qg BA 2) (.slice qH lI cI)) (nx:Q2 σ) (u1:¬ dS<(lI:Int):=by omega):uV BA dS σ Nx Qr Q2 :=
 kO 2 () [.g,.g,.l (.slice qH lI cI),.g,.b false] (fun _ f=>an2 h1 (zT u1) f) nx
theorem yGH (hL:yCA BA 0 σ Pr P2) (kr:∀ i2_2' σ',Pr i2_2' σ'→zTC BA i2_2' σ' Q) (k2:∀ σ',P2 σ'→zTD BA σ' Q):zTF BA σ Q :=
 sK [.g,.lf 145 (zFI BA 0) [zIU BA Pr,zIV BA P2]] (ai (ai tt (ai (arf (zFI BA 0)) hL)) (ai (kz1 kr) (ai (kz0 k2) trivial)))
theorem yGE (nx:Q (iV i2_2) σ):zTC BA i2_2 σ Q :=
 sK [] nx
theorem yGF (nx:Q (iV 0) σ):zTD BA σ Q :=
 sK [.g] nx
end
def vV (w:Wk) (d:Dty):Bool:=inB d.day 0 (w.M-1) && (inB d.on 0 1439 && (inB d.lo d.on d.hi && (!decide (d.on+1440<d.hi) && inB d.route 0 15)))
def zAB (w:Wk) (x:Drv):Bool:=wO x.J 0 15 && (wO x.qa 0 (w.M-1) && (wO x.qb 0 (w.M-1) && (inB x.off (-10080) 1440 && (inB x.row 0 14 && inB x.used 0 w.j))))
def vL (w:Wk):Bool:=inB w.M 1 7 && (inB w.rest 0 3000 && (inB w.run 1 14 && inB w.j 0 20000))
def yM (w:Wk):Int:=if 12<w.N.length∨6<w.L.length then 3 else if vL w && (w.N.all (vV w) && w.L.all (zAB w)) then 0 else 1
theorem yAB {α:Type} {xs:List α} {i:Nat} {f:α→Bool} {x:α} (h:xs[i]?=some x) (ha:(xs.take i).all f=true) (hf:f x=true):(xs.take (i+1)).all f=true:=by
 rw [wU h,List.all_append,ha];simp [hf]
theorem yWA {α:Type} {xs:List α} {f:α→Bool} {x:α} (h:x∈xs) (hf:f x=false):xs.all f=false:=by
 cases ha:xs.all f with
 | false=>rfl
 | true=>rw [List.all_eq_true.1 ha x h] at hf;cases hf
def uX (w:Wk):Prop:=∀ x∈w.L,x.J.length≤1000∧x.qa.length≤1000∧x.qb.length≤1000
section
variable {σ:St} {w:Wk} {p q:Option Addr} {l m c d:Nat}
theorem xHH (h:WkP σ 35 70 w p l q m) (hsh:uX w):zD Try.prog 25 [.agg ⟨wkc w.M p l c q m d w.rest w.run w.j⟩] σ (iV (yM w)) σ:=by
 have hwp:=h;have hn:=h.len.1;have hm:=h.len.2;by_cases h12:12<l
 ·have:yM w=3:=by unfold yM;rw [if_pos (.inl (by omega))]
  rw [this];exact (xAY ⟨rfl,Nat.le_refl _⟩ (by omega)).pure
 by_cases h6:6<m
 ·have:yM w=3:=by unfold yM;rw [if_pos (.inr (by omega))]
  rw [this];exact (xAX ⟨rfl,Nat.le_refl _⟩ (by omega) (by omega)).pure
 have hf0:yM w=if vL w && (w.N.all (vV w) && w.L.all (zAB w)) then 0 else 1:=by unfold yM;rw [if_neg (by omega)]
 obtain ⟨σ1,hσ1⟩:∃ σ1,σ1=σ.re.row (wkc w.M p l c q m d w.rest w.run w.j) 6:=⟨_,rfl⟩;have cin:∀ {τ:St} {n lo hi:Int} {b:Bool},inB n lo hi=b→zD Try.prog 13 [iV n,iV lo,iV hi] τ (.bool b) τ:=fun e=>e ▸ xTJ
 have no:vL w=false→yM w=1:=fun e=>by rw [hf0,e];rfl
 cases b1:inB w.M 1 7 with
 | false=>rw [no (by unfold vL;rw [b1];rfl)];exact (xAS (cin b1) ⟨rfl,Nat.le_refl _⟩ (by omega) (by omega)).pure
 | true =>
 cases b2:inB w.rest 0 3000 with
 | false=>rw [no (by unfold vL;rw [b1,b2];rfl)];exact (xAT (cin b1) (cin b2) ⟨rfl,Nat.le_refl _⟩ (by omega) (by omega)).pure
 | true =>
 cases b3:inB w.run 1 14 with
 | false=>rw [no (by unfold vL;rw [b1,b2,b3];rfl)];exact (xAU (cin b1) (cin b2) (cin b3) ⟨rfl,Nat.le_refl _⟩ (by omega) (by omega)).pure
 | true =>
 cases b4:inB w.j 0 20000 with
 | false=>rw [no (by unfold vL;rw [b1,b2,b3,b4];rfl)];exact (xAV (cin b1) (cin b2) (cin b3) (cin b4) ⟨rfl,Nat.le_refl _⟩ (by omega) (by omega)).pure
 | true =>
 have hh:vL w=true:=by unfold vL;rw [b1,b2,b3,b4];rfl
 have hd:=zAG.1 b1;have N1:New σ.re σ1:=by rw [hσ1];exact New.row _ _ _
 have L1:Le σ σ1:=(le0 σ).trans N1.le;have hW:∀ {τ},Le σ1 τ→Row τ ⟨σ.re.y,0,none⟩ (wkc w.M p l c q m d w.rest w.run w.j):=fun {τ} hN=>by
  have:=xQ σ.re (wkc w.M p l c q m d w.rest w.run w.j) 6;rw [← hσ1] at this;exact this.le hN
 have nod:∀ x∈w.N,vV w x=false→yM w=1:=fun x hx e=>by rw [hf0,yWA hx e];simp
 have nov:∀ x∈w.L,zAB w x=false→yM w=1:=fun x hx e=>by rw [hf0,yWA hx e];simp
 have lw1:∀ {τ:St},New σ1 τ→σ.y≤τ.low:=fun hN=>(N1.trans hN).lw
 refine zP.pure (xAW (Pr:=fun n τ=>New σ1 τ∧n=yM w) (P0:=fun τ=>New σ1 τ∧w.N.all (vV w)=true) (cin b1) (cin b2) (cin b3) (cin b4)
  (yGJ (Inv:=fun k i τ=>New σ1 τ∧∃ j:Nat,i=j∧j+k=l∧(w.N.take j).all (vV w)=true) ?_ l 0 _ ⟨by rw [← hσ1];exact New.refl _,0,rfl,by omega,rfl⟩)
  (fun n τ h=>yGG ⟨by rw [h.2],lw1 h.1⟩) (fun τ h=>?_) (by omega) (by omega))
 ·rintro k i τ ⟨hN,j,rfl,hk,ha⟩;have ldD:zB Try.prog τ 22 ⟨σ.re.y,1,none⟩=some (.slice p l c):=(hW hN.le).ld vI rfl;by_cases hj:j<l;rotate_left
  ·exact yRJ ldD ⟨hN,by rwa [List.take_of_length_le (by omega)] at ha⟩ (by omega)
  obtain ⟨a,rfl,x,hx,lx⟩:=vQ (SlV.le h.dty (L1.trans hN.le)) hj;have hmem:=List.mem_of_getElem? hx;have hN2:New σ1 ((τ.row (zF 0 0 0 0 0) 5).own τ.y (zF x.day x.on x.lo x.hi x.route) 5):=hN.row'.own hN.le.y;have ld0:zB Try.prog ((τ.row (zF 0 0 0 0 0) 5).own τ.y (zF x.day x.on x.lo x.hi x.route) 5) 3 ⟨σ.re.y,0,none⟩=some (iV w.M):=(hW hN2.le).ld zS rfl;cases c1:inB x.day 0 (w.M-1) with
  | false=>exact yRK ldD lx ld0 (cin c1) ⟨hN2,(nod x hmem (by unfold vV;rw [c1];rfl)).symm⟩ (by omega) (by omega) (by omega)
  | true =>
  cases c2:inB x.on 0 1439 with
  | false=>exact yRL ldD lx ld0 (cin c1) (cin c2) ⟨hN2,(nod x hmem (by unfold vV;rw [c1,c2];rfl)).symm⟩ (by omega) (by omega) (by omega)
  | true =>
  have hon:=zAG.1 c2;cases c3:inB x.lo x.on x.hi with
  | false=>exact yRM ⟨ldD,lx,ld0,(cin c1),(cin c2)⟩ (cin c3) ⟨hN2,(nod x hmem (by unfold vV;rw [c1,c2,c3];rfl)).symm⟩ (by omega) (by omega) (by omega)
  | true =>
  by_cases c4:x.on+1440<x.hi
  ·exact yRP ⟨ldD,lx,ld0,(cin c1),(cin c2)⟩ (cin c3) ⟨hN2,(nod x hmem (by unfold vV;rw [c1,c2,c3,decide_eq_true c4];rfl)).symm⟩ (by omega) (by omega) (by omega) (by omega) c4
  cases c5:inB x.route 0 15 with
  | false=>exact yRN ⟨ldD,lx,ld0,(cin c1),(cin c2)⟩ (cin c3) (cin c5) ⟨hN2,(nod x hmem (by unfold vV;rw [c1,c2,c3,decide_eq_false c4,c5];rfl)).symm⟩ (by omega) (by omega) (by omega) (by omega) c4
  | true=>exact yRO ⟨ldD,lx,ld0,(cin c1),(cin c2)⟩ (cin c3) (cin c5) ⟨k-1,by omega,hN2,j+1,by omega,by omega,yAB hx ha (by unfold vV;rw [c1,c2,c3,decide_eq_false c4,c5];rfl)⟩ (by omega) (by omega) (by omega) (by omega) c4 (by omega)
 ·obtain ⟨hN1,hdu⟩:=h;refine yGH (Pr:=fun n τ=>New σ1 τ∧n=yM w) (P2:=fun τ=>New σ1 τ∧w.L.all (zAB w)=true)
   (yGI (Inv:=fun k i τ=>New σ1 τ∧∃ j:Nat,i=j∧j+k=m∧(w.L.take j).all (zAB w)=true) ?_ m 0 _ ⟨hN1,0,rfl,by omega,rfl⟩)
   (fun n τ h=>yGE ⟨by rw [h.2],lw1 h.1⟩) (fun τ h=>yGF ⟨by rw [hf0,hh,hdu,h.2];rfl,lw1 h.1⟩)
  rintro k i τ ⟨hN,j,rfl,hk,ha⟩;have ldV:zB Try.prog τ 23 ⟨σ.re.y,2,none⟩=some (.slice q m d):=(hW hN.le).ld zGA rfl;by_cases hj:j<m;rotate_left
  ·exact yRB ldV ⟨hN,by rwa [List.take_of_length_le (by omega)] at ha⟩ (by omega)
  have LL:=L1.trans hN.le;obtain ⟨vs,hv1,hv2,hv3⟩:=hwp.drv;obtain ⟨qa,rfl,_⟩:=hv1.some hj;have hx:w.L[j]?=some w.L[j]:=by simp
  obtain ⟨x,hxe⟩:∃ x,x=w.L[j]:=⟨_,rfl⟩;rw [← hxe] at hx;obtain ⟨v,g1,p',l',c',r',n',d',s',j',e',rfl,hkn,hlv,hws⟩:=hv3 j _ hx;have lx:zB Try.prog τ 70 (zN qa (Int.toNat (j:Int)*6))=some (.agg ⟨zM p' l' c' r' n' d' s' j' e' x.off x.row x.used⟩):=(hv1.le LL).at rfl g1;have hmem:=List.mem_of_getElem? hx;have hsx:=hsh x hmem;have hN2:New σ1 ((τ.row (zM none 0 0 none 0 0 none 0 0 0 0 0) 6).own τ.y (zM p' l' c' r' n' d' s' j' e' x.off x.row x.used) 6):=hN.row'.own hN.le.y;have L2:=L1.trans hN2.le;have ld0:zB Try.prog ((τ.row (zM none 0 0 none 0 0 none 0 0 0 0 0) 6).own τ.y (zM p' l' c' r' n' d' s' j' e' x.off x.row x.used) 6) 3 ⟨σ.re.y,0,none⟩=some (iV w.M):=(hW hN2.le).ld zS rfl;have ld5:zB Try.prog ((τ.row (zM none 0 0 none 0 0 none 0 0 0 0 0) 6).own τ.y (zM p' l' c' r' n' d' s' j' e' x.off x.row x.used) 6) 3 ⟨σ.re.y,5,none⟩=some (iV w.j):=(hW hN2.le).ld zS rfl;have k1:=zWX (c:=c') (lo:=0) (hi:=15) (SlV.le hkn L2) (by have:=hkn.len;omega);have k2:=zWX (c:=d') (lo:=0) (hi:=w.M-1) (SlV.le hlv L2) (by have:=hlv.len;omega);have k3:=zWX (c:=e') (lo:=0) (hi:=w.M-1) (SlV.le hws L2) (by have:=hws.len;omega);cases c1:wO x.J 0 15 with
  | false=>rw [c1] at k1;exact yRC ldV lx k1 ⟨hN2,(nov x hmem (by unfold zAB;rw [c1];rfl)).symm⟩ (by omega) (by omega)
  | true =>
  cases c2:wO x.qa 0 (w.M-1) with
  | false=>rw [c1] at k1;rw [c2] at k2;exact yRD ldV lx k1 ld0 k2 ⟨hN2,(nov x hmem (by unfold zAB;rw [c1,c2];rfl)).symm⟩ (by omega) (by omega) (by omega)
  | true =>
  cases c3:wO x.qb 0 (w.M-1) with
  | false=>rw [c1] at k1;rw [c2] at k2;rw [c3] at k3;exact yRE ⟨ldV,lx,k1,ld0,k2⟩ k3 ⟨hN2,(nov x hmem (by unfold zAB;rw [c1,c2,c3];rfl)).symm⟩ (by omega) (by omega) (by omega)
  | true =>
  rw [c1] at k1;rw [c2] at k2;rw [c3] at k3;cases c4:inB x.off (-10080) 1440 with
  | false=>exact yRF ⟨ldV,lx,k1,ld0,k2⟩ k3 (cin c4) ⟨hN2,(nov x hmem (by unfold zAB;rw [c1,c2,c3,c4];rfl)).symm⟩ (by omega) (by omega) (by omega)
  | true =>
  cases c5:inB x.row 0 14 with
  | false=>exact yRG ⟨ldV,lx,k1,ld0,k2⟩ k3 (cin c4) (cin c5) ⟨hN2,(nov x hmem (by unfold zAB;rw [c1,c2,c3,c4,c5];rfl)).symm⟩ (by omega) (by omega) (by omega)
  | true =>
  cases c6:inB x.used 0 w.j with
  | false=>exact yRH ⟨ldV,lx,k1,ld0,k2⟩ k3 (cin c4) (cin c5) ld5 (cin c6) ⟨hN2,(nov x hmem (by unfold zAB;rw [c1,c2,c3,c4,c5,c6];rfl)).symm⟩ (by omega) (by omega) (by omega)
  | true=>exact yRI ⟨ldV,lx,k1,ld0,k2⟩ k3 (cin c4) (cin c5) ld5 (cin c6) ⟨k-1,by omega,hN2,j+1,by omega,by omega,yAB hx ha (by unfold zAB;rw [c1,c2,c3,c4,c5,c6];rfl)⟩ (by omega) (by omega) (by omega) (by omega)
end
section
noncomputable section
variable (s:oAa) (s_l s_c:Nat) (f:FuncId) (v:Int) (f_a f_c:lVa) (aG bM:Int) (Q:Int→St→Prop) (q0:St→Prop) (σ:St) (Nx Qr:Int→St→Prop) (q2:vPa) (Q0:St→Prop)
def yYT:Code:=(Code.part [1,0,1,0,0] (qj 77))
def zPJ:lNa:=[(0,.slice s s_l s_c),(1,.func (.func f) ⟨f_a⟩ ⟨f_c⟩),(7,iV (s_l:Int)),(8,iV aG)]
def xKZ:Alt:=⟨Int,.normal,fun t=>zPJ s s_l s_c f f_a f_c t,fun t=>[],fun t σ=>Q t σ⟩
def yEB (s:oAa) (s_l s_c:Nat) (f:FuncId) (f_a f_c:lVa) (bM:Int):lNa:=[(4,iV bM)]
def zRM:Alt:=⟨Int,.ret,fun t=>yEB s s_l s_c f f_a f_c t,fun t=>[],fun t σ=>Q t σ⟩
def yEC (s:oAa) (s_l s_c:Nat) (f:FuncId) (f_a f_c:lVa):lNa:=[]
def zRN:Alt:=⟨Unit,(.exit 0),fun t=>yEC s s_l s_c f f_a f_c,fun t=>[],fun t σ=>q0 σ⟩
def zVK:Prop:=qk ql none yYT 19 (zPJ s s_l s_c f f_a f_c aG) [] [xKZ s s_l s_c f f_a f_c Nx,zRM s s_l s_c f f_a f_c Qr,zRN s s_l s_c f f_a f_c Q0] σ
def yYU:Prop:=qm ql none yYT 19 (zPJ s s_l s_c f f_a f_c aG) [] [zRM s s_l s_c f f_a f_c Qr,zRN s s_l s_c f f_a f_c Q0] σ
def yED:Prop:=kZ ql (qj 77) [1,0,1,0] (qo 77 q2) .ret 19 (yEB s s_l s_c f f_a f_c bM) σ
def yEE:Prop:=kZ ql (qj 77) [1,0,1,0] (qo 77 q2) (.exit 0) 19 (yEC s s_l s_c f f_a f_c) σ
def yYM:Code:=(Code.part [1,0,1,0,0] (qj 78))
def zPG:lNa:=[(0,.slice s s_l s_c),(1,.func (.func f) ⟨f_a⟩ ⟨f_c⟩),(7,iV (s_l:Int)),(8,iV aG)]
def xKN:Alt:=⟨Int,.normal,fun t=>zPG s s_l s_c f f_a f_c t,fun t=>[],fun t σ=>Q t σ⟩
def yDP (s:oAa) (s_l s_c:Nat) (f:FuncId) (f_a f_c:lVa) (bM:Int):lNa:=[(4,iV bM)]
def zRF:Alt:=⟨Int,.ret,fun t=>yDP s s_l s_c f f_a f_c t,fun t=>[],fun t σ=>Q t σ⟩
def yDQ (s:oAa) (s_l s_c:Nat) (f:FuncId) (f_a f_c:lVa):lNa:=[]
def zRG:Alt:=⟨Unit,(.exit 0),fun t=>yDQ s s_l s_c f f_a f_c,fun t=>[],fun t σ=>q0 σ⟩
def zVH:Prop:=qk ql none yYM 19 (zPG s s_l s_c f f_a f_c aG) [] [xKN s s_l s_c f f_a f_c Nx,zRF s s_l s_c f f_a f_c Qr,zRG s s_l s_c f f_a f_c Q0] σ
def yYN:Prop:=qm ql none yYM 19 (zPG s s_l s_c f f_a f_c aG) [] [zRF s s_l s_c f f_a f_c Qr,zRG s s_l s_c f f_a f_c Q0] σ
def yDR:Prop:=kZ ql (qj 78) [1,0,1,0] (qo 78 q2) .ret 19 (yDP s s_l s_c f f_a f_c bM) σ
def yDS:Prop:=kZ ql (qj 78) [1,0,1,0] (qo 78 q2) (.exit 0) 19 (yDQ s s_l s_c f f_a f_c) σ
def yYR:Code:=(Code.part [1,0,1,0,0] (qj 79))
def zPI:lNa:=[(0,.slice s s_l s_c),(1,.func (.func f) ⟨[]⟩ ⟨f_c⟩),(7,iV (s_l:Int)),(8,iV aG)]
def xKV:Alt:=⟨Int,.normal,fun t=>zPI s s_l s_c f f_c t,fun t=>[],fun t σ=>Q t σ⟩
def yDX (s:oAa) (s_l s_c:Nat) (f:FuncId) (f_c:lVa) (bM:Int):lNa:=[(4,iV bM)]
def zRK:Alt:=⟨Int,.ret,fun t=>yDX s s_l s_c f f_c t,fun t=>[],fun t σ=>Q t σ⟩
def yDY (s:oAa) (s_l s_c:Nat) (f:FuncId) (f_c:lVa):lNa:=[]
def zRL:Alt:=⟨Unit,(.exit 0),fun t=>yDY s s_l s_c f f_c,fun t=>[],fun t σ=>q0 σ⟩
def zVJ:Prop:=qk ql none yYR 19 (zPI s s_l s_c f f_c aG) [] [xKV s s_l s_c f f_c Nx,zRK s s_l s_c f f_c Qr,zRL s s_l s_c f f_c Q0] σ
def yYS:Prop:=qm ql none yYR 19 (zPI s s_l s_c f f_c aG) [] [zRK s s_l s_c f f_c Qr,zRL s s_l s_c f f_c Q0] σ
def yDZ:Prop:=kZ ql (qj 79) [1,0,1,0] (qo 79 q2) .ret 19 (yDX s s_l s_c f f_c bM) σ
def yEA:Prop:=kZ ql (qj 79) [1,0,1,0] (qo 79 q2) (.exit 0) 19 (yDY s s_l s_c f f_c) σ
def yMK:Code:=(Code.part [1,0,1,0,0] (qj 55))
def zJL:lNa:=[(0,.slice s s_l s_c),(1,iV v),(7,iV (s_l:Int)),(8,iV aG)]
def xDD:Alt:=⟨Int,.normal,fun t=>zJL s s_l s_c v t,fun t=>[],fun t σ=>Q t σ⟩
def zYF (s:oAa) (s_l s_c:Nat) (v bM:Int):lNa:=[(4,iV bM)]
def zNL:Alt:=⟨Int,.ret,fun t=>zYF s s_l s_c v t,fun t=>[],fun t σ=>Q t σ⟩
def zYG (s:oAa) (s_l s_c:Nat) (v:Int):lNa:=[]
def zNM:Alt:=⟨Unit,(.exit 0),fun t=>zYG s s_l s_c v,fun t=>[],fun t σ=>q0 σ⟩
def zPF:Prop:=qk ql none yMK 19 (zJL s s_l s_c v aG) [] [xDD s s_l s_c v Nx,zNL s s_l s_c v Qr,zNM s s_l s_c v Q0] σ
def yML:Prop:=qm ql none yMK 19 (zJL s s_l s_c v aG) [] [zNL s s_l s_c v Qr,zNM s s_l s_c v Q0] σ
def zYH:Prop:=kZ ql (qj 55) [1,0,1,0] (qo 55 q2) .ret 19 (zYF s s_l s_c v bM) σ
def zYI:Prop:=kZ ql (qj 55) [1,0,1,0] (qo 55 q2) (.exit 0) 19 (zYG s s_l s_c v) σ
end
variable {s dP dO eA l qD qE qF af ae aR aW bj q1:oAa} {s_l s_c cx cy bZ cj dp dv l_l l_c lA cE lG cF lH cG ab ad aa ac aI aJ aK aL aN aO l1 c1:Nat} {f f1 right:FuncId} {f_c f_a dY f1_a bG dA:lVa} {n1 eX fS dw dy dN eW eV eB aG nG nF nD nB nA bM nE am ao au aj aB aM ay az aE bH bI bz x n v:Int} {σ:St} {Q:vPa} {v0 s_a:Addr} {Inv:Nat→Int→St→Prop} {Qr Nx Pr:Int→St→Prop} {Q0 P0:St→Prop} {b3 b6 b2 b1:Bool}
theorem xRT (h1:qn 77 [.slice s s_l s_c,.func (.func f) ⟨f_a⟩ ⟨f_c⟩] σ (iV n1) σ) (nx:Q (.bool true) σ) (u1:0≤n1:=by omega):qi 56 [.slice s s_l s_c,.func (.func f) ⟨f_a⟩ ⟨f_c⟩] σ Q :=
 zI [.g,.g,.g,.c (iV n1) σ,.b true,.g] (kd (an2 h1 (yE u1) nx))
theorem xRS (h1:qn 77 [.slice s s_l s_c,.func (.func f) ⟨f_a⟩ ⟨f_c⟩] σ (iV n1) σ) (nx:Q (.bool false) σ) (u1:¬ 0≤n1:=by omega):qi 56 [.slice s s_l s_c,.func (.func f) ⟨f_a⟩ ⟨f_c⟩] σ Q :=
 zI [.g,.g,.g,.c (iV n1) σ,.b false,.g] (kd (an2 h1 (yJ u1) nx))
theorem xNG:let s1:=σ.row (zF eX fS dw dy dN) 5;∀ (h1:lz s1 80 v0 (.func (.func f1) ⟨f1_a⟩ ⟨dY⟩)) (h2:qn f1 (f1_a ++ (qh (zF eX fS dw dy dN)::dY)) s1 (.bool true) s1) (nx:Q (.bool false) s1),qi 57 [qh (zF eX fS dw dy dN),pz v0] σ Q:=
 let s1:=σ.row (zF eX fS dw dy dN) 5;fun h1 h2 nx=>zI [.g,.g,.l (.func (.func f1) ⟨f1_a⟩ ⟨dY⟩),.l (qh (zF eX fS dw dy dN)),.c (.bool true) s1,.g,.g] (kd (an3 h1 ((zC _ _ _).rw.ldN zMO uE (k:=0) rfl rfl (nle rfl):lz s1 69 (qg σ.y 0) (qh (zF eX fS dw dy dN))) h2 nx))
theorem xNF:let s1:=σ.row (zF eX fS dw dy dN) 5;∀ (h1:lz s1 80 v0 (.func (.func f1) ⟨f1_a⟩ ⟨dY⟩)) (h2:qn f1 (f1_a ++ (qh (zF eX fS dw dy dN)::dY)) s1 (.bool false) s1) (nx:Q (.bool true) s1),qi 57 [qh (zF eX fS dw dy dN),pz v0] σ Q:=
 let s1:=σ.row (zF eX fS dw dy dN) 5;fun h1 h2 nx=>zI [.g,.g,.l (.func (.func f1) ⟨f1_a⟩ ⟨dY⟩),.l (qh (zF eX fS dw dy dN)),.c (.bool false) s1,.g,.g] (kd (an3 h1 ((zC _ _ _).rw.ldN zMO uE (k:=0) rfl rfl (nle rfl):lz s1 69 (qg σ.y 0) (qh (zF eX fS dw dy dN))) h2 nx))
theorem xRL (h1:qn 78 [.slice s s_l s_c,.func (.func f) ⟨f_a⟩ ⟨f_c⟩] σ (iV n1) σ) (nx:Q (.bool true) σ) (u1:0≤n1:=by omega):qi 58 [.slice s s_l s_c,.func (.func f) ⟨f_a⟩ ⟨f_c⟩] σ Q :=
 zI [.g,.g,.g,.c (iV n1) σ,.b true,.g] (kd (an2 h1 (yE u1) nx))
theorem xRK (h1:qn 78 [.slice s s_l s_c,.func (.func f) ⟨f_a⟩ ⟨f_c⟩] σ (iV n1) σ) (nx:Q (.bool false) σ) (u1:¬ 0≤n1:=by omega):qi 58 [.slice s s_l s_c,.func (.func f) ⟨f_a⟩ ⟨f_c⟩] σ Q :=
 zI [.g,.g,.g,.c (iV n1) σ,.b false,.g] (kd (an2 h1 (yJ u1) nx))
theorem xNA:let s1:=σ.row (zM dP cx cy dO bZ cj eA dp dv eW eV eB) 6;∀ (h1:lz s1 82 v0 (.func (.func f1) ⟨f1_a⟩ ⟨dY⟩)) (h2:qn f1 (f1_a ++ (qh (zM dP cx cy dO bZ cj eA dp dv eW eV eB)::dY)) s1 (.bool true) s1) (nx:Q (.bool false) s1),qi 59 [qh (zM dP cx cy dO bZ cj eA dp dv eW eV eB),pz v0] σ Q:=
 let s1:=σ.row (zM dP cx cy dO bZ cj eA dp dv eW eV eB) 6;fun h1 h2 nx=>zI [.g,.g,.l (.func (.func f1) ⟨f1_a⟩ ⟨dY⟩),.l (qh (zM dP cx cy dO bZ cj eA dp dv eW eV eB)),.c (.bool true) s1,.g,.g] (kd (an3 h1 ((zC _ _ _).rw.ldN yFB zES (k:=0) rfl rfl (nle rfl):lz s1 61 (qg σ.y 0) (qh (zM dP cx cy dO bZ cj eA dp dv eW eV eB))) h2 nx))
theorem xMZ:let s1:=σ.row (zM dP cx cy dO bZ cj eA dp dv eW eV eB) 6;∀ (h1:lz s1 82 v0 (.func (.func f1) ⟨f1_a⟩ ⟨dY⟩)) (h2:qn f1 (f1_a ++ (qh (zM dP cx cy dO bZ cj eA dp dv eW eV eB)::dY)) s1 (.bool false) s1) (nx:Q (.bool true) s1),qi 59 [qh (zM dP cx cy dO bZ cj eA dp dv eW eV eB),pz v0] σ Q:=
 let s1:=σ.row (zM dP cx cy dO bZ cj eA dp dv eW eV eB) 6;fun h1 h2 nx=>zI [.g,.g,.l (.func (.func f1) ⟨f1_a⟩ ⟨dY⟩),.l (qh (zM dP cx cy dO bZ cj eA dp dv eW eV eB)),.c (.bool false) s1,.g,.g] (kd (an3 h1 ((zC _ _ _).rw.ldN yFB zES (k:=0) rfl rfl (nle rfl):lz s1 61 (qg σ.y 0) (qh (zM dP cx cy dO bZ cj eA dp dv eW eV eB))) h2 nx))
theorem xSR:let Y1:=σ.row [.func (.func right) ⟨dA⟩ ⟨bG⟩] 1;∀ (h1:qn 56 [.slice l l_l l_c,.func (.func 57) ⟨[]⟩ ⟨[pq σ.y 0]⟩] Y1 (.bool true) Y1) (nx:Q (.bool false) Y1),qi 38 [.slice l l_l l_c,.func (.func right) ⟨dA⟩ ⟨bG⟩] σ Q:=
 fun h1 nx=>zI [.g,.g,.g,.g,.c (.bool true) (σ.row [.func (.func right) ⟨dA⟩ ⟨bG⟩] 1),.g,.g] (kd (ai h1 nx))
theorem xSQ:let Y1:=σ.row [.func (.func right) ⟨dA⟩ ⟨bG⟩] 1;∀ (h1:qn 56 [.slice l l_l l_c,.func (.func 57) ⟨[]⟩ ⟨[pq σ.y 0]⟩] Y1 (.bool false) Y1) (nx:Q (.bool true) Y1),qi 38 [.slice l l_l l_c,.func (.func right) ⟨dA⟩ ⟨bG⟩] σ Q:=
 fun h1 nx=>zI [.g,.g,.g,.g,.c (.bool false) (σ.row [.func (.func right) ⟨dA⟩ ⟨bG⟩] 1),.g,.g] (kd (ai h1 nx))
theorem xSJ:let Y1:=σ.row [.func (.func right) ⟨dA⟩ ⟨bG⟩] 1;∀ (h1:qn 58 [.slice l l_l l_c,.func (.func 59) ⟨[]⟩ ⟨[pq σ.y 0]⟩] Y1 (.bool true) Y1) (nx:Q (.bool false) Y1),qi 40 [.slice l l_l l_c,.func (.func right) ⟨dA⟩ ⟨bG⟩] σ Q:=
 fun h1 nx=>zI [.g,.g,.g,.g,.c (.bool true) (σ.row [.func (.func right) ⟨dA⟩ ⟨bG⟩] 1),.g,.g] (kd (ai h1 nx))
theorem xSI:let Y1:=σ.row [.func (.func right) ⟨dA⟩ ⟨bG⟩] 1;∀ (h1:qn 58 [.slice l l_l l_c,.func (.func 59) ⟨[]⟩ ⟨[pq σ.y 0]⟩] Y1 (.bool false) Y1) (nx:Q (.bool true) Y1),qi 40 [.slice l l_l l_c,.func (.func right) ⟨dA⟩ ⟨bG⟩] σ Q:=
 fun h1 nx=>zI [.g,.g,.g,.g,.c (.bool false) (σ.row [.func (.func right) ⟨dA⟩ ⟨bG⟩] 1),.g,.g] (kd (ai h1 nx))
theorem yTZ (hb:∀ k aG σ,Inv k aG σ→zVK s s_l s_c f f_a f_c aG σ (NX1 Inv k) Qr Q0):∀ k aG σ,Inv k aG σ→yYU s s_l s_c f f_a f_c aG σ Qr Q0 :=
 xJ (ai zCK (ai (wI 0) trivial)) hb
theorem xKY (h1:lz σ 69 (zN s_a (Int.toNat aG*5)) (qh (zF nG nF nD nB nA))) (h2:qn f (f_a ++ (qh (zF nG nF nD nB nA)::f_c)) σ (.bool true) σ) (nx:Qr aG σ) (u1:aG<(s_l:Int):=by omega) (u2:Ix aG s_l:=by omega):zVK (some s_a) s_l s_c f f_a f_c aG σ Nx Qr Q0 :=
 kO 1 aG [.b true,.g,.g,.g,.g,.g,.i,.l (qh (zF nG nF nD nB nA)),.c (.bool true) σ,.g,.g] (fun _ f=>an4 (zR u1) u2 h1 h2 f) nx
theorem xKX (h1:lz σ 69 (zN s_a (Int.toNat aG*5)) (qh (zF nG nF nD nB nA))) (h2:qn f (f_a ++ (qh (zF nG nF nD nB nA)::f_c)) σ (.bool false) σ) (nx:Nx (aG+1) σ) (u1:aG<(s_l:Int):=by omega) (u2:Ix aG s_l:=by omega) (u3:I6 (aG+1):=by omega):zVK (some s_a) s_l s_c f f_a f_c aG σ Nx Qr Q0 :=
 kO 0 (aG+1) [.b true,.g,.g,.g,.g,.g,.i,.l (qh (zF nG nF nD nB nA)),.c (.bool false) σ,.n (aG+1),.g] (fun _ f=>an5 (zR u1) u2 h1 h2 (w64 u3) f) nx
theorem xKW (nx:Q0 σ) (u1:¬ aG<(s_l:Int):=by omega):zVK s s_l s_c f f_a f_c aG σ Nx Qr Q0 :=
 kO 2 () [.b false] (fun _ f=>ai (zT u1) f) nx
theorem xQZ (hL:yYU s s_l s_c f f_a f_c 0 σ Pr P0) (kr:∀ i4_1' σ',Pr i4_1' σ'→yED s s_l s_c f f_a f_c i4_1' σ' Q) (k0:∀ σ',P0 σ'→yEE s s_l s_c f f_a f_c σ' Q):qi 77 [.slice s s_l s_c,.func (.func f) ⟨f_a⟩ ⟨f_c⟩] σ Q :=
 zI [.g,.g,.g,.g,.lf 19 (zPJ s s_l s_c f f_a f_c 0) [zRM s s_l s_c f f_a f_c Pr,zRN s s_l s_c f f_a f_c P0]] (kd (ai (ai tt (ai (arf (zPJ s s_l s_c f f_a f_c 0)) hL)) (ai (kz1 kr) (ai (kz0 k0) trivial))))
theorem yTX (nx:Q (iV bM) σ):yED s s_l s_c f f_a f_c bM σ Q :=
 sK [] nx
theorem yTY (nx:Q (iV (-1)) σ):yEE s s_l s_c f f_a f_c σ Q :=
 sK [.g] nx
theorem yTR (hb:∀ k aG σ,Inv k aG σ→zVH s s_l s_c f f_a f_c aG σ (NX1 Inv k) Qr Q0):∀ k aG σ,Inv k aG σ→yYN s s_l s_c f f_a f_c aG σ Qr Q0 :=
 xJ (ai zCK (ai (wI 0) trivial)) hb
theorem xKM (h1:lz σ 61 (zN s_a (Int.toNat aG*6)) (qh (zM qD lA cE qE lG cF qF lH cG nB nA nE))) (h2:qn f (f_a ++ (qh (zM qD lA cE qE lG cF qF lH cG nB nA nE)::f_c)) σ (.bool true) σ) (nx:Qr aG σ) (u1:aG<(s_l:Int):=by omega) (u2:Ix aG s_l:=by omega):zVH (some s_a) s_l s_c f f_a f_c aG σ Nx Qr Q0 :=
 kO 1 aG [.b true,.g,.g,.g,.g,.g,.i,.l (qh (zM qD lA cE qE lG cF qF lH cG nB nA nE)),.c (.bool true) σ,.g,.g] (fun _ f=>an4 (zR u1) u2 h1 h2 f) nx
theorem xKL (h1:lz σ 61 (zN s_a (Int.toNat aG*6)) (qh (zM qD lA cE qE lG cF qF lH cG nB nA nE))) (h2:qn f (f_a ++ (qh (zM qD lA cE qE lG cF qF lH cG nB nA nE)::f_c)) σ (.bool false) σ) (nx:Nx (aG+1) σ) (u1:aG<(s_l:Int):=by omega) (u2:Ix aG s_l:=by omega) (u3:I6 (aG+1):=by omega):zVH (some s_a) s_l s_c f f_a f_c aG σ Nx Qr Q0 :=
 kO 0 (aG+1) [.b true,.g,.g,.g,.g,.g,.i,.l (qh (zM qD lA cE qE lG cF qF lH cG nB nA nE)),.c (.bool false) σ,.n (aG+1),.g] (fun _ f=>an5 (zR u1) u2 h1 h2 (w64 u3) f) nx
theorem xKK (nx:Q0 σ) (u1:¬ aG<(s_l:Int):=by omega):zVH s s_l s_c f f_a f_c aG σ Nx Qr Q0 :=
 kO 2 () [.b false] (fun _ f=>ai (zT u1) f) nx
theorem xQX (hL:yYN s s_l s_c f f_a f_c 0 σ Pr P0) (kr:∀ i4_1' σ',Pr i4_1' σ'→yDR s s_l s_c f f_a f_c i4_1' σ' Q) (k0:∀ σ',P0 σ'→yDS s s_l s_c f f_a f_c σ' Q):qi 78 [.slice s s_l s_c,.func (.func f) ⟨f_a⟩ ⟨f_c⟩] σ Q :=
 zI [.g,.g,.g,.g,.lf 19 (zPG s s_l s_c f f_a f_c 0) [zRF s s_l s_c f f_a f_c Pr,zRG s s_l s_c f f_a f_c P0]] (kd (ai (ai tt (ai (arf (zPG s s_l s_c f f_a f_c 0)) hL)) (ai (kz1 kr) (ai (kz0 k0) trivial))))
theorem yTP (nx:Q (iV bM) σ):yDR s s_l s_c f f_a f_c bM σ Q :=
 sK [] nx
theorem yTQ (nx:Q (iV (-1)) σ):yDS s s_l s_c f f_a f_c σ Q :=
 sK [.g] nx
theorem xFZ:let s1:=σ.row (wkc am af ab ad ae aa ac ao au aj) 6;let s2:=s1.row (zF aB aM ay az aE) 5;∀ (h1:qn 30 [iV aB,iV 0,iV (am-1)] s2 (.bool true) s2) (h2:qn 30 [iV aM,iV 0,iV 1439] s2 (.bool true) s2) (h3:qn 30 [iV aE,iV 0,iV 15] s2 (.bool b3) s2) (nx:Q (.bool b3) s2) (u1:I6 (am-1):=by omega) (u2:aM≤ay:=by omega) (u3:ay≤az:=by omega) (u4:I6 (aM+1440):=by omega) (u5:az≤(aM+1440):=by omega),qi 39 [qh (wkc am af ab ad ae aa ac ao au aj),qh (zF aB aM ay az aE)] σ Q:=
 let s1:=σ.row (wkc am af ab ad ae aa ac ao au aj) 6;let s2:=s1.row (zF aB aM ay az aE) 5;let s3:=σ.y+1;fun h1 h2 h3 nx u1 u2 u3 u4 u5=>zI [.g,.g,.g,.g,.l (iV aB),.g,.l (iV am),.n (am-1),.c (.bool true) s2,.g,.g,.l (iV aM),.c (.bool true) s2,.g,.g,.g,.l (iV aM),.g,.g,.l (iV ay),.b true,.g,.g,.g,.g,.l (iV ay),.g,.g,.l (iV az),.b true,.g,.g,.g,.g,.l (iV az),.g,.l (iV aM),.n (aM+1440),.b true,.g,.g,.g,.l (iV aE),.c (.bool b3) s2,.g,.g] (kd (an6 ((zC _ _ _).rw.ld zS (k:=0) rfl:lz s2 3 (qg s3 0) (iV aB)) ((zC _ _ _).row.rw.ld zS (k:=0) rfl:lz s2 3 (qg σ.y 0) (iV am)) (w64 u1) h1 ((zC _ _ _).rw.ld zS (k:=1) rfl:lz s2 3 (qg s3 1) (iV aM)) h2 (an6 ((zC _ _ _).rw.ld zS (k:=1) rfl:lz s2 3 (qg s3 1) (iV aM)) ((zC _ _ _).rw.ld zS (k:=2) rfl:lz s2 3 (qg s3 2) (iV ay)) (yE u2) ((zC _ _ _).rw.ld zS (k:=2) rfl:lz s2 3 (qg s3 2) (iV ay)) ((zC _ _ _).rw.ld zS (k:=3) rfl:lz s2 3 (qg s3 3) (iV az)) (yE u3) (an6 ((zC _ _ _).rw.ld zS (k:=3) rfl:lz s2 3 (qg s3 3) (iV az)) ((zC _ _ _).rw.ld zS (k:=1) rfl:lz s2 3 (qg s3 1) (iV aM)) (w64 u4) (yE u5) ((zC _ _ _).rw.ld zS (k:=4) rfl:lz s2 3 (qg s3 4) (iV aE)) h3 nx))))
theorem xFY:let s1:=σ.row (wkc am af ab ad ae aa ac ao au aj) 6;let s2:=s1.row (zF aB aM ay az aE) 5;∀ (h1:qn 30 [iV aB,iV 0,iV (am-1)] s2 (.bool true) s2) (h2:qn 30 [iV aM,iV 0,iV 1439] s2 (.bool true) s2) (nx:Q (.bool false) s2) (u1:I6 (am-1):=by omega) (u2:aM≤ay:=by omega) (u3:ay≤az:=by omega) (u4:I6 (aM+1440):=by omega) (u5:¬ az≤(aM+1440):=by omega),qi 39 [qh (wkc am af ab ad ae aa ac ao au aj),qh (zF aB aM ay az aE)] σ Q:=
 let s1:=σ.row (wkc am af ab ad ae aa ac ao au aj) 6;let s2:=s1.row (zF aB aM ay az aE) 5;let s3:=σ.y+1;fun h1 h2 nx u1 u2 u3 u4 u5=>zI [.g,.g,.g,.g,.l (iV aB),.g,.l (iV am),.n (am-1),.c (.bool true) s2,.g,.g,.l (iV aM),.c (.bool true) s2,.g,.g,.g,.l (iV aM),.g,.g,.l (iV ay),.b true,.g,.g,.g,.g,.l (iV ay),.g,.g,.l (iV az),.b true,.g,.g,.g,.g,.l (iV az),.g,.l (iV aM),.n (aM+1440),.b false,.g,.g,.g,.g] (kd (an4 ((zC _ _ _).rw.ld zS (k:=0) rfl:lz s2 3 (qg s3 0) (iV aB)) ((zC _ _ _).row.rw.ld zS (k:=0) rfl:lz s2 3 (qg σ.y 0) (iV am)) (w64 u1) h1 (an6 ((zC _ _ _).rw.ld zS (k:=1) rfl:lz s2 3 (qg s3 1) (iV aM)) h2 ((zC _ _ _).rw.ld zS (k:=1) rfl:lz s2 3 (qg s3 1) (iV aM)) ((zC _ _ _).rw.ld zS (k:=2) rfl:lz s2 3 (qg s3 2) (iV ay)) (yE u2) ((zC _ _ _).rw.ld zS (k:=2) rfl:lz s2 3 (qg s3 2) (iV ay)) (an6 ((zC _ _ _).rw.ld zS (k:=3) rfl:lz s2 3 (qg s3 3) (iV az)) (yE u3) ((zC _ _ _).rw.ld zS (k:=3) rfl:lz s2 3 (qg s3 3) (iV az)) ((zC _ _ _).rw.ld zS (k:=1) rfl:lz s2 3 (qg s3 1) (iV aM)) (w64 u4) (yJ u5) nx))))
theorem xFX:let s1:=σ.row (wkc am af ab ad ae aa ac ao au aj) 6;let s2:=s1.row (zF aB aM ay az aE) 5;∀ (h1:qn 30 [iV aB,iV 0,iV (am-1)] s2 (.bool true) s2) (h2:qn 30 [iV aM,iV 0,iV 1439] s2 (.bool true) s2) (nx:Q (.bool false) s2) (u1:I6 (am-1):=by omega) (u2:aM≤ay:=by omega) (u3:¬ ay≤az:=by omega),qi 39 [qh (wkc am af ab ad ae aa ac ao au aj),qh (zF aB aM ay az aE)] σ Q:=
 let s1:=σ.row (wkc am af ab ad ae aa ac ao au aj) 6;let s2:=s1.row (zF aB aM ay az aE) 5;let s3:=σ.y+1;fun h1 h2 nx u1 u2 u3=>zI [.g,.g,.g,.g,.l (iV aB),.g,.l (iV am),.n (am-1),.c (.bool true) s2,.g,.g,.l (iV aM),.c (.bool true) s2,.g,.g,.g,.l (iV aM),.g,.g,.l (iV ay),.b true,.g,.g,.g,.g,.l (iV ay),.g,.g,.l (iV az),.b false,.g,.g,.g,.g,.g,.g] (kd (an6 ((zC _ _ _).rw.ld zS (k:=0) rfl:lz s2 3 (qg s3 0) (iV aB)) ((zC _ _ _).row.rw.ld zS (k:=0) rfl:lz s2 3 (qg σ.y 0) (iV am)) (w64 u1) h1 ((zC _ _ _).rw.ld zS (k:=1) rfl:lz s2 3 (qg s3 1) (iV aM)) h2 (an6 ((zC _ _ _).rw.ld zS (k:=1) rfl:lz s2 3 (qg s3 1) (iV aM)) ((zC _ _ _).rw.ld zS (k:=2) rfl:lz s2 3 (qg s3 2) (iV ay)) (yE u2) ((zC _ _ _).rw.ld zS (k:=2) rfl:lz s2 3 (qg s3 2) (iV ay)) ((zC _ _ _).rw.ld zS (k:=3) rfl:lz s2 3 (qg s3 3) (iV az)) (yJ u3) nx)))
theorem xFW:let s1:=σ.row (wkc am af ab ad ae aa ac ao au aj) 6;let s2:=s1.row (zF aB aM ay az aE) 5;∀ (h1:qn 30 [iV aB,iV 0,iV (am-1)] s2 (.bool true) s2) (h2:qn 30 [iV aM,iV 0,iV 1439] s2 (.bool true) s2) (nx:Q (.bool false) s2) (u1:I6 (am-1):=by omega) (u2:¬ aM≤ay:=by omega),qi 39 [qh (wkc am af ab ad ae aa ac ao au aj),qh (zF aB aM ay az aE)] σ Q:=
 let s1:=σ.row (wkc am af ab ad ae aa ac ao au aj) 6;let s2:=s1.row (zF aB aM ay az aE) 5;let s3:=σ.y+1;fun h1 h2 nx u1 u2=>zI [.g,.g,.g,.g,.l (iV aB),.g,.l (iV am),.n (am-1),.c (.bool true) s2,.g,.g,.l (iV aM),.c (.bool true) s2,.g,.g,.g,.l (iV aM),.g,.g,.l (iV ay),.b false,.g,.g,.g,.g,.g,.g,.g,.g] (kd (an3 ((zC _ _ _).rw.ld zS (k:=0) rfl:lz s2 3 (qg s3 0) (iV aB)) ((zC _ _ _).row.rw.ld zS (k:=0) rfl:lz s2 3 (qg σ.y 0) (iV am)) (w64 u1) (an6 h1 ((zC _ _ _).rw.ld zS (k:=1) rfl:lz s2 3 (qg s3 1) (iV aM)) h2 ((zC _ _ _).rw.ld zS (k:=1) rfl:lz s2 3 (qg s3 1) (iV aM)) ((zC _ _ _).rw.ld zS (k:=2) rfl:lz s2 3 (qg s3 2) (iV ay)) (yJ u2) nx)))
theorem xFV:let s1:=σ.row (wkc am af ab ad ae aa ac ao au aj) 6;let s2:=s1.row (zF aB aM ay az aE) 5;∀ (h1:qn 30 [iV aB,iV 0,iV (am-1)] s2 (.bool true) s2) (h2:qn 30 [iV aM,iV 0,iV 1439] s2 (.bool false) s2) (nx:Q (.bool false) s2) (u1:I6 (am-1):=by omega),qi 39 [qh (wkc am af ab ad ae aa ac ao au aj),qh (zF aB aM ay az aE)] σ Q:=
 let s1:=σ.row (wkc am af ab ad ae aa ac ao au aj) 6;let s2:=s1.row (zF aB aM ay az aE) 5;fun h1 h2 nx u1=>zI [.g,.g,.g,.g,.l (iV aB),.g,.l (iV am),.n (am-1),.c (.bool true) s2,.g,.g,.l (iV aM),.c (.bool false) s2,.g,.g,.g,.g,.g,.g,.g,.g,.g,.g] (kd (an6 ((zC _ _ _).rw.ld zS (k:=0) rfl:lz s2 3 ⟨(σ.y+1),0,none⟩ (iV aB)) ((zC _ _ _).row.rw.ld zS (k:=0) rfl:lz s2 3 (qg σ.y 0) (iV am)) (w64 u1) h1 ((zC _ _ _).rw.ld zS (k:=1) rfl:lz s2 3 ⟨(σ.y+1),1,none⟩ (iV aM)) h2 nx))
theorem xFU:let s1:=σ.row (wkc am af ab ad ae aa ac ao au aj) 6;let s2:=s1.row (zF aB aM ay az aE) 5;∀ (h1:qn 30 [iV aB,iV 0,iV (am-1)] s2 (.bool false) s2) (nx:Q (.bool false) s2) (u1:I6 (am-1):=by omega),qi 39 [qh (wkc am af ab ad ae aa ac ao au aj),qh (zF aB aM ay az aE)] σ Q:=
 let s1:=σ.row (wkc am af ab ad ae aa ac ao au aj) 6;let s2:=s1.row (zF aB aM ay az aE) 5;fun h1 nx u1=>zI [.g,.g,.g,.g,.l (iV aB),.g,.l (iV am),.n (am-1),.c (.bool false) s2,.g,.g,.g,.g,.g,.g,.g,.g,.g,.g,.g] (kd (an4 ((zC _ _ _).rw.ld zS (k:=0) rfl:lz s2 3 ⟨(σ.y+1),0,none⟩ (iV aB)) ((zC _ _ _).row.rw.ld zS (k:=0) rfl:lz s2 3 (qg σ.y 0) (iV am)) (w64 u1) h1 nx))
theorem yPU:let s1:=σ.row (wkc am af ab ad ae aa ac ao au aj) 6;let s2:=s1.row (zM aR aI aJ aW aK aL bj aN aO bH bI bz) 6;∀ (h1:qn 60 [.slice aR aI aJ,iV 0,iV 15] s2 (.bool true) s2) (h2:qn 60 [.slice aW aK aL,iV 0,iV (am-1)] s2 (.bool true) s2) (h3:qn 60 [.slice bj aN aO,iV 0,iV (am-1)] s2 (.bool true) s2) (h4:qn 30 [iV bH,iV (-10080),iV 1440] s2 (.bool true) s2) (h5:qn 30 [iV bI,iV 0,iV 14] s2 (.bool true) s2) (h6:qn 30 [iV bz,iV 0,iV aj] s2 (.bool b6) s2) (nx:Q (.bool b6) s2) (u1:I6 (am-1):=by omega),qi 41 [qh (wkc am af ab ad ae aa ac ao au aj),qh (zM aR aI aJ aW aK aL bj aN aO bH bI bz)] σ Q:=
 let s1:=σ.row (wkc am af ab ad ae aa ac ao au aj) 6;let s2:=s1.row (zM aR aI aJ aW aK aL bj aN aO bH bI bz) 6;let s3:=σ.y+1;fun h1 h2 h3 h4 h5 h6 nx u1=>zI [.g,.g,.g,.g,.l (.slice aR aI aJ),.c (.bool true) s2,.g,.g,.l (.slice aW aK aL),.g,.l (iV am),.n (am-1),.c (.bool true) s2,.g,.g,.g,.l (.slice bj aN aO),.g,.l (iV am),.n (am-1),.c (.bool true) s2,.g,.g,.g,.l (iV bH),.c (.bool true) s2,.g,.g,.g,.l (iV bI),.c (.bool true) s2,.g,.g,.g,.l (iV bz),.g,.l (iV aj),.c (.bool b6) s2,.g,.g] (kd (an5 ((zC _ _ _).rw.ld yV (k:=0) rfl:lz s2 29 (qg s3 0) (.slice aR aI aJ)) h1 ((zC _ _ _).rw.ld yV (k:=1) rfl:lz s2 29 (qg s3 1) (.slice aW aK aL)) ((zC _ _ _).row.rw.ld zS (k:=0) rfl:lz s2 3 (qg σ.y 0) (iV am)) (w64 u1) (an6 h2 ((zC _ _ _).rw.ld yV (k:=2) rfl:lz s2 29 (qg s3 2) (.slice bj aN aO)) ((zC _ _ _).row.rw.ld zS (k:=0) rfl:lz s2 3 (qg σ.y 0) (iV am)) (w64 u1) h3 ((zC _ _ _).rw.ld zS (k:=3) rfl:lz s2 3 (qg s3 3) (iV bH)) (an6 h4 ((zC _ _ _).rw.ld zS (k:=4) rfl:lz s2 3 (qg s3 4) (iV bI)) h5 ((zC _ _ _).rw.ld zS (k:=5) rfl:lz s2 3 (qg s3 5) (iV bz)) ((zC _ _ _).row.rw.ld zS (k:=5) rfl:lz s2 3 (qg σ.y 5) (iV aj)) h6 nx))))
theorem yPT:let s1:=σ.row (wkc am af ab ad ae aa ac ao au aj) 6;let s2:=s1.row (zM aR aI aJ aW aK aL bj aN aO bH bI bz) 6;∀ (h1:qn 60 [.slice aR aI aJ,iV 0,iV 15] s2 (.bool true) s2) (h2:qn 60 [.slice aW aK aL,iV 0,iV (am-1)] s2 (.bool true) s2) (h3:qn 60 [.slice bj aN aO,iV 0,iV (am-1)] s2 (.bool true) s2) (h4:qn 30 [iV bH,iV (-10080),iV 1440] s2 (.bool true) s2) (h5:qn 30 [iV bI,iV 0,iV 14] s2 (.bool false) s2) (nx:Q (.bool false) s2) (u1:I6 (am-1):=by omega),qi 41 [qh (wkc am af ab ad ae aa ac ao au aj),qh (zM aR aI aJ aW aK aL bj aN aO bH bI bz)] σ Q:=
 let s1:=σ.row (wkc am af ab ad ae aa ac ao au aj) 6;let s2:=s1.row (zM aR aI aJ aW aK aL bj aN aO bH bI bz) 6;let s3:=σ.y+1;fun h1 h2 h3 h4 h5 nx u1=>zI [.g,.g,.g,.g,.l (.slice aR aI aJ),.c (.bool true) s2,.g,.g,.l (.slice aW aK aL),.g,.l (iV am),.n (am-1),.c (.bool true) s2,.g,.g,.g,.l (.slice bj aN aO),.g,.l (iV am),.n (am-1),.c (.bool true) s2,.g,.g,.g,.l (iV bH),.c (.bool true) s2,.g,.g,.g,.l (iV bI),.c (.bool false) s2,.g,.g,.g,.g] (kd (an2 ((zC _ _ _).rw.ld yV (k:=0) rfl:lz s2 29 (qg s3 0) (.slice aR aI aJ)) h1 (an6 ((zC _ _ _).rw.ld yV (k:=1) rfl:lz s2 29 (qg s3 1) (.slice aW aK aL)) ((zC _ _ _).row.rw.ld zS (k:=0) rfl:lz s2 3 (qg σ.y 0) (iV am)) (w64 u1) h2 ((zC _ _ _).rw.ld yV (k:=2) rfl:lz s2 29 (qg s3 2) (.slice bj aN aO)) ((zC _ _ _).row.rw.ld zS (k:=0) rfl:lz s2 3 (qg σ.y 0) (iV am)) (an6 (w64 u1) h3 ((zC _ _ _).rw.ld zS (k:=3) rfl:lz s2 3 (qg s3 3) (iV bH)) h4 ((zC _ _ _).rw.ld zS (k:=4) rfl:lz s2 3 (qg s3 4) (iV bI)) h5 nx))))
theorem yPS:let s1:=σ.row (wkc am af ab ad ae aa ac ao au aj) 6;let s2:=s1.row (zM aR aI aJ aW aK aL bj aN aO bH bI bz) 6;∀ (h1:qn 60 [.slice aR aI aJ,iV 0,iV 15] s2 (.bool true) s2) (h2:qn 60 [.slice aW aK aL,iV 0,iV (am-1)] s2 (.bool true) s2) (h3:qn 60 [.slice bj aN aO,iV 0,iV (am-1)] s2 (.bool true) s2) (h4:qn 30 [iV bH,iV (-10080),iV 1440] s2 (.bool false) s2) (nx:Q (.bool false) s2) (u1:I6 (am-1):=by omega),qi 41 [qh (wkc am af ab ad ae aa ac ao au aj),qh (zM aR aI aJ aW aK aL bj aN aO bH bI bz)] σ Q:=
 let s1:=σ.row (wkc am af ab ad ae aa ac ao au aj) 6;let s2:=s1.row (zM aR aI aJ aW aK aL bj aN aO bH bI bz) 6;let s3:=σ.y+1;fun h1 h2 h3 h4 nx u1=>zI [.g,.g,.g,.g,.l (.slice aR aI aJ),.c (.bool true) s2,.g,.g,.l (.slice aW aK aL),.g,.l (iV am),.n (am-1),.c (.bool true) s2,.g,.g,.g,.l (.slice bj aN aO),.g,.l (iV am),.n (am-1),.c (.bool true) s2,.g,.g,.g,.l (iV bH),.c (.bool false) s2,.g,.g,.g,.g,.g,.g] (kd (an6 ((zC _ _ _).rw.ld yV (k:=0) rfl:lz s2 29 (qg s3 0) (.slice aR aI aJ)) h1 ((zC _ _ _).rw.ld yV (k:=1) rfl:lz s2 29 (qg s3 1) (.slice aW aK aL)) ((zC _ _ _).row.rw.ld zS (k:=0) rfl:lz s2 3 (qg σ.y 0) (iV am)) (w64 u1) h2 (an6 ((zC _ _ _).rw.ld yV (k:=2) rfl:lz s2 29 (qg s3 2) (.slice bj aN aO)) ((zC _ _ _).row.rw.ld zS (k:=0) rfl:lz s2 3 (qg σ.y 0) (iV am)) (w64 u1) h3 ((zC _ _ _).rw.ld zS (k:=3) rfl:lz s2 3 (qg s3 3) (iV bH)) h4 nx)))
theorem yPR:let s1:=σ.row (wkc am af ab ad ae aa ac ao au aj) 6;let s2:=s1.row (zM aR aI aJ aW aK aL bj aN aO bH bI bz) 6;∀ (h1:qn 60 [.slice aR aI aJ,iV 0,iV 15] s2 (.bool true) s2) (h2:qn 60 [.slice aW aK aL,iV 0,iV (am-1)] s2 (.bool true) s2) (h3:qn 60 [.slice bj aN aO,iV 0,iV (am-1)] s2 (.bool false) s2) (nx:Q (.bool false) s2) (u1:I6 (am-1):=by omega),qi 41 [qh (wkc am af ab ad ae aa ac ao au aj),qh (zM aR aI aJ aW aK aL bj aN aO bH bI bz)] σ Q:=
 let s1:=σ.row (wkc am af ab ad ae aa ac ao au aj) 6;let s2:=s1.row (zM aR aI aJ aW aK aL bj aN aO bH bI bz) 6;let s3:=σ.y+1;fun h1 h2 h3 nx u1=>zI [.g,.g,.g,.g,.l (.slice aR aI aJ),.c (.bool true) s2,.g,.g,.l (.slice aW aK aL),.g,.l (iV am),.n (am-1),.c (.bool true) s2,.g,.g,.g,.l (.slice bj aN aO),.g,.l (iV am),.n (am-1),.c (.bool false) s2,.g,.g,.g,.g,.g,.g,.g,.g] (kd (an4 ((zC _ _ _).rw.ld yV (k:=0) rfl:lz s2 29 (qg s3 0) (.slice aR aI aJ)) h1 ((zC _ _ _).rw.ld yV (k:=1) rfl:lz s2 29 (qg s3 1) (.slice aW aK aL)) ((zC _ _ _).row.rw.ld zS (k:=0) rfl:lz s2 3 (qg σ.y 0) (iV am)) (an6 (w64 u1) h2 ((zC _ _ _).rw.ld yV (k:=2) rfl:lz s2 29 (qg s3 2) (.slice bj aN aO)) ((zC _ _ _).row.rw.ld zS (k:=0) rfl:lz s2 3 (qg σ.y 0) (iV am)) (w64 u1) h3 nx)))
theorem yPQ:let s1:=σ.row (wkc am af ab ad ae aa ac ao au aj) 6;let s2:=s1.row (zM aR aI aJ aW aK aL bj aN aO bH bI bz) 6;∀ (h1:qn 60 [.slice aR aI aJ,iV 0,iV 15] s2 (.bool true) s2) (h2:qn 60 [.slice aW aK aL,iV 0,iV (am-1)] s2 (.bool false) s2) (nx:Q (.bool false) s2) (u1:I6 (am-1):=by omega),qi 41 [qh (wkc am af ab ad ae aa ac ao au aj),qh (zM aR aI aJ aW aK aL bj aN aO bH bI bz)] σ Q:=
 let s1:=σ.row (wkc am af ab ad ae aa ac ao au aj) 6;let s2:=s1.row (zM aR aI aJ aW aK aL bj aN aO bH bI bz) 6;fun h1 h2 nx u1=>zI [.g,.g,.g,.g,.l (.slice aR aI aJ),.c (.bool true) s2,.g,.g,.l (.slice aW aK aL),.g,.l (iV am),.n (am-1),.c (.bool false) s2,.g,.g,.g,.g,.g,.g,.g,.g,.g,.g] (kd (an6 ((zC _ _ _).rw.ld yV (k:=0) rfl:lz s2 29 ⟨(σ.y+1),0,none⟩ (.slice aR aI aJ)) h1 ((zC _ _ _).rw.ld yV (k:=1) rfl:lz s2 29 ⟨(σ.y+1),1,none⟩ (.slice aW aK aL)) ((zC _ _ _).row.rw.ld zS (k:=0) rfl:lz s2 3 (qg σ.y 0) (iV am)) (w64 u1) h2 nx))
theorem yPP:let s1:=σ.row (wkc am af ab ad ae aa ac ao au aj) 6;let s2:=s1.row (zM aR aI aJ aW aK aL bj aN aO bH bI bz) 6;∀ (h1:qn 60 [.slice aR aI aJ,iV 0,iV 15] s2 (.bool false) s2) (nx:Q (.bool false) s2),qi 41 [qh (wkc am af ab ad ae aa ac ao au aj),qh (zM aR aI aJ aW aK aL bj aN aO bH bI bz)] σ Q:=
 let s1:=σ.row (wkc am af ab ad ae aa ac ao au aj) 6;let s2:=s1.row (zM aR aI aJ aW aK aL bj aN aO bH bI bz) 6;fun h1 nx=>zI [.g,.g,.g,.g,.l (.slice aR aI aJ),.c (.bool false) s2,.g,.g,.g,.g,.g,.g,.g,.g,.g,.g,.g] (kd (an2 ((zC _ _ _).rw.ld yV (k:=0) rfl:lz s2 29 ⟨(σ.y+1),0,none⟩ (.slice aR aI aJ)) h1 nx))
theorem xSO:let Y1:=σ.row [.func (.func right) ⟨[]⟩ ⟨bG⟩] 1;∀ (h1:qn 61 [.slice l l_l l_c,.func (.func 62) ⟨[]⟩ ⟨[pq σ.y 0]⟩] Y1 (.bool true) Y1) (nx:Q (.bool false) Y1),qi 43 [.slice l l_l l_c,.func (.func right) ⟨[]⟩ ⟨bG⟩] σ Q:=
 fun h1 nx=>zI [.g,.g,.g,.g,.c (.bool true) (σ.row [.func (.func right) ⟨[]⟩ ⟨bG⟩] 1),.g,.g] (kd (ai h1 nx))
theorem xSN:let Y1:=σ.row [.func (.func right) ⟨[]⟩ ⟨bG⟩] 1;∀ (h1:qn 61 [.slice l l_l l_c,.func (.func 62) ⟨[]⟩ ⟨[pq σ.y 0]⟩] Y1 (.bool false) Y1) (nx:Q (.bool true) Y1),qi 43 [.slice l l_l l_c,.func (.func right) ⟨[]⟩ ⟨bG⟩] σ Q:=
 fun h1 nx=>zI [.g,.g,.g,.g,.c (.bool false) (σ.row [.func (.func right) ⟨[]⟩ ⟨bG⟩] 1),.g,.g] (kd (ai h1 nx))
theorem xRP (h1:qn 79 [.slice s s_l s_c,.func (.func f) ⟨[]⟩ ⟨f_c⟩] σ (iV n1) σ) (nx:Q (.bool true) σ) (u1:0≤n1:=by omega):qi 61 [.slice s s_l s_c,.func (.func f) ⟨[]⟩ ⟨f_c⟩] σ Q :=
 zI [.g,.g,.g,.c (iV n1) σ,.b true,.g] (kd (an2 h1 (yE u1) nx))
theorem xRO (h1:qn 79 [.slice s s_l s_c,.func (.func f) ⟨[]⟩ ⟨f_c⟩] σ (iV n1) σ) (nx:Q (.bool false) σ) (u1:¬ 0≤n1:=by omega):qi 61 [.slice s s_l s_c,.func (.func f) ⟨[]⟩ ⟨f_c⟩] σ Q :=
 zI [.g,.g,.g,.c (iV n1) σ,.b false,.g] (kd (an2 h1 (yJ u1) nx))
theorem xNE (h1:lz σ 85 v0 (.func (.func f1) ⟨[]⟩ ⟨dY⟩)) (h2:qn f1 (iV x::dY) σ (.bool true) σ) (nx:Q (.bool false) σ):qi 62 [iV x,pz v0] σ Q :=
 zI [.g,.l (.func (.func f1) ⟨[]⟩ ⟨dY⟩),.g,.c (.bool true) σ,.g,.g] (kd (an2 h1 h2 nx))
theorem xND (h1:lz σ 85 v0 (.func (.func f1) ⟨[]⟩ ⟨dY⟩)) (h2:qn f1 (iV x::dY) σ (.bool false) σ) (nx:Q (.bool true) σ):qi 62 [iV x,pz v0] σ Q :=
 zI [.g,.l (.func (.func f1) ⟨[]⟩ ⟨dY⟩),.g,.c (.bool false) σ,.g,.g] (kd (an2 h1 h2 nx))
theorem yTW (hb:∀ k aG σ,Inv k aG σ→zVJ s s_l s_c f f_c aG σ (NX1 Inv k) Qr Q0):∀ k aG σ,Inv k aG σ→yYS s s_l s_c f f_c aG σ Qr Q0 :=
 xJ (ai zCK (ai (wI 0) trivial)) hb
theorem xKU (h1:lz σ 3 (zN s_a (Int.toNat aG*1)) (iV nG)) (h2:qn f (iV nG::f_c) σ (.bool true) σ) (nx:Qr aG σ) (u1:aG<(s_l:Int):=by omega) (u2:Ix aG s_l:=by omega):zVJ (some s_a) s_l s_c f f_c aG σ Nx Qr Q0 :=
 kO 1 aG [.b true,.g,.g,.g,.g,.g,.i,.l (iV nG),.c (.bool true) σ,.g,.g] (fun _ f=>an4 (zR u1) u2 h1 h2 f) nx
theorem xKT (h1:lz σ 3 (zN s_a (Int.toNat aG*1)) (iV nG)) (h2:qn f (iV nG::f_c) σ (.bool false) σ) (nx:Nx (aG+1) σ) (u1:aG<(s_l:Int):=by omega) (u2:Ix aG s_l:=by omega) (u3:I6 (aG+1):=by omega):zVJ (some s_a) s_l s_c f f_c aG σ Nx Qr Q0 :=
 kO 0 (aG+1) [.b true,.g,.g,.g,.g,.g,.i,.l (iV nG),.c (.bool false) σ,.n (aG+1),.g] (fun _ f=>an5 (zR u1) u2 h1 h2 (w64 u3) f) nx
theorem xKS (nx:Q0 σ) (u1:¬ aG<(s_l:Int):=by omega):zVJ s s_l s_c f f_c aG σ Nx Qr Q0 :=
 kO 2 () [.b false] (fun _ f=>ai (zT u1) f) nx
theorem xQY (hL:yYS s s_l s_c f f_c 0 σ Pr P0) (kr:∀ i4_1' σ',Pr i4_1' σ'→yDZ s s_l s_c f f_c i4_1' σ' Q) (k0:∀ σ',P0 σ'→yEA s s_l s_c f f_c σ' Q):qi 79 [.slice s s_l s_c,.func (.func f) ⟨[]⟩ ⟨f_c⟩] σ Q :=
 zI [.g,.g,.g,.g,.lf 19 (zPI s s_l s_c f f_c 0) [zRK s s_l s_c f f_c Pr,zRL s s_l s_c f f_c P0]] (kd (ai (ai tt (ai (arf (zPI s s_l s_c f f_c 0)) hL)) (ai (kz1 kr) (ai (kz0 k0) trivial))))
theorem yTU (nx:Q (iV bM) σ):yDZ s s_l s_c f f_c bM σ Q :=
 sK [] nx
theorem yTV (nx:Q (iV (-1)) σ):yEA s s_l s_c f f_c σ Q :=
 sK [.g] nx
theorem yQN (h1:lz σ 41 (zN v0 2) (.slice q1 l1 c1)) (h2:qn 30 [iV n,iV (-1),iV ((l1:Int)-1)] σ (.bool b2) σ) (nx:Q (.bool b2) σ) (u1:I6 ((l1:Int)-1):=by omega):qi 44 [iV n,pz v0] σ Q :=
 zI [.g,.g,.g,.l (.slice q1 l1 c1),.g,.n ((l1:Int)-1),.c (.bool b2) σ,.g] (kd (an3 h1 (w64 u1) h2 nx))
theorem yPM:let s1:=σ.row (wkc am af ab ad ae aa ac ao au aj) 6;∀ (h1:qn 43 [.slice l l_l l_c,.func (.func 44) ⟨[]⟩ ⟨[pq σ.y 0]⟩] s1 (.bool b1) s1) (nx:Q (.bool b1) s1) (u1:(l_l:Int)=(ab:Int):=by omega),qi 26 [qh (wkc am af ab ad ae aa ac ao au aj),.slice l l_l l_c] σ Q:=
 let s1:=σ.row (wkc am af ab ad ae aa ac ao au aj) 6;fun h1 nx u1=>zI [.g,.g,.g,.g,.g,.l (.slice af ab ad),.g,.b true,.g,.g,.g,.c (.bool b1) s1,.g,.g] (kd (an3 ((zC _ _ _).rw.ld zBD (k:=1) rfl:lz s1 40 (qg σ.y 1) (.slice af ab ad)) (xH u1) h1 nx))
theorem yPL (nx:Q (.bool false) (σ.row (wkc am af ab ad ae aa ac ao au aj) 6)) (u1:¬ (l_l:Int)=(ab:Int):=by omega):qi 26 [qh (wkc am af ab ad ae aa ac ao au aj),.slice l l_l l_c] σ Q :=
 zI [.g,.g,.g,.g,.g,.l (.slice af ab ad),.g,.b false,.g,.g,.g] (kd (an2 ((zC _ _ _).rw.ld zBD (k:=1) rfl:lz (σ.row (wkc am af ab ad ae aa ac ao au aj) 6) 40 (qg σ.y 1) (.slice af ab ad)) (xL u1) nx))
theorem yMJ (hb:∀ k aG σ,Inv k aG σ→zPF s s_l s_c v aG σ (NX1 Inv k) Qr Q0):∀ k aG σ,Inv k aG σ→yML s s_l s_c v aG σ Qr Q0 :=
 xJ (ai zCK (ai (wI 0) trivial)) hb
theorem xDC (h1:lz σ 3 (zN s_a (Int.toNat aG*1)) (iV nG)) (nx:Qr aG σ) (u1:aG<(s_l:Int):=by omega) (u2:Ix aG s_l:=by omega) (u3:v=nG:=by omega):zPF (some s_a) s_l s_c v aG σ Nx Qr Q0 :=
 kO 1 aG [.b true,.g,.g,.g,.g,.g,.i,.l (iV nG),.b true,.g,.g] (fun _ f=>an4 (zR u1) u2 h1 (xH u3) f) nx
theorem xDB (h1:lz σ 3 (zN s_a (Int.toNat aG*1)) (iV nG)) (nx:Nx (aG+1) σ) (u1:aG<(s_l:Int):=by omega) (u2:Ix aG s_l:=by omega) (u3:¬ v=nG:=by omega) (u4:I6 (aG+1):=by omega):zPF (some s_a) s_l s_c v aG σ Nx Qr Q0 :=
 kO 0 (aG+1) [.b true,.g,.g,.g,.g,.g,.i,.l (iV nG),.b false,.n (aG+1),.g] (fun _ f=>an5 (zR u1) u2 h1 (xL u3) (w64 u4) f) nx
theorem xDA (nx:Q0 σ) (u1:¬ aG<(s_l:Int):=by omega):zPF s s_l s_c v aG σ Nx Qr Q0 :=
 kO 2 () [.b false] (fun _ f=>ai (zT u1) f) nx
theorem xKJ (hL:yML s s_l s_c v 0 σ Pr P0) (kr:∀ i4_1' σ',Pr i4_1' σ'→zYH s s_l s_c v i4_1' σ' Q) (k0:∀ σ',P0 σ'→zYI s s_l s_c v σ' Q):qi 55 [.slice s s_l s_c,iV v] σ Q :=
 zI [.g,.g,.g,.g,.lf 19 (zJL s s_l s_c v 0) [zNL s s_l s_c v Pr,zNM s s_l s_c v P0]] (kd (ai (ai tt (ai (arf (zJL s s_l s_c v 0)) hL)) (ai (kz1 kr) (ai (kz0 k0) trivial))))
theorem yMH (nx:Q (iV bM) σ):zYH s s_l s_c v bM σ Q :=
 sK [] nx
theorem yMI (nx:Q (iV (-1)) σ):zYI s s_l s_c v σ Q :=
 sK [.g] nx
theorem xRR (h1:qn 55 [.slice s s_l s_c,iV v] σ (iV n1) σ) (nx:Q (.bool true) σ) (u1:0≤n1:=by omega):qi 37 [.slice s s_l s_c,iV v] σ Q :=
 zI [.g,.g,.g,.c (iV n1) σ,.b true,.g] (kd (an2 h1 (yE u1) nx))
theorem xRQ (h1:qn 55 [.slice s s_l s_c,iV v] σ (iV n1) σ) (nx:Q (.bool false) σ) (u1:¬ 0≤n1:=by omega):qi 37 [.slice s s_l s_c,iV v] σ Q :=
 zI [.g,.g,.g,.c (iV n1) σ,.b false,.g] (kd (an2 h1 (yJ u1) nx))
end
section
noncomputable section
variable (roster:oAa) (aZ bf:Nat) (aH bN:Int) (Q:Int→Int→St→Prop) (q0:Int→St→Prop) (σ:St) (Nx:Int→Int→St→Prop) (q4:vPa) (Q0:Int→St→Prop)
def yES:Code:=(Code.part [1,0,1,0,0] (qj 34))
def zFU:lNa:=[(2,iV aH),(5,.slice roster aZ bf),(6,iV (aZ:Int)),(7,iV bN)]
def yUQ:Alt:=⟨Int × Int,.normal,fun t=>zFU roster aZ bf t.1 t.2,fun t=>[],fun t σ=>Q t.1 t.2 σ⟩
def zTV (roster:oAa) (aZ bf:Nat) (aH:Int):lNa:=[(2,iV aH)]
def zJV:Alt:=⟨Int,(.exit 0),fun t=>zTV roster aZ bf t,fun t=>[],fun t σ=>q0 t σ⟩
def zLK:Prop:=qk ql none yES 17 (zFU roster aZ bf aH bN) [] [yUQ roster aZ bf Nx,zJV roster aZ bf Q0] σ
def yET:Prop:=qm ql none yES 17 (zFU roster aZ bf aH bN) [] [zJV roster aZ bf Q0] σ
def zTW:Prop:=kZ ql (qj 34) [1,0,1,0] (qo 34 q4) (.exit 0) 17 (zTV roster aZ bf aH) σ
end
variable {am ao au aj eI n1 n4 aH bN nG:Int} {af ae roster q1 q3 s q2:oAa} {ab ad aa ac aZ bf l1 c1 l3 c3 s_l s_c l2 c2:Nat} {σ σ2 σ4 σ1:St} {Q:vPa} {Inv:Nat→Int→Int→St→Prop} {Q0 P0:Int→St→Prop} {gh:Addr} {Nx:Int→Int→St→Prop}
theorem yJB (nx:Q (iV 3) (σ.row (wkc am af ab ad ae aa ac ao au aj) 6)) (u1:12<(ab:Int):=by omega):qi 22 [qh (wkc am af ab ad ae aa ac ao au aj)] σ Q :=
 zI [.g,.g,.g,.l (.slice af ab ad),.g,.b true,.g,.g,.g,.g] (kd (an2 ((zC _ _ _).rw.ld zBD (k:=1) rfl:lz (σ.row (wkc am af ab ad ae aa ac ao au aj) 6) 40 (qg σ.y 1) (.slice af ab ad)) (zR u1) nx))
theorem yJA:let y0:=wkc am af ab ad ae aa ac ao au aj;∀ (nx:Q (iV 3) (σ.row y0 6)) (u1:¬ 12<(ab:Int):=by omega) (u2:6<(aa:Int):=by omega),qi 22 [qh y0] σ Q :=
 let s1:=σ.row (wkc am af ab ad ae aa ac ao au aj) 6;fun nx u1 u2=>zI [.g,.g,.g,.l (.slice af ab ad),.g,.b false,.g,.g,.l (.slice ae aa ac),.g,.b true,.g,.g,.g] (kd (an4 ((zC _ _ _).rw.ld zBD (k:=1) rfl:lz s1 40 (qg σ.y 1) (.slice af ab ad)) (zT u1) ((zC _ _ _).rw.ld zAE (k:=2) rfl:lz s1 41 (qg σ.y 2) (.slice ae aa ac)) (zR u2) nx))
@[reducible] def Ha5 (am ao au aj:Int) (σ:St) (af ae:oAa) (ab ad aa ac:Nat):Prop:=qn 30 [iV am,iV 1,iV 7] (σ.row (wkc am af ab ad ae aa ac ao au aj) 6) (.bool true) (σ.row (wkc am af ab ad ae aa ac ao au aj) 6)∧qn 30 [iV ao,iV 0,iV 3000] (σ.row (wkc am af ab ad ae aa ac ao au aj) 6) (.bool true) (σ.row (wkc am af ab ad ae aa ac ao au aj) 6)∧qn 30 [iV au,iV 1,iV 14] (σ.row (wkc am af ab ad ae aa ac ao au aj) 6) (.bool true) (σ.row (wkc am af ab ad ae aa ac ao au aj) 6)∧qn 30 [iV aj,iV 0,iV 20000] (σ.row (wkc am af ab ad ae aa ac ao au aj) 6) (.bool true) (σ.row (wkc am af ab ad ae aa ac ao au aj) 6)∧(qn 38 [.slice af ab ad,.func (.func 39) ⟨[.agg ⟨wkc am af ab ad ae aa ac ao au aj⟩]⟩ ⟨[]⟩] (σ.row (wkc am af ab ad ae aa ac ao au aj) 6) (.bool true) (σ.row (wkc am af ab ad ae aa ac ao au aj) 6))
theorem yIZ:let Y1:=σ.row (wkc am af ab ad ae aa ac ao au aj) 6;∀ (H:Ha5 am ao au aj σ af ae ab ad aa ac) (h6:qn 40 [.slice ae aa ac,.func (.func 41) ⟨[qh (wkc am af ab ad ae aa ac ao au aj)]⟩ ⟨[]⟩] Y1 (.bool true) Y1) (nx:Q (iV 0) Y1) (u1:¬ 12<(ab:Int):=by omega) (u2:¬ 6<(aa:Int):=by omega),qi 22 [qh (wkc am af ab ad ae aa ac ao au aj)] σ Q:=
 fun H h6 nx u1 u2=>match H with|⟨h1,h2,h3,h4,h5⟩=>let s1:=σ.row (wkc am af ab ad ae aa ac ao au aj) 6;zI [.g,.g,.g,.l (.slice af ab ad),.g,.b false,.g,.g,.l (.slice ae aa ac),.g,.b false,.g,.g,.g,.l (iV am),.c (.bool true) s1,.g,.g,.g,.l (iV ao),.c (.bool true) s1,.g,.g,.g,.g,.l (iV au),.c (.bool true) s1,.g,.g,.g,.g,.l (iV aj),.c (.bool true) s1,.g,.g,.g,.g,.l (.slice af ab ad),.l (qh (wkc am af ab ad ae aa ac ao au aj)),.g,.c (.bool true) s1,.g,.g,.g,.l (.slice ae aa ac),.l (qh (wkc am af ab ad ae aa ac ao au aj)),.g,.c (.bool true) s1,.g,.g,.g,.g] (kd (an6 ((zC _ _ _).rw.ld zBD (k:=1) rfl:lz s1 40 (qg σ.y 1) (.slice af ab ad)) (zT u1) ((zC _ _ _).rw.ld zAE (k:=2) rfl:lz s1 41 (qg σ.y 2) (.slice ae aa ac)) (zT u2) ((zC _ _ _).rw.ld zS (k:=0) rfl:lz s1 3 (qg σ.y 0) (iV am)) h1 (an6 ((zC _ _ _).rw.ld zS (k:=3) rfl:lz s1 3 (qg σ.y 3) (iV ao)) h2 ((zC _ _ _).rw.ld zS (k:=4) rfl:lz s1 3 (qg σ.y 4) (iV au)) h3 ((zC _ _ _).rw.ld zS (k:=5) rfl:lz s1 3 (qg σ.y 5) (iV aj)) h4 (an6 ((zC _ _ _).rw.ld zBD (k:=1) rfl:lz s1 40 (qg σ.y 1) (.slice af ab ad)) ((zC _ _ _).rw.ldN xS yW (k:=0) rfl rfl (nle rfl):lz s1 43 (qg σ.y 0) (qh (wkc am af ab ad ae aa ac ao au aj))) h5 ((zC _ _ _).rw.ld zAE (k:=2) rfl:lz s1 41 (qg σ.y 2) (.slice ae aa ac)) ((zC _ _ _).rw.ldN xS yW (k:=0) rfl rfl (nle rfl):lz s1 43 (qg σ.y 0) (qh (wkc am af ab ad ae aa ac ao au aj))) h6 nx))))
theorem yIY:let Y1:=σ.row (wkc am af ab ad ae aa ac ao au aj) 6;∀ (H:Ha5 am ao au aj σ af ae ab ad aa ac) (h6:qn 40 [.slice ae aa ac,.func (.func 41) ⟨[qh (wkc am af ab ad ae aa ac ao au aj)]⟩ ⟨[]⟩] Y1 (.bool false) Y1) (nx:Q (iV 1) Y1) (u1:¬ 12<(ab:Int):=by omega) (u2:¬ 6<(aa:Int):=by omega),qi 22 [qh (wkc am af ab ad ae aa ac ao au aj)] σ Q:=
 fun H h6 nx u1 u2=>match H with|⟨h1,h2,h3,h4,h5⟩=>let s1:=σ.row (wkc am af ab ad ae aa ac ao au aj) 6;zI [.g,.g,.g,.l (.slice af ab ad),.g,.b false,.g,.g,.l (.slice ae aa ac),.g,.b false,.g,.g,.g,.l (iV am),.c (.bool true) s1,.g,.g,.g,.l (iV ao),.c (.bool true) s1,.g,.g,.g,.g,.l (iV au),.c (.bool true) s1,.g,.g,.g,.g,.l (iV aj),.c (.bool true) s1,.g,.g,.g,.g,.l (.slice af ab ad),.l (qh (wkc am af ab ad ae aa ac ao au aj)),.g,.c (.bool true) s1,.g,.g,.g,.l (.slice ae aa ac),.l (qh (wkc am af ab ad ae aa ac ao au aj)),.g,.c (.bool false) s1,.g,.g,.g,.g] (kd (an6 ((zC _ _ _).rw.ld zBD (k:=1) rfl:lz s1 40 (qg σ.y 1) (.slice af ab ad)) (zT u1) ((zC _ _ _).rw.ld zAE (k:=2) rfl:lz s1 41 (qg σ.y 2) (.slice ae aa ac)) (zT u2) ((zC _ _ _).rw.ld zS (k:=0) rfl:lz s1 3 (qg σ.y 0) (iV am)) h1 (an6 ((zC _ _ _).rw.ld zS (k:=3) rfl:lz s1 3 (qg σ.y 3) (iV ao)) h2 ((zC _ _ _).rw.ld zS (k:=4) rfl:lz s1 3 (qg σ.y 4) (iV au)) h3 ((zC _ _ _).rw.ld zS (k:=5) rfl:lz s1 3 (qg σ.y 5) (iV aj)) h4 (an6 ((zC _ _ _).rw.ld zBD (k:=1) rfl:lz s1 40 (qg σ.y 1) (.slice af ab ad)) ((zC _ _ _).rw.ldN xS yW (k:=0) rfl rfl (nle rfl):lz s1 43 (qg σ.y 0) (qh (wkc am af ab ad ae aa ac ao au aj))) h5 ((zC _ _ _).rw.ld zAE (k:=2) rfl:lz s1 41 (qg σ.y 2) (.slice ae aa ac)) ((zC _ _ _).rw.ldN xS yW (k:=0) rfl rfl (nle rfl):lz s1 43 (qg σ.y 0) (qh (wkc am af ab ad ae aa ac ao au aj))) h6 nx))))
theorem yIX:let s1:=σ.row (wkc am af ab ad ae aa ac ao au aj) 6;∀ (h1:qn 30 [iV am,iV 1,iV 7] s1 (.bool true) s1) (h2:qn 30 [iV ao,iV 0,iV 3000] s1 (.bool true) s1) (h3:qn 30 [iV au,iV 1,iV 14] s1 (.bool true) s1) (h4:qn 30 [iV aj,iV 0,iV 20000] s1 (.bool true) s1) (h5:qn 38 [.slice af ab ad,.func (.func 39) ⟨[qh (wkc am af ab ad ae aa ac ao au aj)]⟩ ⟨[]⟩] s1 (.bool false) s1) (nx:Q (iV 1) s1) (u1:¬ 12<(ab:Int):=by omega) (u2:¬ 6<(aa:Int):=by omega),qi 22 [qh (wkc am af ab ad ae aa ac ao au aj)] σ Q:=
 let s1:=σ.row (wkc am af ab ad ae aa ac ao au aj) 6;fun h1 h2 h3 h4 h5 nx u1 u2=>zI [.g,.g,.g,.l (.slice af ab ad),.g,.b false,.g,.g,.l (.slice ae aa ac),.g,.b false,.g,.g,.g,.l (iV am),.c (.bool true) s1,.g,.g,.g,.l (iV ao),.c (.bool true) s1,.g,.g,.g,.g,.l (iV au),.c (.bool true) s1,.g,.g,.g,.g,.l (iV aj),.c (.bool true) s1,.g,.g,.g,.g,.l (.slice af ab ad),.l (qh (wkc am af ab ad ae aa ac ao au aj)),.g,.c (.bool false) s1,.g,.g,.g,.g,.g] (kd (an3 ((zC _ _ _).rw.ld zBD (k:=1) rfl:lz s1 40 (qg σ.y 1) (.slice af ab ad)) (zT u1) ((zC _ _ _).rw.ld zAE (k:=2) rfl:lz s1 41 (qg σ.y 2) (.slice ae aa ac)) (an6 (zT u2) ((zC _ _ _).rw.ld zS (k:=0) rfl:lz s1 3 (qg σ.y 0) (iV am)) h1 ((zC _ _ _).rw.ld zS (k:=3) rfl:lz s1 3 (qg σ.y 3) (iV ao)) h2 ((zC _ _ _).rw.ld zS (k:=4) rfl:lz s1 3 (qg σ.y 4) (iV au)) (an6 h3 ((zC _ _ _).rw.ld zS (k:=5) rfl:lz s1 3 (qg σ.y 5) (iV aj)) h4 ((zC _ _ _).rw.ld zBD (k:=1) rfl:lz s1 40 (qg σ.y 1) (.slice af ab ad)) ((zC _ _ _).rw.ldN xS yW (k:=0) rfl rfl (nle rfl):lz s1 43 (qg σ.y 0) (qh (wkc am af ab ad ae aa ac ao au aj))) h5 nx))))
theorem yIW:let s1:=σ.row (wkc am af ab ad ae aa ac ao au aj) 6;∀ (h1:qn 30 [iV am,iV 1,iV 7] s1 (.bool true) s1) (h2:qn 30 [iV ao,iV 0,iV 3000] s1 (.bool true) s1) (h3:qn 30 [iV au,iV 1,iV 14] s1 (.bool true) s1) (h4:qn 30 [iV aj,iV 0,iV 20000] s1 (.bool false) s1) (nx:Q (iV 1) s1) (u1:¬ 12<(ab:Int):=by omega) (u2:¬ 6<(aa:Int):=by omega),qi 22 [qh (wkc am af ab ad ae aa ac ao au aj)] σ Q:=
 let s1:=σ.row (wkc am af ab ad ae aa ac ao au aj) 6;fun h1 h2 h3 h4 nx u1 u2=>zI [.g,.g,.g,.l (.slice af ab ad),.g,.b false,.g,.g,.l (.slice ae aa ac),.g,.b false,.g,.g,.g,.l (iV am),.c (.bool true) s1,.g,.g,.g,.l (iV ao),.c (.bool true) s1,.g,.g,.g,.g,.l (iV au),.c (.bool true) s1,.g,.g,.g,.g,.l (iV aj),.c (.bool false) s1,.g,.g,.g,.g] (kd (an6 ((zC _ _ _).rw.ld zBD (k:=1) rfl:lz s1 40 (qg σ.y 1) (.slice af ab ad)) (zT u1) ((zC _ _ _).rw.ld zAE (k:=2) rfl:lz s1 41 (qg σ.y 2) (.slice ae aa ac)) (zT u2) ((zC _ _ _).rw.ld zS (k:=0) rfl:lz s1 3 (qg σ.y 0) (iV am)) h1 (an6 ((zC _ _ _).rw.ld zS (k:=3) rfl:lz s1 3 (qg σ.y 3) (iV ao)) h2 ((zC _ _ _).rw.ld zS (k:=4) rfl:lz s1 3 (qg σ.y 4) (iV au)) h3 ((zC _ _ _).rw.ld zS (k:=5) rfl:lz s1 3 (qg σ.y 5) (iV aj)) h4 nx)))
theorem yIV:let s1:=σ.row (wkc am af ab ad ae aa ac ao au aj) 6;∀ (h1:qn 30 [iV am,iV 1,iV 7] s1 (.bool true) s1) (h2:qn 30 [iV ao,iV 0,iV 3000] s1 (.bool true) s1) (h3:qn 30 [iV au,iV 1,iV 14] s1 (.bool false) s1) (nx:Q (iV 1) s1) (u1:¬ 12<(ab:Int):=by omega) (u2:¬ 6<(aa:Int):=by omega),qi 22 [qh (wkc am af ab ad ae aa ac ao au aj)] σ Q:=
 let s1:=σ.row (wkc am af ab ad ae aa ac ao au aj) 6;fun h1 h2 h3 nx u1 u2=>zI [.g,.g,.g,.l (.slice af ab ad),.g,.b false,.g,.g,.l (.slice ae aa ac),.g,.b false,.g,.g,.g,.l (iV am),.c (.bool true) s1,.g,.g,.g,.l (iV ao),.c (.bool true) s1,.g,.g,.g,.g,.l (iV au),.c (.bool false) s1,.g,.g,.g,.g,.g,.g] (kd (an4 ((zC _ _ _).rw.ld zBD (k:=1) rfl:lz s1 40 (qg σ.y 1) (.slice af ab ad)) (zT u1) ((zC _ _ _).rw.ld zAE (k:=2) rfl:lz s1 41 (qg σ.y 2) (.slice ae aa ac)) (zT u2) (an6 ((zC _ _ _).rw.ld zS (k:=0) rfl:lz s1 3 (qg σ.y 0) (iV am)) h1 ((zC _ _ _).rw.ld zS (k:=3) rfl:lz s1 3 (qg σ.y 3) (iV ao)) h2 ((zC _ _ _).rw.ld zS (k:=4) rfl:lz s1 3 (qg σ.y 4) (iV au)) h3 nx)))
theorem yIU:let s1:=σ.row (wkc am af ab ad ae aa ac ao au aj) 6;∀ (h1:qn 30 [iV am,iV 1,iV 7] s1 (.bool true) s1) (h2:qn 30 [iV ao,iV 0,iV 3000] s1 (.bool false) s1) (nx:Q (iV 1) s1) (u1:¬ 12<(ab:Int):=by omega) (u2:¬ 6<(aa:Int):=by omega),qi 22 [qh (wkc am af ab ad ae aa ac ao au aj)] σ Q:=
 let s1:=σ.row (wkc am af ab ad ae aa ac ao au aj) 6;fun h1 h2 nx u1 u2=>zI [.g,.g,.g,.l (.slice af ab ad),.g,.b false,.g,.g,.l (.slice ae aa ac),.g,.b false,.g,.g,.g,.l (iV am),.c (.bool true) s1,.g,.g,.g,.l (iV ao),.c (.bool false) s1,.g,.g,.g,.g,.g,.g,.g,.g] (kd (an2 ((zC _ _ _).rw.ld zBD (k:=1) rfl:lz s1 40 (qg σ.y 1) (.slice af ab ad)) (zT u1) (an6 ((zC _ _ _).rw.ld zAE (k:=2) rfl:lz s1 41 (qg σ.y 2) (.slice ae aa ac)) (zT u2) ((zC _ _ _).rw.ld zS (k:=0) rfl:lz s1 3 (qg σ.y 0) (iV am)) h1 ((zC _ _ _).rw.ld zS (k:=3) rfl:lz s1 3 (qg σ.y 3) (iV ao)) h2 nx)))
theorem yIT:let s1:=σ.row (wkc am af ab ad ae aa ac ao au aj) 6;∀ (h1:qn 30 [iV am,iV 1,iV 7] s1 (.bool false) s1) (nx:Q (iV 1) s1) (u1:¬ 12<(ab:Int):=by omega) (u2:¬ 6<(aa:Int):=by omega),qi 22 [qh (wkc am af ab ad ae aa ac ao au aj)] σ Q:=
 let s1:=σ.row (wkc am af ab ad ae aa ac ao au aj) 6;fun h1 nx u1 u2=>zI [.g,.g,.g,.l (.slice af ab ad),.g,.b false,.g,.g,.l (.slice ae aa ac),.g,.b false,.g,.g,.g,.l (iV am),.c (.bool false) s1,.g,.g,.g,.g,.g,.g,.g,.g,.g] (kd (an6 ((zC _ _ _).rw.ld zBD (k:=1) rfl:lz s1 40 (qg σ.y 1) (.slice af ab ad)) (zT u1) ((zC _ _ _).rw.ld zAE (k:=2) rfl:lz s1 41 (qg σ.y 2) (.slice ae aa ac)) (zT u2) ((zC _ _ _).rw.ld zS (k:=0) rfl:lz s1 3 (qg σ.y 0) (iV am)) h1 nx))
@[reducible] def Ha6 (am ao au aj:Int) (af ae q1 roster q3:oAa) (ab ad aa ac l1 c1 aZ bf l3 c3:Nat) (σ σ2 σ4:St):Prop:=qn 52 [.agg ⟨wkc am af ab ad ae aa ac ao au aj⟩] (σ.row (wkc am af ab ad ae aa ac ao au aj) 6) (.slice q1 l1 c1) σ2∧(qn 28 [.agg ⟨wkc am af ab ad ae aa ac ao au aj⟩,.slice roster aZ bf,.slice q1 l1 c1] σ2 (.slice q3 l3 c3) σ4)∧zG (σ.row (wkc am af ab ad ae aa ac ao au aj) 6).y [.agg ⟨wkc am af ab ad ae aa ac ao au aj⟩]∧(zG σ2.y [.agg ⟨wkc am af ab ad ae aa ac ao au aj⟩,.slice roster aZ bf,.slice q1 l1 c1])∧zG σ4.y [.slice q3 l3 c3]∧((zLq σ2 43 ⟨σ.y,0,none⟩ (.agg ⟨wkc am af ab ad ae aa ac ao au aj⟩)))
theorem xJS:let y0:=wkc am af ab ad ae aa ac ao au aj;∀ (H:Ha6 am ao au aj af ae q1 roster q3 ab ad aa ac l1 c1 aZ bf l3 c3 σ σ2 σ4) (nx:Q (.bool true) σ4) (u1:(l3:Int)=0:=by omega),qi 31 [qh y0,.slice roster aZ bf] σ Q :=
 let y0:=wkc am af ab ad ae aa ac ao au aj;fun H nx u1=>match H with|⟨h1,h2,h3,h4,h5,h6⟩=>let s1:=σ.row y0 6;zI [.g,.g,.l (qh y0),.g,.l (qh y0),.c (.slice q1 l1 c1) σ2,.c (.slice q3 l3 c3) σ4,.g,.b true,.g] (kd (an6 ((zC _ _ _).rw.ldN xS yW (k:=0) rfl rfl (nle rfl):lz s1 43 (qg σ.y 0) (qh y0)) ((zC _ _ _).rw.ldN xS yW (k:=0) rfl rfl (nle rfl):lz s1 43 (qg σ.y 0) (qh y0)) h1 h2 (xH u1) ((zE (zO (nlt σ.y 0 1 rfl)) zH):zG s1.y [pq σ.y 0]) (an6 ((zE (zO (nlt σ.y 0 1 rfl)) zH):zG s1.y [pq σ.y 0]) h3 h4 h5 (⟨⟨(nlt σ.y 0 1 rfl),rfl⟩,((zC _ _ _).rw.ldN xS yW (k:=0) rfl rfl (nle rfl))⟩:(zLq s1 43 (qg σ.y 0) (qh y0))) h6 nx)))
theorem xJR:let y0:=wkc am af ab ad ae aa ac ao au aj;∀ (H:Ha6 am ao au aj af ae q1 roster q3 ab ad aa ac l1 c1 aZ bf l3 c3 σ σ2 σ4) (nx:Q (.bool false) σ4) (u1:¬ (l3:Int)=0:=by omega),qi 31 [qh y0,.slice roster aZ bf] σ Q :=
 let y0:=wkc am af ab ad ae aa ac ao au aj;fun H nx u1=>match H with|⟨h1,h2,h3,h4,h5,h6⟩=>let s1:=σ.row y0 6;zI [.g,.g,.l (qh y0),.g,.l (qh y0),.c (.slice q1 l1 c1) σ2,.c (.slice q3 l3 c3) σ4,.g,.b false,.g] (kd (an6 ((zC _ _ _).rw.ldN xS yW (k:=0) rfl rfl (nle rfl):lz s1 43 (qg σ.y 0) (qh y0)) ((zC _ _ _).rw.ldN xS yW (k:=0) rfl rfl (nle rfl):lz s1 43 (qg σ.y 0) (qh y0)) h1 h2 (xL u1) ((zE (zO (nlt σ.y 0 1 rfl)) zH):zG s1.y [pq σ.y 0]) (an6 ((zE (zO (nlt σ.y 0 1 rfl)) zH):zG s1.y [pq σ.y 0]) h3 h4 h5 (⟨⟨(nlt σ.y 0 1 rfl),rfl⟩,((zC _ _ _).rw.ldN xS yW (k:=0) rfl rfl (nle rfl))⟩:(zLq s1 43 (qg σ.y 0) (qh y0))) h6 nx)))
theorem yAH:let s1:=σ.row (wkc am af ab ad ae aa ac ao au aj) 6;∀ (h1:qn 22 [qh (wkc am af ab ad ae aa ac ao au aj)] s1 (iV n1) s1) (h2:qn 26 [qh (wkc am af ab ad ae aa ac ao au aj),.slice roster aZ bf] s1 (.bool true) s1) (h3:qn 31 [qh (wkc am af ab ad ae aa ac ao au aj),.slice roster aZ bf] s1 (.bool true) s1) (h4:qn 34 [.slice roster aZ bf] s1 (iV n4) s1) (nx:Q (.bool true) s1) (u1:n1=0:=by omega) (u2:eI≤n4:=by omega),qi 20 [qh (wkc am af ab ad ae aa ac ao au aj),.slice roster aZ bf,iV eI] σ Q:=
 let s1:=σ.row (wkc am af ab ad ae aa ac ao au aj) 6;fun h1 h2 h3 h4 nx u1 u2=>zI [.g,.g,.l (qh (wkc am af ab ad ae aa ac ao au aj)),.c (iV n1) s1,.b true,.g,.l (qh (wkc am af ab ad ae aa ac ao au aj)),.g,.c (.bool true) s1,.g,.g,.l (qh (wkc am af ab ad ae aa ac ao au aj)),.g,.c (.bool true) s1,.g,.g,.g,.c (iV n4) s1,.g,.b true,.g,.g] (kd (an3 ((zC _ _ _).rw.ldN xS yW (k:=0) rfl rfl (nle rfl):lz s1 43 (qg σ.y 0) (qh (wkc am af ab ad ae aa ac ao au aj))) h1 (xH u1) (an6 ((zC _ _ _).rw.ldN xS yW (k:=0) rfl rfl (nle rfl):lz s1 43 (qg σ.y 0) (qh (wkc am af ab ad ae aa ac ao au aj))) h2 ((zC _ _ _).rw.ldN xS yW (k:=0) rfl rfl (nle rfl):lz s1 43 (qg σ.y 0) (qh (wkc am af ab ad ae aa ac ao au aj))) h3 h4 (yE u2) nx)))
theorem yAG:let s1:=σ.row (wkc am af ab ad ae aa ac ao au aj) 6;∀ (h1:qn 22 [qh (wkc am af ab ad ae aa ac ao au aj)] s1 (iV n1) s1) (h2:qn 26 [qh (wkc am af ab ad ae aa ac ao au aj),.slice roster aZ bf] s1 (.bool true) s1) (h3:qn 31 [qh (wkc am af ab ad ae aa ac ao au aj),.slice roster aZ bf] s1 (.bool true) s1) (h4:qn 34 [.slice roster aZ bf] s1 (iV n4) s1) (nx:Q (.bool false) s1) (u1:n1=0:=by omega) (u2:¬ eI≤n4:=by omega),qi 20 [qh (wkc am af ab ad ae aa ac ao au aj),.slice roster aZ bf,iV eI] σ Q:=
 let s1:=σ.row (wkc am af ab ad ae aa ac ao au aj) 6;fun h1 h2 h3 h4 nx u1 u2=>zI [.g,.g,.l (qh (wkc am af ab ad ae aa ac ao au aj)),.c (iV n1) s1,.b true,.g,.l (qh (wkc am af ab ad ae aa ac ao au aj)),.g,.c (.bool true) s1,.g,.g,.l (qh (wkc am af ab ad ae aa ac ao au aj)),.g,.c (.bool true) s1,.g,.g,.g,.c (iV n4) s1,.g,.b false,.g,.g] (kd (an3 ((zC _ _ _).rw.ldN xS yW (k:=0) rfl rfl (nle rfl):lz s1 43 (qg σ.y 0) (qh (wkc am af ab ad ae aa ac ao au aj))) h1 (xH u1) (an6 ((zC _ _ _).rw.ldN xS yW (k:=0) rfl rfl (nle rfl):lz s1 43 (qg σ.y 0) (qh (wkc am af ab ad ae aa ac ao au aj))) h2 ((zC _ _ _).rw.ldN xS yW (k:=0) rfl rfl (nle rfl):lz s1 43 (qg σ.y 0) (qh (wkc am af ab ad ae aa ac ao au aj))) h3 h4 (yJ u2) nx)))
theorem yAF:let s1:=σ.row (wkc am af ab ad ae aa ac ao au aj) 6;∀ (h1:qn 22 [qh (wkc am af ab ad ae aa ac ao au aj)] s1 (iV n1) s1) (h2:qn 26 [qh (wkc am af ab ad ae aa ac ao au aj),.slice roster aZ bf] s1 (.bool true) s1) (h3:qn 31 [qh (wkc am af ab ad ae aa ac ao au aj),.slice roster aZ bf] s1 (.bool false) s1) (nx:Q (.bool false) s1) (u1:n1=0:=by omega),qi 20 [qh (wkc am af ab ad ae aa ac ao au aj),.slice roster aZ bf,iV eI] σ Q:=
 let s1:=σ.row (wkc am af ab ad ae aa ac ao au aj) 6;fun h1 h2 h3 nx u1=>zI [.g,.g,.l (qh (wkc am af ab ad ae aa ac ao au aj)),.c (iV n1) s1,.b true,.g,.l (qh (wkc am af ab ad ae aa ac ao au aj)),.g,.c (.bool true) s1,.g,.g,.l (qh (wkc am af ab ad ae aa ac ao au aj)),.g,.c (.bool false) s1,.g,.g,.g,.g] (kd (ai ((zC _ _ _).rw.ldN xS yW (k:=0) rfl rfl (nle rfl):lz s1 43 (qg σ.y 0) (qh (wkc am af ab ad ae aa ac ao au aj))) (an6 h1 (xH u1) ((zC _ _ _).rw.ldN xS yW (k:=0) rfl rfl (nle rfl):lz s1 43 (qg σ.y 0) (qh (wkc am af ab ad ae aa ac ao au aj))) h2 ((zC _ _ _).rw.ldN xS yW (k:=0) rfl rfl (nle rfl):lz s1 43 (qg σ.y 0) (qh (wkc am af ab ad ae aa ac ao au aj))) h3 nx)))
theorem yAE:let s1:=σ.row (wkc am af ab ad ae aa ac ao au aj) 6;∀ (h1:qn 22 [qh (wkc am af ab ad ae aa ac ao au aj)] s1 (iV n1) s1) (h2:qn 26 [qh (wkc am af ab ad ae aa ac ao au aj),.slice roster aZ bf] s1 (.bool false) s1) (nx:Q (.bool false) s1) (u1:n1=0:=by omega),qi 20 [qh (wkc am af ab ad ae aa ac ao au aj),.slice roster aZ bf,iV eI] σ Q:=
 let s1:=σ.row (wkc am af ab ad ae aa ac ao au aj) 6;fun h1 h2 nx u1=>zI [.g,.g,.l (qh (wkc am af ab ad ae aa ac ao au aj)),.c (iV n1) s1,.b true,.g,.l (qh (wkc am af ab ad ae aa ac ao au aj)),.g,.c (.bool false) s1,.g,.g,.g,.g,.g,.g] (kd (an5 ((zC _ _ _).rw.ldN xS yW (k:=0) rfl rfl (nle rfl):lz s1 43 (qg σ.y 0) (qh (wkc am af ab ad ae aa ac ao au aj))) h1 (xH u1) ((zC _ _ _).rw.ldN xS yW (k:=0) rfl rfl (nle rfl):lz s1 43 (qg σ.y 0) (qh (wkc am af ab ad ae aa ac ao au aj))) h2 nx))
theorem yAD:let s1:=σ.row (wkc am af ab ad ae aa ac ao au aj) 6;∀ (h1:qn 22 [qh (wkc am af ab ad ae aa ac ao au aj)] s1 (iV n1) s1) (nx:Q (.bool false) s1) (u1:¬ n1=0:=by omega),qi 20 [qh (wkc am af ab ad ae aa ac ao au aj),.slice roster aZ bf,iV eI] σ Q:=
 let s1:=σ.row (wkc am af ab ad ae aa ac ao au aj) 6;fun h1 nx u1=>zI [.g,.g,.l (qh (wkc am af ab ad ae aa ac ao au aj)),.c (iV n1) s1,.b false,.g,.g,.g,.g,.g,.g,.g] (kd (an3 ((zC _ _ _).rw.ldN xS yW (k:=0) rfl rfl (nle rfl):lz s1 43 (qg σ.y 0) (qh (wkc am af ab ad ae aa ac ao au aj))) h1 (xL u1) nx))
theorem yHV (hb:∀ k aH bN σ,Inv k aH bN σ→zLK roster aZ bf aH bN σ (NX2 Inv k) Q0):∀ k aH bN σ,Inv k aH bN σ→yET roster aZ bf aH bN σ Q0 :=
 zEV (ai (wI 0) trivial) hb
theorem yUP (h1:lz σ 3 (zN gh (Int.toNat bN*1)) (iV nG)) (nx:Nx (aH+1) (bN+1) σ) (u1:bN<(aZ:Int):=by omega) (u2:Ix bN aZ:=by omega) (u3:¬ nG=(-1):=by omega) (u4:I6 (aH+1):=by omega) (u5:I6 (bN+1):=by omega):zLK (some gh) aZ bf aH bN σ Nx Q0 :=
 kO 0 (aH+1,bN+1) [.b true,.i,.l (iV nG),.g,.g,.b true,.g,.n (aH+1),.g,.n (bN+1),.g] (fun _ f=>an6 (zR u1) u2 h1 (zCF u3) (w64 u4) (w64 u5) f) nx
theorem yUO (h1:lz σ 3 (zN gh (Int.toNat bN*1)) (iV nG)) (nx:Nx aH (bN+1) σ) (u1:bN<(aZ:Int):=by omega) (u2:Ix bN aZ:=by omega) (u3:nG=(-1):=by omega) (u4:I6 (bN+1):=by omega):zLK (some gh) aZ bf aH bN σ Nx Q0 :=
 kO 0 (aH,bN+1) [.b true,.i,.l (iV nG),.g,.g,.b false,.n (bN+1),.g] (fun _ f=>an5 (zR u1) u2 h1 (zAF u3) (w64 u4) f) nx
theorem yUN (nx:Q0 aH σ) (u1:¬ bN<(aZ:Int):=by omega):zLK roster aZ bf aH bN σ Nx Q0 :=
 kO 1 aH [.b false] (fun _ f=>ai (zT u1) f) nx
theorem xDX (hL:yET roster aZ bf 0 0 σ P0) (k0:∀ i2_1' σ',P0 i2_1' σ'→zTW roster aZ bf i2_1' σ' Q):qi 34 [.slice roster aZ bf] σ Q :=
 zI [.g,.g,.g,.g,.lf 17 (zFU roster aZ bf 0 0) [zJV roster aZ bf P0]] (kd (ai (ai tt (ai (arf (zFU roster aZ bf 0 0)) hL)) (ai (kz1 k0) trivial)))
theorem yHU (nx:Q (iV aH) σ):zTW roster aZ bf aH σ Q :=
 sK [.g,.g] nx
theorem xMH (h1:uH Pg .eql 29 (.tmp 3) (.const (.slice none 0 0)) (.slice s s_l s_c) (.slice none 0 0)=some (.bool false)) (h2:yD Pg 29 29 (.slice (some (qg σ.y 0)) 0 0) (.slice s s_l s_c) (σ.row [] 1)=some (.slice q2 l2 c2,σ1)) (nx:Q (.slice q2 l2 c2) σ1):qi 32 [.slice s s_l s_c] σ Q :=
 zI [.g,.g,.v (.bool false),.g,.g,.e (.slice q2 l2 c2) σ1,.g] (kd (an2 h1 h2 nx))
end
section
variable {σ:St}
theorem xVT {p:Option Addr} {len cap:Nat} {g:FuncId} {ga:List Value} {gc:List Value} {xs:List Dty} {f:Dty→Bool} (hs:SlV Pg σ 69 5 p len (xs.map uO)) (hlen:len≤1073741824)
  (hc:∀ x∈xs,∀ τ,Le σ τ→zD Pg g (ga++(uO x::gc)) τ (.bool (f x)) τ):∃ r:Int,zD Pg 77 [.slice p len cap,.func (.func g) ⟨ga⟩ ⟨gc⟩] σ (iV r) σ∧(0≤r↔xs.any f=true):=by
 have hl:xs.length=len:=by have:=hs.2.1;simpa using this
 have key:zP Pg 77 [.slice p len cap,.func (.func g) ⟨ga⟩ ⟨gc⟩] σ.re fun v s=>(∃ r:Int,v=iV r∧(0≤r↔xs.any f=true))∧s=σ.re:=by
  refine xQZ (yTZ (Inv:=fun k i τ=>τ=σ.re∧∃ j:Nat,i=j∧j+k=len∧(xs.take j).any f=false) (Qr:=fun i τ=>τ=σ.re∧0≤i∧xs.any f=true) (Q0:=fun τ=>τ=σ.re∧xs.any f=false) ?_ len 0 σ.re ⟨rfl,0,rfl,by omega,by simp⟩) ?_ ?_
  ·rintro k i τ ⟨rfl,j,rfl,hk,ha⟩;by_cases hj:j<len
   ·obtain ⟨a,rfl,x,hx,ld⟩:=vQ hs.re hj;have c:=hc x (List.mem_of_getElem? hx) σ.re (le0 σ);cases hf:f x with
    | true =>
     rw [hf] at c;exact xKY ld c ⟨rfl,by omega,List.any_eq_true.2 ⟨x,List.mem_of_getElem? hx,hf⟩⟩
    | false =>
     rw [hf] at c;exact xKX ld c ⟨k-1,by omega,rfl,j+1,by omega,by omega,by rw [wU hx,List.any_append,ha];simp [hf]⟩
   ·exact xKW ⟨rfl,by rwa [List.take_of_length_le (by omega)] at ha⟩
  ·rintro i τ ⟨rfl,h1,h2⟩;exact yTX ⟨⟨i,rfl,by simp [h1,h2]⟩,rfl⟩
  ·rintro τ ⟨rfl,h⟩;exact yTY ⟨⟨-1,rfl,by simp [h]⟩,rfl⟩
 obtain ⟨v,s,h1,⟨r,rfl,h2⟩,rfl⟩:=key;exact ⟨r,zQP h1 (Nat.le_refl _) rfl,h2⟩
theorem xWA {p:Option Addr} {len cap:Nat} {g:FuncId} {ga:List Value} {gc:List Value} {xs:List Dty} {f:Dty→Bool} (hs:SlV Pg σ 69 5 p len (xs.map uO)) (hlen:len≤1073741824)
  (hc:∀ x∈xs,∀ τ,Le σ τ→zD Pg g (ga++(uO x::gc)) τ (.bool (f x)) τ):zD Pg 56 [.slice p len cap,.func (.func g) ⟨ga⟩ ⟨gc⟩] σ (.bool (xs.any f)) σ:=by
 obtain ⟨r,h1,h2⟩:=xVT (σ:=σ.re) (cap:=cap) hs.re hlen (fun x hx τ hτ=>hc x hx τ ((le0 σ).trans hτ));cases ha:xs.any f with
 | true=>exact (xRT h1 ⟨rfl,Nat.le_refl _⟩ (h2.2 ha)).pure
 | false=>exact (xRS h1 ⟨rfl,Nat.le_refl _⟩ (fun h=>by rw [h2.1 h] at ha;cases ha)).pure
theorem xSS {x:Dty} {a:Addr} {g:FuncId} {ga:List Value} {gc:List Value} {b:Bool} (hr:Row σ a [.func (.func g) ⟨ga⟩ ⟨gc⟩]) (hc:∀ τ,Le σ τ→zD Pg g (ga++(uO x::gc)) τ (.bool b) τ) :
  zD Pg 57 [uO x,.pointer (some a)] σ (.bool (!b)) σ:=by
 cases b with
 | true=>exact (xNG (hr.re.row.ld1 xTX) (hc _ ((le0 σ).trans (Le.row _ _ _))) ⟨rfl,Nat.le_refl _⟩).pure
 | false=>exact (xNF (hr.re.row.ld1 xTX) (hc _ ((le0 σ).trans (Le.row _ _ _))) ⟨rfl,Nat.le_refl _⟩).pure
theorem xWG {p:Option Addr} {len cap:Nat} {g:FuncId} {ga:List Value} {gc:List Value} {xs:List Dty} {f:Dty→Bool} (hs:SlV Pg σ 69 5 p len (xs.map uO)) (hlen:len≤1073741824)
  (hc:∀ x∈xs,∀ τ,Le σ τ→zD Pg g (ga++(uO x::gc)) τ (.bool (f x)) τ):zD Pg 38 [.slice p len cap,.func (.func g) ⟨ga⟩ ⟨gc⟩] σ (.bool (xs.all f)) σ:=by
 have c:=xWA (σ:=σ.re.row [.func (.func g) ⟨ga⟩ ⟨gc⟩] 1) (g:=57) (ga:=[]) (gc:=[.pointer (some ⟨σ.re.y,0,none⟩)]) (f:=fun x=>!f x) (cap:=cap) hs.re.row hlen
  (fun x hx τ hτ=>xSS ((xQ _ _ _).le hτ) (fun τ' hτ'=>hc x hx τ' ((((le0 σ).trans (Le.row _ _ _)).trans hτ).trans hτ')))
 have e:(xs.any fun x=>!f x)=!xs.all f:=by rw [List.not_all_eq_any_not]
 rw [e] at c;cases ha:xs.all f with
 | true=>rw [ha] at c;exact (xSQ c ⟨rfl,Nat.le_refl _⟩).pure
 | false=>rw [ha] at c;exact (xSR c ⟨rfl,Nat.le_refl _⟩).pure
theorem xVS {p:Option Addr} {len cap:Nat} {g:FuncId} {gc:List Value} {xs:List Int} {f:Int→Bool} (hs:SlV Pg σ 3 1 p len (xs.map zZ)) (hlen:len≤1073741824)
  (hc:∀ x∈xs,∀ τ,Le σ τ→zD Pg g (zZ x::gc) τ (.bool (f x)) τ):∃ r:Int,zD Pg 79 [.slice p len cap,.func (.func g) ⟨[]⟩ ⟨gc⟩] σ (iV r) σ∧(0≤r↔xs.any f=true):=by
 have hl:xs.length=len:=by have:=hs.2.1;simpa using this
 have key:zP Pg 79 [.slice p len cap,.func (.func g) ⟨[]⟩ ⟨gc⟩] σ.re fun v s=>(∃ r:Int,v=iV r∧(0≤r↔xs.any f=true))∧s=σ.re:=by
  refine xQY (yTW (Inv:=fun k i τ=>τ=σ.re∧∃ j:Nat,i=j∧j+k=len∧(xs.take j).any f=false) (Qr:=fun i τ=>τ=σ.re∧0≤i∧xs.any f=true) (Q0:=fun τ=>τ=σ.re∧xs.any f=false) ?_ len 0 σ.re ⟨rfl,0,rfl,by omega,by simp⟩) ?_ ?_
  ·rintro k i τ ⟨rfl,j,rfl,hk,ha⟩;by_cases hj:j<len
   ·obtain ⟨a,rfl,x,hx,ld⟩:=vQ hs.re hj;have c:=hc x (List.mem_of_getElem? hx) σ.re (le0 σ);cases hf:f x with
    | true =>
     rw [hf] at c;exact xKU ld c ⟨rfl,by omega,List.any_eq_true.2 ⟨x,List.mem_of_getElem? hx,hf⟩⟩
    | false =>
     rw [hf] at c;exact xKT ld c ⟨k-1,by omega,rfl,j+1,by omega,by omega,by rw [wU hx,List.any_append,ha];simp [hf]⟩
   ·exact xKS ⟨rfl,by rwa [List.take_of_length_le (by omega)] at ha⟩
  ·rintro i τ ⟨rfl,h1,h2⟩;exact yTU ⟨⟨i,rfl,by simp [h1,h2]⟩,rfl⟩
  ·rintro τ ⟨rfl,h⟩;exact yTV ⟨⟨-1,rfl,by simp [h]⟩,rfl⟩
 obtain ⟨v,s,h1,⟨r,rfl,h2⟩,rfl⟩:=key;exact ⟨r,zQP h1 (Nat.le_refl _) rfl,h2⟩
theorem xVZ {p:Option Addr} {len cap:Nat} {g:FuncId} {gc:List Value} {xs:List Int} {f:Int→Bool} (hs:SlV Pg σ 3 1 p len (xs.map zZ)) (hlen:len≤1073741824)
  (hc:∀ x∈xs,∀ τ,Le σ τ→zD Pg g (zZ x::gc) τ (.bool (f x)) τ):zD Pg 61 [.slice p len cap,.func (.func g) ⟨[]⟩ ⟨gc⟩] σ (.bool (xs.any f)) σ:=by
 obtain ⟨r,h1,h2⟩:=xVS (σ:=σ.re) (cap:=cap) hs.re hlen (fun x hx τ hτ=>hc x hx τ ((le0 σ).trans hτ));cases ha:xs.any f with
 | true=>exact (xRP h1 ⟨rfl,Nat.le_refl _⟩ (h2.2 ha)).pure
 | false=>exact (xRO h1 ⟨rfl,Nat.le_refl _⟩ (fun h=>by rw [h2.1 h] at ha;cases ha)).pure
theorem xSP {x:Int} {a:Addr} {g:FuncId} {gc:List Value} {b:Bool} (hr:Row σ a [.func (.func g) ⟨[]⟩ ⟨gc⟩]) (hc:∀ τ,Le σ τ→zD Pg g (zZ x::gc) τ (.bool b) τ) :
  zD Pg 62 [zZ x,.pointer (some a)] σ (.bool (!b)) σ:=by
 cases b with
 | true=>exact (xNE (hr.re.ld1 xTV) (hc _ (le0 σ)) ⟨rfl,Nat.le_refl _⟩).pure
 | false=>exact (xND (hr.re.ld1 xTV) (hc _ (le0 σ)) ⟨rfl,Nat.le_refl _⟩).pure
theorem xWF {p:Option Addr} {len cap:Nat} {g:FuncId} {gc:List Value} {xs:List Int} {f:Int→Bool} (hs:SlV Pg σ 3 1 p len (xs.map zZ)) (hlen:len≤1073741824)
  (hc:∀ x∈xs,∀ τ,Le σ τ→zD Pg g (zZ x::gc) τ (.bool (f x)) τ):zD Pg 43 [.slice p len cap,.func (.func g) ⟨[]⟩ ⟨gc⟩] σ (.bool (xs.all f)) σ:=by
 have c:=xVZ (σ:=σ.re.row [.func (.func g) ⟨[]⟩ ⟨gc⟩] 1) (g:=62) (gc:=[.pointer (some ⟨σ.re.y,0,none⟩)]) (f:=fun x=>!f x) (cap:=cap) hs.re.row hlen
  (fun x hx τ hτ=>xSP ((xQ _ _ _).le hτ) (fun τ' hτ'=>hc x hx τ' ((((le0 σ).trans (Le.row _ _ _)).trans hτ).trans hτ')))
 have e:(xs.any fun x=>!f x)=!xs.all f:=by rw [List.not_all_eq_any_not]
 rw [e] at c;cases ha:xs.all f with
 | true=>rw [ha] at c;exact (xSN c ⟨rfl,Nat.le_refl _⟩).pure
 | false=>rw [ha] at c;exact (xSO c ⟨rfl,Nat.le_refl _⟩).pure
theorem xVQ {p:Option Addr} {len cap:Nat} {g:FuncId} {ga:List Value} {gc:List Value} {xs:List Drv} {f:Drv→Bool} (hs:zUK σ 61 p len xs) (hlen:len≤1073741824)
  (hc:∀ x∈xs,∀ v τ,Le σ τ→zUO τ v x→zD Pg g (ga++(v::gc)) τ (.bool (f x)) τ):∃ r:Int,zD Pg 78 [.slice p len cap,.func (.func g) ⟨ga⟩ ⟨gc⟩] σ (iV r) σ∧(0≤r↔xs.any f=true):=by
 obtain ⟨vs,hv1,hl,hv3⟩:=hs.le (le0 σ);have key:zP Pg 78 [.slice p len cap,.func (.func g) ⟨ga⟩ ⟨gc⟩] σ.re fun v s=>(∃ r:Int,v=iV r∧(0≤r↔xs.any f=true))∧s=σ.re:=by
  refine xQX (yTR (Inv:=fun k i τ=>τ=σ.re∧∃ j:Nat,i=j∧j+k=len∧(xs.take j).any f=false) (Qr:=fun i τ=>τ=σ.re∧0≤i∧xs.any f=true) (Q0:=fun τ=>τ=σ.re∧xs.any f=false) ?_ len 0 σ.re ⟨rfl,0,rfl,by omega,by simp⟩) ?_ ?_
  ·rintro k i τ ⟨rfl,j,rfl,hk,ha⟩;by_cases hj:j<len
   ·obtain ⟨a,rfl,_⟩:=hv1.some hj;obtain ⟨x,hxe⟩:∃ x,x=xs[j]:=⟨_,rfl⟩;have hx:xs[j]?=some x:=by rw [hxe];simp
    obtain ⟨v,g1,hv⟩:=hv3 j x hx;have c:=hc x (List.mem_of_getElem? hx) v σ.re (le0 σ) hv;obtain ⟨p',l',c',r',n',d',s',j',e',rfl,_⟩:=hv;have ld:zB Pg σ.re 61 (zN a (Int.toNat (j:Int)*6))=some (.agg ⟨zM p' l' c' r' n' d' s' j' e' x.off x.row x.used⟩):=hv1.at rfl g1;cases hf:f x with
    | true =>
     rw [hf] at c;exact xKM ld c ⟨rfl,by omega,List.any_eq_true.2 ⟨x,List.mem_of_getElem? hx,hf⟩⟩
    | false =>
     rw [hf] at c;exact xKL ld c ⟨k-1,by omega,rfl,j+1,by omega,by omega,by rw [wU hx,List.any_append,ha];simp [hf]⟩
   ·exact xKK ⟨rfl,by rwa [List.take_of_length_le (by omega)] at ha⟩
  ·rintro i τ ⟨rfl,h1,h2⟩;exact yTP ⟨⟨i,rfl,by simp [h1,h2]⟩,rfl⟩
  ·rintro τ ⟨rfl,h⟩;exact yTQ ⟨⟨-1,rfl,by simp [h]⟩,rfl⟩
 obtain ⟨v,s,h1,⟨r,rfl,h2⟩,rfl⟩:=key;exact ⟨r,zQP h1 (Nat.le_refl _) rfl,h2⟩
theorem xVX {p:Option Addr} {len cap:Nat} {g:FuncId} {ga:List Value} {gc:List Value} {xs:List Drv} {f:Drv→Bool} (hs:zUK σ 61 p len xs) (hlen:len≤1073741824)
  (hc:∀ x∈xs,∀ v τ,Le σ τ→zUO τ v x→zD Pg g (ga++(v::gc)) τ (.bool (f x)) τ):zD Pg 58 [.slice p len cap,.func (.func g) ⟨ga⟩ ⟨gc⟩] σ (.bool (xs.any f)) σ:=by
 obtain ⟨r,h1,h2⟩:=xVQ (σ:=σ.re) (cap:=cap) (hs.le (le0 σ)) hlen (fun x hx v τ hτ=>hc x hx v τ ((le0 σ).trans hτ));cases ha:xs.any f with
 | true=>exact (xRL h1 ⟨rfl,Nat.le_refl _⟩ (h2.2 ha)).pure
 | false=>exact (xRK h1 ⟨rfl,Nat.le_refl _⟩ (fun h=>by rw [h2.1 h] at ha;cases ha)).pure
theorem xSK {x:Drv} {v:Value} {a:Addr} {g:FuncId} {ga:List Value} {gc:List Value} {b:Bool} (hv:zUO σ v x) (hr:Row σ a [.func (.func g) ⟨ga⟩ ⟨gc⟩]) (hc:∀ τ,Le σ τ→zUO τ v x→zD Pg g (ga++(v::gc)) τ (.bool b) τ) :
  zD Pg 59 [v,.pointer (some a)] σ (.bool (!b)) σ:=by
 have hc2:=fun τ (hτ:Le σ τ)=>hc τ hτ (hv.le hτ)
 obtain ⟨p',l',c',r',n',d',s',j',e',rfl,_⟩:=hv;cases b with
 | true=>exact (xNA (hr.re.row.ld1 xTW) (hc2 _ ((le0 σ).trans (Le.row _ _ _))) ⟨rfl,Nat.le_refl _⟩).pure
 | false=>exact (xMZ (hr.re.row.ld1 xTW) (hc2 _ ((le0 σ).trans (Le.row _ _ _))) ⟨rfl,Nat.le_refl _⟩).pure
theorem xWD {p:Option Addr} {len cap:Nat} {g:FuncId} {ga:List Value} {gc:List Value} {xs:List Drv} {f:Drv→Bool} (hs:zUK σ 61 p len xs) (hlen:len≤1073741824)
  (hc:∀ x∈xs,∀ v τ,Le σ τ→zUO τ v x→zD Pg g (ga++(v::gc)) τ (.bool (f x)) τ):zD Pg 40 [.slice p len cap,.func (.func g) ⟨ga⟩ ⟨gc⟩] σ (.bool (xs.all f)) σ:=by
 have c:=xVX (σ:=σ.re.row [.func (.func g) ⟨ga⟩ ⟨gc⟩] 1) (g:=59) (ga:=[]) (gc:=[.pointer (some ⟨σ.re.y,0,none⟩)]) (f:=fun x=>!f x) (cap:=cap) (hs.le ((le0 σ).trans (Le.row _ _ _))) hlen
  (fun x hx v τ hτ hv=>xSK hv ((xQ _ _ _).le hτ) (fun τ' hτ'=>hc x hx v τ' ((((le0 σ).trans (Le.row _ _ _)).trans hτ).trans hτ')))
 have e:(xs.any fun x=>!f x)=!xs.all f:=by rw [List.not_all_eq_any_not]
 rw [e] at c;cases ha:xs.all f with
 | true=>rw [ha] at c;exact (xSI c ⟨rfl,Nat.le_refl _⟩).pure
 | false=>rw [ha] at c;exact (xSJ c ⟨rfl,Nat.le_refl _⟩).pure
section
variable {w:Wk} {p q:Option Addr} {l m c d:Nat}
theorem xOM {x:Dty} (hd:1≤w.M∧w.M≤7):zD Pg 39 [.agg ⟨wkc w.M p l c q m d w.rest w.run w.j⟩,uO x] σ (.bool (vV w x)) σ:=by
 have cin:∀ {τ:St} {n lo hi:Int} {b:Bool},inB n lo hi=b→zD Pg 30 [iV n,iV lo,iV hi] τ (.bool b) τ:=fun e=>e ▸ zIG
 unfold vV;cases c1:inB x.day 0 (w.M-1) with
 | false=>exact (xFU (cin c1) ⟨rfl,Nat.le_refl _⟩ (by omega)).pure
 | true =>
 cases c2:inB x.on 0 1439 with
 | false=>exact (xFV (cin c1) (cin c2) ⟨rfl,Nat.le_refl _⟩ (by omega)).pure
 | true =>
 have hon:=zAG.1 c2;by_cases h1:x.on≤x.lo;rotate_left
 ·have:inB x.lo x.on x.hi=false:=yDO.2 (fun h=>h1 h.1);rw [this];exact (xFW (cin c1) (cin c2) ⟨rfl,Nat.le_refl _⟩ (by omega) h1).pure
 by_cases h2:x.lo≤x.hi;rotate_left
 ·have:inB x.lo x.on x.hi=false:=yDO.2 (fun h=>h2 h.2);rw [this];exact (xFX (cin c1) (cin c2) ⟨rfl,Nat.le_refl _⟩ (by omega) h1 h2).pure
 have c3:inB x.lo x.on x.hi=true:=zAG.2 ⟨h1,h2⟩;rw [c3];by_cases h3:x.hi≤x.on+1440
 ·rw [decide_eq_false (by omega:¬ x.on+1440<x.hi)];exact (xFZ (cin c1) (cin c2) (cin rfl) ⟨by simp,Nat.le_refl _⟩ (by omega) h1 h2 (by omega) h3).pure
 ·rw [decide_eq_true (by omega:x.on+1440<x.hi)];exact (xFY (cin c1) (cin c2) ⟨rfl,Nat.le_refl _⟩ (by omega) h1 h2 (by omega) h3).pure
theorem yZQ {x:Drv} {v:Value} (hv:zUO σ v x) (hl:x.J.length≤1000∧x.qa.length≤1000∧x.qb.length≤1000) (hd:1≤w.M∧w.M≤7):zD Pg 41 [.agg ⟨wkc w.M p l c q m d w.rest w.run w.j⟩,v] σ (.bool (zAB w x)) σ:=by
 have cin:∀ {τ:St} {n lo hi:Int} {b:Bool},inB n lo hi=b→zD Pg 30 [iV n,iV lo,iV hi] τ (.bool b) τ:=fun e=>e ▸ zIG
 obtain ⟨p',l',c',r',n',d',s',j',e',rfl,hkn,hlv,hws⟩:=hv;have L2:Le σ ((σ.re.row (wkc w.M p l c q m d w.rest w.run w.j) 6).row (zM p' l' c' r' n' d' s' j' e' x.off x.row x.used) 6):=((le0 σ).trans (Le.row _ _ _)).trans (Le.row _ _ _);have k1:=yFX (c:=c') (lo:=0) (hi:=15) (SlV.le hkn L2) (by have:=hkn.len;omega);have k2:=yFX (c:=d') (lo:=0) (hi:=w.M-1) (SlV.le hlv L2) (by have:=hlv.len;omega);have k3:=yFX (c:=e') (lo:=0) (hi:=w.M-1) (SlV.le hws L2) (by have:=hws.len;omega);unfold zAB;cases c1:wO x.J 0 15 with
 | false=>rw [c1] at k1;exact (yPP k1 ⟨rfl,Nat.le_refl _⟩).pure
 | true =>
 rw [c1] at k1;cases c2:wO x.qa 0 (w.M-1) with
 | false=>rw [c2] at k2;exact (yPQ k1 k2 ⟨rfl,Nat.le_refl _⟩ (by omega)).pure
 | true =>
 rw [c2] at k2;cases c3:wO x.qb 0 (w.M-1) with
 | false=>rw [c3] at k3;exact (yPR k1 k2 k3 ⟨rfl,Nat.le_refl _⟩ (by omega)).pure
 | true =>
 rw [c3] at k3;cases c4:inB x.off (-10080) 1440 with
 | false=>exact (yPS k1 k2 k3 (cin c4) ⟨rfl,Nat.le_refl _⟩ (by omega)).pure
 | true =>
 cases c5:inB x.row 0 14 with
 | false=>exact (yPT k1 k2 k3 (cin c4) (cin c5) ⟨rfl,Nat.le_refl _⟩ (by omega)).pure
 | true=>exact (yPU k1 k2 k3 (cin c4) (cin c5) (cin rfl) ⟨by simp,Nat.le_refl _⟩ (by omega)).pure
theorem zKM (h:WkP σ 69 61 w p l q m) (hsh:uX w):zD Pg 22 [.agg ⟨wkc w.M p l c q m d w.rest w.run w.j⟩] σ (iV (yM w)) σ:=by
 have hn:=h.len.1;have hm:=h.len.2;by_cases h12:12<l
 ·have:yM w=3:=by unfold yM;rw [if_pos (.inl (by omega))]
  rw [this];exact (yJB ⟨rfl,Nat.le_refl _⟩ (by omega)).pure
 by_cases h6:6<m
 ·have:yM w=3:=by unfold yM;rw [if_pos (.inr (by omega))]
  rw [this];exact (yJA ⟨rfl,Nat.le_refl _⟩ (by omega) (by omega)).pure
 have hf0:yM w=if vL w && (w.N.all (vV w) && w.L.all (zAB w)) then 0 else 1:=by unfold yM;rw [if_neg (by omega)]
 have cin:∀ {τ:St} {n lo hi:Int} {b:Bool},inB n lo hi=b→zD Pg 30 [iV n,iV lo,iV hi] τ (.bool b) τ:=fun e=>e ▸ zIG
 have no:vL w=false→yM w=1:=fun e=>by rw [hf0,e];rfl
 cases b1:inB w.M 1 7 with
 | false=>rw [no (by unfold vL;rw [b1];rfl)];exact (yIT (cin b1) ⟨rfl,Nat.le_refl _⟩ (by omega) (by omega)).pure
 | true =>
 cases b2:inB w.rest 0 3000 with
 | false=>rw [no (by unfold vL;rw [b1,b2];rfl)];exact (yIU (cin b1) (cin b2) ⟨rfl,Nat.le_refl _⟩ (by omega) (by omega)).pure
 | true =>
 cases b3:inB w.run 1 14 with
 | false=>rw [no (by unfold vL;rw [b1,b2,b3];rfl)];exact (yIV (cin b1) (cin b2) (cin b3) ⟨rfl,Nat.le_refl _⟩ (by omega) (by omega)).pure
 | true =>
 cases b4:inB w.j 0 20000 with
 | false=>rw [no (by unfold vL;rw [b1,b2,b3,b4];rfl)];exact (yIW (cin b1) (cin b2) (cin b3) (cin b4) ⟨rfl,Nat.le_refl _⟩ (by omega) (by omega)).pure
 | true =>
 have hh:vL w=true:=by unfold vL;rw [b1,b2,b3,b4];rfl
 have hd:=zAG.1 b1;have L1:Le σ (σ.re.row (wkc w.M p l c q m d w.rest w.run w.j) 6):=(le0 σ).trans (Le.row _ _ _);have cd:=xWG (cap:=c) (g:=39) (ga:=[.agg ⟨wkc w.M p l c q m d w.rest w.run w.j⟩]) (gc:=[]) (f:=vV w) (SlV.le h.dty L1) (by omega) (fun x _ τ _=>xOM hd);have cv:=xWD (cap:=d) (g:=41) (ga:=[.agg ⟨wkc w.M p l c q m d w.rest w.run w.j⟩]) (gc:=[]) (f:=zAB w) (h.drv.le L1) (by omega) (fun x hx v τ _ hv=>yZQ hv (hsh x hx) hd);cases e1:w.N.all (vV w) with
 | false=>rw [e1] at cd;rw [hf0,hh,e1];exact (yIX (cin b1) (cin b2) (cin b3) (cin b4) cd ⟨rfl,Nat.le_refl _⟩ (by omega) (by omega)).pure
 | true =>
 rw [e1] at cd;cases e2:w.L.all (zAB w) with
 | false=>rw [e2] at cv;rw [hf0,hh,e1,e2];exact (yIY ⟨(cin b1),(cin b2),(cin b3),(cin b4),cd⟩ cv ⟨rfl,Nat.le_refl _⟩ (by omega) (by omega)).pure
 | true=>rw [e2] at cv;rw [hf0,hh,e1,e2];exact (yIZ ⟨(cin b1),(cin b2),(cin b3),(cin b4),cd⟩ cv ⟨rfl,Nat.le_refl _⟩ (by omega) (by omega)).pure
end
end
def zY (rs:List Int) (i:Nat):Int:=rs.getD i 0
section
variable {w:Wk} {ros tru:Nat→Int} {k D i:Nat}
end
section
variable {σ:St} {w:Wk} {p q r t:Option Addr} {l m c d rc tc:Nat} {rs ts:List Int} {k D:Nat}
end
structure Sane (w:Wk) (l m:Nat):Prop where
 l12:l≤12
 m6:m≤6
 duty:∀ i,i<l→0≤(dty w i).day∧(dty w i).day≤6∧0≤(dty w i).on∧(dty w i).on≤1439∧(dty w i).on≤(dty w i).lo∧(dty w i).lo≤(dty w i).hi∧(dty w i).hi≤(dty w i).on+1440
 dr:∀ k,k<m→-10080≤(drQ w k).off∧(drQ w k).off≤1440∧0≤(drQ w k).row∧(drQ w k).row≤14∧0≤(drQ w k).used∧(drQ w k).used≤20000
 kn:∀ k,k<m→(drQ w k).J.length≤1000∧(drQ w k).qa.length≤1000∧(drQ w k).qb.length≤1000
 rest:0≤w.rest∧w.rest≤3000
 run:1≤w.run∧w.run≤14
 j:0≤w.j∧w.j≤20000
theorem yVV {n:Nat} {p q r:Option Addr} {l c m d j e:Nat} {x y z:Int} (h1:∀ a,p=some a→a.block<n) (h2:∀ a,q=some a→a.block<n) (h3:∀ a,r=some a→a.block<n):yX RD n (.agg ⟨zM p l c q m d r j e x y z⟩)=true:=by
 have e1:∀ a b:Nat,a<b→Nat.blt a b=true:=fun a b h=>by rw [Nat.blt_eq];exact h
 show List.all (zM p l c q m d r j e x y z) (yX (RD-1) n)=true;rcases p with _ | p <;> rcases q with _ | q <;> rcases r with _ | r <;> simp [yX,RD] <;> simp_all
theorem zBZ {n:Nat} {p q:Option Addr} {l c m d:Nat} {a x y z:Int} (h1:∀ a,p=some a→a.block<n) (h2:∀ a,q=some a→a.block<n):yX RD n (.agg ⟨wkc a p l c q m d x y z⟩)=true:=by
 have e1:∀ a b:Nat,a<b→Nat.blt a b=true:=fun a b h=>by rw [Nat.blt_eq];exact h
 show List.all (wkc a p l c q m d x y z) (yX (RD-1) n)=true;rcases p with _ | p <;> rcases q with _ | q <;> simp [yX,RD] <;> simp_all
section
variable {σ:St} {w:Wk} {p q r t:Option Addr} {l m c d rc tc:Nat} {rs ts:List Int} {k i:Nat}
end
abbrev yOP (b:Bch):Value:=.agg ⟨rcd b.kind b.drv b.dut⟩
section
variable {w:Wk} {ros tru:Nat→Int} {k q j:Nat}
end
section
variable {σ:St} {w:Wk} {p q r t:Option Addr} {l m c d rc tc:Nat} {rs ts:List Int} {k i:Nat}
end
def zPA (w:Wk) (rs:List Int):Bool:=rs.all (fun x=>inB x (-1) ((w.L.length:Int)-1)) && decide (rs.length=w.N.length)
def zBF (w:Wk):List Int:=w.N.map Dty.hi
section
variable {σ:St} {w:Wk} {p q r t:Option Addr} {l m c d rl rc tl tc:Nat} {rs ts:List Int} {td tv:Nat}
end
section
noncomputable section
variable (BA:Nat) (af vals ae:oAa) (f1:FuncId) (ab bL aa ad bQ ac:Nat) (dY:lVa) (q2:(Option Addr)→Nat→Nat→St→Prop) (fj:oAa) (q0:(Option Addr)→Nat→Nat→Int→St→Prop) (aH:Int) (q5:Int→St→Prop) (q6:St→Prop) (g:Nat→Value) (ms:List Nat) (fm ft:Nat) (st:LoopState) (aG:Int) (pend:Option Code) (σ:St) (db:Nat) (Q:vPa) (Nx Qr:Int→St→Prop) (q3:(Option Addr)→Nat→Nat→Int→St→Prop) (Qn Q0:St→Prop) (q4:(Option Addr)→Nat→Nat→St→Prop)
def zHE:Code:=(Code.part [1,0,1,0,0] (qj 54))
def zHD:Code:=(Code.part [1,0,1,0,1] (qj 54))
def zFT:lNa:=[(4,pq BA 0),(8,.func (.func f1) ⟨[]⟩ ⟨dY⟩)]
def yEP:Blk:=.loop (Fm 16 (ov (zFT BA f1 dY) g)) [9,10] zHE zHD st pend db
def xDV:Prop:=zSL Pg ql (.tmp 8) ⟨[9,10]⟩ zHE zHD 16 (zFT BA f1 dY) [(.normal,Qn)] σ
def zTT:Prop:=∀ g:Nat→Value,∃ an,Hid (kAt Pg ql none (qj 54) [1,0,1,0] (qo 54 Q) .normal ⟨Fm 16 (ov (zFT BA f1 dY) g),ms⟩ σ an)
def yYX:Code:=(Code.part [1,0,1,0,0] (qj 52))
def zPQ:lNa:=[(2,.slice fj fm ft),(6,.slice af ab ad),(7,iV (ab:Int)),(8,iV aG)]
def xLW:Alt:=⟨(Option Addr) × Nat × Nat × Int,.normal,fun t=>zPQ af ab ad t.1 t.2.1 t.2.2.1 t.2.2.2,fun t=>[],fun t σ=>q0 t.1 t.2.1 t.2.2.1 t.2.2.2 σ⟩
def yEN (af:oAa) (ab ad:Nat) (fj:oAa) (fm ft:Nat):lNa:=[(2,.slice fj fm ft)]
def zRS:Alt:=⟨(Option Addr) × Nat × Nat,(.exit 0),fun t=>yEN af ab ad t.1 t.2.1 t.2.2,fun t=>[],fun t σ=>q2 t.1 t.2.1 t.2.2 σ⟩
def yHO:Prop:=qk ql none yYX 20 (zPQ af ab ad fj fm ft aG) [] [xLW af ab ad q3,zRS af ab ad q4] σ
def yYY:Prop:=qm ql none yYX 20 (zPQ af ab ad fj fm ft aG) [] [zRS af ab ad q4] σ
def yEO:Prop:=kZ ql (qj 52) [1,0,1,0] (qo 52 Q) (.exit 0) 20 (yEN af ab ad fj fm ft) σ
def zVV:Code:=(Code.part [1,0,1,0,0] (qj 45))
def zGI:lNa:=[(2,pq BA 0),(6,.slice ae aa ac),(7,iV (aa:Int)),(8,iV aG)]
def yJI:Alt:=⟨Int,.normal,fun t=>zGI BA ae aa ac t,fun t=>[],fun t σ=>q5 t σ⟩
def zOE (BA:Nat) (ae:oAa) (aa ac:Nat):lNa:=[(2,pq BA 0)]
def zGJ:Alt:=⟨Unit,(.exit 0),fun t=>zOE BA ae aa ac,fun t=>[],fun t σ=>q6 σ⟩
def zMT:Prop:=qk ql none zVV 24 (zGI BA ae aa ac aG) [] [yJI BA ae aa ac Nx,zGJ BA ae aa ac Q0] σ
def zVW:Prop:=qm ql none zVV 24 (zGI BA ae aa ac aG) [] [zGJ BA ae aa ac Q0] σ
def zOF:Prop:=kZ ql (qj 45) [1,0,1,0] (qo 45 Q) (.exit 0) 24 (zOE BA ae aa ac) σ
def yOD:Code:=(Code.part [1,1,0,1,0,0] (qj 51))
def zJY:lNa:=[(3,iV 0),(6,.slice vals bL bQ),(7,iV (bL:Int)),(8,iV aG)]
def xEH:Alt:=⟨Int,.normal,fun t=>zJY vals bL bQ t,fun t=>[],fun t σ=>q5 t σ⟩
def zZP (vals:oAa) (bL bQ:Nat) (aH:Int):lNa:=[(2,iV aH)]
def zNU:Alt:=⟨Int,.ret,fun t=>zZP vals bL bQ t,fun t=>[],fun t σ=>q5 t σ⟩
def zZQ (vals:oAa) (bL bQ:Nat):lNa:=[(3,iV 0)]
def zNV:Alt:=⟨Unit,(.exit 0),fun t=>zZQ vals bL bQ,fun t=>[],fun t σ=>q6 σ⟩
def zPV:Prop:=qk ql none yOD 18 (zJY vals bL bQ aG) [] [xEH vals bL bQ Nx,zNU vals bL bQ Qr,zNV vals bL bQ Q0] σ
def yOE:Prop:=qm ql none yOD 18 (zJY vals bL bQ aG) [] [zNU vals bL bQ Qr,zNV vals bL bQ Q0] σ
def zZR:Prop:=kZ ql (qj 51) [1,1,0,1,0] (qo 51 Q) .ret 18 (zZP vals bL bQ aH) σ
def zZS:Prop:=kZ ql (qj 51) [1,1,0,1,0] (qo 51 Q) (.exit 0) 18 (zZQ vals bL bQ) σ
end
variable {am ao au aj day y aB aM ay az aE aG nG nF nD nB nA nE dB dR eC dQ eE x1 aS bu a7 aY n1 n2 n3 n4 d8 aH dX dC eh eS eg fh:Int} {af ae qAB qBB qL qV fj qG qD qE qF q1 vals:oAa} {ab ad aa ac BA lo lEB cBB lFB cCB db lK cM lAB cV fm ft lJ cH lA cE lG cF lH cG l1 c1 bL bQ:Nat} {σ σEB σFB τ σ2 σF fP σL σS:St} {Q:vPa} {f1:FuncId} {dY cs1838 cs1840:lVa} {g:Nat→Value} {Qn Pn Q0 P0:St→Prop} {ms:List Nat} {Inv:Nat→Int→St→Prop} {w_Duties_a bk vals_a:Addr} {Nx Qr Pr:Int→St→Prop} {b2:Bool}
theorem xWW:let y0:=wkc am af ab ad ae aa ac ao au aj;∀ (nx:Q (.func (.func 63) ⟨[]⟩ ⟨[pq σ.y 0,pq ((σ.y+1)) 0]⟩) ((σ.row y0 6).row [iV day] 1)),qi 46 [qh y0,iV day] σ Q :=
 fun nx=>zI [.g,.g,.g,.g,.g] (kd nx)
theorem yUK (hl:yK τ.heap lo=some (yEP BA f1 dY g .ready none db)) (hσ:σ=τ.re.put lo (yEP BA f1 dY g .busy none db)) (h1:lz σ 29 (qg BA 0) (.slice qAB lEB cBB)) (h2:yD Pg 29 29 (.slice qAB lEB cBB) (.slice (some (qg σ.y 0)) 1 1) (σ.row [iV y] 1)=some (.slice qBB lFB cCB,σEB)) (h3:qq (evL [pq BA 0,.slice qBB lFB cCB]) σEB (.store 29 (.tmp 0) (.tmp 1))=some (undef,σFB)) (nx:Qn σFB):zFA Pg lo [iV y,qh (zF aB aM ay az aE)] τ (Fm 16 (ov (zFT BA f1 dY) g)) [9,10] zHE zHD db [⟨Unit,.normal,fun _=>[],fun _=>[],fun _ σ=>Qn σ⟩] :=
 xGV hl rfl hσ [.g,.l (.slice qAB lEB cBB),.g,.g,.e (.slice qBB lFB cCB) σEB,.e undef σFB,.fin ⟨Unit,.normal,fun _=>[],fun _=>[],fun _ σ=>Qn σ⟩ ()] (kc (by kernel_rfl) (ai (ai (rfl:Exit.normal=Exit.normal) (rfl:τ.re=τ.re)) (an3 h1 h2 h3 (xVU (alts:=[⟨Unit,.normal,fun _=>[],fun _=>[],fun _ σ=>Qn σ⟩]) ⟨Unit,.normal,fun _=>[],fun _=>[],fun _ σ=>Qn σ⟩ () nx in0))))
theorem xDU:let y0:=wkc am af ab ad ae aa ac ao au aj;∀ (h1:qn 46 [qh y0,iV day] ((σ.row y0 6).row [.slice none 0 0] 1) (.func (.func f1) ⟨[]⟩ ⟨dY⟩) σ2) (hL:xDV (σ.y+1) f1 dY σ2 Pn) (kn:∀ σ',Pn σ'→zTT (σ.y+1) f1 dY [σ2.y] σ' Q),qi 54 [qh y0,iV day] σ Q :=
 let s1:=zFT (σ.y+1) f1 dY;let y0:=wkc am af ab ad ae aa ac ao au aj;fun h1 hL kn=>zI [.g,.g,.l (qh y0),.g,.c (.func (.func f1) ⟨[]⟩ ⟨dY⟩) σ2,.rf 16 s1 [(.normal,Pn)]] (kd (an2 ((zC _ _ _).row.rw.ldN xS yW (k:=0) rfl rfl (nle rfl):lz ((σ.row y0 6).row [.slice none 0 0] 1) 43 (qg σ.y 0) (qh y0)) h1 (ai (ai tt (ai (arf s1) hL)) (ai (kz kn) trivial))))
theorem yHQ (h1:lz σ 29 (qg BA 0) (.slice qL lK cM)) (h2:qq (evL [pq BA 0,.slice qL lK cM]) σ (.store 29 (.tmp 0) (.tmp 1))=some (undef,σF)) (h3:yZL ms σF fP) (h4:lz fP 29 (qg BA 0) (.slice qV lAB cV)) (nx:Q (.slice qV lAB cV) fP):zTT BA f1 dY ms σ Q :=
 sK [.l (.slice qL lK cM),.e undef σF,.l (.slice qV lAB cV)] (an2 h1 h2 (zMS (K:=(fun fP=>lz fP 29 (qg BA 0) (.slice qV lAB cV)∧Q (.slice qV lAB cV) fP)) h3 (ai h4 nx)))
theorem yUG {Inv:Nat→(Option Addr)→Nat→Nat→Int→St→Prop} {Q0:(Option Addr)→Nat→Nat→St→Prop} (hb:∀ k fj fm ft aG σ,Inv k fj fm ft aG σ→yHO af ab ad fj fm ft aG σ (NX4 Inv k) Q0):∀ k fj fm ft aG σ,Inv k fj fm ft aG σ→yYY af ab ad fj fm ft aG σ Q0 :=
 yTE (ai (wI 0) trivial) hb
theorem xLV {Nx:(Option Addr)→Nat→Nat→Int→St→Prop} {Q0:(Option Addr)→Nat→Nat→St→Prop}:let y0:=zF nG nF nD nB nA;∀ (h1:lz σ 69 (zN w_Duties_a (Int.toNat aG*5)) (qh y0)) (h2:yD Pg 29 29 (.slice fj fm ft) (.slice (some ⟨(σ.y+1),0,none⟩) 1 1) (((σ.row (zF 0 0 0 0 0) 5).own σ.y y0 5).row [iV nB] 1)=some (.slice qG lJ cH,σL)) (nx:Nx qG lJ cH (aG+1) σL) (u1:aG<(ab:Int):=by omega) (u2:Ix aG ab:=by omega) (u3:I6 (aG+1):=by omega),yHO (some w_Duties_a) ab ad fj fm ft aG σ Nx Q0 :=
 let s1:=σ.row (zF 0 0 0 0 0) 5;let s2:=s1.own σ.y (zF nG nF nD nB nA) 5;let y0:=zF nG nF nD nB nA;fun h1 h2 nx u1 u2 u3=>kO 0 (qG,lJ,cH,aG+1) [.b true,.i,.l (qh y0),.g,.e undef s2,.g,.g,.g,.l (iV nB),.g,.e (.slice qG lJ cH) σL,.g,.n (aG+1),.g] (fun _ f=>ai (zR u1) (an6 u2 h1 ((zC _ _ _).store (vs:=y0) rfl uE rfl (nle rfl) rfl:qq (evL [pq σ.y 0,qh y0]) s1 (.store 69 (.tmp 0) (.tmp 1))=some (undef,s2)) ((zC _ _ _).put.rw.ld zS (k:=3) rfl:lz s2 3 (qg σ.y 3) (iV nB)) h2 (w64 u3) f)) nx
theorem xLU {Nx:(Option Addr)→Nat→Nat→Int→St→Prop} {Q0:(Option Addr)→Nat→Nat→St→Prop} (nx:Q0 fj fm ft σ) (u1:¬ aG<(ab:Int):=by omega):yHO af ab ad fj fm ft aG σ Nx Q0 :=
 kO 1 (fj,fm,ft) [.b false] (fun _ f=>ai (zT u1) f) nx
theorem xRG {P0:(Option Addr)→Nat→Nat→St→Prop} (hL:yYY af ab ad none 0 0 0 (σ.row (wkc am af ab ad ae aa ac ao au aj) 6) P0) (k0:∀ p2_1' l2_1' c2_1' σ',P0 p2_1' l2_1' c2_1' σ'→yEO af ab ad p2_1' l2_1' c2_1' σ' Q):qi 52 [qh (wkc am af ab ad ae aa ac ao au aj)] σ Q :=
 zI [.g,.g,.g,.l (.slice af ab ad),.g,.g,.lf 20 (zPQ af ab ad none 0 0 0) [zRS af ab ad P0]] (kd (ai ((zC _ _ _).rw.ld zBD (k:=1) rfl:lz (σ.row (wkc am af ab ad ae aa ac ao au aj) 6) 40 (qg σ.y 1) (.slice af ab ad)) (ai (ai tt (ai (arf (zPQ af ab ad none 0 0 0)) hL)) (ai (kz3 k0) trivial))))
theorem yUF (nx:Q (.slice fj fm ft) σ):yEO af ab ad fj fm ft σ Q :=
 sK [.g,.g] nx
theorem yAT (hb:∀ k aG σ,Inv k aG σ→zMT BA ae aa ac aG σ (NX1 Inv k) Q0):∀ k aG σ,Inv k aG σ→zVW BA ae aa ac aG σ Q0 :=
 xJ (ai (wI 0) trivial) hb
theorem yJH:let y0:=zM qD lA cE qE lG cF qF lH cG nB nA nE;∀ (h1:lz σ 61 (zN bk (Int.toNat aG*6)) (qh y0)) (h2:qq (evL [pq BA (0+Int.toNat aG*4),qh (zK nB nA nE (-1))]) ((σ.row (zM none 0 0 none 0 0 none 0 0 0 0 0) 6).own σ.y y0 6) (.store 87 (.tmp 0) (.tmp 1))=some (undef,σS)) (nx:Nx (aG+1) σS) (u1:aG<(aa:Int):=by omega) (u2:Ix aG aa:=by omega) (u3:Ix aG 6:=by omega) (u4:I6 (aG+1):=by omega),zMT BA (some bk) aa ac aG σ Nx Q0 :=
 let s1:=σ.row (zM none 0 0 none 0 0 none 0 0 0 0 0) 6;let s2:=s1.own σ.y (zM qD lA cE qE lG cF qF lH cG nB nA nE) 6;let y0:=zM qD lA cE qE lG cF qF lH cG nB nA nE;fun h1 h2 nx u1 u2 u3 u4=>kO 0 (aG+1) [.b true,.g,.i,.l (qh y0),.g,.g,.e undef s2,.g,.g,.l (iV nB),.g,.l (iV nA),.g,.l (iV nE),.g,.i,.e undef σS,.n (aG+1),.g] (fun _ f=>an4 (zR u1) u2 h1 ((zC _ _ _).store (vs:=y0) rfl zES rfl (nle rfl) rfl:qq (evL [pq σ.y 0,qh y0]) s1 (.store 61 (.tmp 0) (.tmp 1))=some (undef,s2)) (an6 ((zC _ _ _).put.rw.ld zS (k:=3) rfl:lz s2 3 (qg σ.y 3) (iV nB)) ((zC _ _ _).put.rw.ld zS (k:=4) rfl:lz s2 3 (qg σ.y 4) (iV nA)) ((zC _ _ _).put.rw.ld zS (k:=5) rfl:lz s2 3 (qg σ.y 5) (iV nE)) u3 h2 (w64 u4) f)) nx
theorem yJG (nx:Q0 σ) (u1:¬ aG<(aa:Int):=by omega):zMT BA ae aa ac aG σ Nx Q0 :=
 kO 1 () [.b false] (fun _ f=>ai (zT u1) f) nx
theorem yPV (hL:zVW (σ.y+1) ae aa ac 0 ((σ.row (wkc am af ab ad ae aa ac ao au aj) 6).row [iV 0,iV 0,iV 0,iV 0,iV 0,iV 0,iV 0,iV 0,iV 0,iV 0,iV 0,iV 0,iV 0,iV 0,iV 0,iV 0,iV 0,iV 0,iV 0,iV 0,iV 0,iV 0,iV 0,iV 0] 4) P0) (k0:∀ σ',P0 σ'→zOF (σ.y+1) ae aa ac σ' Q):qi 45 [qh (wkc am af ab ad ae aa ac ao au aj)] σ Q :=
 let s1:=zGI (σ.y+1) ae aa ac 0;zI [.g,.g,.g,.l (.slice ae aa ac),.g,.g,.lf 24 s1 [zGJ (σ.y+1) ae aa ac P0]] (kd (ai ((zC _ _ _).row.rw.ld zAE (k:=2) rfl:lz ((σ.row (wkc am af ab ad ae aa ac ao au aj) 6).row [iV 0,iV 0,iV 0,iV 0,iV 0,iV 0,iV 0,iV 0,iV 0,iV 0,iV 0,iV 0,iV 0,iV 0,iV 0,iV 0,iV 0,iV 0,iV 0,iV 0,iV 0,iV 0,iV 0,iV 0] 4) 41 (qg σ.y 2) (.slice ae aa ac)) (ai (ai tt (ai (arf s1) hL)) (ai (kz0 k0) trivial))))
theorem yAS (h1:lz σ 89 (qg BA 0) (qh cs1838)) (h2:qq (evL [pq BA 0,qh cs1838]) σ (.store 89 (.tmp 0) (.tmp 1))=some (undef,σF)) (h3:lz σF 89 (qg BA 0) (qh cs1840)) (nx:Q (qh cs1840) σF):zOF BA ae aa ac σ Q :=
 sK [.l (qh cs1838),.e undef σF,.l (qh cs1840)] (an3 h1 h2 h3 nx)
theorem yGK (nx:Q (.slice (some (qg σ.y 0)) 5 5) (σ.row [.int .u8 0,.func (.func 64) ⟨[]⟩ ⟨[]⟩,.int .u8 1,.func (.func 65) ⟨[]⟩ ⟨[]⟩,.int .u8 2,.func (.func 66) ⟨[]⟩ ⟨[]⟩,.int .u8 3,.func (.func 67) ⟨[]⟩ ⟨[]⟩,.int .u8 4,.func (.func 68) ⟨[]⟩ ⟨[]⟩] 2)):qi 47 [] σ Q :=
 zI [.g,.g,.g,.g,.g,.g,.g,.g] (kd nx)
theorem xAZ:let s1:=σ.row (wkc am af ab ad (some bk) aa ac ao au aj) 6;let s2:=s1.row (zF aB aM ay az aE) 5;let s3:=s2.row (zK dR eC dQ eE) 4;∀ (h1:lz s3 29 (zN bk ((Int.toNat dB*6)+0)) (.slice q1 l1 c1)) (h2:qn 37 [.slice q1 l1 c1,iV aE] s3 (.bool b2) s3) (nx:Q (.bool b2) s3) (u1:Ix dB aa:=by omega),qi 64 [qh (wkc am af ab ad (some bk) aa ac ao au aj),iV dB,qh (zF aB aM ay az aE),qh (zK dR eC dQ eE)] σ Q:=
 let s1:=σ.row (wkc am af ab ad (some bk) aa ac ao au aj) 6;let s2:=s1.row (zF aB aM ay az aE) 5;let s3:=s2.row (zK dR eC dQ eE) 4;fun h1 h2 nx u1=>zI [.g,.g,.g,.g,.g,.l (.slice (some bk) aa ac),.g,.i,.g,.l (.slice q1 l1 c1),.g,.l (iV aE),.c (.bool b2) s3,.g] (kd (an5 ((zC _ _ _).row.row.rw.ld zAE (k:=2) rfl:lz s3 41 (qg σ.y 2) (.slice (some bk) aa ac)) u1 h1 ((zC _ _ _).row.rw.ld zS (k:=4) rfl:lz s3 3 ⟨(σ.y+1),4,none⟩ (iV aE)) h2 nx))
theorem xHJ:let s1:=σ.row (wkc am af ab ad (some bk) aa ac ao au aj) 6;let s2:=s1.row (zF aB aM ay az aE) 5;let s3:=s2.row (zK dR eC dQ eE) 4;∀ (h1:lz s3 29 (zN bk ((Int.toNat dB*6)+1)) (.slice q1 l1 c1)) (h2:qn 37 [.slice q1 l1 c1,iV aB] s3 (.bool true) s3) (nx:Q (.bool false) s3) (u1:Ix dB aa:=by omega),qi 65 [qh (wkc am af ab ad (some bk) aa ac ao au aj),iV dB,qh (zF aB aM ay az aE),qh (zK dR eC dQ eE)] σ Q:=
 let s1:=σ.row (wkc am af ab ad (some bk) aa ac ao au aj) 6;let s2:=s1.row (zF aB aM ay az aE) 5;let s3:=s2.row (zK dR eC dQ eE) 4;fun h1 h2 nx u1=>zI [.g,.g,.g,.g,.g,.l (.slice (some bk) aa ac),.g,.i,.g,.l (.slice q1 l1 c1),.g,.l (iV aB),.c (.bool true) s3,.g,.g] (kd (an5 ((zC _ _ _).row.row.rw.ld zAE (k:=2) rfl:lz s3 41 (qg σ.y 2) (.slice (some bk) aa ac)) u1 h1 ((zC _ _ _).row.rw.ld zS (k:=0) rfl:lz s3 3 ⟨(σ.y+1),0,none⟩ (iV aB)) h2 nx))
theorem xHI:let s1:=σ.row (wkc am af ab ad (some bk) aa ac ao au aj) 6;let s2:=s1.row (zF aB aM ay az aE) 5;let s3:=s2.row (zK dR eC dQ eE) 4;∀ (h1:lz s3 29 (zN bk ((Int.toNat dB*6)+1)) (.slice q1 l1 c1)) (h2:qn 37 [.slice q1 l1 c1,iV aB] s3 (.bool false) s3) (nx:Q (.bool true) s3) (u1:Ix dB aa:=by omega),qi 65 [qh (wkc am af ab ad (some bk) aa ac ao au aj),iV dB,qh (zF aB aM ay az aE),qh (zK dR eC dQ eE)] σ Q:=
 let s1:=σ.row (wkc am af ab ad (some bk) aa ac ao au aj) 6;let s2:=s1.row (zF aB aM ay az aE) 5;let s3:=s2.row (zK dR eC dQ eE) 4;fun h1 h2 nx u1=>zI [.g,.g,.g,.g,.g,.l (.slice (some bk) aa ac),.g,.i,.g,.l (.slice q1 l1 c1),.g,.l (iV aB),.c (.bool false) s3,.g,.g] (kd (an5 ((zC _ _ _).row.row.rw.ld zAE (k:=2) rfl:lz s3 41 (qg σ.y 2) (.slice (some bk) aa ac)) u1 h1 ((zC _ _ _).row.rw.ld zS (k:=0) rfl:lz s3 3 ⟨(σ.y+1),0,none⟩ (iV aB)) h2 nx))
theorem yRT:let y0:=wkc am af ab ad ae aa ac ao au aj;let y1:=zF aB aM ay az aE;∀ (nx:Q (.bool true) (((σ.row y0 6).row y1 5).row (zK aS bu a7 aY) 4)) (u1:¬ aY=aB:=by omega),qi 66 [qh y0,iV x1,qh y1,qh (zK aS bu a7 aY)] σ Q :=
 let s1:=σ.row (wkc am af ab ad ae aa ac ao au aj) 6;let s2:=s1.row (zF aB aM ay az aE) 5;let s3:=s2.row (zK aS bu a7 aY) 4;fun nx u1=>zI [.g,.g,.g,.g,.g,.l (iV aY),.g,.l (iV aB),.b true,.g] (kd (an3 ((zC _ _ _).rw.ld zS (k:=3) rfl:lz s3 3 ⟨(σ.y+2),3,none⟩ (iV aY)) ((zC _ _ _).row.rw.ld zS (k:=0) rfl:lz s3 3 ⟨(σ.y+1),0,none⟩ (iV aB)) (zCF u1) nx))
theorem yRS:let y0:=wkc am af ab ad ae aa ac ao au aj;let y1:=zF aB aM ay az aE;∀ (nx:Q (.bool false) (((σ.row y0 6).row y1 5).row (zK aS bu a7 aY) 4)) (u1:aY=aB:=by omega),qi 66 [qh y0,iV x1,qh y1,qh (zK aS bu a7 aY)] σ Q :=
 let s1:=σ.row (wkc am af ab ad ae aa ac ao au aj) 6;let s2:=s1.row (zF aB aM ay az aE) 5;let s3:=s2.row (zK aS bu a7 aY) 4;fun nx u1=>zI [.g,.g,.g,.g,.g,.l (iV aY),.g,.l (iV aB),.b false,.g] (kd (an3 ((zC _ _ _).rw.ld zS (k:=3) rfl:lz s3 3 ⟨(σ.y+2),3,none⟩ (iV aY)) ((zC _ _ _).row.rw.ld zS (k:=0) rfl:lz s3 3 ⟨(σ.y+1),0,none⟩ (iV aB)) (zAF u1) nx))
theorem yRW:let y0:=wkc am af ab ad ae aa ac ao au aj;let y1:=zF aB aM ay az aE;∀ (nx:Q (.bool true) (((σ.row y0 6).row y1 5).row (zK aS bu a7 aY) 4)) (u1:aY=aB:=by omega),qi 67 [qh y0,iV x1,qh y1,qh (zK aS bu a7 aY)] σ Q :=
 let s1:=σ.row (wkc am af ab ad ae aa ac ao au aj) 6;let s2:=s1.row (zF aB aM ay az aE) 5;let s3:=s2.row (zK aS bu a7 aY) 4;fun nx u1=>zI [.g,.g,.g,.g,.g,.l (iV aY),.g,.l (iV aB),.b true,.g,.g,.g] (kd (an3 ((zC _ _ _).rw.ld zS (k:=3) rfl:lz s3 3 ⟨(σ.y+2),3,none⟩ (iV aY)) ((zC _ _ _).row.rw.ld zS (k:=0) rfl:lz s3 3 ⟨(σ.y+1),0,none⟩ (iV aB)) (xH u1) nx))
theorem yRV:let y0:=wkc am af ab ad ae aa ac ao au aj;let y1:=(aB*1440)+aM;let y2:=zF aB aM ay az aE;∀ (nx:Q (.bool true) (((σ.row y0 6).row y2 5).row (zK aS bu a7 aY) 4)) (u1:¬ aY=aB:=by omega) (u2:I6 (aB*1440):=by omega) (u3:I6 y1:=by omega) (u4:I6 (y1-aS):=by omega) (u5:ao≤(y1-aS):=by omega),qi 67 [qh y0,iV x1,qh y2,qh (zK aS bu a7 aY)] σ Q :=
 let s1:=σ.row (wkc am af ab ad ae aa ac ao au aj) 6;let s2:=s1.row (zF aB aM ay az aE) 5;let s3:=s2.row (zK aS bu a7 aY) 4;let s4:=aB*1440;let s5:=σ.y+1;fun nx u1 u2 u3 u4 u5=>zI [.g,.g,.g,.g,.g,.l (iV aY),.g,.l (iV aB),.b false,.g,.g,.l (iV aB),.n s4,.g,.l (iV aM),.n (s4+aM),.g,.l (iV aS),.n ((s4+aM)-aS),.g,.l (iV ao),.b true,.g,.g] (kd (an5 ((zC _ _ _).rw.ld zS (k:=3) rfl:lz s3 3 ⟨(σ.y+2),3,none⟩ (iV aY)) ((zC _ _ _).row.rw.ld zS (k:=0) rfl:lz s3 3 (qg s5 0) (iV aB)) (xL u1) ((zC _ _ _).row.rw.ld zS (k:=0) rfl:lz s3 3 (qg s5 0) (iV aB)) (w64 u2) (an6 ((zC _ _ _).row.rw.ld zS (k:=1) rfl:lz s3 3 (qg s5 1) (iV aM)) (w64 u3) ((zC _ _ _).rw.ld zS (k:=0) rfl:lz s3 3 ⟨(σ.y+2),0,none⟩ (iV aS)) (w64 u4) ((zC _ _ _).row.row.rw.ld zS (k:=3) rfl:lz s3 3 (qg σ.y 3) (iV ao)) (yE u5) nx)))
theorem yRU:let y0:=wkc am af ab ad ae aa ac ao au aj;let y1:=(aB*1440)+aM;let y2:=zF aB aM ay az aE;∀ (nx:Q (.bool false) (((σ.row y0 6).row y2 5).row (zK aS bu a7 aY) 4)) (u1:¬ aY=aB:=by omega) (u2:I6 (aB*1440):=by omega) (u3:I6 y1:=by omega) (u4:I6 (y1-aS):=by omega) (u5:¬ ao≤(y1-aS):=by omega),qi 67 [qh y0,iV x1,qh y2,qh (zK aS bu a7 aY)] σ Q :=
 let s1:=σ.row (wkc am af ab ad ae aa ac ao au aj) 6;let s2:=s1.row (zF aB aM ay az aE) 5;let s3:=s2.row (zK aS bu a7 aY) 4;let s4:=aB*1440;let s5:=σ.y+1;fun nx u1 u2 u3 u4 u5=>zI [.g,.g,.g,.g,.g,.l (iV aY),.g,.l (iV aB),.b false,.g,.g,.l (iV aB),.n s4,.g,.l (iV aM),.n (s4+aM),.g,.l (iV aS),.n ((s4+aM)-aS),.g,.l (iV ao),.b false,.g,.g] (kd (an5 ((zC _ _ _).rw.ld zS (k:=3) rfl:lz s3 3 ⟨(σ.y+2),3,none⟩ (iV aY)) ((zC _ _ _).row.rw.ld zS (k:=0) rfl:lz s3 3 (qg s5 0) (iV aB)) (xL u1) ((zC _ _ _).row.rw.ld zS (k:=0) rfl:lz s3 3 (qg s5 0) (iV aB)) (w64 u2) (an6 ((zC _ _ _).row.rw.ld zS (k:=1) rfl:lz s3 3 (qg s5 1) (iV aM)) (w64 u3) ((zC _ _ _).rw.ld zS (k:=0) rfl:lz s3 3 ⟨(σ.y+2),0,none⟩ (iV aS)) (w64 u4) ((zC _ _ _).row.row.rw.ld zS (k:=3) rfl:lz s3 3 (qg σ.y 3) (iV ao)) (yJ u5) nx)))
theorem xBC:let y0:=wkc am af ab ad ae aa ac ao au aj;let y1:=zF aB aM ay az aE;∀ (nx:Q (.bool true) (((σ.row y0 6).row y1 5).row (zK aS bu a7 aY) 4)) (u1:aY=aB:=by omega),qi 68 [qh y0,iV x1,qh y1,qh (zK aS bu a7 aY)] σ Q :=
 let s1:=σ.row (wkc am af ab ad ae aa ac ao au aj) 6;let s2:=s1.row (zF aB aM ay az aE) 5;let s3:=s2.row (zK aS bu a7 aY) 4;fun nx u1=>zI [.g,.g,.g,.g,.g,.l (iV aY),.g,.l (iV aB),.b true,.g,.g,.g] (kd (an5 ((zC _ _ _).rw.ld zS (k:=3) rfl:lz s3 3 ⟨(σ.y+2),3,none⟩ (iV aY)) ((zC _ _ _).row.rw.ld zS (k:=0) rfl:lz s3 3 ⟨(σ.y+1),0,none⟩ (iV aB)) (xH u1) ((zE (zO (nlt σ.y 2 3 rfl)) zH):zG s3.y [pq ((σ.y+2)) 3]) ((zE (zO (nlt σ.y 1 3 rfl)) zH):zG s3.y [pq ((σ.y+1)) 0]) nx))
theorem xBB:let s1:=σ.row (wkc am af ab ad ae aa ac ao au aj) 6;let s2:=s1.row (zF aB aM ay az aE) 5;let s3:=s2.row (zK aS bu a7 aY) 4;∀ (h1:qn 48 [qh (zK aS bu a7 aY),qh (zF aB aM ay az aE),iV aM] s3 (qh (zK n1 n2 n3 n4)) s3) (nx:Q (.bool true) s3) (u1:¬ aY=aB:=by omega) (u2:n2≤au:=by omega),qi 68 [qh (wkc am af ab ad ae aa ac ao au aj),iV x1,qh (zF aB aM ay az aE),qh (zK aS bu a7 aY)] σ Q:=
 let s1:=σ.row (wkc am af ab ad ae aa ac ao au aj) 6;let s2:=s1.row (zF aB aM ay az aE) 5;let s3:=s2.row (zK aS bu a7 aY) 4;let s4:=σ.y+1;let s5:=σ.y+2;fun h1 nx u1 u2=>zI [.g,.g,.g,.g,.g,.l (iV aY),.g,.l (iV aB),.b false,.g,.l (qh (zK aS bu a7 aY)),.l (qh (zF aB aM ay az aE)),.g,.l (iV aM),.c (qh (zK n1 n2 n3 n4)) s3,.g,.g,.l (iV au),.b true,.g,.g] (kd (an6 ((zC _ _ _).rw.ld zS (k:=3) rfl:lz s3 3 (qg s5 3) (iV aY)) ((zC _ _ _).row.rw.ld zS (k:=0) rfl:lz s3 3 (qg s4 0) (iV aB)) (xL u1) ((zC _ _ _).rw.ldN zAV xN (k:=0) rfl rfl (nle rfl):lz s3 87 (qg s5 0) (qh (zK aS bu a7 aY))) ((zC _ _ _).row.rw.ldN zMO uE (k:=0) rfl rfl (nle rfl):lz s3 69 (qg s4 0) (qh (zF aB aM ay az aE))) ((zC _ _ _).row.rw.ld zS (k:=1) rfl:lz s3 3 (qg s4 1) (iV aM)) (an6 h1 ((zC _ _ _).row.row.rw.ld zS (k:=4) rfl:lz s3 3 (qg σ.y 4) (iV au)) (yE u2) ((zE (zO (nlt σ.y 2 3 rfl)) zH):zG s3.y [pq s5 3]) ((zE (zO (nlt σ.y 1 3 rfl)) zH):zG s3.y [pq s4 0]) ((zE (zO (nlt σ.y 2 3 rfl)) zH):zG s3.y [pq s5 0]) (an6 ((zE (zO (nlt σ.y 1 3 rfl)) zH):zG s3.y [pq s4 0]) ((zE (zO (nlt σ.y 1 3 rfl)) zH):zG s3.y [pq s4 1]) ((zE (yL rfl) (zE (yL rfl) (zE (yL rfl) zH))):zG s3.y [qh (zK aS bu a7 aY),qh (zF aB aM ay az aE),iV aM]) ((zE (zO (nlt σ.y 0 3 rfl)) zH):zG s3.y [pq σ.y 4]) (⟨⟨(nlt σ.y 0 3 rfl),rfl⟩,((zC _ _ _).row.row.rw.ld zS (k:=4) rfl)⟩:(zLq s3 3 (qg σ.y 4) (iV au))) (⟨⟨(nlt σ.y 0 3 rfl),rfl⟩,((zC _ _ _).row.row.rw.ld zS (k:=4) rfl)⟩:(zLq s3 3 (qg σ.y 4) (iV au))) nx))))
theorem xBA:let s1:=σ.row (wkc am af ab ad ae aa ac ao au aj) 6;let s2:=s1.row (zF aB aM ay az aE) 5;let s3:=s2.row (zK aS bu a7 aY) 4;∀ (h1:qn 48 [qh (zK aS bu a7 aY),qh (zF aB aM ay az aE),iV aM] s3 (qh (zK n1 n2 n3 n4)) s3) (nx:Q (.bool false) s3) (u1:¬ aY=aB:=by omega) (u2:¬ n2≤au:=by omega),qi 68 [qh (wkc am af ab ad ae aa ac ao au aj),iV x1,qh (zF aB aM ay az aE),qh (zK aS bu a7 aY)] σ Q:=
 let s1:=σ.row (wkc am af ab ad ae aa ac ao au aj) 6;let s2:=s1.row (zF aB aM ay az aE) 5;let s3:=s2.row (zK aS bu a7 aY) 4;let s4:=σ.y+1;let s5:=σ.y+2;fun h1 nx u1 u2=>zI [.g,.g,.g,.g,.g,.l (iV aY),.g,.l (iV aB),.b false,.g,.l (qh (zK aS bu a7 aY)),.l (qh (zF aB aM ay az aE)),.g,.l (iV aM),.c (qh (zK n1 n2 n3 n4)) s3,.g,.g,.l (iV au),.b false,.g,.g] (kd (an6 ((zC _ _ _).rw.ld zS (k:=3) rfl:lz s3 3 (qg s5 3) (iV aY)) ((zC _ _ _).row.rw.ld zS (k:=0) rfl:lz s3 3 (qg s4 0) (iV aB)) (xL u1) ((zC _ _ _).rw.ldN zAV xN (k:=0) rfl rfl (nle rfl):lz s3 87 (qg s5 0) (qh (zK aS bu a7 aY))) ((zC _ _ _).row.rw.ldN zMO uE (k:=0) rfl rfl (nle rfl):lz s3 69 (qg s4 0) (qh (zF aB aM ay az aE))) ((zC _ _ _).row.rw.ld zS (k:=1) rfl:lz s3 3 (qg s4 1) (iV aM)) (an6 h1 ((zC _ _ _).row.row.rw.ld zS (k:=4) rfl:lz s3 3 (qg σ.y 4) (iV au)) (yJ u2) ((zE (zO (nlt σ.y 2 3 rfl)) zH):zG s3.y [pq s5 3]) ((zE (zO (nlt σ.y 1 3 rfl)) zH):zG s3.y [pq s4 0]) ((zE (zO (nlt σ.y 2 3 rfl)) zH):zG s3.y [pq s5 0]) (an6 ((zE (zO (nlt σ.y 1 3 rfl)) zH):zG s3.y [pq s4 0]) ((zE (zO (nlt σ.y 1 3 rfl)) zH):zG s3.y [pq s4 1]) ((zE (yL rfl) (zE (yL rfl) (zE (yL rfl) zH))):zG s3.y [qh (zK aS bu a7 aY),qh (zF aB aM ay az aE),iV aM]) ((zE (zO (nlt σ.y 0 3 rfl)) zH):zG s3.y [pq σ.y 4]) (⟨⟨(nlt σ.y 0 3 rfl),rfl⟩,((zC _ _ _).row.row.rw.ld zS (k:=4) rfl)⟩:(zLq s3 3 (qg σ.y 4) (iV au))) (⟨⟨(nlt σ.y 0 3 rfl),rfl⟩,((zC _ _ _).row.row.rw.ld zS (k:=4) rfl)⟩:(zLq s3 3 (qg σ.y 4) (iV au))) nx))))
theorem xGG:let y0:=zK aS bu (a7+(d8-aM)) aY;let y1:=zF aB aM ay az aE;∀ (nx:Q (qh y0) (((((σ.row (zK aS bu a7 aY) 4).row y1 5).row (zK 0 0 0 0) 4).own σ.y y0 4).own (σ.y+2) y0 4)) (u1:I6 (d8-aM):=by omega) (u2:I6 (a7+(d8-aM)):=by omega) (u3:aY=aB:=by omega),qi 48 [qh (zK aS bu a7 aY),qh y1,iV d8] σ Q :=
 let s1:=σ.row (zK aS bu a7 aY) 4;let s2:=s1.row (zF aB aM ay az aE) 5;let s3:=s2.row (zK 0 0 0 0) 4;let s6:=a7+(d8-aM);let s4:=s3.own σ.y (zK aS bu s6 aY) 4;let s5:=s4.own (σ.y+2) (zK aS bu s6 aY) 4;fun nx u1 u2 u3=>zI [.g,.g,.g,.g,.l (iV a7),.g,.g,.l (iV aM),.n (d8-aM),.n s6,.g,.e undef s4,.g,.l (iV aY),.g,.l (iV aB),.b true,.l (qh (zK aS bu s6 aY)),.e undef s5,.l (qh (zK aS bu s6 aY))] (kd (an5 ((zC _ _ _).row.row.rw.ld zS (k:=2) rfl:lz s3 3 (qg σ.y 2) (iV a7)) ((zC _ _ _).row.rw.ld zS (k:=1) rfl:lz s3 3 ⟨(σ.y+1),1,none⟩ (iV aM)) (w64 u1) (w64 u2) ((zC _ _ _).row.row.store (vs:=[iV s6]) rfl wZ rfl (nle rfl) rfl:qq (evL [pq σ.y 2,iV s6]) s3 (.store 3 (.tmp 0) (.tmp 1))=some (undef,s4)) (an6 ((zC _ _ _).row.row.put.rw.ld zS (k:=3) rfl:lz s4 3 (qg σ.y 3) (iV aY)) (((zC _ _ _).row.own (nne σ.y 1 0 rfl)).rw.ld zS (k:=0) rfl:lz s4 3 ⟨(σ.y+1),0,none⟩ (iV aB)) (xH u3) ((zC _ _ _).row.row.put.rw.ldN zAV xN (k:=0) rfl rfl (nle rfl):lz s4 87 (qg σ.y 0) (qh (zK aS bu s6 aY))) (((zC _ _ _).own (nne σ.y 2 0 rfl)).store (vs:=(zK aS bu s6 aY)) rfl xN rfl (nle rfl) rfl:qq (evL [pq ((σ.y+2)) 0,qh (zK aS bu s6 aY)]) s4 (.store 87 (.tmp 0) (.tmp 1))=some (undef,s5)) (((zC _ _ _).own (nne σ.y 2 0 rfl)).put.rw.ldN zAV xN (k:=0) rfl rfl (nle rfl):lz s5 87 ⟨(σ.y+2),0,none⟩ (qh (zK aS bu s6 aY))) nx)))
theorem xGF:let y1:=a7+(d8-aM);let y0:=zK ((aB*1440)+d8) 1 y1 aB;let y2:=zF aB aM ay az aE;∀ (nx:Q (qh y0) (((((((((σ.row (zK aS bu a7 aY) 4).row y2 5).row (zK 0 0 0 0) 4).own σ.y (zK aS bu y1 aY) 4).own σ.y (zK aS 0 y1 aY) 4).own σ.y (zK aS 1 y1 aY) 4).own σ.y (zK aS 1 y1 aB) 4).own σ.y y0 4).own (σ.y+2) y0 4)) (u1:I6 (d8-aM):=by omega) (u2:I6 y1:=by omega) (u3:¬ aY=aB:=by omega) (u4:I6 (aB-1):=by omega) (u5:¬ aY=(aB-1):=by omega) (u6:I6 (aB*1440):=by omega) (u7:I6 ((aB*1440)+d8):=by omega),qi 48 [qh (zK aS bu a7 aY),qh y2,iV d8] σ Q :=
 let s1:=σ.row (zK aS bu a7 aY) 4;let s2:=s1.row (zF aB aM ay az aE) 5;let s3:=s2.row (zK 0 0 0 0) 4;let s10:=a7+(d8-aM);let s4:=s3.own σ.y (zK aS bu s10 aY) 4;let s5:=s4.own σ.y (zK aS 0 s10 aY) 4;let s6:=s5.own σ.y (zK aS 1 s10 aY) 4;let s7:=s6.own σ.y (zK aS 1 s10 aB) 4;let s11:=(aB*1440)+d8;let s8:=s7.own σ.y (zK s11 1 s10 aB) 4;let s9:=s8.own (σ.y+2) (zK s11 1 s10 aB) 4;let s12:=σ.y+1;fun nx u1 u2 u3 u4 u5 u6 u7=>zI [.g,.g,.g,.g,.l (iV a7),.g,.g,.l (iV aM),.n (d8-aM),.n s10,.g,.e undef s4,.g,.l (iV aY),.g,.l (iV aB),.b false,.g,.l (iV aY),.g,.l (iV aB),.n (aB-1),.b true,.g,.e undef s5,.g,.l (iV 0),.g,.g,.e undef s6,.g,.l (iV aB),.g,.e undef s7,.g,.l (iV aB),.n (aB*1440),.g,.n s11,.g,.e undef s8,.l (qh (zK s11 1 s10 aB)),.e undef s9,.l (qh (zK s11 1 s10 aB))] (kd (an6 ((zC _ _ _).row.row.rw.ld zS (k:=2) rfl:lz s3 3 (qg σ.y 2) (iV a7)) ((zC _ _ _).row.rw.ld zS (k:=1) rfl:lz s3 3 (qg s12 1) (iV aM)) (w64 u1) (w64 u2) ((zC _ _ _).row.row.store (vs:=[iV s10]) rfl wZ rfl (nle rfl) rfl:qq (evL [pq σ.y 2,iV s10]) s3 (.store 3 (.tmp 0) (.tmp 1))=some (undef,s4)) ((zC _ _ _).row.row.put.rw.ld zS (k:=3) rfl:lz s4 3 (qg σ.y 3) (iV aY)) (an6 (((zC _ _ _).row.own (nne σ.y 1 0 rfl)).rw.ld zS (k:=0) rfl:lz s4 3 (qg s12 0) (iV aB)) (xL u3) ((zC _ _ _).row.row.put.rw.ld zS (k:=3) rfl:lz s4 3 (qg σ.y 3) (iV aY)) (((zC _ _ _).row.own (nne σ.y 1 0 rfl)).rw.ld zS (k:=0) rfl:lz s4 3 (qg s12 0) (iV aB)) (w64 u4) (zCF u5) (an6 ((zC _ _ _).row.row.put.store (vs:=[iV 0]) rfl wZ rfl (nle rfl) rfl:qq (evL [pq σ.y 1,iV 0]) s4 (.store 3 (.tmp 0) (.tmp 1))=some (undef,s5)) ((zC _ _ _).row.row.put.put.rw.ld zS (k:=1) rfl:lz s5 3 (qg σ.y 1) (iV 0)) ((zC _ _ _).row.row.put.put.store (vs:=[iV 1]) rfl wZ rfl (nle rfl) rfl:qq (evL [pq σ.y 1,iV 1]) s5 (.store 3 (.tmp 0) (.tmp 1))=some (undef,s6)) (((((zC _ _ _).row.own (nne σ.y 1 0 rfl)).own (nne σ.y 1 0 rfl)).own (nne σ.y 1 0 rfl)).rw.ld zS (k:=0) rfl:lz s6 3 (qg s12 0) (iV aB)) ((zC _ _ _).row.row.put.put.put.store (vs:=[iV aB]) rfl wZ rfl (nle rfl) rfl:qq (evL [pq σ.y 3,iV aB]) s6 (.store 3 (.tmp 0) (.tmp 1))=some (undef,s7)) ((((((zC _ _ _).row.own (nne σ.y 1 0 rfl)).own (nne σ.y 1 0 rfl)).own (nne σ.y 1 0 rfl)).own (nne σ.y 1 0 rfl)).rw.ld zS (k:=0) rfl:lz s7 3 (qg s12 0) (iV aB)) (an6 (w64 u6) (w64 u7) ((zC _ _ _).row.row.put.put.put.put.store (vs:=[iV s11]) rfl wZ rfl (nle rfl) rfl:qq (evL [pq σ.y 0,iV s11]) s7 (.store 3 (.tmp 0) (.tmp 1))=some (undef,s8)) ((zC _ _ _).row.row.put.put.put.put.put.rw.ldN zAV xN (k:=0) rfl rfl (nle rfl):lz s8 87 (qg σ.y 0) (qh (zK s11 1 s10 aB))) (((((((zC _ _ _).own (nne σ.y 2 0 rfl)).own (nne σ.y 2 0 rfl)).own (nne σ.y 2 0 rfl)).own (nne σ.y 2 0 rfl)).own (nne σ.y 2 0 rfl)).store (vs:=(zK s11 1 s10 aB)) rfl xN rfl (nle rfl) rfl:qq (evL [pq ((σ.y+2)) 0,qh (zK s11 1 s10 aB)]) s8 (.store 87 (.tmp 0) (.tmp 1))=some (undef,s9)) (((((((zC _ _ _).own (nne σ.y 2 0 rfl)).own (nne σ.y 2 0 rfl)).own (nne σ.y 2 0 rfl)).own (nne σ.y 2 0 rfl)).own (nne σ.y 2 0 rfl)).put.rw.ldN zAV xN (k:=0) rfl rfl (nle rfl):lz s9 87 ⟨(σ.y+2),0,none⟩ (qh (zK s11 1 s10 aB))) nx)))))
theorem xGE:let y1:=a7+(d8-aM);let y0:=zK ((aB*1440)+d8) (bu+1) y1 aB;let y2:=zF aB aM ay az aE;∀ (nx:Q (qh y0) ((((((((σ.row (zK aS bu a7 aY) 4).row y2 5).row (zK 0 0 0 0) 4).own σ.y (zK aS bu y1 aY) 4).own σ.y (zK aS (bu+1) y1 aY) 4).own σ.y (zK aS (bu+1) y1 aB) 4).own σ.y y0 4).own (σ.y+2) y0 4)) (u1:I6 (d8-aM):=by omega) (u2:I6 y1:=by omega) (u3:¬ aY=aB:=by omega) (u4:I6 (aB-1):=by omega) (u5:aY=(aB-1):=by omega) (u6:I6 (bu+1):=by omega) (u7:I6 (aB*1440):=by omega) (u8:I6 ((aB*1440)+d8):=by omega),qi 48 [qh (zK aS bu a7 aY),qh y2,iV d8] σ Q :=
 let s1:=σ.row (zK aS bu a7 aY) 4;let s2:=s1.row (zF aB aM ay az aE) 5;let s3:=s2.row (zK 0 0 0 0) 4;let s9:=a7+(d8-aM);let s4:=s3.own σ.y (zK aS bu s9 aY) 4;let s10:=(aB*1440)+d8;let s11:=bu+1;let s5:=s4.own σ.y (zK aS s11 s9 aY) 4;let s6:=s5.own σ.y (zK aS s11 s9 aB) 4;let s7:=s6.own σ.y (zK s10 s11 s9 aB) 4;let s8:=s7.own (σ.y+2) (zK s10 s11 s9 aB) 4;let s12:=σ.y+1;fun nx u1 u2 u3 u4 u5 u6 u7 u8=>zI [.g,.g,.g,.g,.l (iV a7),.g,.g,.l (iV aM),.n (d8-aM),.n s9,.g,.e undef s4,.g,.l (iV aY),.g,.l (iV aB),.b false,.g,.l (iV aY),.g,.l (iV aB),.n (aB-1),.b false,.g,.l (iV bu),.n s11,.g,.e undef s5,.g,.l (iV aB),.g,.e undef s6,.g,.l (iV aB),.n (aB*1440),.g,.n s10,.g,.e undef s7,.l (qh (zK s10 s11 s9 aB)),.e undef s8,.l (qh (zK s10 s11 s9 aB))] (kd (an6 ((zC _ _ _).row.row.rw.ld zS (k:=2) rfl:lz s3 3 (qg σ.y 2) (iV a7)) ((zC _ _ _).row.rw.ld zS (k:=1) rfl:lz s3 3 (qg s12 1) (iV aM)) (w64 u1) (w64 u2) ((zC _ _ _).row.row.store (vs:=[iV s9]) rfl wZ rfl (nle rfl) rfl:qq (evL [pq σ.y 2,iV s9]) s3 (.store 3 (.tmp 0) (.tmp 1))=some (undef,s4)) ((zC _ _ _).row.row.put.rw.ld zS (k:=3) rfl:lz s4 3 (qg σ.y 3) (iV aY)) (an6 (((zC _ _ _).row.own (nne σ.y 1 0 rfl)).rw.ld zS (k:=0) rfl:lz s4 3 (qg s12 0) (iV aB)) (xL u3) ((zC _ _ _).row.row.put.rw.ld zS (k:=3) rfl:lz s4 3 (qg σ.y 3) (iV aY)) (((zC _ _ _).row.own (nne σ.y 1 0 rfl)).rw.ld zS (k:=0) rfl:lz s4 3 (qg s12 0) (iV aB)) (w64 u4) (zAF u5) (an6 ((zC _ _ _).row.row.put.rw.ld zS (k:=1) rfl:lz s4 3 (qg σ.y 1) (iV bu)) (w64 u6) ((zC _ _ _).row.row.put.store (vs:=[iV s11]) rfl wZ rfl (nle rfl) rfl:qq (evL [pq σ.y 1,iV s11]) s4 (.store 3 (.tmp 0) (.tmp 1))=some (undef,s5)) ((((zC _ _ _).row.own (nne σ.y 1 0 rfl)).own (nne σ.y 1 0 rfl)).rw.ld zS (k:=0) rfl:lz s5 3 (qg s12 0) (iV aB)) ((zC _ _ _).row.row.put.put.store (vs:=[iV aB]) rfl wZ rfl (nle rfl) rfl:qq (evL [pq σ.y 3,iV aB]) s5 (.store 3 (.tmp 0) (.tmp 1))=some (undef,s6)) (((((zC _ _ _).row.own (nne σ.y 1 0 rfl)).own (nne σ.y 1 0 rfl)).own (nne σ.y 1 0 rfl)).rw.ld zS (k:=0) rfl:lz s6 3 (qg s12 0) (iV aB)) (an6 (w64 u7) (w64 u8) ((zC _ _ _).row.row.put.put.put.store (vs:=[iV s10]) rfl wZ rfl (nle rfl) rfl:qq (evL [pq σ.y 0,iV s10]) s6 (.store 3 (.tmp 0) (.tmp 1))=some (undef,s7)) ((zC _ _ _).row.row.put.put.put.put.rw.ldN zAV xN (k:=0) rfl rfl (nle rfl):lz s7 87 (qg σ.y 0) (qh (zK s10 s11 s9 aB))) ((((((zC _ _ _).own (nne σ.y 2 0 rfl)).own (nne σ.y 2 0 rfl)).own (nne σ.y 2 0 rfl)).own (nne σ.y 2 0 rfl)).store (vs:=(zK s10 s11 s9 aB)) rfl xN rfl (nle rfl) rfl:qq (evL [pq ((σ.y+2)) 0,qh (zK s10 s11 s9 aB)]) s7 (.store 87 (.tmp 0) (.tmp 1))=some (undef,s8)) ((((((zC _ _ _).own (nne σ.y 2 0 rfl)).own (nne σ.y 2 0 rfl)).own (nne σ.y 2 0 rfl)).own (nne σ.y 2 0 rfl)).put.rw.ldN zAV xN (k:=0) rfl rfl (nle rfl):lz s8 87 ⟨(σ.y+2),0,none⟩ (qh (zK s10 s11 s9 aB))) nx)))))
theorem yOC (hb:∀ k aG σ,Inv k aG σ→zPV vals bL bQ aG σ (NX1 Inv k) Qr Q0):∀ k aG σ,Inv k aG σ→yOE vals bL bQ aG σ Qr Q0 :=
 xJ (ai zCK (ai (wI 0) trivial)) hb
theorem zRX (h1:lz σ 3 (zN vals_a (Int.toNat aG*1)) (iV nG)) (nx:Qr nG σ) (u1:aG<(bL:Int):=by omega) (u2:Ix aG bL:=by omega) (u3:¬ nG=0:=by omega):zPV (some vals_a) bL bQ aG σ Nx Qr Q0 :=
 kO 1 nG [.b true,.i,.l (iV nG),.g,.g,.g,.b true,.g,.g] (fun _ f=>an4 (zR u1) u2 h1 (zCF u3) f) nx
theorem zRW (h1:lz σ 3 (zN vals_a (Int.toNat aG*1)) (iV nG)) (nx:Nx (aG+1) σ) (u1:aG<(bL:Int):=by omega) (u2:Ix aG bL:=by omega) (u3:nG=0:=by omega) (u4:I6 (aG+1):=by omega):zPV (some vals_a) bL bQ aG σ Nx Qr Q0 :=
 kO 0 (aG+1) [.b true,.i,.l (iV nG),.g,.g,.g,.b false,.n (aG+1),.g] (fun _ f=>an5 (zR u1) u2 h1 (zAF u3) (w64 u4) f) nx
theorem xEG (nx:Q0 σ) (u1:¬ aG<(bL:Int):=by omega):zPV vals bL bQ aG σ Nx Qr Q0 :=
 kO 2 () [.b false] (fun _ f=>ai (zT u1) f) nx
theorem xMG (hL:yOE vals bL bQ 0 σ Pr P0) (kr:∀ i2_1' σ',Pr i2_1' σ'→zZR vals bL bQ i2_1' σ' Q) (k0:∀ σ',P0 σ'→zZS vals bL bQ σ' Q):qi 51 [.slice vals bL bQ] σ Q :=
 zI [.g,.g,.g,.g,.g,.lf 18 (zJY vals bL bQ 0) [zNU vals bL bQ Pr,zNV vals bL bQ P0]] (kd (ai (ai tt (ai (arf (zJY vals bL bQ 0)) hL)) (ai (kz1 kr) (ai (kz0 k0) trivial))))
theorem yOA (nx:Q (iV aH) σ):zZR vals bL bQ aH σ Q :=
 sK [] nx
theorem yOB (nx:Q (iV 0) σ):zZS vals bL bQ σ Q :=
 sK [.g,.g] nx
theorem xRY:let s1:=σ.row (rcd dX dC eh) 3;let s2:=s1.row (rcd eS eg fh) 3;let s3:=dC-eg;let s5:=dX-eS;let s6:=eh-fh;let Y1:=s2.row [iV s3,iV s5,iV s6] 1;∀ (h1:qn 51 [.slice (some ⟨(σ.y+2),0,none⟩) 3 3] Y1 (iV n1) Y1) (nx:Q (iV n1) Y1) (u1:I6 s3:=by omega) (u2:I6 dX:=by omega) (u3:I6 eS:=by omega) (u4:I6 s5:=by omega) (u5:I6 s6:=by omega),qi 50 [qh (rcd dX dC eh),qh (rcd eS eg fh)] σ Q:=
 let s1:=σ.row (rcd dX dC eh) 3;let s2:=s1.row (rcd eS eg fh) 3;let s3:=dC-eg;let s4:=σ.y+1;let s5:=dX-eS;let s6:=eh-fh;fun h1 nx u1 u2 u3 u4 u5=>zI [.g,.g,.g,.g,.l (iV dC),.g,.l (iV eg),.n s3,.g,.l (.int .u8 dX),.n dX,.g,.l (.int .u8 eS),.n eS,.n s5,.g,.l (iV eh),.g,.l (iV fh),.n s6,.g,.c (iV n1) (s2.row [iV s3,iV s5,iV s6] 1),.g] (kd (an6 ((zC _ _ _).row.rw.ld zS (k:=1) rfl:lz s2 3 (qg σ.y 1) (iV dC)) ((zC _ _ _).rw.ld zS (k:=1) rfl:lz s2 3 (qg s4 1) (iV eg)) (w64 u1) ((zC _ _ _).row.rw.ld xST (k:=0) rfl:lz s2 5 (qg σ.y 0) (.int .u8 dX)) (w64 u2) ((zC _ _ _).rw.ld xST (k:=0) rfl:lz s2 5 (qg s4 0) (.int .u8 eS)) (an6 (w64 u3) (w64 u4) ((zC _ _ _).row.rw.ld zS (k:=2) rfl:lz s2 3 (qg σ.y 2) (iV eh)) ((zC _ _ _).rw.ld zS (k:=2) rfl:lz s2 3 (qg s4 2) (iV fh)) (w64 u5) h1 nx)))
end
theorem vC (xs:List Int):∀ (_:IntKind),xF (xs.map zZ)=xs.map zZ:=by
 intro _;induction xs with
 | nil=>rfl
 | cons x xs ih=>simp only [xF,List.map_cons,List.flatMap_cons] at ih ⊢;rw [ih];rfl
section
variable {σ:St}
theorem xKB {p q:Option Addr} {l c m d:Nat} {xs ys:List Int} (h1:yF σ p l xs) (h2:yF σ q m ys) (hl:l≤1073741824):zD Pg 19 [.slice p l c,.slice q m d] σ (.bool (decide (xs=ys))) σ:=by
 have e1:=h1.len;have e2:=h2.len;by_cases hlm:l=m
 ·subst hlm;have h1:=h1.re;have h2:=h2.re;refine (xQU (yTK (Inv:=fun k i5 τ=>τ=σ.re∧∃ i:Nat,i5=i∧i+k=l∧xs.take i=ys.take i) (Qr:=fun x τ=>τ=σ.re∧x=false∧xs≠ys) (Q0:=fun τ=>τ=σ.re∧xs=ys) ?_ l 0 σ.re ⟨rfl,0,rfl,by omega,rfl⟩) ?_ ?_).pure
  ·rintro k i5 τ ⟨rfl,i,rfl,hk,he⟩;by_cases hi:i<l
   ·obtain ⟨a,rfl,x,hx,l1⟩:=vQ h1 hi;obtain ⟨b,rfl,y,hy,l2⟩:=vQ h2 hi;by_cases hxy:x=y
    ·exact xJZ l1 l2 ⟨k-1,by omega,rfl,i+1,by omega,by omega,by rw [wU hx,wU hy,he,hxy]⟩
    ·exact xKA l1 l2 ⟨rfl,rfl,fun e=>hxy (by rw [e,hy] at hx;exact (Option.some.inj hx).symm)⟩
   ·rw [List.take_of_length_le (by omega),List.take_of_length_le (by omega)] at he;exact xJY ⟨rfl,he⟩
  ·rintro x τ ⟨rfl,rfl,hne⟩;exact yTI ⟨by simp [hne],Nat.le_refl _⟩
  ·rintro τ ⟨rfl,rfl⟩;exact yTJ ⟨by simp,Nat.le_refl _⟩
 ·rw [show decide (xs=ys)=false by simp;intro e;apply hlm;rw [← e1,← e2,e]];exact (xQV ⟨rfl,Nat.le_refl _⟩).pure
theorem yTF {p:Option Addr} {l c:Nat} {xs:List Int} (h:yF σ p l xs) (hl:l≤1073741824) :
  ∃ p' c' σ',zD Pg 10 [.slice p l c] σ (.slice p' l c') σ'∧New σ σ'∧yF σ' p' l xs∧∀ b,AtP p' b→σ.y≤b:=by
 have hc:(xF (xs.map zZ)).all cellB=true:=by rw [vC xs .i64];simp [List.all_eq_true];intro a _;rfl
 have N1:New σ.re (σ.re.row [] 1):=New.row _ _ _;obtain ⟨p6,c6,s5,ap1,A6,O6,b6⟩:=Ax.append (P:=Pg) (k:=c) (n0:=σ.re.y) zAU (Ax.lit (len:=0) (zC σ.re [] 1) rfl ((yQ 0).2 wW) (Nat.le_refl _)) (SlV.le h ((le0 σ).trans N1.le)).1 (by omega) hc N1.nx;rw [Nat.zero_add] at ap1 A6;have N5:New σ.re s5:=N1.of_only O6 (by rintro b ⟨a,e,rfl⟩;cases e;exact Nat.le_refl _);exact zP.newSl (yYD ap1 ⟨N5,p6,c6,rfl,Ax.slv (by simpa using A6) (by simpa using h.2.1) h.2.2,fun b hb=>(A6.bd b hb).1⟩)
theorem yNN {p:Option Addr} {l c:Nat} {xs:List Int} (h:yF σ p l xs) (hl:l≤1073741824):zD Pg 34 [.slice p l c] σ (iV ((xs.filter fun x=>decide (x≠-1)).length:Nat)) σ:=by
 have h1:=h.re;have e1:=h.len;refine (xDX (yHV (Inv:=fun k i3 i4 τ=>τ=σ.re∧∃ j:Nat,i4=j∧j+k=l∧i3=(((xs.take j).filter fun x=>decide (x≠-1)).length:Nat)∧((xs.take j).filter fun x=>decide (x≠-1)).length≤j) (Q0:=fun i3 τ=>τ=σ.re∧i3=((xs.filter fun x=>decide (x≠-1)).length:Nat)) ?_ l 0 0 σ.re ⟨rfl,0,rfl,by omega,rfl,Nat.le_refl _⟩) ?_).pure
 ·rintro k i3 i4 τ ⟨rfl,j,rfl,hk,rfl,hle⟩;by_cases hj:j<l
  ·obtain ⟨a,rfl,x,hx,l1⟩:=vQ h1 hj;have es:(xs.take (j+1)).filter (fun x=>decide (x≠-1))=(xs.take j).filter (fun x=>decide (x≠-1))++if x≠-1 then [x] else []:=by
    rw [wU hx,List.filter_append];by_cases e:x≠-1 <;> simp [e]
   by_cases e:x≠-1
   ·rw [if_pos e] at es;exact yUP l1 ⟨k-1,by omega,rfl,j+1,by omega,by omega,by rw [es,List.length_append];simp,by rw [es,List.length_append];show _+1≤_;omega⟩ (by omega) (by omega) e (by omega) (by omega)
   ·rw [if_neg e,List.append_nil] at es;exact yUO l1 ⟨k-1,by omega,rfl,j+1,by omega,by omega,by rw [es],by rw [es];omega⟩ (by omega) (by omega) (Decidable.not_not.1 e) (by omega)
  ·rw [List.take_of_length_le (by omega)];exact yUN ⟨rfl,rfl⟩ (by omega)
 ·rintro i3 τ ⟨rfl,rfl⟩;exact yHU ⟨rfl,Nat.le_refl _⟩
section
variable {w:Wk} {p q r t:Option Addr} {l m c d rl rc tl tc:Nat} {rs ts:List Int}
theorem xVV (h:WkP σ 69 61 w p l q m) (hl:l≤1000):∃ p' c' σ',zD Pg 52 [.agg ⟨wkc w.M p l c q m d w.rest w.run w.j⟩] σ (.slice p' l c') σ'∧New σ σ'∧yF σ' p' l (zBF w)∧∀ b,AtP p' b→σ.y≤b:=by
 have hn:=h.len.1;obtain ⟨σ1,hσ1⟩:∃ σ1,σ1=σ.re.row (wkc w.M p l c q m d w.rest w.run w.j) 6:=⟨_,rfl⟩;have N1:New σ.re σ1:=by rw [hσ1];exact New.row _ _ _
 have L1:Le σ σ1:=(le0 σ).trans N1.le;refine zP.newSl (xRG (yUG (Inv:=fun k p' l' c' i τ=>New σ1 τ∧∃ j:Nat,i=j∧j+k=l∧l'=j∧Gr Pg τ σ1.y 3 1 p' l' c' (((zBF w).take j).map zZ))
  (Q0:=fun p' l' c' τ=>New σ1 τ∧l'=l∧Gr Pg τ σ1.y 3 1 p' l' c' ((zBF w).map zZ)) ?_ l none 0 0 0 _ ⟨by rw [← hσ1];exact New.refl _,0,rfl,by omega,rfl,Gr.nil⟩) ?_)
 ·rintro k p' l' c' i τ ⟨hN,j,rfl,hk,rfl,hg⟩;by_cases hj:l' < l
  ·obtain ⟨a,rfl,x,hx,lx⟩:=vQ (SlV.le h.dty (L1.trans hN.le)) hj;have hN2:New τ ((τ.row (zF 0 0 0 0 0) 5).own τ.y (zF x.day x.on x.lo x.hi x.route) 5):=(New.row _ _ _).own (Nat.le_refl _);obtain ⟨q7,d7,τ',g1,g2,g3,_,_⟩:=xYG (zZ x.hi) zAU hg hN hN2 (uN _) (by omega);have hx2:(zBF w)[l']?=some x.hi:=by unfold zBF;rw [List.getElem?_map,hx];rfl
   refine xLV lx g1 ⟨k-1,by omega,g3,l'+1,by omega,by omega,rfl, ?_⟩ (by omega) (by omega) (by omega);rw [wU hx2,List.map_append];exact g2
  ·have:l'=l:=by omega
   subst this;refine xLU ⟨hN,rfl, ?_⟩ (by omega);rwa [List.take_of_length_le (by unfold zBF;rw [List.length_map];omega)] at hg
 ·rintro p' l' c' τ ⟨hN,rfl,hg⟩;refine yUF ⟨N1.trans hN,p',c',rfl,hg.slv,fun b hb=>?_⟩;have:=(hg.bd hb).1;have:=N1.nx;show σ.re.y≤b;omega
theorem yZM (h:WkP σ 69 61 w p l q m) (hr:yF σ r rl rs) (hl:rl≤1073741824) (hm:m≤1073741824):zD Pg 26 [.agg ⟨wkc w.M p l c q m d w.rest w.run w.j⟩,.slice r rl rc] σ (.bool (zPA w rs)) σ:=by
 have hn:=h.len.1;have hmm:=h.len.2;have el:=hr.len;by_cases hh:rl=l;rotate_left
 ·have:zPA w rs=false:=by unfold zPA;rw [decide_eq_false (by omega),Bool.and_false]
  rw [this];exact (yPL ⟨rfl,Nat.le_refl _⟩ (by omega)).pure
 have L1:Le σ (σ.re.row (wkc w.M p l c q m d w.rest w.run w.j) 6):=(le0 σ).trans (Le.row _ _ _);have hk0:=xQ σ.re (wkc w.M p l c q m d w.rest w.run w.j) 6;have ca:=xWF (cap:=rc) (g:=44) (gc:=[.pointer (some ⟨σ.re.y,0,none⟩)]) (f:=fun x=>inB x (-1) ((w.L.length:Int)-1)) (SlV.le hr L1) hl (fun x _ τ hτ=>by
  have ld:zB Pg τ.re 41 (zN ⟨σ.re.y,0,none⟩ 2)=some (.slice q m d):=((hk0.le hτ).re).load1 zAE rfl;rw [hmm];exact (yQN ld zIG ⟨rfl,Nat.le_refl _⟩ (by omega)).pure)
 have:zPA w rs=rs.all (fun x=>inB x (-1) ((w.L.length:Int)-1)):=by unfold zPA;rw [decide_eq_true (by omega),Bool.and_true]
 rw [this];exact (yPM ca ⟨rfl,Nat.le_refl _⟩ (by omega)).pure
end
end
section
open Go.Sort (swp)
def zBA (d:Array Rec):List Value:=d.toList.flatMap zBE
theorem zQO:∀ l:List Rec,(l.flatMap zBE).length=l.length*3
 | []=>rfl
 | x::l=>by rw [List.flatMap_cons,List.length_append,zQO l];simp;omega
theorem zZT (d:Array Rec):(zBA d).length=d.size*3:=by unfold zBA;rw [zQO];simp
def Dt (σ:St) (b:Nat) (s:Option Nat) (d:Array Rec):Prop:=b<σ.y∧∃ log nx,yK σ.heap b=some (.cells (zBA d) 3 ((s.getD 0,d.size*3)::log) nx false)
section
variable {σ τ:St} {b:Nat} {s:Option Nat} {d d0:Array Rec}
theorem Dt.le (h:Dt σ b s d) (k:Le σ τ):Dt τ b s d:=by
 obtain ⟨h1,log,nx,h2⟩:=h;exact ⟨Nat.lt_of_lt_of_le h1 k.y,log,nx,by rw [k.get b h1];exact h2⟩
theorem Dt.only {S:Nat→Prop} (h:Dt σ b s d) (k:Only S σ τ) (hs:¬ S b):Dt τ b s d:=by
 obtain ⟨h1,log,nx,h2⟩:=h;exact ⟨Nat.lt_of_lt_of_le h1 k.y,log,nx,by rw [k.get b h1 hs];exact h2⟩
theorem yBV:∀ (l:List Rec) (i:Nat) (x:Rec),l[i]?=some x→((l.flatMap zBE).drop (i*3)).take 3=zBE x
 | [],i,x,h=>by simp at h
 | y::l,0,x,h=>by
  cases h
  rw [List.flatMap_cons,Nat.zero_mul,List.drop_zero];exact List.take_left' rfl
 | y::l,i+1,x,h=>by
  rw [List.flatMap_cons,Nat.add_mul,Nat.one_mul,Nat.add_comm (i*3),← List.drop_drop,show List.drop 3 (zBE y++l.flatMap zBE)=l.flatMap zBE from rfl];exact yBV l i x (by simpa using h)
theorem yKO:∀ (l:List Rec) (i:Nat) (x:Rec),i<l.length→(l.flatMap zBE).take (i*3)++(zBE x++(l.flatMap zBE).drop (i*3+3))=(l.set i x).flatMap zBE
 | [],i,x,h=>by simp at h
 | y::l,0,x,h=>by
  rw [List.set_cons_zero,List.flatMap_cons,List.flatMap_cons,Nat.zero_mul,List.take_zero,List.nil_append,Nat.zero_add,show List.drop 3 (zBE y++l.flatMap zBE)=l.flatMap zBE from rfl]
 | y::l,i+1,x,h=>by
  rw [List.set_cons_succ,List.flatMap_cons,List.flatMap_cons,← yKO l i x (by simpa using h),show (i+1)*3=3+i*3 by omega,List.take_append,List.drop_append,show 3+i*3+3-(zBE y).length=i*3+3 by simp;omega,show 3+i*3-(zBE y).length=i*3 by simp];rw [List.take_of_length_le (by simp),List.drop_of_length_le (by simp),List.nil_append,List.append_assoc]
theorem xRC {i:Nat} (h:i<d.size):d.toList[i]?=some d[i]! := by
 rw [Array.getElem?_toList,getElem!_pos d i h,Array.getElem?_eq_getElem h]
theorem Dt.ld (h:Dt σ b s d) {i:Int} (h0:0≤i) (hi:i<(d.size:Int)):zB Try.prog σ 47 (zN ⟨b,0,s⟩ (Int.toNat i*3))=some (zEI d[i.toNat]!):=by
 obtain ⟨h1,log,nx,h2⟩:=h;have hlt:i.toNat<d.size:=by omega
 have hr:yS σ ⟨b,0+i.toNat*3,s⟩ 3=some (zBE d[i.toNat]!):=by
  have hle:Nat.ble (0+i.toNat*3+3) (d.size*3)=true:=(zW _ _).2 (by omega);unfold yS;simp only [h2,yB,wM,Nat.beq_refl,cond_true,hle];rw [Nat.zero_add];unfold zBA;rw [yBV _ _ _ (xRC hlt)]
 have hR:Row σ ⟨b,0+i.toNat*3,s⟩ (zBE d[i.toNat]!):=⟨hr,h1⟩;exact hR.loadN (P:=Try.prog) (t:=47) (k:=0) xNJ yFU rfl rfl (by simp)
theorem Dt.st (h:Dt σ b s d) {i:Int} (x:Rec) (h0:0≤i) (hi:i<(d.size:Int)) :
  ∃ σ',zQ Try.prog (evL [.pointer (some (zN ⟨b,0,s⟩ (Int.toNat i*3))),zEI x]) σ (.store 47 (.tmp 0) (.tmp 1))=some (undef,σ')∧Dt σ' b s (d.setIfInBounds i.toNat x)∧Only (·=b) σ σ'∧σ'.low≤b:=by
 obtain ⟨h1,log,nx,h2⟩:=h;have hlt:i.toNat<d.size:=by omega
 have hw:vD σ ⟨b,0+i.toNat*3,s⟩ (zBE x)=some (σ.put b (.cells (zBA (d.setIfInBounds i.toNat x)) 3 [(s.getD 0,d.size*3)] nx false)):=by
  have e6:(zBE x).length=3:=rfl;have hc:(Nat.beq (s.getD 0) (s.getD 0) && Nat.ble (0+i.toNat*3+3) (d.size*3) && !false && (zBE x).all cellB)=true:=by
   rw [Nat.beq_refl,(zW _ _).2 (show 0+i.toNat*3+3≤d.size*3 by omega)];rfl
  unfold vD;simp only [h2,yB,e6,hc,cond_true,zDW,St.write_eq];have e:(zBA d).take (0+i.toNat*3)++(zBE x++(zBA d).drop (0+i.toNat*3+3))=zBA (d.setIfInBounds i.toNat x):=by
   rw [Nat.zero_add];unfold zBA;rw [Array.toList_setIfInBounds];exact yKO d.toList i.toNat x (by simpa using hlt)
  rw [e]
 refine ⟨σ.put b (.cells (zBA (d.setIfInBounds i.toNat x)) 3 [(s.getD 0,d.size*3)] nx false), ?_,⟨h1,[],nx, ?_⟩,Only.put (.inr rfl),by simp;omega⟩
 ·have e0:zQ Try.prog (evL [.pointer (some (zN ⟨b,0,s⟩ (Int.toNat i*3))),zEI x]) σ (.store 47 (.tmp 0) (.tmp 1))=(vD σ ⟨b,0+i.toNat*3,s⟩ (zBE x)).map fun σ'=>(undef,σ'):=by
   have e1:∀ l:List Value,evL l (.tmp 0)=l.getD 0 undef:=fun _=>rfl
   have e2:∀ l:List Value,evL l (.tmp 1)=l.getD 1 undef:=fun _=>rfl
   have e3:yT Try.prog 47=some 3:=yFU;unfold zQ;simp only [e1,e2,List.getD_cons_zero,List.getD_cons_succ,zGL,e3];rfl
  rw [e0,hw];rfl
 ·rw [St.put_get,if_pos rfl,Array.size_setIfInBounds]
end
end
section
noncomputable section
variable (data:oAa) (ax:Addr) (ah ak:Nat) (hi a_1 first b:Int) (aA:FuncId) (ar:lVa) (aG aD kB bV aX aC bb bU aP bJ aF a9 bW:Int) (q7:Bool→St→Prop) (q4:Int→Int→St→Prop) (t8_1:Bool) (q0:St→Prop) (Q:Int→St→Prop) (σ:St) (Nx Q2 Q6 Q8:Int→St→Prop) (q2:vPa) (q5:Int→Int→St→Prop) (q1 Q0 q3:St→Prop) (Q4 q6:Int→St→Prop) (Qr:Bool→St→Prop)
def yHH:Code:=(Code.part [1,0,0] (qj 80))
def zVF:lNa:=[(0,.slice data ah ak),(1,iV a_1),(2,iV b),(3,.func (.func aA) ⟨[]⟩ ⟨ar⟩),(8,iV aG)]
def yMG:Alt:=⟨Int,.normal,fun t=>zVF data ah ak a_1 b aA ar t,fun t=>[],fun t σ=>Q t σ⟩
def yDL (data:oAa) (ah ak:Nat) (a_1 b:Int) (aA:FuncId) (ar:lVa):lNa:=[]
def zLF:Alt:=⟨Unit,(.exit 0),fun t=>yDL data ah ak a_1 b aA ar,fun t=>[],fun t σ=>q0 σ⟩
def yHI:Prop:=qk ql none yHH 53 (zVF data ah ak a_1 b aA ar aG) [] [yMG data ah ak a_1 b aA ar Nx,zLF data ah ak a_1 b aA ar Q0] σ
def yYK:Prop:=qm ql none yHH 53 (zVF data ah ak a_1 b aA ar aG) [] [zLF data ah ak a_1 b aA ar Q0] σ
def yYI:Code:=(Code.part [1,0,0,1,0,0,1,0,0] (qj 80))
def zPD:lNa:=[(0,.slice data ah ak),(1,iV a_1),(2,iV b),(3,.func (.func aA) ⟨[]⟩ ⟨ar⟩),(8,iV aG),(9,iV aP)]
def xKI:Alt:=⟨Int,.normal,fun t=>zPD data ah ak a_1 b aA ar aG t,fun t=>[],fun t σ=>Q t σ⟩
def yDK:lNa:=[(0,.slice data ah ak),(1,iV a_1),(2,iV b),(3,.func (.func aA) ⟨[]⟩ ⟨ar⟩),(8,iV aG)]
def zRD:Alt:=⟨Unit,(.exit 2),fun t=>yDK data ah ak a_1 b aA ar aG,fun t=>[],fun t σ=>q0 σ⟩
def zVG:Prop:=qk ql none yYI 53 (zPD data ah ak a_1 b aA ar aG aP) [] [xKI data ah ak a_1 b aA ar aG Nx,zRD data ah ak a_1 b aA ar aG q1] σ
def yYJ:Prop:=qm ql none yYI 53 (zPD data ah ak a_1 b aA ar aG aP) [] [zRD data ah ak a_1 b aA ar aG q1] σ
def yDM:Prop:=kZ ql yHH [1,0,0,1,0] (zGC 53 [yMG data ah ak a_1 b aA ar Nx,zLF data ah ak a_1 b aA ar Q0]) (.exit 2) 53 (yDK data ah ak a_1 b aA ar aG) σ
def yDN:Prop:=kZ ql (qj 80) [1,0] (qo 80 q2) (.exit 0) 53 (yDL data ah ak a_1 b aA ar) σ
def yJX:Code:=(Code.part [1,0,0] (qj 95))
def zIK:lNa:=[(0,.slice data ah ak),(2,iV hi),(3,iV first),(4,.func (.func aA) ⟨[]⟩ ⟨ar⟩),(10,iV aC)]
def xAE:Alt:=⟨Int,.normal,fun t=>zIK data ah ak hi first aA ar t,fun t=>[],fun t σ=>Q t σ⟩
def zWG (data:oAa) (ah ak:Nat) (hi first:Int) (aA:FuncId) (ar:lVa):lNa:=[]
def zMW:Alt:=⟨Unit,(.exit 0),fun t=>zWG data ah ak hi first aA ar,fun t=>[],fun t σ=>q0 σ⟩
def zWF (data:oAa) (ah ak:Nat) (hi first:Int) (aA:FuncId) (ar:lVa):lNa:=[]
def zMV:Alt:=⟨Unit,.ret,fun t=>zWF data ah ak hi first aA ar,fun t=>[],fun t σ=>q0 σ⟩
def zCJ:Prop:=qk ql none yJX 82 (zIK data ah ak hi first aA ar aC) [] [xAE data ah ak hi first aA ar Nx,zMW data ah ak hi first aA ar Q0,zMV data ah ak hi first aA ar q3] σ
def yJY:Prop:=qm ql none yJX 82 (zIK data ah ak hi first aA ar aC) [] [zMW data ah ak hi first aA ar Q0,zMV data ah ak hi first aA ar q3] σ
def zWI:Prop:=kZ ql (qj 95) [1,0] (qo 95 q2) (.exit 0) 82 (zWG data ah ak hi first aA ar) σ
def zWH:Prop:=kZ ql (qj 95) [1,0] (qo 95 q2) .ret 82 (zWF data ah ak hi first aA ar) σ
def yMS:Code:=(Code.part [1,1,1,0,1,0,0] (qj 81))
def zPL (data:oAa) (ah ak:Nat) (aA:FuncId) (ar:lVa) (a_1 kB aD:Int):lNa:=[(0,.slice data ah ak),(3,.func (.func aA) ⟨[]⟩ ⟨ar⟩),(8,iV a_1),(9,iV 0),(10,iV kB),(11,iV aD)]
def xDJ (data:oAa) (ah ak:Nat) (aA:FuncId) (ar:lVa) (a_1 kB:Int) (Q:Int→St→Prop):Alt:=⟨Int,.normal,fun t=>zPL data ah ak aA ar a_1 kB t,fun t=>[],fun t σ=>Q t σ⟩
def zYN (data:oAa) (ah ak:Nat) (aA:FuncId) (ar:lVa) (a_1 kB:Int):lNa:=[(0,.slice data ah ak),(3,.func (.func aA) ⟨[]⟩ ⟨ar⟩),(8,iV a_1),(9,iV 0),(10,iV kB)]
def zNO (data:oAa) (ah ak:Nat) (aA:FuncId) (ar:lVa) (a_1 kB:Int) (Q:St→Prop):Alt:=⟨Unit,(.exit 0),fun t=>zYN data ah ak aA ar a_1 kB,fun t=>[],fun t σ=>Q σ⟩
def zYR (data:oAa) (ah ak:Nat) (aA:FuncId) (ar:lVa) (a_1 kB aD:Int) (σ:St) (Nx:Int→St→Prop) (Q0:St→Prop):Prop:=qk ql none yMS 60 (zPL data ah ak aA ar a_1 kB aD) [] [xDJ data ah ak aA ar a_1 kB Nx,zNO data ah ak aA ar a_1 kB Q0] σ
def yMU (data:oAa) (ah ak:Nat) (aA:FuncId) (ar:lVa) (a_1 kB aD:Int) (σ:St) (Q0:St→Prop):Prop:=qm ql none yMS 60 (zPL data ah ak aA ar a_1 kB aD) [] [zNO data ah ak aA ar a_1 kB Q0] σ
def zYP (data:oAa) (ah ak:Nat) (aA:FuncId) (ar:lVa) (a_1 kB:Int) (σ:St) (Q:vPa):Prop:=kZ ql (qj 81) [1,1,1,0,1,0] (qo 81 Q) (.exit 0) 60 (zYN data ah ak aA ar a_1 kB) σ
def yMR:Code:=(Code.part [1,1,1,1,1,0,0] (qj 81))
def zPK (data:oAa) (ah ak:Nat) (aA:FuncId) (ar:lVa) (a_1 d6:Int):lNa:=[(0,.slice data ah ak),(3,.func (.func aA) ⟨[]⟩ ⟨ar⟩),(8,iV a_1),(9,iV 0),(12,iV d6)]
def xDI (data:oAa) (ah ak:Nat) (aA:FuncId) (ar:lVa) (a_1:Int) (Q:Int→St→Prop):Alt:=⟨Int,.normal,fun t=>zPK data ah ak aA ar a_1 t,fun t=>[],fun t σ=>Q t σ⟩
def zYM (data:oAa) (ah ak:Nat) (aA:FuncId) (ar:lVa) (a_1:Int):lNa:=[]
def zNN (data:oAa) (ah ak:Nat) (aA:FuncId) (ar:lVa) (a_1:Int) (Q:St→Prop):Alt:=⟨Unit,(.exit 2),fun t=>zYM data ah ak aA ar a_1,fun t=>[],fun t σ=>Q σ⟩
def zYQ (data:oAa) (ah ak:Nat) (aA:FuncId) (ar:lVa) (a_1 d6:Int) (σ:St) (Nx:Int→St→Prop) (Q2:St→Prop):Prop:=qk ql none yMR 60 (zPK data ah ak aA ar a_1 d6) [] [xDI data ah ak aA ar a_1 Nx,zNN data ah ak aA ar a_1 Q2] σ
def yMT (data:oAa) (ah ak:Nat) (aA:FuncId) (ar:lVa) (a_1 d6:Int) (σ:St) (Q2:St→Prop):Prop:=qm ql none yMR 60 (zPK data ah ak aA ar a_1 d6) [] [zNN data ah ak aA ar a_1 Q2] σ
def zYO (data:oAa) (ah ak:Nat) (aA:FuncId) (ar:lVa) (a_1:Int) (σ:St) (Q:vPa):Prop:=kZ ql (qj 81) [1,1,1,1,1,0] (qo 81 Q) (.exit 2) 60 (zYM data ah ak aA ar a_1) σ
def zKZ:Code:=(Code.part [1,1,1,0,0,0] (qj 86))
def zKY:lNa:=[(0,.slice (some ax) ah ak),(1,iV a_1),(4,.func (.func aA) ⟨[]⟩ ⟨ar⟩),(11,iV aD),(12,iV aX)]
def zNG:Alt:=⟨Int × Int,.normal,fun t=>zKY ax ah ak a_1 aA ar t.1 t.2,fun t=>[],fun t σ=>q4 t.1 t.2 σ⟩
def zTL (ax:Addr) (ah ak:Nat) (a_1:Int) (aA:FuncId) (ar:lVa) (aD:Int):lNa:=[(11,iV aD)]
def zCN:Alt:=⟨Int,(.exit 0),fun t=>zTL ax ah ak a_1 aA ar t,fun t=>[],fun t σ=>Q t σ⟩
def yCY:Prop:=qk ql none zKZ 90 (zKY ax ah ak a_1 aA ar aD aX) [] [zNG ax ah ak a_1 aA ar q5,zCN ax ah ak a_1 aA ar q6] σ
def yCX:Prop:=qm ql none zKZ 90 (zKY ax ah ak a_1 aA ar aD aX) [] [zCN ax ah ak a_1 aA ar q6] σ
def yCU:Code:=(Code.part [1,1,1,0,0,0,0,0,0,0] (qj 86))
def zFN:lNa:=[(0,.slice (some ax) ah ak),(1,iV a_1),(4,.func (.func aA) ⟨[]⟩ ⟨ar⟩),(11,iV bb),(12,iV aX)]
def ySX:Alt:=⟨Int,.normal,fun t=>zFN ax ah ak a_1 aA ar aX t,fun t=>[],fun t σ=>Q t σ⟩
def zTK:lNa:=[(0,.slice (some ax) ah ak),(1,iV a_1),(4,.func (.func aA) ⟨[]⟩ ⟨ar⟩),(11,iV bb),(12,iV aX)]
def zJF:Alt:=⟨Int,(.exit 2),fun t=>zTK ax ah ak a_1 aA ar aX t,fun t=>[],fun t σ=>Q t σ⟩
def zLB:Prop:=qk ql none yCU 90 (zFN ax ah ak a_1 aA ar aX bb) [] [ySX ax ah ak a_1 aA ar aX Nx,zJF ax ah ak a_1 aA ar aX Q2] σ
def yCW:Prop:=qm ql none yCU 90 (zFN ax ah ak a_1 aA ar aX bb) [] [zJF ax ah ak a_1 aA ar aX Q2] σ
def zTM:Prop:=kZ ql zKZ [0,0,0] (zGC 90 [zNG ax ah ak a_1 aA ar q5,zCN ax ah ak a_1 aA ar q6]) (.exit 2) 90 (zTK ax ah ak a_1 aA ar aX bb) σ
def yCT:Code:=(Code.part [1,1,1,0,0,0,0,1,0,0,0] (qj 86))
def zFM:lNa:=[(0,.slice (some ax) ah ak),(1,iV a_1),(4,.func (.func aA) ⟨[]⟩ ⟨ar⟩),(11,iV bb),(12,iV bJ)]
def ySW:Alt:=⟨Int,.normal,fun t=>zFM ax ah ak a_1 aA ar bb t,fun t=>[],fun t σ=>Q t σ⟩
def zTJ:lNa:=[(0,.slice (some ax) ah ak),(1,iV a_1),(4,.func (.func aA) ⟨[]⟩ ⟨ar⟩),(11,iV bb),(12,iV bJ)]
def zJE:Alt:=⟨Int,(.exit 4),fun t=>zTJ ax ah ak a_1 aA ar bb t,fun t=>[],fun t σ=>Q t σ⟩
def zLA:Prop:=qk ql none yCT 90 (zFM ax ah ak a_1 aA ar bb bJ) [] [ySW ax ah ak a_1 aA ar bb Nx,zJE ax ah ak a_1 aA ar bb Q4] σ
def yCV:Prop:=qm ql none yCT 90 (zFM ax ah ak a_1 aA ar bb bJ) [] [zJE ax ah ak a_1 aA ar bb Q4] σ
def zJG:Prop:=kZ ql zKZ [0,1,0,0] (zGC 90 [zNG ax ah ak a_1 aA ar q5,zCN ax ah ak a_1 aA ar q6]) (.exit 4) 90 (zTJ ax ah ak a_1 aA ar bb bJ) σ
def zTN:Prop:=kZ ql (qj 86) [1,1,1,0,0] (qo 86 q2) (.exit 0) 90 (zTL ax ah ak a_1 aA ar aD) σ
def yXO:Code:=(Code.part [1,1,1,0,0,0] (qj 87))
def zUY:lNa:=[(0,.slice (some ax) ah ak),(1,iV a_1),(4,.func (.func aA) ⟨[]⟩ ⟨ar⟩),(12,iV aX),(13,iV kB)]
def xIO:Alt:=⟨Int,.normal,fun t=>zUY ax ah ak a_1 aA ar kB t,fun t=>[],fun t σ=>Q t σ⟩
def yCP:lNa:=[(0,.slice (some ax) ah ak),(1,iV a_1),(4,.func (.func aA) ⟨[]⟩ ⟨ar⟩),(12,iV aX),(13,iV kB)]
def zQW:Alt:=⟨Int,(.exit 0),fun t=>yCP ax ah ak a_1 aA ar kB t,fun t=>[],fun t σ=>Q t σ⟩
def zVD:Prop:=qk ql none yXO 178 (zUY ax ah ak a_1 aA ar kB aX) [] [xIO ax ah ak a_1 aA ar kB Nx,zQW ax ah ak a_1 aA ar kB q6] σ
def yXT:Prop:=qm ql none yXO 178 (zUY ax ah ak a_1 aA ar kB aX) [] [zQW ax ah ak a_1 aA ar kB q6] σ
def yCS:Prop:=kZ ql (qj 87) [1,1,1,0,0] (qo 87 q2) (.exit 0) 178 (yCP ax ah ak a_1 aA ar kB aX) σ
def yXN:Code:=(Code.part [1,1,1,1,0,0,0] (qj 87))
def zOT:lNa:=[(0,.slice (some ax) ah ak),(1,iV a_1),(4,.func (.func aA) ⟨[]⟩ ⟨ar⟩),(12,iV aX),(13,iV bU)]
def xIN:Alt:=⟨Int,.normal,fun t=>zOT ax ah ak a_1 aA ar aX t,fun t=>[],fun t σ=>Q t σ⟩
def yCO:lNa:=[(0,.slice (some ax) ah ak),(1,iV a_1),(4,.func (.func aA) ⟨[]⟩ ⟨ar⟩),(12,iV aX),(13,iV bU)]
def zQV:Alt:=⟨Int,(.exit 2),fun t=>yCO ax ah ak a_1 aA ar aX t,fun t=>[],fun t σ=>Q t σ⟩
def zVC:Prop:=qk ql none yXN 178 (zOT ax ah ak a_1 aA ar aX bU) [] [xIN ax ah ak a_1 aA ar aX Nx,zQV ax ah ak a_1 aA ar aX Q2] σ
def yXS:Prop:=qm ql none yXN 178 (zOT ax ah ak a_1 aA ar aX bU) [] [zQV ax ah ak a_1 aA ar aX Q2] σ
def zQY:Prop:=kZ ql (qj 87) [1,1,1,1,0,0] (qo 87 q2) (.exit 2) 178 (yCO ax ah ak a_1 aA ar aX bU) σ
def zUZ:Code:=(Code.part [1,1,1,1,1,1,1,1,1,0,0,0] (qj 87))
def zUX:lNa:=[(0,.slice (some ax) ah ak),(1,iV a_1),(4,.func (.func aA) ⟨[]⟩ ⟨ar⟩),(12,iV bJ),(13,iV aF)]
def zXG:Alt:=⟨Int × Int,.normal,fun t=>zUX ax ah ak a_1 aA ar t.1 t.2,fun t=>[],fun t σ=>q4 t.1 t.2 σ⟩
def yCN (ax:Addr) (ah ak:Nat) (a_1:Int) (aA:FuncId) (ar:lVa) (aF:Int):lNa:=[(0,.slice (some ax) ah ak),(1,iV a_1),(13,iV aF)]
def zFL:Alt:=⟨Int,(.exit 4),fun t=>yCN ax ah ak a_1 aA ar t,fun t=>[],fun t σ=>Q t σ⟩
def yXU:Prop:=qk ql none zUZ 178 (zUX ax ah ak a_1 aA ar bJ aF) [] [zXG ax ah ak a_1 aA ar q5,zFL ax ah ak a_1 aA ar Q4] σ
def yXR:Prop:=qm ql none zUZ 178 (zUX ax ah ak a_1 aA ar bJ aF) [] [zFL ax ah ak a_1 aA ar Q4] σ
def yXM:Code:=(Code.part [1,1,1,1,1,1,1,1,1,0,0,0,0,0,0,0] (qj 87))
def zOS:lNa:=[(0,.slice (some ax) ah ak),(1,iV a_1),(4,.func (.func aA) ⟨[]⟩ ⟨ar⟩),(12,iV a9),(13,iV aF)]
def xIM:Alt:=⟨Int,.normal,fun t=>zOS ax ah ak a_1 aA ar aF t,fun t=>[],fun t σ=>Q t σ⟩
def yCM:lNa:=[(0,.slice (some ax) ah ak),(1,iV a_1),(4,.func (.func aA) ⟨[]⟩ ⟨ar⟩),(12,iV a9),(13,iV aF)]
def zQU:Alt:=⟨Int,(.exit 6),fun t=>yCM ax ah ak a_1 aA ar aF t,fun t=>[],fun t σ=>Q t σ⟩
def zVB:Prop:=qk ql none yXM 178 (zOS ax ah ak a_1 aA ar aF a9) [] [xIM ax ah ak a_1 aA ar aF Nx,zQU ax ah ak a_1 aA ar aF Q6] σ
def yXQ:Prop:=qm ql none yXM 178 (zOS ax ah ak a_1 aA ar aF a9) [] [zQU ax ah ak a_1 aA ar aF Q6] σ
def yCQ:Prop:=kZ ql zUZ [0,0,0] (zGC 178 [zXG ax ah ak a_1 aA ar q5,zFL ax ah ak a_1 aA ar Q4]) (.exit 6) 178 (yCM ax ah ak a_1 aA ar aF a9) σ
def yXL:Code:=(Code.part [1,1,1,1,1,1,1,1,1,0,0,0,0,1,0,0,0] (qj 87))
def zOR:lNa:=[(0,.slice (some ax) ah ak),(1,iV a_1),(4,.func (.func aA) ⟨[]⟩ ⟨ar⟩),(12,iV a9),(13,iV bW)]
def xIL:Alt:=⟨Int,.normal,fun t=>zOR ax ah ak a_1 aA ar a9 t,fun t=>[],fun t σ=>Q t σ⟩
def yCL:lNa:=[(0,.slice (some ax) ah ak),(1,iV a_1),(4,.func (.func aA) ⟨[]⟩ ⟨ar⟩),(12,iV a9),(13,iV bW)]
def zQT:Alt:=⟨Int,(.exit 8),fun t=>yCL ax ah ak a_1 aA ar a9 t,fun t=>[],fun t σ=>Q t σ⟩
def zVA:Prop:=qk ql none yXL 178 (zOR ax ah ak a_1 aA ar a9 bW) [] [xIL ax ah ak a_1 aA ar a9 Nx,zQT ax ah ak a_1 aA ar a9 Q8] σ
def yXP:Prop:=qm ql none yXL 178 (zOR ax ah ak a_1 aA ar a9 bW) [] [zQT ax ah ak a_1 aA ar a9 Q8] σ
def zQX:Prop:=kZ ql zUZ [0,1,0,0] (zGC 178 [zXG ax ah ak a_1 aA ar q5,zFL ax ah ak a_1 aA ar Q4]) (.exit 8) 178 (yCL ax ah ak a_1 aA ar a9 bW) σ
def yCR:Prop:=kZ ql (qj 87) [1,1,1,1,1,1,1,1,1,0,0] (qo 87 q2) (.exit 4) 178 (yCN ax ah ak a_1 aA ar aF) σ
def zJC:Code:=(Code.part [1,1,0,1,0,0] (qj 85))
def zOV:lNa:=[(0,.slice data ah ak),(1,iV a_1),(2,iV b),(3,.func (.func aA) ⟨[]⟩ ⟨ar⟩),(9,iV bV),(10,iV aC)]
def zKX:Alt:=⟨Int × Int,.normal,fun t=>zOV data ah ak a_1 b aA ar t.1 t.2,fun t=>[],fun t σ=>q4 t.1 t.2 σ⟩
def zXL (data:oAa) (ah ak:Nat) (a_1 b:Int) (aA:FuncId) (ar:lVa):lNa:=[]
def zBN:Alt:=⟨Unit,(.exit 0),fun t=>zXL data ah ak a_1 b aA ar,fun t=>[],fun t σ=>q0 σ⟩
def zXK (data:oAa) (ah ak:Nat) (a_1 b:Int) (aA:FuncId) (ar:lVa) (t8_1:Bool):lNa:=[(8,.bool t8_1)]
def zBM:Alt:=⟨Bool,.ret,fun t=>zXK data ah ak a_1 b aA ar t,fun t=>[],fun t σ=>q7 t σ⟩
def zXP:Prop:=qk ql none zJC 141 (zOV data ah ak a_1 b aA ar bV aC) [] [zKX data ah ak a_1 b aA ar q5,zBN data ah ak a_1 b aA ar Q0,zBM data ah ak a_1 b aA ar Qr] σ
def yLR:Prop:=qm ql none zJC 141 (zOV data ah ak a_1 b aA ar bV aC) [] [zBN data ah ak a_1 b aA ar Q0,zBM data ah ak a_1 b aA ar Qr] σ
def yLP:Code:=(Code.part [1,1,0,1,0,0,1,0,0,0,0,0] (qj 85))
def zJB:lNa:=[(0,.slice data ah ak),(1,iV a_1),(2,iV b),(3,.func (.func aA) ⟨[]⟩ ⟨ar⟩),(9,iV aP),(10,iV aC)]
def xCM:Alt:=⟨Int,.normal,fun t=>zJB data ah ak a_1 b aA ar aC t,fun t=>[],fun t σ=>Q t σ⟩
def zXJ:lNa:=[(0,.slice data ah ak),(1,iV a_1),(2,iV b),(3,.func (.func aA) ⟨[]⟩ ⟨ar⟩),(9,iV aP),(10,iV aC)]
def zND:Alt:=⟨Int,(.exit 2),fun t=>zXJ data ah ak a_1 b aA ar aC t,fun t=>[],fun t σ=>Q t σ⟩
def zOY:Prop:=qk ql none yLP 141 (zJB data ah ak a_1 b aA ar aC aP) [] [xCM data ah ak a_1 b aA ar aC Nx,zND data ah ak a_1 b aA ar aC Q2] σ
def yLQ:Prop:=qm ql none yLP 141 (zJB data ah ak a_1 b aA ar aC aP) [] [zND data ah ak a_1 b aA ar aC Q2] σ
def zBO:Prop:=kZ ql zJC [1,0,0,0,0] (zGC 141 [zKX data ah ak a_1 b aA ar q5,zBN data ah ak a_1 b aA ar Q0,zBM data ah ak a_1 b aA ar Qr]) (.exit 2) 141 (zXJ data ah ak a_1 b aA ar aC aP) σ
def yLO:Code:=(Code.part [1,1,0,1,0,0,1,0,0,1,1,1,1,0,1,0,1,0,0] (qj 85))
def zOU (ax:Addr) (ah ak:Nat) (a_1 b:Int) (aA:FuncId) (ar:lVa) (aP aC dE:Int):lNa:=[(0,.slice (some ax) ah ak),(1,iV a_1),(2,iV b),(3,.func (.func aA) ⟨[]⟩ ⟨ar⟩),(9,iV aP),(10,iV aC),(11,iV dE)]
def xCL (ax:Addr) (ah ak:Nat) (a_1 b:Int) (aA:FuncId) (ar:lVa) (aP aC:Int) (Q:Int→St→Prop):Alt:=⟨Int,.normal,fun t=>zOU ax ah ak a_1 b aA ar aP aC t,fun t=>[],fun t σ=>Q t σ⟩
def zXI (ax:Addr) (ah ak:Nat) (a_1 b:Int) (aA:FuncId) (ar:lVa) (aP aC:Int):lNa:=[(0,.slice (some ax) ah ak),(1,iV a_1),(2,iV b),(3,.func (.func aA) ⟨[]⟩ ⟨ar⟩),(9,iV aP),(10,iV aC)]
def zNC (ax:Addr) (ah ak:Nat) (a_1 b:Int) (aA:FuncId) (ar:lVa) (aP aC:Int) (Q:St→Prop):Alt:=⟨Unit,(.exit 4),fun t=>zXI ax ah ak a_1 b aA ar aP aC,fun t=>[],fun t σ=>Q σ⟩
def zOX (ax:Addr) (ah ak:Nat) (a_1 b:Int) (aA:FuncId) (ar:lVa) (aP aC dE:Int) (σ:St) (Nx:Int→St→Prop) (Q4:St→Prop):Prop:=qk ql none yLO 141 (zOU ax ah ak a_1 b aA ar aP aC dE) [] [xCL ax ah ak a_1 b aA ar aP aC Nx,zNC ax ah ak a_1 b aA ar aP aC Q4] σ
def zXM (ax:Addr) (ah ak:Nat) (a_1 b:Int) (aA:FuncId) (ar:lVa) (aP aC dE:Int) (σ:St) (Q4:St→Prop):Prop:=qm ql none yLO 141 (zOU ax ah ak a_1 b aA ar aP aC dE) [] [zNC ax ah ak a_1 b aA ar aP aC Q4] σ
def zNF (data:oAa) (ax:Addr) (ah ak:Nat) (a_1 b:Int) (aA:FuncId) (ar:lVa) (aP aC:Int) (σ:St) (Nx:Int→Int→St→Prop) (Q0:St→Prop) (Qr:Bool→St→Prop):Prop:=kZ ql zJC [1,0,0,1,1,1,1,0,1,0,1,0] (zGC 141 [zKX data ah ak a_1 b aA ar Nx,zBN data ah ak a_1 b aA ar Q0,zBM data ah ak a_1 b aA ar Qr]) (.exit 4) 141 (zXI ax ah ak a_1 b aA ar aP aC) σ
def yLN:Code:=(Code.part [1,1,0,1,0,0,1,0,0,1,1,1,1,1,1,0,1,0,0] (qj 85))
def zJA (ax:Addr) (ah ak:Nat) (a_1 b:Int) (aA:FuncId) (ar:lVa) (aP aC a9:Int):lNa:=[(0,.slice (some ax) ah ak),(1,iV a_1),(2,iV b),(3,.func (.func aA) ⟨[]⟩ ⟨ar⟩),(9,iV aP),(10,iV aC),(12,iV a9)]
def xCK (ax:Addr) (ah ak:Nat) (a_1 b:Int) (aA:FuncId) (ar:lVa) (aP aC:Int) (Q:Int→St→Prop):Alt:=⟨Int,.normal,fun t=>zJA ax ah ak a_1 b aA ar aP aC t,fun t=>[],fun t σ=>Q t σ⟩
def zXH (ax:Addr) (ah ak:Nat) (a_1 b:Int) (aA:FuncId) (ar:lVa) (aP aC:Int):lNa:=[(0,.slice (some ax) ah ak),(1,iV a_1),(2,iV b),(3,.func (.func aA) ⟨[]⟩ ⟨ar⟩),(9,iV aP),(10,iV aC)]
def zGS (ax:Addr) (ah ak:Nat) (a_1 b:Int) (aA:FuncId) (ar:lVa) (aP aC:Int) (Q:St→Prop):Alt:=⟨Unit,(.exit 6),fun t=>zXH ax ah ak a_1 b aA ar aP aC,fun t=>[],fun t σ=>Q σ⟩
def zOW (ax:Addr) (ah ak:Nat) (a_1 b:Int) (aA:FuncId) (ar:lVa) (aP aC a9:Int) (σ:St) (Nx:Int→St→Prop) (Q6:St→Prop):Prop:=qk ql none yLN 141 (zJA ax ah ak a_1 b aA ar aP aC a9) [] [xCK ax ah ak a_1 b aA ar aP aC Nx,zGS ax ah ak a_1 b aA ar aP aC Q6] σ
def zJD (ax:Addr) (ah ak:Nat) (a_1 b:Int) (aA:FuncId) (ar:lVa) (aP aC a9:Int) (σ:St) (Q6:St→Prop):Prop:=qm ql none yLN 141 (zJA ax ah ak a_1 b aA ar aP aC a9) [] [zGS ax ah ak a_1 b aA ar aP aC Q6] σ
def zNE (data:oAa) (ax:Addr) (ah ak:Nat) (a_1 b:Int) (aA:FuncId) (ar:lVa) (aP aC:Int) (σ:St) (Nx:Int→Int→St→Prop) (Q0:St→Prop) (Qr:Bool→St→Prop):Prop:=kZ ql zJC [1,0,0,1,1,1,1,1,1,0,1,0] (zGC 141 [zKX data ah ak a_1 b aA ar Nx,zBN data ah ak a_1 b aA ar Q0,zBM data ah ak a_1 b aA ar Qr]) (.exit 6) 141 (zXH ax ah ak a_1 b aA ar aP aC) σ
def zXO:Prop:=kZ ql (qj 85) [1,1,0,1,0] (qo 85 q2) (.exit 0) 141 (zXL data ah ak a_1 b aA ar) σ
def zXN:Prop:=kZ ql (qj 85) [1,1,0,1,0] (qo 85 q2) .ret 141 (zXK data ah ak a_1 b aA ar t8_1) σ
end
variable {data:oAa} {ah ak:Nat} {a_1 b aG aP nR nU nV nT nH nI nJ hi first aC nG nF nD nB nA nE nK nO nP nQ nW nEC nFC nBF lo_1 kB aD d6 aX bb bJ nS nLB nFB nMB nNB nGB nJB nDB nEB nX nY nZ nAB dF n1 n2 n3 n4 n5 n6 bU nWB nBG nBH nXB nYB nZB aF a9 nCB nHB nOB nPB nQB nRB nVB bW nBI nBJ nBK nBL nBM nBN nBO nBg nBh nBi nBj nBk nBl nBm nBn nBo nBp nBq nBr bV dE nKB nIB nAC nBC nCC nDC:Int} {aA:FuncId} {ar:lVa} {Inv:Nat→Int→St→Prop} {Q0 P0 Pr P6:St→Prop} {Q2 Nx P2 Q4 P4 Q6 Q8 P8:Int→St→Prop} {ax:Addr} {σT σU σ σR σG σM σA σD σV σN σGB σHB σIB σ7 σ8 σK σW σJB σKB σLB σMB σNB σOB σO σP σPB σQB:St} {Q:vPa} {Qr:Bool→St→Prop} {t8_1:Bool}
theorem zYE (hb:∀ k aG σ,Inv k aG σ→yHI data ah ak a_1 b aA ar aG σ (NX1 Inv k) Q0):∀ k aG σ,Inv k aG σ→yYK data ah ak a_1 b aA ar aG σ Q0 :=
 xJ (ai (wI 0) trivial) hb
theorem yTN {Q2:St→Prop} (hb:∀ k aP σ,Inv k aP σ→zVG data ah ak a_1 b aA ar aG aP σ (NX1 Inv k) Q2):∀ k aP σ,Inv k aP σ→yYJ data ah ak a_1 b aA ar aG aP σ Q2 :=
 xJ (ai (wI 2) trivial) hb
theorem xKF {Q2:St→Prop}:let y0:=rcd nR nU nV;let y1:=rcd nT nH nI;let y2:=zN ax (Int.toNat (aP-1)*3);let y3:=zN ax (Int.toNat aP*3);∀ (h1:lz σ 47 y3 (qh y0)) (h2:lz σ 47 y2 (qh y1)) (h3:qn aA (qh y0::(qh y1)::ar) σ (iV nJ) σ) (h4:qq (evL [pz y3,qh y1]) σ (.store 47 (.tmp 0) (.tmp 1))=some (undef,σT)) (h5:qq (evL [pz y2,qh y0]) σT (.store 47 (.tmp 0) (.tmp 1))=some (undef,σU)) (nx:Nx (aP-1) σU) (u1:a_1<aP:=by omega) (u2:Ix aP ah:=by omega) (u3:I6 (aP-1):=by omega) (u4:Ix (aP-1) ah:=by omega) (u5:nJ<0:=by omega),zVG (some ax) ah ak a_1 b aA ar aG aP σ Nx Q2 :=
 let y0:=rcd nR nU nV;let y1:=rcd nT nH nI;fun h1 h2 h3 h4 h5 nx u1 u2 u3 u4 u5=>kO 0 (aP-1) [.g,.g,.b true,.g,.g,.g,.g,.i,.l (qh y0),.g,.g,.n (aP-1),.i,.l (qh y1),.c (iV nJ) σ,.b true,.g,.g,.g,.g,.g,.n (aP-1),.g,.g,.n (aP-1),.i,.l (qh y1),.g,.g,.i,.l (qh y0),.i,.e undef σT,.i,.e undef σU,.g,.n (aP-1),.g] (fun _ f=>ai (zR u1) (an6 u2 h1 (w64 u3) u4 h2 h3 (an6 (zR u5) (w64 u3) (w64 u3) u4 h2 u2 (an6 h1 u2 h4 u4 h5 (w64 u3) f)))) nx
theorem xKE {Q2:St→Prop} (h1:lz σ 47 (zN ax (Int.toNat aP*3)) (qh (rcd nR nU nV))) (h2:lz σ 47 (zN ax (Int.toNat (aP-1)*3)) (qh (rcd nT nH nI))) (h3:qn aA (qh (rcd nR nU nV)::(qh (rcd nT nH nI))::ar) σ (iV nJ) σ) (nx:Q2 σ) (u1:a_1<aP:=by omega) (u2:Ix aP ah:=by omega) (u3:I6 (aP-1):=by omega) (u4:Ix (aP-1) ah:=by omega) (u5:¬ nJ<0:=by omega):zVG (some ax) ah ak a_1 b aA ar aG aP σ Nx Q2 :=
 kO 1 () [.g,.g,.b true,.g,.g,.g,.g,.i,.l (qh (rcd nR nU nV)),.g,.g,.n (aP-1),.i,.l (qh (rcd nT nH nI)),.c (iV nJ) σ,.b false,.g] (fun _ f=>an2 (zR u1) u2 (an6 h1 (w64 u3) u4 h2 h3 (zT u5) f)) nx
theorem xKD {Q2:St→Prop} (nx:Q2 σ) (u1:¬ a_1<aP:=by omega):zVG data ah ak a_1 b aA ar aG aP σ Nx Q2 :=
 kO 1 () [.g,.g,.b false,.g,.g] (fun _ f=>ai (zT u1) f) nx
theorem xKG {P2:St→Prop} (hL:yYJ data ah ak a_1 b aA ar aG aG σ P2) (k2:∀ σ',P2 σ'→yDM data ah ak a_1 b aA ar aG σ' Nx Q0) (u1:aG<b:=by omega):yHI data ah ak a_1 b aA ar aG σ Nx Q0 :=
 zDA [.g,.g,.b true,.g,.g,.lf 53 (zPD data ah ak a_1 b aA ar aG aG) [zRD data ah ak a_1 b aA ar aG P2]] (fun g=>kd (ai (zR u1) (ai (ai tt (ai (arf (zPD data ah ak a_1 b aA ar aG aG)) hL)) (ai (kz0 k2) trivial))))
theorem yMF (nx:Q0 σ) (u1:¬ aG<b:=by omega):yHI data ah ak a_1 b aA ar aG σ Nx Q0 :=
 kO 1 () [.g,.g,.b false] (fun _ f=>ai (zT u1) f) nx
theorem yTM (nx:Nx (aG+1) σ) (u1:I6 (aG+1):=by omega):yDM data ah ak a_1 b aA ar aG σ Nx Q0 :=
 sF 0 (aG+1) [.g,.n (aG+1),.g] (fun _ f=>ai (w64 u1) f) nx
theorem yYH (hL:yYK data ah ak a_1 b aA ar (a_1+1) σ P0) (k0:∀ σ',P0 σ'→yDN data ah ak a_1 b aA ar σ' Q) (u1:I6 (a_1+1):=by omega):qi 80 [.slice data ah ak,iV a_1,iV b,.func (.func aA) ⟨[]⟩ ⟨ar⟩] σ Q :=
 let s1:=zVF data ah ak a_1 b aA ar (a_1+1);zI [.g,.n (a_1+1),.g,.lf 53 s1 [zLF data ah ak a_1 b aA ar P0]] (kd (ai (w64 u1) (ai (ai tt (ai (arf s1) hL)) (ai (kz0 k0) trivial))))
theorem zYD (nx:Q (.tuple ⟨[]⟩) σ):yDN data ah ak a_1 b aA ar σ Q :=
 sK [] nx
theorem yJW {Qr:St→Prop} (hb:∀ k aC σ,Inv k aC σ→zCJ data ah ak hi first aA ar aC σ (NX1 Inv k) Q0 Qr):∀ k aC σ,Inv k aC σ→yJY data ah ak hi first aA ar aC σ Q0 Qr :=
 xJ (ai (wI 0) (ai zCK trivial)) hb
theorem xAD {Qr:St→Prop} (nx:Q0 σ) (u1:I6 (2*aC):=by omega) (u2:I6 ((2*aC)+1):=by omega) (u3:hi≤((2*aC)+1):=by omega):zCJ data ah ak hi first aA ar aC σ Nx Q0 Qr :=
 kO 1 () [.g,.n (2*aC),.n ((2*aC)+1),.g,.g,.g,.b true] (fun _ f=>an3 (w64 u1) (w64 u2) (yE u3) f) nx
@[reducible] def Ha2 (σ:St) (ax:Addr) (first aC nG nF nD nB nA nE nK nO nP nQ nW nEC nFC nBF:Int) (aA:FuncId) (ar:lVa):Prop:=qp σ 47 (zN ax (Int.toNat (first+((2*aC)+1))*3))=some (.agg ⟨rcd nG nF nD⟩)∧qp σ 47 (zN ax (Int.toNat ((first+((2*aC)+1))+1)*3))=some (.agg ⟨rcd nB nA nE⟩)∧qn aA (.agg ⟨rcd nG nF nD⟩::.agg ⟨rcd nB nA nE⟩::ar) σ (iV nK) σ∧qp σ 47 (zN ax (Int.toNat (first+aC)*3))=some (.agg ⟨rcd nO nP nQ⟩)∧qp σ 47 (zN ax (Int.toNat (first+(((2*aC)+1)+1))*3))=some (.agg ⟨rcd nW nEC nFC⟩)∧qn aA (.agg ⟨rcd nO nP nQ⟩::.agg ⟨rcd nW nEC nFC⟩::ar) σ (iV nBF) σ
theorem xAC {Qr:St→Prop}:let y0:=(2*aC)+1;let y1:=first+aC;∀ (H:Ha2 σ ax first aC nG nF nD nB nA nE nK nO nP nQ nW nEC nFC nBF aA ar) (h7:qq (evL [pz (zN ax (Int.toNat y1*3)),qh (rcd nW nEC nFC)]) σ (.store 47 (.tmp 0) (.tmp 1))=some (undef,σR)) (h8:qq (evL [pz (zN ax (Int.toNat (first+(y0+1))*3)),qh (rcd nO nP nQ)]) σR (.store 47 (.tmp 0) (.tmp 1))=some (undef,σG)) (nx:Nx (y0+1) σG) (u1:I6 (2*aC):=by omega) (u2:I6 y0:=by omega) (u3:¬ hi≤y0:=by omega) (u4:I6 (y0+1):=by omega) (u5:(y0+1)<hi:=by omega) (u6:I6 (first+y0):=by omega) (u7:Ix (first+y0) ah:=by omega) (u8:I6 ((first+y0)+1):=by omega) (u9:Ix ((first+y0)+1) ah:=by omega) (u10:nK<0:=by omega) (u11:I6 y1:=by omega) (u12:Ix y1 ah:=by omega) (u13:I6 (first+(y0+1)):=by omega) (u14:Ix (first+(y0+1)) ah:=by omega) (u15:nBF<0:=by omega),zCJ (some ax) ah ak hi first aA ar aC σ Nx Q0 Qr :=
 fun H h7 h8 nx u1 u2 u3 u4 u5 u6 u7 u8 u9 u10 u11 u12 u13 u14 u15=>match H with|⟨h1,h2,h3,h4,h5,h6⟩=>let s1:=(2*aC)+1;let s2:=first+(s1+1);let s3:=first+aC;let s4:=first+s1;kO 0 (s1+1) [.g,.n (2*aC),.n s1,.g,.g,.g,.b false,.g,.n (s1+1),.g,.b true,.g,.g,.g,.g,.g,.n s4,.i,.l (qh (rcd nG nF nD)),.g,.g,.g,.n s4,.n (s4+1),.i,.l (qh (rcd nB nA nE)),.c (iV nK) σ,.b true,.g,.g,.n (s1+1),.g,.g,.g,.g,.g,.n s3,.i,.l (qh (rcd nO nP nQ)),.g,.g,.g,.n s2,.i,.l (qh (rcd nW nEC nFC)),.c (iV nBF) σ,.b true,.g,.g,.g,.g,.n s3,.g,.g,.g,.n s2,.g,.g,.g,.n s2,.i,.l (qh (rcd nW nEC nFC)),.g,.g,.g,.n s3,.i,.l (qh (rcd nO nP nQ)),.i,.e undef σR,.i,.e undef σG,.g,.g] (fun _ f=>an5 (w64 u1) (w64 u2) (yJ u3) (w64 u4) (zR u5) (an6 (w64 u6) u7 h1 (w64 u6) (w64 u8) u9 (an6 h2 h3 (zR u10) (w64 u4) (w64 u11) u12 (an6 h4 (w64 u13) u14 h5 h6 (zR u15) (an6 (w64 u11) (w64 u13) (w64 u13) u14 h5 (w64 u11) (an6 u12 h4 u12 h7 u14 h8 f)))))) nx
theorem xAB {Qr:St→Prop} (H:Ha2 σ ax first aC nG nF nD nB nA nE nK nO nP nQ nW nEC nFC nBF aA ar) (nx:Qr σ) (u1:I6 (2*aC):=by omega) (u2:I6 ((2*aC)+1):=by omega) (u3:¬ hi≤((2*aC)+1):=by omega) (u4:I6 (((2*aC)+1)+1):=by omega) (u5:(((2*aC)+1)+1)<hi:=by omega) (u6:I6 (first+((2*aC)+1)):=by omega) (u7:Ix (first+((2*aC)+1)) ah:=by omega) (u8:I6 ((first+((2*aC)+1))+1):=by omega) (u9:Ix ((first+((2*aC)+1))+1) ah:=by omega) (u10:nK<0:=by omega) (u11:I6 (first+aC):=by omega) (u12:Ix (first+aC) ah:=by omega) (u13:I6 (first+(((2*aC)+1)+1)):=by omega) (u14:Ix (first+(((2*aC)+1)+1)) ah:=by omega) (u15:¬ nBF<0:=by omega):zCJ (some ax) ah ak hi first aA ar aC σ Nx Q0 Qr :=
 match H with|⟨h1,h2,h3,h4,h5,h6⟩=>let s1:=(2*aC)+1;let s2:=first+s1;kO 2 () [.g,.n (2*aC),.n s1,.g,.g,.g,.b false,.g,.n (s1+1),.g,.b true,.g,.g,.g,.g,.g,.n s2,.i,.l (qh (rcd nG nF nD)),.g,.g,.g,.n s2,.n (s2+1),.i,.l (qh (rcd nB nA nE)),.c (iV nK) σ,.b true,.g,.g,.n (s1+1),.g,.g,.g,.g,.g,.n (first+aC),.i,.l (qh (rcd nO nP nQ)),.g,.g,.g,.n (first+(s1+1)),.i,.l (qh (rcd nW nEC nFC)),.c (iV nBF) σ,.b false,.g] (fun _ f=>an5 (w64 u1) (w64 u2) (yJ u3) (w64 u4) (zR u5) (an6 (w64 u6) u7 h1 (w64 u6) (w64 u8) u9 (an6 h2 h3 (zR u10) (w64 u4) (w64 u11) u12 (an6 h4 (w64 u13) u14 h5 h6 (zT u15) f)))) nx
theorem xAA {Qr:St→Prop}:let s2:=(2*aC)+1;let s1:=first+s2;let s3:=first+aC;let y0:=rcd nG nF nD;let y1:=rcd nO nP nQ;let y2:=zN ax (Int.toNat s1*3);let y3:=zN ax (Int.toNat s3*3);∀ (h1:lz σ 47 y2 (qh y0)) (h2:lz σ 47 (zN ax (Int.toNat (s1+1)*3)) (qh (rcd nB nA nE))) (h3:qn aA (qh y0::(qh (rcd nB nA nE))::ar) σ (iV nK) σ) (h4:lz σ 47 y3 (qh y1)) (h5:qn aA (qh y1::(qh y0)::ar) σ (iV nW) σ) (h6:qq (evL [pz y3,qh y0]) σ (.store 47 (.tmp 0) (.tmp 1))=some (undef,σM)) (h7:qq (evL [pz y2,qh y1]) σM (.store 47 (.tmp 0) (.tmp 1))=some (undef,σA)) (nx:Nx s2 σA) (u1:I6 (2*aC):=by omega) (u2:I6 s2:=by omega) (u3:¬ hi≤s2:=by omega) (u4:I6 (s2+1):=by omega) (u5:(s2+1)<hi:=by omega) (u6:I6 s1:=by omega) (u7:Ix s1 ah:=by omega) (u8:I6 (s1+1):=by omega) (u9:Ix (s1+1) ah:=by omega) (u10:¬ nK<0:=by omega) (u11:I6 s3:=by omega) (u12:Ix s3 ah:=by omega) (u13:nW<0:=by omega),zCJ (some ax) ah ak hi first aA ar aC σ Nx Q0 Qr:=
 let s2:=(2*aC)+1;let s1:=first+s2;let s3:=first+aC;let y0:=rcd nG nF nD;let y1:=rcd nO nP nQ;fun h1 h2 h3 h4 h5 h6 h7 nx u1 u2 u3 u4 u5 u6 u7 u8 u9 u10 u11 u12 u13=>kO 0 s2 [.g,.n (2*aC),.n s2,.g,.g,.g,.b false,.g,.n (s2+1),.g,.b true,.g,.g,.g,.g,.g,.n s1,.i,.l (qh y0),.g,.g,.g,.n s1,.n (s1+1),.i,.l (qh (rcd nB nA nE)),.c (iV nK) σ,.b false,.g,.g,.g,.g,.g,.n s3,.i,.l (qh y1),.g,.g,.g,.n s1,.i,.l (qh y0),.c (iV nW) σ,.b true,.g,.g,.g,.g,.n s3,.g,.g,.g,.n s1,.g,.g,.g,.n s1,.i,.l (qh y0),.g,.g,.g,.n s3,.i,.l (qh y1),.i,.e undef σM,.i,.e undef σA,.g,.g] (fun _ f=>an4 (w64 u1) (w64 u2) (yJ u3) (w64 u4) (an6 (zR u5) (w64 u6) u7 h1 (w64 u6) (w64 u8) (an6 u9 h2 h3 (zT u10) (w64 u11) u12 (an6 h4 (w64 u6) u7 h1 h5 (zR u13) (an6 (w64 u11) (w64 u6) (w64 u6) u7 h1 (w64 u11) (an6 u12 h4 u12 h6 u7 h7 f)))))) nx
theorem yZZ {Qr:St→Prop}:let s2:=2*aC;let s1:=first+(s2+1);let y0:=rcd nG nF nD;∀ (h1:lz σ 47 (zN ax (Int.toNat s1*3)) (qh y0)) (h2:lz σ 47 (zN ax (Int.toNat (s1+1)*3)) (qh (rcd nB nA nE))) (h3:qn aA (qh y0::(qh (rcd nB nA nE))::ar) σ (iV nK) σ) (h4:lz σ 47 (zN ax (Int.toNat (first+aC)*3)) (qh (rcd nO nP nQ))) (h5:qn aA (qh (rcd nO nP nQ)::(qh y0)::ar) σ (iV nW) σ) (nx:Qr σ) (u1:I6 s2:=by omega) (u2:I6 (s2+1):=by omega) (u3:¬ hi≤(s2+1):=by omega) (u4:I6 ((s2+1)+1):=by omega) (u5:((s2+1)+1)<hi:=by omega) (u6:I6 s1:=by omega) (u7:Ix s1 ah:=by omega) (u8:I6 (s1+1):=by omega) (u9:Ix (s1+1) ah:=by omega) (u10:¬ nK<0:=by omega) (u11:I6 (first+aC):=by omega) (u12:Ix (first+aC) ah:=by omega) (u13:¬ nW<0:=by omega),zCJ (some ax) ah ak hi first aA ar aC σ Nx Q0 Qr:=
 let s2:=2*aC;let s1:=first+(s2+1);let y0:=rcd nG nF nD;fun h1 h2 h3 h4 h5 nx u1 u2 u3 u4 u5 u6 u7 u8 u9 u10 u11 u12 u13=>kO 2 () [.g,.n s2,.n (s2+1),.g,.g,.g,.b false,.g,.n ((s2+1)+1),.g,.b true,.g,.g,.g,.g,.g,.n s1,.i,.l (qh y0),.g,.g,.g,.n s1,.n (s1+1),.i,.l (qh (rcd nB nA nE)),.c (iV nK) σ,.b false,.g,.g,.g,.g,.g,.n (first+aC),.i,.l (qh (rcd nO nP nQ)),.g,.g,.g,.n s1,.i,.l (qh y0),.c (iV nW) σ,.b false,.g] (fun _ f=>an4 (w64 u1) (w64 u2) (yJ u3) (w64 u4) (an6 (zR u5) (w64 u6) u7 h1 (w64 u6) (w64 u8) (an6 u9 h2 h3 (zT u10) (w64 u11) u12 (an6 h4 (w64 u6) u7 h1 h5 (zT u13) f)))) nx
theorem yZY {Qr:St→Prop}:let s1:=(2*aC)+1;let s2:=first+aC;let s3:=first+s1;let y0:=rcd nG nF nD;let y1:=rcd nB nA nE;let y2:=zN ax (Int.toNat s2*3);let y3:=zN ax (Int.toNat s3*3);∀ (h1:lz σ 47 y2 (qh y0)) (h2:lz σ 47 y3 (qh y1)) (h3:qn aA (qh y0::(qh y1)::ar) σ (iV nK) σ) (h4:qq (evL [pz y2,qh y1]) σ (.store 47 (.tmp 0) (.tmp 1))=some (undef,σD)) (h5:qq (evL [pz y3,qh y0]) σD (.store 47 (.tmp 0) (.tmp 1))=some (undef,σV)) (nx:Nx s1 σV) (u1:I6 (2*aC):=by omega) (u2:I6 s1:=by omega) (u3:¬ hi≤s1:=by omega) (u4:I6 (s1+1):=by omega) (u5:¬ (s1+1)<hi:=by omega) (u6:I6 s2:=by omega) (u7:Ix s2 ah:=by omega) (u8:I6 s3:=by omega) (u9:Ix s3 ah:=by omega) (u10:nK<0:=by omega),zCJ (some ax) ah ak hi first aA ar aC σ Nx Q0 Qr:=
 let s1:=(2*aC)+1;let s2:=first+aC;let s3:=first+s1;let y0:=rcd nG nF nD;let y1:=rcd nB nA nE;fun h1 h2 h3 h4 h5 nx u1 u2 u3 u4 u5 u6 u7 u8 u9 u10=>kO 0 s1 [.g,.n (2*aC),.n s1,.g,.g,.g,.b false,.g,.n (s1+1),.g,.b false,.g,.g,.g,.g,.g,.g,.n s2,.i,.l (qh y0),.g,.g,.g,.n s3,.i,.l (qh y1),.c (iV nK) σ,.b true,.g,.g,.g,.g,.n s2,.g,.g,.g,.n s3,.g,.g,.g,.n s3,.i,.l (qh y1),.g,.g,.g,.n s2,.i,.l (qh y0),.i,.e undef σD,.i,.e undef σV,.g,.g] (fun _ f=>ai (w64 u1) (an6 (w64 u2) (yJ u3) (w64 u4) (zT u5) (w64 u6) u7 (an6 h1 (w64 u8) u9 h2 h3 (zR u10) (an6 (w64 u6) (w64 u8) (w64 u8) u9 h2 (w64 u6) (an6 u7 h1 u7 h4 u9 h5 f))))) nx
theorem yZX {Qr:St→Prop} (h1:lz σ 47 (zN ax (Int.toNat (first+aC)*3)) (qh (rcd nG nF nD))) (h2:lz σ 47 (zN ax (Int.toNat (first+((2*aC)+1))*3)) (qh (rcd nB nA nE))) (h3:qn aA (qh (rcd nG nF nD)::(qh (rcd nB nA nE))::ar) σ (iV nK) σ) (nx:Qr σ) (u1:I6 (2*aC):=by omega) (u2:I6 ((2*aC)+1):=by omega) (u3:¬ hi≤((2*aC)+1):=by omega) (u4:I6 (((2*aC)+1)+1):=by omega) (u5:¬ (((2*aC)+1)+1)<hi:=by omega) (u6:I6 (first+aC):=by omega) (u7:Ix (first+aC) ah:=by omega) (u8:I6 (first+((2*aC)+1)):=by omega) (u9:Ix (first+((2*aC)+1)) ah:=by omega) (u10:¬ nK<0:=by omega):zCJ (some ax) ah ak hi first aA ar aC σ Nx Q0 Qr :=
 let s1:=(2*aC)+1;kO 2 () [.g,.n (2*aC),.n s1,.g,.g,.g,.b false,.g,.n (s1+1),.g,.b false,.g,.g,.g,.g,.g,.g,.n (first+aC),.i,.l (qh (rcd nG nF nD)),.g,.g,.g,.n (first+s1),.i,.l (qh (rcd nB nA nE)),.c (iV nK) σ,.b false,.g] (fun _ f=>ai (w64 u1) (an6 (w64 u2) (yJ u3) (w64 u4) (zT u5) (w64 u6) u7 (an6 h1 (w64 u8) u9 h2 h3 (zT u10) f))) nx
theorem xGR (hL:yJY data ah ak hi first aA ar lo_1 σ P0 Pr) (k0:∀ σ',P0 σ'→zWI data ah ak hi first aA ar σ' Q) (kr:∀ σ',Pr σ'→zWH data ah ak hi first aA ar σ' Q):qi 95 [.slice data ah ak,iV lo_1,iV hi,iV first,.func (.func aA) ⟨[]⟩ ⟨ar⟩] σ Q :=
 zI [.g,.g,.lf 82 (zIK data ah ak hi first aA ar lo_1) [zMW data ah ak hi first aA ar P0,zMV data ah ak hi first aA ar Pr]] (kd (ai (ai tt (ai (arf (zIK data ah ak hi first aA ar lo_1)) hL)) (ai (kz0 k0) (ai (kz0 kr) trivial))))
theorem yJV (nx:Q (.tuple ⟨[]⟩) σ):zWI data ah ak hi first aA ar σ Q :=
 sK [] nx
theorem yJU (nx:Q (.tuple ⟨[]⟩) σ):zWH data ah ak hi first aA ar σ Q :=
 sK [] nx
theorem yMQ (hb:∀ k aD σ,Inv k aD σ→zYR data ah ak aA ar a_1 kB aD σ (NX1 Inv k) Q0):∀ k aD σ,Inv k aD σ→yMU data ah ak aA ar a_1 kB aD σ Q0 :=
 xJ (ai (wI 0) trivial) hb
theorem xDH (h1:qn 95 [.slice data ah ak,iV aD,iV kB,iV a_1,.func (.func aA) ⟨[]⟩ ⟨ar⟩] σ (.tuple ⟨[]⟩) σN) (nx:Nx (aD-1) σN) (u1:0≤aD:=by omega) (u2:I6 (aD-1):=by omega):zYR data ah ak aA ar a_1 kB aD σ Nx Q0 :=
 kO 0 (aD-1) [.g,.b true,.g,.g,.g,.g,.g,.c (.tuple ⟨[]⟩) σN,.g,.n (aD-1),.g] (fun _ f=>an3 (yE u1) h1 (w64 u2) f) nx
theorem xDG (nx:Q0 σ) (u1:¬ 0≤aD:=by omega):zYR data ah ak aA ar a_1 kB aD σ Nx Q0 :=
 kO 1 () [.g,.b false] (fun _ f=>ai (yJ u1) f) nx
theorem xLA (h1:IntKind.wrap .i64 (Int.tdiv ((b-a_1)-1) 2)=Int.tdiv ((b-a_1)-1) 2) (hL:yMU data ah ak aA ar a_1 (b-a_1) (Int.tdiv ((b-a_1)-1) 2) σ P0) (k0:∀ σ',P0 σ'→zYP data ah ak aA ar a_1 (b-a_1) σ' Q) (u1:I6 (b-a_1):=by omega) (u2:I6 ((b-a_1)-1):=by omega):qi 81 [.slice data ah ak,iV a_1,iV b,.func (.func aA) ⟨[]⟩ ⟨ar⟩] σ Q :=
 let s1:=zPL data ah ak aA ar a_1 (b-a_1) (Int.tdiv ((b-a_1)-1) 2);zI [.g,.g,.g,.g,.g,.n (b-a_1),.g,.g,.n ((b-a_1)-1),.n (Int.tdiv ((b-a_1)-1) 2),.g,.lf 60 s1 [zNO data ah ak aA ar a_1 (b-a_1) P0]] (kd (an3 (w64 u1) (w64 u2) h1 (ai (ai tt (ai (arf s1) hL)) (ai (kz0 k0) trivial))))
theorem yMP {Q2:St→Prop} (hb:∀ k d6 σ,Inv k d6 σ→zYQ data ah ak aA ar a_1 d6 σ (NX1 Inv k) Q2):∀ k d6 σ,Inv k d6 σ→yMT data ah ak aA ar a_1 d6 σ Q2 :=
 xJ (ai (wI 2) trivial) hb
theorem xDF {Q2:St→Prop} (h1:lz σ 47 (zN ax (Int.toNat (a_1+d6)*3)) (qh (rcd nR nU nV))) (h2:lz σ 47 (zN ax (Int.toNat a_1*3)) (qh (rcd nT nH nI))) (h3:qq (evL [pz (zN ax (Int.toNat a_1*3)),qh (rcd nR nU nV)]) σ (.store 47 (.tmp 0) (.tmp 1))=some (undef,σGB)) (h4:qq (evL [pz (zN ax (Int.toNat (a_1+d6)*3)),qh (rcd nT nH nI)]) σGB (.store 47 (.tmp 0) (.tmp 1))=some (undef,σT)) (h5:qn 95 [.slice (some ax) ah ak,iV 0,iV d6,iV a_1,.func (.func aA) ⟨[]⟩ ⟨ar⟩] σT (.tuple ⟨[]⟩) σU) (nx:Nx (d6-1) σU) (u1:0≤d6:=by omega) (u2:I6 (a_1+d6):=by omega) (u3:Ix (a_1+d6) ah:=by omega) (u4:Ix a_1 ah:=by omega) (u5:I6 (d6-1):=by omega):zYQ (some ax) ah ak aA ar a_1 d6 σ Nx Q2 :=
 kO 0 (d6-1) [.g,.b true,.g,.g,.g,.g,.g,.n (a_1+d6),.g,.g,.g,.n (a_1+d6),.i,.l (qh (rcd nR nU nV)),.g,.g,.i,.l (qh (rcd nT nH nI)),.i,.e undef σGB,.i,.e undef σT,.g,.g,.g,.g,.g,.c (.tuple ⟨[]⟩) σU,.g,.n (d6-1),.g] (fun _ f=>ai (yE u1) (an6 (w64 u2) (w64 u2) u3 h1 u4 h2 (an6 u4 h3 u3 h4 h5 (w64 u5) f))) nx
theorem xDE {Q2:St→Prop} (nx:Q2 σ) (u1:¬ 0≤d6:=by omega):zYQ data ah ak aA ar a_1 d6 σ Nx Q2 :=
 kO 1 () [.g,.b false] (fun _ f=>ai (yJ u1) f) nx
theorem yMO {P2:St→Prop} (hL:yMT data ah ak aA ar a_1 (kB-1) σ P2) (k2:∀ σ',P2 σ'→zYO data ah ak aA ar a_1 σ' Q) (u1:I6 (kB-1):=by omega):zYP data ah ak aA ar a_1 kB σ Q :=
 let s1:=zPK data ah ak aA ar a_1 (kB-1);sK [.g,.n (kB-1),.g,.lf 60 s1 [zNN data ah ak aA ar a_1 P2]] (ai (w64 u1) (ai (ai tt (ai (arf s1) hL)) (ai (kz0 k2) trivial)))
theorem yMN (nx:Q (.tuple ⟨[]⟩) σ):zYO data ah ak aA ar a_1 σ Q :=
 sK [] nx
theorem yGW {Inv:Nat→Int→Int→St→Prop} {Q0:Int→St→Prop} (hb:∀ k aD aX σ,Inv k aD aX σ→yCY ax ah ak a_1 aA ar aD aX σ (NX2 Inv k) Q0):∀ k aD aX σ,Inv k aD aX σ→yCX ax ah ak a_1 aA ar aD aX σ Q0 :=
 zEV (ai (wI 0) trivial) hb
theorem yGV (hb:∀ k bb σ,Inv k bb σ→zLB ax ah ak a_1 aA ar aX bb σ (NX1 Inv k) Q2):∀ k bb σ,Inv k bb σ→yCW ax ah ak a_1 aA ar aX bb σ Q2 :=
 xJ (ai (wI 2) trivial) hb
theorem ySU (h1:lz σ 47 (zN ax (Int.toNat a_1*3)) (qh (rcd nR nU nV))) (h2:lz σ 47 (zN ax (Int.toNat bb*3)) (qh (rcd nT nH nI))) (h3:qn aA (qh (rcd nR nU nV)::(qh (rcd nT nH nI))::ar) σ (iV nJ) σ) (nx:Q2 bb σ) (u1:bb≤aX:=by omega) (u2:Ix a_1 ah:=by omega) (u3:Ix bb ah:=by omega) (u4:nJ<0:=by omega):zLB ax ah ak a_1 aA ar aX bb σ Nx Q2 :=
 kO 1 bb [.g,.g,.b true,.g,.g,.g,.g,.i,.l (qh (rcd nR nU nV)),.g,.g,.i,.l (qh (rcd nT nH nI)),.c (iV nJ) σ,.b true,.g,.g] (fun _ f=>ai (yE u1) (an6 u2 h1 u3 h2 h3 (zR u4) f)) nx
theorem yST (h1:lz σ 47 (zN ax (Int.toNat a_1*3)) (qh (rcd nR nU nV))) (h2:lz σ 47 (zN ax (Int.toNat bb*3)) (qh (rcd nT nH nI))) (h3:qn aA (qh (rcd nR nU nV)::(qh (rcd nT nH nI))::ar) σ (iV nJ) σ) (nx:Nx (bb+1) σ) (u1:bb≤aX:=by omega) (u2:Ix a_1 ah:=by omega) (u3:Ix bb ah:=by omega) (u4:¬ nJ<0:=by omega) (u5:I6 (bb+1):=by omega):zLB ax ah ak a_1 aA ar aX bb σ Nx Q2 :=
 kO 0 (bb+1) [.g,.g,.b true,.g,.g,.g,.g,.i,.l (qh (rcd nR nU nV)),.g,.g,.i,.l (qh (rcd nT nH nI)),.c (iV nJ) σ,.b false,.g,.g,.g,.n (bb+1),.g] (fun _ f=>an2 (yE u1) u2 (an6 h1 u3 h2 h3 (zT u4) (w64 u5) f)) nx
theorem ySS (nx:Q2 bb σ) (u1:¬ bb≤aX:=by omega):zLB ax ah ak a_1 aA ar aX bb σ Nx Q2 :=
 kO 1 bb [.g,.g,.b false,.g,.g] (fun _ f=>ai (yJ u1) f) nx
theorem ySV {Nx:Int→Int→St→Prop} {Q0:Int→St→Prop} (hL:yCW ax ah ak a_1 aA ar aX aD σ P2) (k2:∀ i11_2' σ',P2 i11_2' σ'→zTM ax ah ak a_1 aA ar aX i11_2' σ' Nx Q0):yCY ax ah ak a_1 aA ar aD aX σ Nx Q0 :=
 zDA [.lf 90 (zFN ax ah ak a_1 aA ar aX aD) [zJF ax ah ak a_1 aA ar aX P2]] (fun g=>kd (ai (ai tt (ai (arf (zFN ax ah ak a_1 aA ar aX aD)) hL)) (ai (kz1 k2) trivial)))
theorem yGU (hb:∀ k bJ σ,Inv k bJ σ→zLA ax ah ak a_1 aA ar bb bJ σ (NX1 Inv k) Q4):∀ k bJ σ,Inv k bJ σ→yCV ax ah ak a_1 aA ar bb bJ σ Q4 :=
 xJ (ai (wI 4) trivial) hb
theorem ySR (h1:lz σ 47 (zN ax (Int.toNat a_1*3)) (qh (rcd nS nLB nFB))) (h2:lz σ 47 (zN ax (Int.toNat bJ*3)) (qh (rcd nMB nNB nGB))) (h3:qn aA (qh (rcd nS nLB nFB)::(qh (rcd nMB nNB nGB))::ar) σ (iV nJB) σ) (nx:Nx (bJ-1) σ) (u1:bb≤bJ:=by omega) (u2:Ix a_1 ah:=by omega) (u3:Ix bJ ah:=by omega) (u4:nJB<0:=by omega) (u5:I6 (bJ-1):=by omega):zLA ax ah ak a_1 aA ar bb bJ σ Nx Q4 :=
 kO 0 (bJ-1) [.g,.g,.b true,.g,.g,.g,.g,.i,.l (qh (rcd nS nLB nFB)),.g,.g,.i,.l (qh (rcd nMB nNB nGB)),.c (iV nJB) σ,.b true,.g,.g,.n (bJ-1),.g] (fun _ f=>an2 (yE u1) u2 (an6 h1 u3 h2 h3 (zR u4) (w64 u5) f)) nx
theorem ySQ (h1:lz σ 47 (zN ax (Int.toNat a_1*3)) (qh (rcd nS nLB nFB))) (h2:lz σ 47 (zN ax (Int.toNat bJ*3)) (qh (rcd nMB nNB nGB))) (h3:qn aA (qh (rcd nS nLB nFB)::(qh (rcd nMB nNB nGB))::ar) σ (iV nJB) σ) (nx:Q4 bJ σ) (u1:bb≤bJ:=by omega) (u2:Ix a_1 ah:=by omega) (u3:Ix bJ ah:=by omega) (u4:¬ nJB<0:=by omega):zLA ax ah ak a_1 aA ar bb bJ σ Nx Q4 :=
 kO 1 bJ [.g,.g,.b true,.g,.g,.g,.g,.i,.l (qh (rcd nS nLB nFB)),.g,.g,.i,.l (qh (rcd nMB nNB nGB)),.c (iV nJB) σ,.b false,.g] (fun _ f=>ai (yE u1) (an6 u2 h1 u3 h2 h3 (zT u4) f)) nx
theorem ySP (nx:Q4 bJ σ) (u1:¬ bb≤bJ:=by omega):zLA ax ah ak a_1 aA ar bb bJ σ Nx Q4 :=
 kO 1 bJ [.g,.g,.b false,.g,.g] (fun _ f=>ai (yJ u1) f) nx
theorem yGS {Nx:Int→Int→St→Prop} {Q0:Int→St→Prop} (hL:yCV ax ah ak a_1 aA ar bb aX σ P4) (k4:∀ i12_3' σ',P4 i12_3' σ'→zJG ax ah ak a_1 aA ar bb i12_3' σ' Nx Q0):zTM ax ah ak a_1 aA ar aX bb σ Nx Q0 :=
 sK [.lf 90 (zFM ax ah ak a_1 aA ar bb aX) [zJE ax ah ak a_1 aA ar bb P4]] (ai (ai tt (ai (arf (zFM ax ah ak a_1 aA ar bb aX)) hL)) (ai (kz1 k4) trivial))
theorem yGR {Nx:Int→Int→St→Prop} {Q0:Int→St→Prop} (nx:Q0 bb σ) (u1:bJ<bb:=by omega):zJG ax ah ak a_1 aA ar bb bJ σ Nx Q0 :=
 sF 1 bb [.g,.g,.b true] (fun _ f=>ai (zR u1) f) nx
theorem yGQ {Nx:Int→Int→St→Prop} {Q0:Int→St→Prop} (h1:lz σ 47 (zN ax (Int.toNat bJ*3)) (qh (rcd nDB nEB nX))) (h2:lz σ 47 (zN ax (Int.toNat bb*3)) (qh (rcd nY nZ nAB))) (h3:qq (evL [pz (zN ax (Int.toNat bb*3)),qh (rcd nDB nEB nX)]) σ (.store 47 (.tmp 0) (.tmp 1))=some (undef,σHB)) (h4:qq (evL [pz (zN ax (Int.toNat bJ*3)),qh (rcd nY nZ nAB)]) σHB (.store 47 (.tmp 0) (.tmp 1))=some (undef,σIB)) (nx:Nx (bb+1) (bJ-1) σIB) (u1:¬ bJ<bb:=by omega) (u2:Ix bJ ah:=by omega) (u3:Ix bb ah:=by omega) (u4:I6 (bb+1):=by omega) (u5:I6 (bJ-1):=by omega):zJG ax ah ak a_1 aA ar bb bJ σ Nx Q0 :=
 sF 0 (bb+1,bJ-1) [.g,.g,.b false,.g,.g,.g,.g,.g,.g,.i,.l (qh (rcd nDB nEB nX)),.g,.g,.i,.l (qh (rcd nY nZ nAB)),.i,.e undef σHB,.i,.e undef σIB,.g,.n (bb+1),.g,.g,.n (bJ-1),.g] (fun _ f=>an5 (zT u1) u2 h1 u3 h2 (an6 u3 h3 u2 h4 (w64 u4) (w64 u5) f)) nx
theorem xCN {P0:Int→St→Prop} (h1:lz σ 47 (zN ax (Int.toNat dF*3)) (qh (rcd n1 n2 n3))) (h2:lz σ 47 (zN ax (Int.toNat a_1*3)) (qh (rcd n4 n5 n6))) (h3:qq (evL [pz (zN ax (Int.toNat a_1*3)),qh (rcd n1 n2 n3)]) σ (.store 47 (.tmp 0) (.tmp 1))=some (undef,σ7)) (h4:qq (evL [pz (zN ax (Int.toNat dF*3)),qh (rcd n4 n5 n6)]) σ7 (.store 47 (.tmp 0) (.tmp 1))=some (undef,σ8)) (hL:yCX ax ah ak a_1 aA ar (a_1+1) (b-1) σ8 P0) (k0:∀ i11_1' σ',P0 i11_1' σ'→zTN ax ah ak a_1 aA ar i11_1' σ' Q) (u1:Ix dF ah:=by omega) (u2:Ix a_1 ah:=by omega) (u3:I6 (a_1+1):=by omega) (u4:I6 (b-1):=by omega):qi 86 [.slice (some ax) ah ak,iV a_1,iV b,iV dF,.func (.func aA) ⟨[]⟩ ⟨ar⟩] σ Q :=
 let s1:=zKY ax ah ak a_1 aA ar (a_1+1) (b-1);zI [.g,.g,.g,.g,.g,.g,.g,.i,.l (qh (rcd n1 n2 n3)),.g,.g,.i,.l (qh (rcd n4 n5 n6)),.i,.e undef σ7,.i,.e undef σ8,.g,.n (a_1+1),.g,.n (b-1),.g,.g,.lf 90 s1 [zCN ax ah ak a_1 aA ar P0]] (kd (an4 u1 h1 u2 h2 (an6 u2 h3 u1 h4 (w64 u3) (w64 u4) (ai (ai tt (ai (arf s1) hL)) (ai (kz1 k0) trivial)))))
theorem yGT (nx:Q (iV aD) σ):zTN ax ah ak a_1 aA ar aD σ Q :=
 sK [.g,.g] nx
theorem ySN {Q0:Int→St→Prop} (hb:∀ k aX σ,Inv k aX σ→zVD ax ah ak a_1 aA ar kB aX σ (NX1 Inv k) Q0):∀ k aX σ,Inv k aX σ→yXT ax ah ak a_1 aA ar kB aX σ Q0 :=
 xJ (ai (wI 0) trivial) hb
theorem xIK {Q0:Int→St→Prop} (h1:lz σ 47 (zN ax (Int.toNat aX*3)) (qh (rcd nG nF nD))) (h2:lz σ 47 (zN ax (Int.toNat a_1*3)) (qh (rcd nB nA nE))) (h3:qn aA (qh (rcd nG nF nD)::(qh (rcd nB nA nE))::ar) σ (iV nK) σ) (nx:Nx (aX+1) σ) (u1:aX≤kB:=by omega) (u2:Ix aX ah:=by omega) (u3:Ix a_1 ah:=by omega) (u4:nK<0:=by omega) (u5:I6 (aX+1):=by omega):zVD ax ah ak a_1 aA ar kB aX σ Nx Q0 :=
 kO 0 (aX+1) [.g,.g,.b true,.g,.g,.g,.g,.i,.l (qh (rcd nG nF nD)),.g,.g,.i,.l (qh (rcd nB nA nE)),.c (iV nK) σ,.b true,.g,.g,.n (aX+1),.g] (fun _ f=>an2 (yE u1) u2 (an6 h1 u3 h2 h3 (zR u4) (w64 u5) f)) nx
theorem xIJ {Q0:Int→St→Prop} (h1:lz σ 47 (zN ax (Int.toNat aX*3)) (qh (rcd nG nF nD))) (h2:lz σ 47 (zN ax (Int.toNat a_1*3)) (qh (rcd nB nA nE))) (h3:qn aA (qh (rcd nG nF nD)::(qh (rcd nB nA nE))::ar) σ (iV nK) σ) (nx:Q0 aX σ) (u1:aX≤kB:=by omega) (u2:Ix aX ah:=by omega) (u3:Ix a_1 ah:=by omega) (u4:¬ nK<0:=by omega):zVD ax ah ak a_1 aA ar kB aX σ Nx Q0 :=
 kO 1 aX [.g,.g,.b true,.g,.g,.g,.g,.i,.l (qh (rcd nG nF nD)),.g,.g,.i,.l (qh (rcd nB nA nE)),.c (iV nK) σ,.b false,.g] (fun _ f=>ai (yE u1) (an6 u2 h1 u3 h2 h3 (zT u4) f)) nx
theorem xII {Q0:Int→St→Prop} (nx:Q0 aX σ) (u1:¬ aX≤kB:=by omega):zVD ax ah ak a_1 aA ar kB aX σ Nx Q0 :=
 kO 1 aX [.g,.g,.b false,.g,.g] (fun _ f=>ai (yJ u1) f) nx
theorem xQA {P0:Int→St→Prop} (h1:lz σ 47 (zN ax (Int.toNat dF*3)) (qh (rcd n1 n2 n3))) (h2:lz σ 47 (zN ax (Int.toNat a_1*3)) (qh (rcd n4 n5 n6))) (h3:qq (evL [pz (zN ax (Int.toNat a_1*3)),qh (rcd n1 n2 n3)]) σ (.store 47 (.tmp 0) (.tmp 1))=some (undef,σ7)) (h4:qq (evL [pz (zN ax (Int.toNat dF*3)),qh (rcd n4 n5 n6)]) σ7 (.store 47 (.tmp 0) (.tmp 1))=some (undef,σ8)) (hL:yXT ax ah ak a_1 aA ar (b-1) (a_1+1) σ8 P0) (k0:∀ i12_1' σ',P0 i12_1' σ'→yCS ax ah ak a_1 aA ar (b-1) i12_1' σ' Q) (u1:Ix dF ah:=by omega) (u2:Ix a_1 ah:=by omega) (u3:I6 (a_1+1):=by omega) (u4:I6 (b-1):=by omega):qi 87 [.slice (some ax) ah ak,iV a_1,iV b,iV dF,.func (.func aA) ⟨[]⟩ ⟨ar⟩] σ Q :=
 let s1:=zUY ax ah ak a_1 aA ar (b-1) (a_1+1);zI [.g,.g,.g,.g,.g,.g,.g,.g,.i,.l (qh (rcd n1 n2 n3)),.g,.g,.i,.l (qh (rcd n4 n5 n6)),.i,.e undef σ7,.i,.e undef σ8,.g,.n (a_1+1),.g,.n (b-1),.g,.g,.lf 178 s1 [zQW ax ah ak a_1 aA ar (b-1) P0]] (kd (an4 u1 h1 u2 h2 (an6 u2 h3 u1 h4 (w64 u3) (w64 u4) (ai (ai tt (ai (arf s1) hL)) (ai (kz1 k0) trivial)))))
theorem ySM (hb:∀ k bU σ,Inv k bU σ→zVC ax ah ak a_1 aA ar aX bU σ (NX1 Inv k) Q2):∀ k bU σ,Inv k bU σ→yXS ax ah ak a_1 aA ar aX bU σ Q2 :=
 xJ (ai (wI 2) trivial) hb
theorem xIH (h1:lz σ 47 (zN ax (Int.toNat bU*3)) (qh (rcd nR nU nV))) (h2:lz σ 47 (zN ax (Int.toNat a_1*3)) (qh (rcd nT nH nI))) (h3:qn aA (qh (rcd nR nU nV)::(qh (rcd nT nH nI))::ar) σ (iV nJ) σ) (nx:Q2 bU σ) (u1:aX≤bU:=by omega) (u2:Ix bU ah:=by omega) (u3:Ix a_1 ah:=by omega) (u4:nJ<0:=by omega):zVC ax ah ak a_1 aA ar aX bU σ Nx Q2 :=
 kO 1 bU [.g,.g,.b true,.g,.g,.g,.g,.i,.l (qh (rcd nR nU nV)),.g,.g,.i,.l (qh (rcd nT nH nI)),.c (iV nJ) σ,.b true,.g,.g] (fun _ f=>ai (yE u1) (an6 u2 h1 u3 h2 h3 (zR u4) f)) nx
theorem xIG (h1:lz σ 47 (zN ax (Int.toNat bU*3)) (qh (rcd nR nU nV))) (h2:lz σ 47 (zN ax (Int.toNat a_1*3)) (qh (rcd nT nH nI))) (h3:qn aA (qh (rcd nR nU nV)::(qh (rcd nT nH nI))::ar) σ (iV nJ) σ) (nx:Nx (bU-1) σ) (u1:aX≤bU:=by omega) (u2:Ix bU ah:=by omega) (u3:Ix a_1 ah:=by omega) (u4:¬ nJ<0:=by omega) (u5:I6 (bU-1):=by omega):zVC ax ah ak a_1 aA ar aX bU σ Nx Q2 :=
 kO 0 (bU-1) [.g,.g,.b true,.g,.g,.g,.g,.i,.l (qh (rcd nR nU nV)),.g,.g,.i,.l (qh (rcd nT nH nI)),.c (iV nJ) σ,.b false,.g,.g,.g,.n (bU-1),.g] (fun _ f=>an2 (yE u1) u2 (an6 h1 u3 h2 h3 (zT u4) (w64 u5) f)) nx
theorem xIF (nx:Q2 bU σ) (u1:¬ aX≤bU:=by omega):zVC ax ah ak a_1 aA ar aX bU σ Nx Q2 :=
 kO 1 bU [.g,.g,.b false,.g,.g] (fun _ f=>ai (yJ u1) f) nx
theorem ySI (hL:yXS ax ah ak a_1 aA ar aX kB σ P2) (k2:∀ i13_2' σ',P2 i13_2' σ'→zQY ax ah ak a_1 aA ar aX i13_2' σ' Q):yCS ax ah ak a_1 aA ar kB aX σ Q :=
 sK [.lf 178 (zOT ax ah ak a_1 aA ar aX kB) [zQV ax ah ak a_1 aA ar aX P2]] (ai (ai tt (ai (arf (zOT ax ah ak a_1 aA ar aX kB)) hL)) (ai (kz1 k2) trivial))
theorem ySH (h1:lz σ 47 (zN ax (Int.toNat a_1*3)) (qh (rcd nWB nBG nBH))) (h2:lz σ 47 (zN ax (Int.toNat bU*3)) (qh (rcd nXB nYB nZB))) (h3:qq (evL [pz (zN ax (Int.toNat bU*3)),qh (rcd nWB nBG nBH)]) σ (.store 47 (.tmp 0) (.tmp 1))=some (undef,σK)) (h4:qq (evL [pz (zN ax (Int.toNat a_1*3)),qh (rcd nXB nYB nZB)]) σK (.store 47 (.tmp 0) (.tmp 1))=some (undef,σW)) (nx:Q (.tuple ⟨[iV bU,.bool true]⟩) σW) (u1:bU<aX:=by omega) (u2:Ix a_1 ah:=by omega) (u3:Ix bU ah:=by omega):zQY ax ah ak a_1 aA ar aX bU σ Q :=
 sK [.g,.g,.b true,.g,.g,.g,.g,.g,.g,.i,.l (qh (rcd nWB nBG nBH)),.g,.g,.i,.l (qh (rcd nXB nYB nZB)),.i,.e undef σK,.i,.e undef σW,.g,.g,.g] (an3 (zR u1) u2 h1 (an6 u3 h2 u3 h3 u2 h4 nx))
theorem ySL {Inv:Nat→Int→Int→St→Prop} (hb:∀ k bJ aF σ,Inv k bJ aF σ→yXU ax ah ak a_1 aA ar bJ aF σ (NX2 Inv k) Q4):∀ k bJ aF σ,Inv k bJ aF σ→yXR ax ah ak a_1 aA ar bJ aF σ Q4 :=
 zEV (ai (wI 4) trivial) hb
theorem ySK (hb:∀ k a9 σ,Inv k a9 σ→zVB ax ah ak a_1 aA ar aF a9 σ (NX1 Inv k) Q6):∀ k a9 σ,Inv k a9 σ→yXQ ax ah ak a_1 aA ar aF a9 σ Q6 :=
 xJ (ai (wI 6) trivial) hb
theorem xID (h1:lz σ 47 (zN ax (Int.toNat a9*3)) (qh (rcd nCB nHB nOB))) (h2:lz σ 47 (zN ax (Int.toNat a_1*3)) (qh (rcd nPB nQB nRB))) (h3:qn aA (qh (rcd nCB nHB nOB)::(qh (rcd nPB nQB nRB))::ar) σ (iV nVB) σ) (nx:Nx (a9+1) σ) (u1:a9≤aF:=by omega) (u2:Ix a9 ah:=by omega) (u3:Ix a_1 ah:=by omega) (u4:nVB<0:=by omega) (u5:I6 (a9+1):=by omega):zVB ax ah ak a_1 aA ar aF a9 σ Nx Q6 :=
 kO 0 (a9+1) [.g,.g,.b true,.g,.g,.g,.g,.i,.l (qh (rcd nCB nHB nOB)),.g,.g,.i,.l (qh (rcd nPB nQB nRB)),.c (iV nVB) σ,.b true,.g,.g,.n (a9+1),.g] (fun _ f=>an2 (yE u1) u2 (an6 h1 u3 h2 h3 (zR u4) (w64 u5) f)) nx
theorem xIC (h1:lz σ 47 (zN ax (Int.toNat a9*3)) (qh (rcd nCB nHB nOB))) (h2:lz σ 47 (zN ax (Int.toNat a_1*3)) (qh (rcd nPB nQB nRB))) (h3:qn aA (qh (rcd nCB nHB nOB)::(qh (rcd nPB nQB nRB))::ar) σ (iV nVB) σ) (nx:Q6 a9 σ) (u1:a9≤aF:=by omega) (u2:Ix a9 ah:=by omega) (u3:Ix a_1 ah:=by omega) (u4:¬ nVB<0:=by omega):zVB ax ah ak a_1 aA ar aF a9 σ Nx Q6 :=
 kO 1 a9 [.g,.g,.b true,.g,.g,.g,.g,.i,.l (qh (rcd nCB nHB nOB)),.g,.g,.i,.l (qh (rcd nPB nQB nRB)),.c (iV nVB) σ,.b false,.g] (fun _ f=>ai (yE u1) (an6 u2 h1 u3 h2 h3 (zT u4) f)) nx
theorem xIB (nx:Q6 a9 σ) (u1:¬ a9≤aF:=by omega):zVB ax ah ak a_1 aA ar aF a9 σ Nx Q6 :=
 kO 1 a9 [.g,.g,.b false,.g,.g] (fun _ f=>ai (yJ u1) f) nx
theorem xIE {Nx:Int→Int→St→Prop} {P6:Int→St→Prop} (hL:yXQ ax ah ak a_1 aA ar aF bJ σ P6) (k6:∀ i12_4' σ',P6 i12_4' σ'→yCQ ax ah ak a_1 aA ar aF i12_4' σ' Nx Q4):yXU ax ah ak a_1 aA ar bJ aF σ Nx Q4 :=
 zDA [.lf 178 (zOS ax ah ak a_1 aA ar aF bJ) [zQU ax ah ak a_1 aA ar aF P6]] (fun g=>kd (ai (ai tt (ai (arf (zOS ax ah ak a_1 aA ar aF bJ)) hL)) (ai (kz1 k6) trivial)))
theorem ySJ (hb:∀ k bW σ,Inv k bW σ→zVA ax ah ak a_1 aA ar a9 bW σ (NX1 Inv k) Q8):∀ k bW σ,Inv k bW σ→yXP ax ah ak a_1 aA ar a9 bW σ Q8 :=
 xJ (ai (wI 8) trivial) hb
theorem xIA (h1:lz σ 47 (zN ax (Int.toNat bW*3)) (qh (rcd nBI nBJ nBK))) (h2:lz σ 47 (zN ax (Int.toNat a_1*3)) (qh (rcd nBL nBM nBN))) (h3:qn aA (qh (rcd nBI nBJ nBK)::(qh (rcd nBL nBM nBN))::ar) σ (iV nBO) σ) (nx:Q8 bW σ) (u1:a9≤bW:=by omega) (u2:Ix bW ah:=by omega) (u3:Ix a_1 ah:=by omega) (u4:nBO<0:=by omega):zVA ax ah ak a_1 aA ar a9 bW σ Nx Q8 :=
 kO 1 bW [.g,.g,.b true,.g,.g,.g,.g,.i,.l (qh (rcd nBI nBJ nBK)),.g,.g,.i,.l (qh (rcd nBL nBM nBN)),.c (iV nBO) σ,.b true,.g,.g] (fun _ f=>ai (yE u1) (an6 u2 h1 u3 h2 h3 (zR u4) f)) nx
theorem xHZ (h1:lz σ 47 (zN ax (Int.toNat bW*3)) (qh (rcd nBI nBJ nBK))) (h2:lz σ 47 (zN ax (Int.toNat a_1*3)) (qh (rcd nBL nBM nBN))) (h3:qn aA (qh (rcd nBI nBJ nBK)::(qh (rcd nBL nBM nBN))::ar) σ (iV nBO) σ) (nx:Nx (bW-1) σ) (u1:a9≤bW:=by omega) (u2:Ix bW ah:=by omega) (u3:Ix a_1 ah:=by omega) (u4:¬ nBO<0:=by omega) (u5:I6 (bW-1):=by omega):zVA ax ah ak a_1 aA ar a9 bW σ Nx Q8 :=
 kO 0 (bW-1) [.g,.g,.b true,.g,.g,.g,.g,.i,.l (qh (rcd nBI nBJ nBK)),.g,.g,.i,.l (qh (rcd nBL nBM nBN)),.c (iV nBO) σ,.b false,.g,.g,.g,.n (bW-1),.g] (fun _ f=>an2 (yE u1) u2 (an6 h1 u3 h2 h3 (zT u4) (w64 u5) f)) nx
theorem xHY (nx:Q8 bW σ) (u1:¬ a9≤bW:=by omega):zVA ax ah ak a_1 aA ar a9 bW σ Nx Q8 :=
 kO 1 bW [.g,.g,.b false,.g,.g] (fun _ f=>ai (yJ u1) f) nx
theorem ySE {Nx:Int→Int→St→Prop} (hL:yXP ax ah ak a_1 aA ar a9 aF σ P8) (k8:∀ i13_5' σ',P8 i13_5' σ'→zQX ax ah ak a_1 aA ar a9 i13_5' σ' Nx Q4):yCQ ax ah ak a_1 aA ar aF a9 σ Nx Q4 :=
 sK [.lf 178 (zOR ax ah ak a_1 aA ar a9 aF) [zQT ax ah ak a_1 aA ar a9 P8]] (ai (ai tt (ai (arf (zOR ax ah ak a_1 aA ar a9 aF)) hL)) (ai (kz1 k8) trivial))
theorem ySD {Nx:Int→Int→St→Prop} (nx:Q4 bW σ) (u1:bW<a9:=by omega):zQX ax ah ak a_1 aA ar a9 bW σ Nx Q4 :=
 sF 1 bW [.g,.g,.b true] (fun _ f=>ai (zR u1) f) nx
theorem ySC {Nx:Int→Int→St→Prop} (h1:lz σ 47 (zN ax (Int.toNat bW*3)) (qh (rcd nBg nBh nBi))) (h2:lz σ 47 (zN ax (Int.toNat a9*3)) (qh (rcd nBj nBk nBl))) (h3:qq (evL [pz (zN ax (Int.toNat a9*3)),qh (rcd nBg nBh nBi)]) σ (.store 47 (.tmp 0) (.tmp 1))=some (undef,σJB)) (h4:qq (evL [pz (zN ax (Int.toNat bW*3)),qh (rcd nBj nBk nBl)]) σJB (.store 47 (.tmp 0) (.tmp 1))=some (undef,σKB)) (nx:Nx (a9+1) (bW-1) σKB) (u1:¬ bW<a9:=by omega) (u2:Ix bW ah:=by omega) (u3:Ix a9 ah:=by omega) (u4:I6 (a9+1):=by omega) (u5:I6 (bW-1):=by omega):zQX ax ah ak a_1 aA ar a9 bW σ Nx Q4 :=
 sF 0 (a9+1,bW-1) [.g,.g,.b false,.g,.g,.g,.g,.g,.g,.i,.l (qh (rcd nBg nBh nBi)),.g,.g,.i,.l (qh (rcd nBj nBk nBl)),.i,.e undef σJB,.i,.e undef σKB,.g,.n (a9+1),.g,.g,.n (bW-1),.g] (fun _ f=>an5 (zT u1) u2 h1 u3 h2 (an6 u3 h3 u2 h4 (w64 u4) (w64 u5) f)) nx
theorem ySG (h1:lz σ 47 (zN ax (Int.toNat bU*3)) (qh (rcd nWB nBG nBH))) (h2:lz σ 47 (zN ax (Int.toNat aX*3)) (qh (rcd nXB nYB nZB))) (h3:qq (evL [pz (zN ax (Int.toNat aX*3)),qh (rcd nWB nBG nBH)]) σ (.store 47 (.tmp 0) (.tmp 1))=some (undef,σK)) (h4:qq (evL [pz (zN ax (Int.toNat bU*3)),qh (rcd nXB nYB nZB)]) σK (.store 47 (.tmp 0) (.tmp 1))=some (undef,σW)) (hL:yXR ax ah ak a_1 aA ar (aX+1) (bU-1) σW P4) (k4:∀ i13_3' σ',P4 i13_3' σ'→yCR ax ah ak a_1 aA ar i13_3' σ' Q) (u1:¬ bU<aX:=by omega) (u2:Ix bU ah:=by omega) (u3:Ix aX ah:=by omega) (u4:I6 (aX+1):=by omega) (u5:I6 (bU-1):=by omega):zQY ax ah ak a_1 aA ar aX bU σ Q :=
 let s1:=zUX ax ah ak a_1 aA ar (aX+1) (bU-1);sK [.g,.g,.b false,.g,.g,.g,.g,.g,.g,.i,.l (qh (rcd nWB nBG nBH)),.g,.g,.i,.l (qh (rcd nXB nYB nZB)),.i,.e undef σK,.i,.e undef σW,.g,.n (aX+1),.g,.g,.n (bU-1),.g,.lf 178 s1 [zFL ax ah ak a_1 aA ar P4]] (an5 (zT u1) u2 h1 u3 h2 (an6 u3 h3 u2 h4 (w64 u4) (w64 u5) (ai (ai tt (ai (arf s1) hL)) (ai (kz1 k4) trivial))))
theorem ySF (h1:lz σ 47 (zN ax (Int.toNat a_1*3)) (qh (rcd nBm nBn nBo))) (h2:lz σ 47 (zN ax (Int.toNat aF*3)) (qh (rcd nBp nBq nBr))) (h3:qq (evL [pz (zN ax (Int.toNat aF*3)),qh (rcd nBm nBn nBo)]) σ (.store 47 (.tmp 0) (.tmp 1))=some (undef,σLB)) (h4:qq (evL [pz (zN ax (Int.toNat a_1*3)),qh (rcd nBp nBq nBr)]) σLB (.store 47 (.tmp 0) (.tmp 1))=some (undef,σMB)) (nx:Q (.tuple ⟨[iV aF,.bool false]⟩) σMB) (u1:Ix a_1 ah:=by omega) (u2:Ix aF ah:=by omega):yCR ax ah ak a_1 aA ar aF σ Q :=
 sK [.g,.g,.g,.g,.g,.g,.i,.l (qh (rcd nBm nBn nBo)),.g,.g,.i,.l (qh (rcd nBp nBq nBr)),.i,.e undef σLB,.i,.e undef σMB,.g,.g,.g] (an2 u1 h1 (an6 u2 h2 u2 h3 u1 h4 nx))
theorem yLM {Inv:Nat→Int→Int→St→Prop} (hb:∀ k bV aC σ,Inv k bV aC σ→zXP data ah ak a_1 b aA ar bV aC σ (NX2 Inv k) Q0 Qr):∀ k bV aC σ,Inv k bV aC σ→yLR data ah ak a_1 b aA ar bV aC σ Q0 Qr :=
 zEV (ai (wI 0) (ai zCK trivial)) hb
theorem yLL (hb:∀ k aP σ,Inv k aP σ→zOY data ah ak a_1 b aA ar aC aP σ (NX1 Inv k) Q2):∀ k aP σ,Inv k aP σ→yLQ data ah ak a_1 b aA ar aC aP σ Q2 :=
 xJ (ai (wI 2) trivial) hb
theorem xCH (h1:lz σ 47 (zN ax (Int.toNat aP*3)) (qh (rcd nR nU nV))) (h2:lz σ 47 (zN ax (Int.toNat (aP-1)*3)) (qh (rcd nT nH nI))) (h3:qn aA (qh (rcd nR nU nV)::(qh (rcd nT nH nI))::ar) σ (iV nJ) σ) (nx:Q2 aP σ) (u1:aP<b:=by omega) (u2:Ix aP ah:=by omega) (u3:I6 (aP-1):=by omega) (u4:Ix (aP-1) ah:=by omega) (u5:nJ<0:=by omega):zOY (some ax) ah ak a_1 b aA ar aC aP σ Nx Q2 :=
 kO 1 aP [.g,.g,.b true,.g,.g,.g,.g,.i,.l (qh (rcd nR nU nV)),.g,.g,.n (aP-1),.i,.l (qh (rcd nT nH nI)),.c (iV nJ) σ,.b true,.g,.g] (fun _ f=>an2 (zR u1) u2 (an6 h1 (w64 u3) u4 h2 h3 (zR u5) f)) nx
theorem xCG (h1:lz σ 47 (zN ax (Int.toNat aP*3)) (qh (rcd nR nU nV))) (h2:lz σ 47 (zN ax (Int.toNat (aP-1)*3)) (qh (rcd nT nH nI))) (h3:qn aA (qh (rcd nR nU nV)::(qh (rcd nT nH nI))::ar) σ (iV nJ) σ) (nx:Nx (aP+1) σ) (u1:aP<b:=by omega) (u2:Ix aP ah:=by omega) (u3:I6 (aP-1):=by omega) (u4:Ix (aP-1) ah:=by omega) (u5:¬ nJ<0:=by omega) (u6:I6 (aP+1):=by omega):zOY (some ax) ah ak a_1 b aA ar aC aP σ Nx Q2 :=
 kO 0 (aP+1) [.g,.g,.b true,.g,.g,.g,.g,.i,.l (qh (rcd nR nU nV)),.g,.g,.n (aP-1),.i,.l (qh (rcd nT nH nI)),.c (iV nJ) σ,.b false,.g,.g,.g,.n (aP+1),.g] (fun _ f=>an3 (zR u1) u2 h1 (an6 (w64 u3) u4 h2 h3 (zT u5) (w64 u6) f)) nx
theorem xCF (nx:Q2 aP σ) (u1:¬ aP<b:=by omega):zOY data ah ak a_1 b aA ar aC aP σ Nx Q2 :=
 kO 1 aP [.g,.g,.b false,.g,.g] (fun _ f=>ai (zT u1) f) nx
theorem xCJ {Nx:Int→Int→St→Prop} (hL:yLQ data ah ak a_1 b aA ar aC bV σ P2) (k2:∀ i9_2' σ',P2 i9_2' σ'→zBO data ah ak a_1 b aA ar aC i9_2' σ' Nx Q0 Qr) (u1:aC<5:=by omega):zXP data ah ak a_1 b aA ar bV aC σ Nx Q0 Qr :=
 zDA [.g,.b true,.lf 141 (zJB data ah ak a_1 b aA ar aC bV) [zND data ah ak a_1 b aA ar aC P2]] (fun g=>kd (ai (zR u1) (ai (ai tt (ai (arf (zJB data ah ak a_1 b aA ar aC bV)) hL)) (ai (kz1 k2) trivial))))
theorem xCI {Nx:Int→Int→St→Prop} (nx:Q0 σ) (u1:¬ aC<5:=by omega):zXP data ah ak a_1 b aA ar bV aC σ Nx Q0 Qr :=
 kO 1 () [.g,.b false] (fun _ f=>ai (zT u1) f) nx
theorem yLF {Nx:Int→Int→St→Prop} (nx:Qr true σ) (u1:aP=b:=by omega):zBO data ah ak a_1 b aA ar aC aP σ Nx Q0 Qr :=
 sF 2 true [.g,.g,.b true,.g] (fun _ f=>ai (xH u1) f) nx
theorem yLE {Nx:Int→Int→St→Prop} (nx:Qr false σ) (u1:¬ aP=b:=by omega) (u2:I6 (b-a_1):=by omega) (u3:(b-a_1)<50:=by omega):zBO data ah ak a_1 b aA ar aC aP σ Nx Q0 Qr :=
 sF 2 false [.g,.g,.b false,.g,.g,.n (b-a_1),.b true,.g] (fun _ f=>an3 (xL u1) (w64 u2) (zR u3) f) nx
theorem yLK {Q4:St→Prop} (hb:∀ k dE σ,Inv k dE σ→zOX ax ah ak a_1 b aA ar aP aC dE σ (NX1 Inv k) Q4):∀ k dE σ,Inv k dE σ→zXM ax ah ak a_1 b aA ar aP aC dE σ Q4 :=
 xJ (ai (wI 4) trivial) hb
theorem xCE {Q4:St→Prop}:let y0:=rcd nMB nNB nGB;let y1:=rcd nS nLB nFB;let y2:=zN ax (Int.toNat (dE-1)*3);let y3:=zN ax (Int.toNat dE*3);∀ (h1:lz σ 47 y3 (qh y1)) (h2:lz σ 47 y2 (qh y0)) (h3:qn aA (qh y1::(qh y0)::ar) σ (iV nJB) σ) (h4:qq (evL [pz y3,qh y0]) σ (.store 47 (.tmp 0) (.tmp 1))=some (undef,σNB)) (h5:qq (evL [pz y2,qh y1]) σNB (.store 47 (.tmp 0) (.tmp 1))=some (undef,σOB)) (nx:Nx (dE-1) σOB) (u1:1≤dE:=by omega) (u2:Ix dE ah:=by omega) (u3:I6 (dE-1):=by omega) (u4:Ix (dE-1) ah:=by omega) (u5:nJB<0:=by omega),zOX ax ah ak a_1 b aA ar aP aC dE σ Nx Q4 :=
 let s1:=dE-1;let y0:=rcd nMB nNB nGB;let y1:=rcd nS nLB nFB;fun h1 h2 h3 h4 h5 nx u1 u2 u3 u4 u5=>kO 0 s1 [.g,.b true,.g,.g,.g,.i,.l (qh y1),.g,.g,.n s1,.i,.l (qh y0),.c (iV nJB) σ,.b true,.g,.g,.g,.g,.g,.n s1,.g,.g,.n s1,.i,.l (qh y0),.g,.g,.i,.l (qh y1),.i,.e undef σNB,.i,.e undef σOB,.g,.n s1,.g] (fun _ f=>ai (yE u1) (an6 u2 h1 (w64 u3) u4 h2 h3 (an6 (zR u5) (w64 u3) (w64 u3) u4 h2 u2 (an6 h1 u2 h4 u4 h5 (w64 u3) f)))) nx
theorem xCD {Q4:St→Prop} (h1:lz σ 47 (zN ax (Int.toNat dE*3)) (qh (rcd nS nLB nFB))) (h2:lz σ 47 (zN ax (Int.toNat (dE-1)*3)) (qh (rcd nMB nNB nGB))) (h3:qn aA (qh (rcd nS nLB nFB)::(qh (rcd nMB nNB nGB))::ar) σ (iV nJB) σ) (nx:Q4 σ) (u1:1≤dE:=by omega) (u2:Ix dE ah:=by omega) (u3:I6 (dE-1):=by omega) (u4:Ix (dE-1) ah:=by omega) (u5:¬ nJB<0:=by omega):zOX ax ah ak a_1 b aA ar aP aC dE σ Nx Q4 :=
 kO 1 () [.g,.b true,.g,.g,.g,.i,.l (qh (rcd nS nLB nFB)),.g,.g,.n (dE-1),.i,.l (qh (rcd nMB nNB nGB)),.c (iV nJB) σ,.b false,.g] (fun _ f=>an2 (yE u1) u2 (an6 h1 (w64 u3) u4 h2 h3 (zT u5) f)) nx
theorem xCC {Q4:St→Prop} (nx:Q4 σ) (u1:¬ 1≤dE:=by omega):zOX ax ah ak a_1 b aA ar aP aC dE σ Nx Q4 :=
 kO 1 () [.g,.b false] (fun _ f=>ai (yJ u1) f) nx
theorem yLD {Nx:Int→Int→St→Prop} {P4:St→Prop} (h1:lz σ 47 (zN ax (Int.toNat (aP-1)*3)) (qh (rcd nKB nIB nAC))) (h2:lz σ 47 (zN ax (Int.toNat aP*3)) (qh (rcd nBC nCC nDC))) (h3:qq (evL [pz (zN ax (Int.toNat aP*3)),qh (rcd nKB nIB nAC)]) σ (.store 47 (.tmp 0) (.tmp 1))=some (undef,σO)) (h4:qq (evL [pz (zN ax (Int.toNat (aP-1)*3)),qh (rcd nBC nCC nDC)]) σO (.store 47 (.tmp 0) (.tmp 1))=some (undef,σP)) (hL:zXM ax ah ak a_1 b aA ar aP aC (aP-1) σP P4) (k4:∀ σ',P4 σ'→zNF (some ax) ax ah ak a_1 b aA ar aP aC σ' Nx Q0 Qr) (u1:¬ aP=b:=by omega) (u2:I6 (b-a_1):=by omega) (u3:¬ (b-a_1)<50:=by omega) (u4:I6 (aP-1):=by omega) (u5:Ix (aP-1) ah:=by omega) (u6:Ix aP ah:=by omega) (u7:I6 (aP-a_1):=by omega) (u8:2≤(aP-a_1):=by omega):zBO (some ax) ah ak a_1 b aA ar aC aP σ Nx Q0 Qr :=
 let s1:=zOU ax ah ak a_1 b aA ar aP aC (aP-1);sK [.g,.g,.b false,.g,.g,.n (b-a_1),.b false,.g,.g,.g,.g,.n (aP-1),.g,.g,.n (aP-1),.i,.l (qh (rcd nKB nIB nAC)),.g,.g,.i,.l (qh (rcd nBC nCC nDC)),.i,.e undef σO,.i,.e undef σP,.g,.g,.n (aP-a_1),.b true,.g,.n (aP-1),.g,.lf 141 s1 [zNC ax ah ak a_1 b aA ar aP aC P4]] (an4 (xL u1) (w64 u2) (zT u3) (w64 u4) (an6 (w64 u4) u5 h1 u6 h2 u6 (an6 h3 u5 h4 (w64 u7) (yE u8) (w64 u4) (ai (ai tt (ai (arf s1) hL)) (ai (kz0 k4) trivial)))))
theorem yLJ {Q6:St→Prop} (hb:∀ k a9 σ,Inv k a9 σ→zOW ax ah ak a_1 b aA ar aP aC a9 σ (NX1 Inv k) Q6):∀ k a9 σ,Inv k a9 σ→zJD ax ah ak a_1 b aA ar aP aC a9 σ Q6 :=
 xJ (ai (wI 6) trivial) hb
theorem xCB {Q6:St→Prop}:let y0:=rcd nCB nHB nOB;let y1:=rcd nPB nQB nRB;let y2:=zN ax (Int.toNat (a9-1)*3);let y3:=zN ax (Int.toNat a9*3);∀ (h1:lz σ 47 y3 (qh y0)) (h2:lz σ 47 y2 (qh y1)) (h3:qn aA (qh y0::(qh y1)::ar) σ (iV nVB) σ) (h4:qq (evL [pz y3,qh y1]) σ (.store 47 (.tmp 0) (.tmp 1))=some (undef,σPB)) (h5:qq (evL [pz y2,qh y0]) σPB (.store 47 (.tmp 0) (.tmp 1))=some (undef,σQB)) (nx:Nx (a9+1) σQB) (u1:a9<b:=by omega) (u2:Ix a9 ah:=by omega) (u3:I6 (a9-1):=by omega) (u4:Ix (a9-1) ah:=by omega) (u5:nVB<0:=by omega) (u6:I6 (a9+1):=by omega),zOW ax ah ak a_1 b aA ar aP aC a9 σ Nx Q6 :=
 let s1:=a9-1;let y0:=rcd nCB nHB nOB;let y1:=rcd nPB nQB nRB;fun h1 h2 h3 h4 h5 nx u1 u2 u3 u4 u5 u6=>kO 0 (a9+1) [.g,.g,.b true,.g,.g,.g,.i,.l (qh y0),.g,.g,.n s1,.i,.l (qh y1),.c (iV nVB) σ,.b true,.g,.g,.g,.g,.g,.n s1,.g,.g,.n s1,.i,.l (qh y1),.g,.g,.i,.l (qh y0),.i,.e undef σPB,.i,.e undef σQB,.g,.n (a9+1),.g] (fun _ f=>ai (zR u1) (an6 u2 h1 (w64 u3) u4 h2 h3 (an6 (zR u5) (w64 u3) (w64 u3) u4 h2 u2 (an6 h1 u2 h4 u4 h5 (w64 u6) f)))) nx
theorem xCA {Q6:St→Prop} (h1:lz σ 47 (zN ax (Int.toNat a9*3)) (qh (rcd nCB nHB nOB))) (h2:lz σ 47 (zN ax (Int.toNat (a9-1)*3)) (qh (rcd nPB nQB nRB))) (h3:qn aA (qh (rcd nCB nHB nOB)::(qh (rcd nPB nQB nRB))::ar) σ (iV nVB) σ) (nx:Q6 σ) (u1:a9<b:=by omega) (u2:Ix a9 ah:=by omega) (u3:I6 (a9-1):=by omega) (u4:Ix (a9-1) ah:=by omega) (u5:¬ nVB<0:=by omega):zOW ax ah ak a_1 b aA ar aP aC a9 σ Nx Q6 :=
 kO 1 () [.g,.g,.b true,.g,.g,.g,.i,.l (qh (rcd nCB nHB nOB)),.g,.g,.n (a9-1),.i,.l (qh (rcd nPB nQB nRB)),.c (iV nVB) σ,.b false,.g] (fun _ f=>an2 (zR u1) u2 (an6 h1 (w64 u3) u4 h2 h3 (zT u5) f)) nx
theorem xBZ {Q6:St→Prop} (nx:Q6 σ) (u1:¬ a9<b:=by omega):zOW ax ah ak a_1 b aA ar aP aC a9 σ Nx Q6 :=
 kO 1 () [.g,.g,.b false] (fun _ f=>ai (zT u1) f) nx
theorem yLC {Nx:Int→Int→St→Prop} (h1:lz σ 47 (zN ax (Int.toNat (aP-1)*3)) (qh (rcd nKB nIB nAC))) (h2:lz σ 47 (zN ax (Int.toNat aP*3)) (qh (rcd nBC nCC nDC))) (h3:qq (evL [pz (zN ax (Int.toNat aP*3)),qh (rcd nKB nIB nAC)]) σ (.store 47 (.tmp 0) (.tmp 1))=some (undef,σO)) (h4:qq (evL [pz (zN ax (Int.toNat (aP-1)*3)),qh (rcd nBC nCC nDC)]) σO (.store 47 (.tmp 0) (.tmp 1))=some (undef,σP)) (hL:zJD ax ah ak a_1 b aA ar aP aC (aP+1) σP P6) (k6:∀ σ',P6 σ'→zNE (some ax) ax ah ak a_1 b aA ar aP aC σ' Nx Q0 Qr) (u1:¬ aP=b:=by omega) (u2:I6 (b-a_1):=by omega) (u3:¬ (b-a_1)<50:=by omega) (u4:I6 (aP-1):=by omega) (u5:Ix (aP-1) ah:=by omega) (u6:Ix aP ah:=by omega) (u7:I6 (aP-a_1):=by omega) (u8:¬ 2≤(aP-a_1):=by omega) (u9:I6 (b-aP):=by omega) (u10:2≤(b-aP):=by omega) (u11:I6 (aP+1):=by omega):zBO (some ax) ah ak a_1 b aA ar aC aP σ Nx Q0 Qr :=
 let s1:=zJA ax ah ak a_1 b aA ar aP aC (aP+1);sK [.g,.g,.b false,.g,.g,.n (b-a_1),.b false,.g,.g,.g,.g,.n (aP-1),.g,.g,.n (aP-1),.i,.l (qh (rcd nKB nIB nAC)),.g,.g,.i,.l (qh (rcd nBC nCC nDC)),.i,.e undef σO,.i,.e undef σP,.g,.g,.n (aP-a_1),.b false,.g,.g,.n (b-aP),.b true,.g,.n (aP+1),.g,.lf 141 s1 [zGS ax ah ak a_1 b aA ar aP aC P6]] (an6 (xL u1) (w64 u2) (zT u3) (w64 u4) (w64 u4) u5 (an6 h1 u6 h2 u6 h3 u5 (an6 h4 (w64 u7) (yJ u8) (w64 u9) (yE u10) (w64 u11) (ai (ai tt (ai (arf s1) hL)) (ai (kz0 k6) trivial)))))
theorem yLB {Nx:Int→Int→St→Prop} (h1:lz σ 47 (zN ax (Int.toNat (aP-1)*3)) (qh (rcd nKB nIB nAC))) (h2:lz σ 47 (zN ax (Int.toNat aP*3)) (qh (rcd nBC nCC nDC))) (h3:qq (evL [pz (zN ax (Int.toNat aP*3)),qh (rcd nKB nIB nAC)]) σ (.store 47 (.tmp 0) (.tmp 1))=some (undef,σO)) (h4:qq (evL [pz (zN ax (Int.toNat (aP-1)*3)),qh (rcd nBC nCC nDC)]) σO (.store 47 (.tmp 0) (.tmp 1))=some (undef,σP)) (nx:Nx aP (aC+1) σP) (u1:¬ aP=b:=by omega) (u2:I6 (b-a_1):=by omega) (u3:¬ (b-a_1)<50:=by omega) (u4:I6 (aP-1):=by omega) (u5:Ix (aP-1) ah:=by omega) (u6:Ix aP ah:=by omega) (u7:I6 (aP-a_1):=by omega) (u8:¬ 2≤(aP-a_1):=by omega) (u9:I6 (b-aP):=by omega) (u10:¬ 2≤(b-aP):=by omega) (u11:I6 (aC+1):=by omega):zBO (some ax) ah ak a_1 b aA ar aC aP σ Nx Q0 Qr :=
 sF 0 (aP,aC+1) [.g,.g,.b false,.g,.g,.n (b-a_1),.b false,.g,.g,.g,.g,.n (aP-1),.g,.g,.n (aP-1),.i,.l (qh (rcd nKB nIB nAC)),.g,.g,.i,.l (qh (rcd nBC nCC nDC)),.i,.e undef σO,.i,.e undef σP,.g,.g,.n (aP-a_1),.b false,.g,.g,.n (b-aP),.b false,.g,.n (aC+1),.g] (fun _ f=>an6 (xL u1) (w64 u2) (zT u3) (w64 u4) (w64 u4) u5 (an6 h1 u6 h2 u6 h3 u5 (an6 h4 (w64 u7) (yJ u8) (w64 u9) (yJ u10) (w64 u11) f))) nx
theorem yLA {Nx:Int→Int→St→Prop} (hL:zJD ax ah ak a_1 b aA ar aP aC (aP+1) σ P6) (k6:∀ σ',P6 σ'→zNE data ax ah ak a_1 b aA ar aP aC σ' Nx Q0 Qr) (u1:I6 (b-aP):=by omega) (u2:2≤(b-aP):=by omega) (u3:I6 (aP+1):=by omega):zNF data ax ah ak a_1 b aA ar aP aC σ Nx Q0 Qr :=
 let s1:=zJA ax ah ak a_1 b aA ar aP aC (aP+1);sK [.g,.g,.n (b-aP),.b true,.g,.n (aP+1),.g,.lf 141 s1 [zGS ax ah ak a_1 b aA ar aP aC P6]] (an3 (w64 u1) (yE u2) (w64 u3) (ai (ai tt (ai (arf s1) hL)) (ai (kz0 k6) trivial)))
theorem yKZ {Nx:Int→Int→St→Prop} (nx:Nx aP (aC+1) σ) (u1:I6 (b-aP):=by omega) (u2:¬ 2≤(b-aP):=by omega) (u3:I6 (aC+1):=by omega):zNF (some ax) ax ah ak a_1 b aA ar aP aC σ Nx Q0 Qr :=
 sF 0 (aP,aC+1) [.g,.g,.n (b-aP),.b false,.g,.n (aC+1),.g] (fun _ f=>an3 (w64 u1) (yJ u2) (w64 u3) f) nx
theorem zTI {Nx:Int→Int→St→Prop} (nx:Nx aP (aC+1) σ) (u1:I6 (aC+1):=by omega):zNE (some ax) ax ah ak a_1 b aA ar aP aC σ Nx Q0 Qr :=
 sF 0 (aP,aC+1) [.g,.n (aC+1),.g] (fun _ f=>ai (w64 u1) f) nx
theorem xIP {Pr:Bool→St→Prop} (hL:yLR data ah ak a_1 b aA ar (a_1+1) 0 σ P0 Pr) (k0:∀ σ',P0 σ'→zXO data ah ak a_1 b aA ar σ' Q) (kr:∀ t8_1' σ',Pr t8_1' σ'→zXN data ah ak a_1 b aA ar t8_1' σ' Q) (u1:I6 (a_1+1):=by omega):qi 85 [.slice data ah ak,iV a_1,iV b,.func (.func aA) ⟨[]⟩ ⟨ar⟩] σ Q :=
 let s1:=zOV data ah ak a_1 b aA ar (a_1+1) 0;zI [.g,.g,.n (a_1+1),.g,.g,.lf 141 s1 [zBN data ah ak a_1 b aA ar P0,zBM data ah ak a_1 b aA ar Pr]] (kd (ai (w64 u1) (ai (ai tt (ai (arf s1) hL)) (ai (kz0 k0) (ai (kz1 kr) trivial)))))
theorem yLH (nx:Q (.bool false) σ):zXO data ah ak a_1 b aA ar σ Q :=
 sK [.g] nx
theorem yLG (nx:Q (.bool t8_1) σ):zXN data ah ak a_1 b aA ar t8_1 σ Q :=
 sK [] nx
end
section
open Go.Sort (swp)
def Cmp (g:FuncId) (gc:List Value) (lt:Rec→Rec→Bool) (V:Rec→Prop):Prop:=∀ (τ:St) (x y:Rec),V x→V y→∃ n:Int,zD Pg g (zEI x::zEI y::gc) τ (iV n) τ∧(n<0↔lt x y=true)
def xV (V:Rec→Prop) (d:Array Rec):Prop:=∀ i,i<d.size→V d[i]!
theorem xA (d:Array Rec) (i j:Nat):(swp d i j).size=d.size:=by simp [swp]
theorem yYV (d:Array Rec) (i k:Nat) (x:Rec) (hk:k<d.size):(d.setIfInBounds i x)[k]! = if i=k then x else d[k]! := by
 rw [getElem!_pos _ k (by simpa using hk),getElem!_pos d k hk,Array.getElem_setIfInBounds]
theorem xV.swp {V:Rec→Prop} {d:Array Rec} (h:xV V d) {i j:Nat} (hi:i<d.size) (hj:j<d.size):xV V (swp d i j):=by
 intro k hk;rw [xA] at hk;unfold Go.Sort.swp;rw [yYV _ _ _ _ (by simpa using hk),yYV _ _ _ _ hk];split
 ·exact h i hi
 ·split
  ·exact h j hj
  ·exact h k hk
theorem zEB {σ σ':St} {f:FuncId} {args:List Value} {v:Value} (h:zD Pg f args σ v σ'):σ'.low≤σ.low:=by
 obtain ⟨N0,hN0⟩:=h;have hc:=hN0 N0 (Nat.le_refl _);unfold uC at hc;split at hc
 ·cases hc
 ·rename_i v1 s1 h1;unfold uD at hc;rcases Bool.eq_false_or_eq_true (Nat.ble σ.y s1.low && zV RD v1) with e | e
  ·rw [e,cond_true] at hc;simp at hc;rw [← hc.2];exact Nat.le_refl _
  ·rw [e,cond_false] at hc;rcases Bool.eq_false_or_eq_true (Nat.ble σ.y s1.y) with e2 | e2
   ·rw [e2,cond_true,wG,zAD] at hc;simp at hc;rw [← hc.2];show min _ _≤_;omega
   ·rw [e2,cond_false] at hc;cases hc
theorem xTO {σ s:St} {f:FuncId} {args:List Value} {v:Value} (h:∃ N0,∀ N,N0≤N→zX Pg N (.func f) args σ.re=some (v,s)) (h1:σ.y≤s.y) (h2:s.low<σ.y):zD Pg f args σ v ⟨s.heap,s.y,min σ.low s.low⟩:=by
 obtain ⟨N0,hN⟩:=h;refine ⟨N0,fun N hl=>?_⟩
 unfold uC;rw [show (⟨σ.heap,σ.y,σ.y⟩:St)=σ.re from rfl,hN N hl];show uD σ v s=_;unfold uD;have e1:(Nat.ble σ.y s.low && zV RD v)=false:=by
  rw [Bool.and_eq_false_iff];left;rw [Bool.eq_false_iff];intro e;have:=(zW _ _).1 e;omega
 have e2:Nat.ble σ.y s.y=true:=(zW _ _).2 h1;rw [e1,cond_false,e2,cond_true,wG,zAD]
structure W (σ τ:St) (b:Nat) (s:Option Nat) (d dk:Array Rec):Prop where
 only:Only (·=b) σ.re τ
 dt:Dt τ b s dk
 low:τ.low≤b∨dk=d
theorem W.start {σ:St} {b:Nat} {s:Option Nat} {d:Array Rec} (h:Dt σ b s d):W σ σ.re b s d d:=⟨Only.refl _ _,h,.inr rfl⟩
theorem W.swap {σ τ:St} {b:Nat} {s:Option Nat} {d dk:Array Rec} (w:W σ τ b s d dk) {i j:Int} (h0:0≤i) (hi:i<(dk.size:Int)) (k0:0≤j) (hj:j<(dk.size:Int)) :
  ∃ τ1 τ2,zQ Pg (evL [.pointer (some (zN ⟨b,0,s⟩ (Int.toNat i*3))),zEI dk[j.toNat]!]) τ (.store 47 (.tmp 0) (.tmp 1))=some (undef,τ1) ∧
   zQ Pg (evL [.pointer (some (zN ⟨b,0,s⟩ (Int.toNat j*3))),zEI dk[i.toNat]!]) τ1 (.store 47 (.tmp 0) (.tmp 1))=some (undef,τ2)∧W σ τ2 b s d (swp dk i.toNat j.toNat):=by
 obtain ⟨τ1,e1,d1,o1,l1⟩:=w.dt.st dk[j.toNat]! h0 hi;obtain ⟨τ2,e2,d2,o2,l2⟩:=d1.st (i:=j) dk[i.toNat]! k0 (by simpa using hj);exact ⟨τ1,τ2,e1,e2,⟨(w.only.trans' o1 (fun b _ h=>.inl h)).trans' o2 (fun b _ h=>.inl h),d2,.inl l2⟩⟩
def uS (f:FuncId) (args:List Value) (v:Value) (σ:St) (b:Nat) (s:Option Nat) (d d':Array Rec):Prop:=∃ σ',zD Pg f args σ v σ'∧Only (·=b) σ σ'∧Dt σ' b s d'∧(σ'.low≤b∨d'=d)
theorem uS.of {f:FuncId} {args:List Value} {v:Value} {σ:St} {b:Nat} {s:Option Nat} {d d':Array Rec} (h0:Dt σ b s d) (h:zP Pg f args σ.re fun v' τ=>v'=v∧W σ τ b s d d') (hv:zV RD v=true:=by rfl):uS f args v σ b s d d':=by
  obtain ⟨_,τ,hN,rfl,w⟩:=h;by_cases hlow:τ.low<σ.y
  · have ho:Only (·=b) σ ⟨τ.heap,τ.y,min σ.low τ.low⟩:=by
      have:=w.only.lower (m:=0);exact this
    refine ⟨_,xTO hN w.only.y hlow,ho,w.dt, ?_⟩
    rcases w.low with h | h
    · exact .inl (by show min _ _≤_;omega)
    · exact .inr h
  · have hd:d'=d:=by
      rcases w.low with h | h
      · have:=h0.1;omega
      · exact h
    exact ⟨σ,zP.pure ⟨_,τ,hN,rfl,by omega⟩ hv,Only.refl _ _,by rw [hd];exact h0,.inr hd⟩
theorem W.call {σ τ:St} {b:Nat} {s:Option Nat} {d dk d':Array Rec} {f:FuncId} {args:List Value} {v:Value} (w:W σ τ b s d dk) (h:uS f args v τ b s dk d'):∃ τ',zD Pg f args τ v τ'∧W σ τ' b s d d':=by
 obtain ⟨τ',c,o,dt,hl⟩:=h;refine ⟨τ',c,w.only.trans' o (fun b _ h=>.inl h),dt, ?_⟩
 have:=zEB c;rcases hl with hl | hl
 ·exact .inl hl
 ·rcases w.low with h | h
  ·exact .inl (by omega)
  ·exact .inr (hl.trans h)
section
variable {σ:St} {b c:Nat} {s:Option Nat} {d:Array Rec} {g:FuncId} {gc:List Value} {lt:Rec→Rec→Bool} {V:Rec→Prop}
theorem zMH (lt:Rec→Rec→Bool) (a:Nat):∀ (j:Nat) (d:Array Rec),(Go.Sort.insInner lt a j d).size=d.size
 | 0,d=>rfl
 | j+1,d=>by
  unfold Go.Sort.insInner;split
  ·rw [zMH,xA]
  ·rfl
theorem zPE (lt:Rec→Rec→Bool) (a:Nat) {V:Rec→Prop}:∀ (j:Nat) (d:Array Rec),j<d.size→xV V d→xV V (Go.Sort.insInner lt a j d)
 | 0,d,_,h=>h
 | j+1,d,hj,h=>by
  unfold Go.Sort.insInner;split
  ·exact zPE lt a j _ (by rw [xA];omega) (h.swp hj (by omega))
  ·exact h
theorem xVO {a B:Nat} (h:Dt σ b s d) (hc:Cmp g gc lt V) (hv:xV V d) (hB:B≤d.size) (hn:d.size≤1000000) (ha:a≤1000000) :
  uS 80 [.slice (some ⟨b,0,s⟩) d.size c,iV (a:Int),iV (B:Int),.func (.func g) ⟨[]⟩ ⟨gc⟩] (.tuple ⟨[]⟩) σ b s d (Go.Sort.insertionSort lt d a B):=by
 refine uS.of h (yYH (P0:=fun τ=>W σ τ b s d (Go.Sort.insertionSort lt d a B)) (zYE (Inv:=fun k i τ=>∃ (j:Nat) (dk:Array Rec),i=j∧k=B-j∧W σ τ b s d dk∧dk.size=d.size∧xV V dk∧Go.Sort.insOuter lt a B j dk=Go.Sort.insertionSort lt d a B) ?_ (B-(a+1)) _ σ.re ⟨a+1,d,by omega,rfl,W.start h,rfl,hv,rfl⟩) (fun τ hw=>zYD ⟨rfl,hw⟩) (by omega));rintro k i τ ⟨j,dk,rfl,hk,w,hsz,hall,ht⟩;by_cases hj:j<B;rotate_left
 ·rw [Go.Sort.insOuter,if_neg hj] at ht;exact yMF (by rw [← ht];exact w) (by omega)
 rw [Go.Sort.insOuter,if_pos hj] at ht;refine xKG (P2:=fun τ'=>W σ τ' b s d (Go.Sort.insInner lt a j dk)) (yTN (Inv:=fun k' q' τ'=>∃ (q:Nat) (dq:Array Rec),q'=q∧q=k'∧q≤j∧W σ τ' b s d dq∧dq.size=d.size∧xV V dq∧Go.Sort.insInner lt a q dq=Go.Sort.insInner lt a j dk) ?_ j _ τ ⟨j,dk,rfl,rfl,Nat.le_refl _,w,hsz,hall,rfl⟩)
  (fun τ' hw=>yTM ⟨k-1,by omega,j+1,_,by omega,by omega,hw,by rw [zMH,hsz],zPE _ _ _ _ (by omega) hall,ht⟩ (by omega)) (by omega)
 rintro k' q' τ' ⟨q,dq,rfl,rfl,hq,w',hsz',hall',ht'⟩;by_cases haq:a<q;rotate_left
 ·refine xKD ?_ (by omega);have e:Go.Sort.insInner lt a q dq=dq:=by
   cases q with
   | zero=>rfl
   | succ q=>unfold Go.Sort.insInner;rw [if_neg (by simp;omega)]
  rw [← ht',e];exact w'
 obtain ⟨p,rfl⟩:∃ p,q=p+1:=⟨q-1,by omega⟩;have l1:=w'.dt.ld (i:=((p+1:Nat):Int)) (by omega) (by omega);have l2:=w'.dt.ld (i:=((p+1:Nat):Int)-1) (by omega) (by omega);have e2:(((p+1:Nat):Int)-1).toNat=p:=by omega
 obtain ⟨n,hn1,hn2⟩:=hc τ' dq[(((p+1:Nat):Int)).toNat]! dq[(((p+1:Nat):Int)-1).toNat]! (hall' _ (by omega)) (hall' _ (by omega));by_cases hlt:n<0
 ·have hl:=hn2.1 hlt;rw [e2,Int.toNat_natCast] at hl;obtain ⟨τ1,τ2,s1,s2,w2⟩:=w'.swap (i:=((p+1:Nat):Int)) (j:=((p+1:Nat):Int)-1) (by omega) (by omega) (by omega) (by omega);rw [e2,Int.toNat_natCast] at w2;refine xKF l1 l2 hn1 s1 s2 ⟨p,by omega,p,_,by omega,rfl,by omega,w2,by rw [xA,hsz'],hall'.swp (by omega) (by omega), ?_⟩ (by omega) (by omega) (by omega) (by omega) (by omega);rw [← ht'];conv=>rhs;unfold Go.Sort.insInner
  rw [if_pos (by simp [hl];omega)]
 ·have hl:lt dq[p+1]! dq[p]! = false:=by
   rw [Bool.eq_false_iff];intro e;have:=hn2.2 (by rw [e2,Int.toNat_natCast];exact e);exact hlt this
  refine xKE l1 l2 hn1 ?_ (by omega) (by omega) (by omega) (by omega) (by omega);have e:Go.Sort.insInner lt a (p+1) dq=dq:=by unfold Go.Sort.insInner;rw [if_neg (by simp [hl])]
  rw [← ht',e];exact w'
end
end
end Go.Proofs.Ytgfiniccfpfplaa
