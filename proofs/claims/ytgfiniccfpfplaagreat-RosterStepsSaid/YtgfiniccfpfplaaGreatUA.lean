import Derived.Test.YtgfiniccfpfplaaGreatXA
import Derived.Test.YtgfiniccfpfplaaGreatPF
import Derived.Test.YtgfiniccfpfplaaGreatTy
import Derived.Sort.AssemblyPlain
set_option linter.unusedVariables false
set_option linter.unusedSimpArgs false
set_option maxRecDepth 20000
namespace Go.Proofs.YtgfiniccfpfplaaGreat
open Go Go.Lay
open Tryz renaming prog -> Pg
theorem uS:AppT Pg 26 26 3 1:=zRH (by kernel_rfl)
theorem vW (x:Int):zHV Pg 3 1 (zZ x):=.inl ⟨zU,rfl,rfl⟩
abbrev yD (Z:St) (p:Option Addr) (l:Nat) (xs:List Int):Prop:=SlV Pg Z 3 1 p l (xs.map zZ)
theorem yD.len {Z:St} {p:Option Addr} {l:Nat} {xs:List Int} (h:yD Z p l xs):xs.length=l:=by have:=h.2.1;simpa using this
theorem wS {Z:St} {α:Type} {t n len i:Nat} {p:Option Addr} {xs:List α} {f:α->Value} (h:SlV Pg Z t n p len (xs.map f)) (hi:i<len):∃ a,p=some a/\∃ x,xs[i]?=some x/\zB Pg Z t (zL a (Int.toNat (i:Int)*n))=some (f x):=by
 obtain ⟨a,rfl,_⟩:=h.some hi;have hl:i<xs.length:=by have:=h.2.1;simp at this;omega
 exact ⟨a,rfl,xs[i],by simp,h.at rfl (by simp [hl])⟩
abbrev zAL (d:Dty):Value:=.agg ⟨zF d.day d.on d.lo d.hi d.route⟩
abbrev yCM (Z:St) (t:Nat) (p:Option Addr) (l:Nat) (xs:List Dty):Prop:=SlV Pg Z t 5 p l (xs.map zAL)
def zWH (Z:St) (v:Value) (x:Drv):Prop:=∃ p l c q m d r n e,v=.agg ⟨zO p l c q m d r n e x.off x.row x.used⟩/\yD Z p l x.knows/\yD Z q m x.leave/\yD Z r n x.wish
def zVZ (Z:St) (t:Nat) (p:Option Addr) (l:Nat) (xs:List Drv):Prop:=∃ vs:List Value,SlV Pg Z t 6 p l vs/\xs.length=l/\∀ (i:Nat) (x:Drv),xs[i]?=some x->∃ v,vs[i]?=some v/\zWH Z v x
section
variable {Z Z':St} {td tv:Nat} {p q:Option Addr} {l m c d:Nat} {w:Wk}
theorem zWH.le {v:Value} {x:Drv} (h:zWH Z v x) (k:Le Z Z'):zWH Z' v x:=by
 obtain ⟨p,l,c,q,m,d,r,n,e,h1,h2,h3,h4⟩:=h;exact ⟨p,l,c,q,m,d,r,n,e,h1,h2.le k,h3.le k,h4.le k⟩
theorem zVZ.le {xs:List Drv} (h:zVZ Z tv p l xs) (k:Le Z Z'):zVZ Z' tv p l xs:=by
 obtain ⟨vs,h1,h2,h3⟩:=h;exact ⟨vs,h1.le k,h2,fun i x hi=>by obtain ⟨v,g1,g2⟩:=h3 i x hi;exact ⟨v,g1,g2.le k⟩⟩
structure WkP (Z:St) (td tv:Nat) (w:Wk) (p:Option Addr) (l:Nat) (q:Option Addr) (m:Nat):Prop where
 dty:yCM Z td p l w.duties
 drv:zVZ Z tv q m w.drivers
theorem WkP.le (h:WkP Z td tv w p l q m) (k:Le Z Z'):WkP Z' td tv w p l q m:=⟨h.dty.le k,h.drv.le k⟩
theorem WkP.len (h:WkP Z td tv w p l q m):w.duties.length=l/\w.drivers.length=m:=by
 have h1:=h.dty.2.1;exact ⟨by simpa using h1,h.drv.choose_spec.2.1⟩
theorem yQI {α:Type} {F:α->Value} {n k:Nat} {x:α} {v:Value} (hn:∀ y,(F y).cells.toList.length=n) (hk:k<n) (hv:(F x).cells.toList[k]?=some v):∀ {xs:List α} {i:Nat},xs[i]?=some x->(wI (xs.map F))[i*n+k]?=some v
 | [],i,h=>by simp at h
 | y::ys,0,h=>by
  have:y=x:=by simpa using h
  subst this;have hl:=hn y;simp only [wI,List.map_cons,List.flatMap_cons,Nat.zero_mul,Nat.zero_add];rw [List.getElem?_append_left (by omega)];exact hv
 | y::ys,i+1,h=>by
  have ih:=yQI hn hk hv (xs:=ys) (i:=i) (by simpa using h);have hl:=hn y;have e:(i+1)*n+k=(F y).cells.toList.length+(i*n+k):=by rw [hl,Nat.add_mul,Nat.one_mul];omega
  simp only [wI,List.map_cons,List.flatMap_cons] at ih ⊢;rw [e,List.getElem?_append_right (by omega),Nat.add_sub_cancel_left];exact ih
theorem yGU {n k:Nat} {x v:Value} (hk:k<n) (hv:x.cells.toList[k]?=some v):∀ {vs:List Value} {i:Nat},(∀ y∈vs,y.cells.toList.length=n)->vs[i]?=some x->(wI vs)[i*n+k]?=some v
 | [],i,_,h=>by simp at h
 | y::ys,0,hn,h=>by
  have:y=x:=by simpa using h
  subst this;have hl:=hn y List.mem_cons_self;simp only [wI,List.flatMap_cons,Nat.zero_mul,Nat.zero_add];rw [List.getElem?_append_left (by omega)];exact hv
 | y::ys,i+1,hn,h=>by
  have ih:=yGU hk hv (vs:=ys) (i:=i) (fun z hz=>hn z (List.mem_cons_of_mem _ hz)) (by simpa using h);have hl:=hn y List.mem_cons_self;have e:(i+1)*n+k=y.cells.toList.length+(i*n+k):=by rw [hl,Nat.add_mul,Nat.one_mul];omega
  simp only [wI,List.flatMap_cons] at ih ⊢;rw [e,List.getElem?_append_right (by omega),Nat.add_sub_cancel_left];exact ih
theorem WkP.dld (h:WkP Z td tv w p l q m) {i k:Nat} {n:Int} (hi:i<l) (hk:k<5) (hv:[(Go.Proofs.YtgfiniccfpfplaaGreat.dty w i).day,(Go.Proofs.YtgfiniccfpfplaaGreat.dty w i).on,(Go.Proofs.YtgfiniccfpfplaaGreat.dty w i).lo,(Go.Proofs.YtgfiniccfpfplaaGreat.dty w i).hi,(Go.Proofs.YtgfiniccfpfplaaGreat.dty w i).route][k]?=some n):∃ a,p=some a/\zB Pg Z 3 (zL a (Int.toNat (i:Int)*5+k))=some (zZ n):=by
 obtain ⟨a,rfl,hr⟩:=h.dty.some hi;have hl:=h.len.1;have hx:w.duties[i]?=some (Go.Proofs.YtgfiniccfpfplaaGreat.dty w i):=by
  unfold Go.Proofs.YtgfiniccfpfplaaGreat.dty;rw [List.getD_eq_getElem?_getD,List.getElem?_eq_getElem (by omega)];rfl
 refine ⟨a,rfl, ?_⟩
 rw [Int.toNat_natCast];refine hr.load1 zU ?_
 refine yQI (F:=zAL) (fun _=>rfl) hk ?_ hx;match k,hk with
 | 0,_=>exact congrArg (Option.map zZ) hv
 | 1,_=>exact congrArg (Option.map zZ) hv
 | 2,_=>exact congrArg (Option.map zZ) hv
 | 3,_=>exact congrArg (Option.map zZ) hv
 | 4,_=>exact congrArg (Option.map zZ) hv
theorem WkP.vld (h:WkP Z td tv w p l q m) (ht:wJ Pg tv=some true) (hs:yT Pg tv=some 6) {i:Nat} (hi:i<m):∃ a,q=some a/\∃ p l c r n d s j e,zB Pg Z tv (zL a (Int.toNat (i:Int)*6))=some (.agg ⟨zO p l c r n d s j e (Go.Proofs.YtgfiniccfpfplaaGreat.drv w i).off (Go.Proofs.YtgfiniccfpfplaaGreat.drv w i).row (Go.Proofs.YtgfiniccfpfplaaGreat.drv w i).used⟩) /\
  yD Z p l (Go.Proofs.YtgfiniccfpfplaaGreat.drv w i).knows/\yD Z r n (Go.Proofs.YtgfiniccfpfplaaGreat.drv w i).leave/\yD Z s j (Go.Proofs.YtgfiniccfpfplaaGreat.drv w i).wish /\
  ∀ (k:Nat) (v:Value),(zO p l c r n d s j e (Go.Proofs.YtgfiniccfpfplaaGreat.drv w i).off (Go.Proofs.YtgfiniccfpfplaaGreat.drv w i).row (Go.Proofs.YtgfiniccfpfplaaGreat.drv w i).used)[k]?=some v->∀ t,wJ Pg t=some false->zB Pg Z t (zL a (Int.toNat (i:Int)*6+k))=some v:=by
 obtain ⟨vs,h1,h2,h3⟩:=h.drv;obtain ⟨a,rfl,hr⟩:=h1.some hi;have hx:w.drivers[i]?=some (Go.Proofs.YtgfiniccfpfplaaGreat.drv w i):=by
  unfold Go.Proofs.YtgfiniccfpfplaaGreat.drv;rw [List.getD_eq_getElem?_getD,List.getElem?_eq_getElem (by omega)];rfl
 obtain ⟨v,g1,p,l,c,r,n,d,s,j,e,rfl,g2,g3,g4⟩:=h3 i _ hx;refine ⟨a,rfl,p,l,c,r,n,d,s,j,e,h1.at rfl g1,g2,g3,g4, ?_⟩
 intro k v hk t htt;rw [Int.toNat_natCast];refine hr.load1 htt ?_
 have hk6:k<6:=by
  rcases Nat.lt_or_ge k 6 with h | h
  ·exact h
  ·rw [List.getElem?_eq_none (by simpa using h)] at hk;cases hk
 exact yGU hk6 (by exact hk) (fun y hy=>(h1.2.2 y hy).len) g1
theorem zDN {n lo hi:Int}:zD Pg 47 [iV n,iV lo,iV hi] Z (.bool (inB n lo hi)) Z:=by
 by_cases h1:lo<=n <;> by_cases h2:n<=hi
 ·exact (xDD ⟨by simp [inB,h1,h2],Nat.le_refl _⟩).pure
 ·exact (xDC ⟨by simp [inB,h1,h2],Nat.le_refl _⟩).pure
 ·exact (yDV ⟨by simp [inB,h1],Nat.le_refl _⟩).pure
 ·exact (yDV ⟨by simp [inB,h1],Nat.le_refl _⟩).pure
theorem xKR {n lo hi:Int}:zD Pg 33 [iV n,iV lo,iV hi] Z (.bool (inB n lo hi)) Z:=by
 by_cases h1:lo<=n <;> by_cases h2:n<=hi
 ·exact (xXR ⟨by simp [inB,h1,h2],Nat.le_refl _⟩).pure
 ·exact (xXQ ⟨by simp [inB,h1,h2],Nat.le_refl _⟩).pure
 ·exact (xKQ ⟨by simp [inB,h1],Nat.le_refl _⟩).pure
 ·exact (xKQ ⟨by simp [inB,h1],Nat.le_refl _⟩).pure
theorem xKV {xs:List Int} {n:Int} (h:yD Z p l xs) (hl:l<=1073741824):zD Pg 43 [.slice p l c,iV n] Z (.bool (xs.contains n)) Z:=by
 have h1:=h.re;have e1:=h.len;refine (xSW (yUH (Inv:=fun k i τ=>τ=Z.re/\∃ j:Nat,i=j/\j+k=l/\n ∉ xs.take j) (Qr:=fun b τ=>τ=Z.re/\b=true/\n∈xs) (Q0:=fun τ=>τ=Z.re/\n ∉ xs) ?_ l 0 Z.re ⟨rfl,0,rfl,by omega,by simp⟩) ?_ ?_).pure
 ·rintro k i τ ⟨rfl,j,rfl,hk,he⟩;by_cases hi:j<l
  ·obtain ⟨a,rfl,x,hx,l1⟩:=wS h1 hi;by_cases hxy:x=n
   ·exact xKU l1 ⟨rfl,rfl,hxy ▸ List.mem_of_getElem? hx⟩
   ·exact xKT l1 ⟨k-1,by omega,rfl,j+1,by omega,by omega,by rw [wA hx,List.mem_append];simp;exact ⟨he,fun e=>hxy e.symm⟩⟩
  ·rw [List.take_of_length_le (by omega)] at he;exact xKS ⟨rfl,he⟩
 ·rintro b τ ⟨rfl,rfl,hn⟩;exact yUF ⟨by simp [hn],Nat.le_refl _⟩
 ·rintro τ ⟨rfl,hn⟩;exact yUG ⟨by simp [hn],Nat.le_refl _⟩
def wG (xs:List Int) (lo hi:Int):Bool:=(List.range xs.length).all fun i=>inB (xs.getD i 0) lo hi && (i == 0 || decide (xs.getD (i-1) 0<xs.getD i 0))
theorem yO {xs:List Int} {i:Nat} {x:Int} (h:xs[i]?=some x):xs.getD i 0=x:=by rw [List.getD_eq_getElem?_getD,h];rfl
theorem zBL {f:Nat->Bool} {n:Nat}:(List.range n).all f=true↔∀ i,i<n->f i=true:=by simp
theorem zJJ {xs:List Int} {lo hi:Int} (h:yD Z p l xs) (hl:l<=1073741824):zD Pg 42 [.slice p l c,iV lo,iV hi] Z (.bool (wG xs lo hi)) Z:=by
 have h1:=h.re;have e1:=h.len;have no:∀ j,j<l->(inB (xs.getD j 0) lo hi && (j == 0 || decide (xs.getD (j-1) 0<xs.getD j 0)))=false->wG xs lo hi=false:=by
  intro j hj hf;cases hr:wG xs lo hi with
  | false=>rfl
  | true=>rw [zBL.1 hr j (by omega)] at hf;cases hf
 refine (xEE (yIV (Inv:=fun k i τ=>τ=Z.re/\∃ j:Nat,i=j/\j+k=l/\∀ i,i<j->(inB (xs.getD i 0) lo hi && (i == 0 || decide (xs.getD (i-1) 0<xs.getD i 0)))=true) (Qr:=fun b τ=>τ=Z.re/\b=false/\wG xs lo hi=false) (Q0:=fun τ=>τ=Z.re/\wG xs lo hi=true) ?_ l 0 Z.re ⟨rfl,0,rfl,by omega,fun i h=>by omega⟩) ?_ ?_).pure
 ·rintro k i τ ⟨rfl,j,rfl,hk,he⟩;by_cases hj:j<l
  ·obtain ⟨a,rfl,x,hx,l1⟩:=wS h1 hj;have cin:=xKR (Z:=Z.re) (n:=x) (lo:=lo) (hi:=hi);have gx:=yO hx;cases hb:inB x lo hi with
   | false =>
    rw [hb] at cin
    exact yTZ l1 cin ⟨rfl,rfl,no j hj (by rw [gx,hb];rfl)⟩
   | true =>
    rw [hb] at cin
    by_cases h0:0<j
    ·obtain ⟨a',ea,y,hy,l2⟩:=wS h1 (show j-1<l by omega);cases ea
     have gy:=yO hy;have e:((j:Int)-1)=((j-1:Nat):Int):=by omega
     rw [<- e] at l2;by_cases hxy:x<=y
     ·exact yUC l1 cin l2 ⟨rfl,rfl,no j hj (by rw [gx,gy,hb];simp;omega)⟩
     ·refine yUB l1 cin l2 ⟨k-1,by omega,rfl,j+1,by omega,by omega, ?_⟩;intro i hi2;by_cases e2:i=j
      ·subst e2;rw [gx,gy,hb];simp;omega
      ·exact he i (by omega)
    ·refine yUA l1 cin ⟨k-1,by omega,rfl,j+1,by omega,by omega, ?_⟩
     intro i hi2;have e2:i=j:=by omega
     subst e2;have:i=0:=by omega
     rw [gx,hb,this];rfl
  ·exact yTY ⟨rfl,zBL.2 fun i hi2=>he i (by omega)⟩
 ·rintro b τ ⟨rfl,rfl,hn⟩;exact yIT ⟨by rw [hn],Nat.le_refl _⟩
 ·rintro τ ⟨rfl,hn⟩;exact yIU ⟨by rw [hn],Nat.le_refl _⟩
theorem yIP {xs:List Int} {lo hi:Int} (h:yD Z p l xs) (hl:l<=1073741824):zD Pg 71 [.slice p l c,iV lo,iV hi] Z (.bool (wG xs lo hi)) Z:=by
 have h1:=h.re;have e1:=h.len;have no:∀ j,j<l->(inB (xs.getD j 0) lo hi && (j == 0 || decide (xs.getD (j-1) 0<xs.getD j 0)))=false->wG xs lo hi=false:=by
  intro j hj hf;cases hr:wG xs lo hi with
  | false=>rfl
  | true=>rw [zBL.1 hr j (by omega)] at hf;cases hf
 refine (xKH (yND (Inv:=fun k i τ=>τ=Z.re/\∃ j:Nat,i=j/\j+k=l/\∀ i,i<j->(inB (xs.getD i 0) lo hi && (i == 0 || decide (xs.getD (i-1) 0<xs.getD i 0)))=true) (Qr:=fun b τ=>τ=Z.re/\b=false/\wG xs lo hi=false) (Q0:=fun τ=>τ=Z.re/\wG xs lo hi=true) ?_ l 0 Z.re ⟨rfl,0,rfl,by omega,fun i h=>by omega⟩) ?_ ?_).pure
 ·rintro k i τ ⟨rfl,j,rfl,hk,he⟩;by_cases hj:j<l
  ·obtain ⟨a,rfl,x,hx,l1⟩:=wS h1 hj;have cin:=zDN (Z:=Z.re) (n:=x) (lo:=lo) (hi:=hi);have gx:=yO hx;cases hb:inB x lo hi with
   | false =>
    rw [hb] at cin
    exact xDY l1 cin ⟨rfl,rfl,no j hj (by rw [gx,hb];rfl)⟩
   | true =>
    rw [hb] at cin
    by_cases h0:0<j
    ·obtain ⟨a',ea,y,hy,l2⟩:=wS h1 (show j-1<l by omega);cases ea
     have gy:=yO hy;have e:((j:Int)-1)=((j-1:Nat):Int):=by omega
     rw [<- e] at l2;by_cases hxy:x<=y
     ·exact xEB l1 cin l2 ⟨rfl,rfl,no j hj (by rw [gx,gy,hb];simp;omega)⟩
     ·refine xEA l1 cin l2 ⟨k-1,by omega,rfl,j+1,by omega,by omega, ?_⟩;intro i hi2;by_cases e2:i=j
      ·subst e2;rw [gx,gy,hb];simp;omega
      ·exact he i (by omega)
    ·refine xDZ l1 cin ⟨k-1,by omega,rfl,j+1,by omega,by omega, ?_⟩
     intro i hi2;have e2:i=j:=by omega
     subst e2;have:i=0:=by omega
     rw [gx,hb,this];rfl
  ·exact xDX ⟨rfl,zBL.2 fun i hi2=>he i (by omega)⟩
 ·rintro b τ ⟨rfl,rfl,hn⟩;exact yNB ⟨by rw [hn],Nat.le_refl _⟩
 ·rintro τ ⟨rfl,hn⟩;exact yNC ⟨by rw [hn],Nat.le_refl _⟩
end
section
noncomputable section
variable (BA:Nat) (Q:Int->St->Prop) (i2_2 dN aI aV:Int) (q0:St->Prop) (Z:St) (Nx Qr:Int->St->Prop) (q1:vPa) (Q0 Q2:St->Prop)
def yEO:Code:=(Code.part [1,1,1,0,1,0,0] (qh 55))
def zFY:lNa:=[(1,pq BA 0),(3,iV aV)]
def yUY:Alt:=⟨Int,.normal,fun t=>zFY BA t,fun t=>[],fun t Z=>Q t Z⟩
def zUK (BA:Nat) (aI:Int):lNa:=[(2,iV aI)]
def zJR:Alt:=⟨Int,.ret,fun t=>zUK BA t,fun t=>[],fun t Z=>Q t Z⟩
def zUL:lNa:=[(1,pq BA 0)]
def zJS:Alt:=⟨Unit,(.exit 0),fun t=>zUL BA,fun t=>[],fun t Z=>q0 Z⟩
def zAS:Prop:=qi qj none yEO 145 (zFY BA aV) [] [yUY BA Nx,zJR BA Qr,zJS BA Q0] Z
def yEQ:Prop:=qk qj none yEO 145 (zFY BA aV) [] [zJR BA Qr,zJS BA Q0] Z
def zUO:Prop:=kZ qj (qh 55) [1,1,1,0,1,0] (ql 55 q1) .ret 145 (zUK BA aI) Z
def zUP:Prop:=kZ qj (qh 55) [1,1,1,0,1,0] (ql 55 q1) (.exit 0) 145 (zUL BA) Z
def yEN:Code:=(Code.part [1,1,1,1,0,1,0,0] (qh 55))
def zFX:lNa:=[(1,pq BA 0),(5,iV dN)]
def yUX:Alt:=⟨Int,.normal,fun t=>zFX BA t,fun t=>[],fun t Z=>Q t Z⟩
def zUI (BA:Nat) (i2_2:Int):lNa:=[(2,iV i2_2)]
def zJP:Alt:=⟨Int,.ret,fun t=>zUI BA t,fun t=>[],fun t Z=>Q t Z⟩
def zUJ (BA:Nat):lNa:=[]
def zJQ:Alt:=⟨Unit,(.exit 2),fun t=>zUJ BA,fun t=>[],fun t Z=>q0 Z⟩
def uQ:Prop:=qi qj none yEN 145 (zFX BA dN) [] [yUX BA Nx,zJP BA Qr,zJQ BA Q2] Z
def yEP:Prop:=qk qj none yEN 145 (zFX BA dN) [] [zJP BA Qr,zJQ BA Q2] Z
def zUM:Prop:=kZ qj (qh 55) [1,1,1,1,0,1,0] (ql 55 q1) .ret 145 (zUI BA i2_2) Z
def zUN:Prop:=kZ qj (qh 55) [1,1,1,1,0,1,0] (ql 55 q1) (.exit 2) 145 (zUJ BA) Z
end
variable {ak am ar ah aV nG nA nB nD nF nK aI dN nH nI nJ nN nBD i2_2:Int} {af ae qD qB qA qC qI:oAa} {ac ad aa ab BA lA cE lI cJ lE cB lB cA lF cD:Nat} {Z:St} {Q:vPa} {Inv:Nat->Int->St->Prop} {Qr Nx Pr:Int->St->Prop} {Q0 P0 Q2 P2:St->Prop} {dc eI:Addr}
theorem xEM (nx:Q (iV 3) (Z.row (wkc ak af ac ad ae aa ab am ar ah) 6)) (u1:12<(ac:Int):=by omega):qg 55 [qf (wkc ak af ac ad ae aa ab am ar ah)] Z Q :=
 zG [.g,.g,.g,.l (.slice af ac ad),.g,.b true,.g,.g,.g] (kd (an2 ((zC _ _ _).rw.ld zAF (k:=1) rfl:lz (Z.row (wkc ak af ac ad ae aa ab am ar ah) 6) 22 (qe Z.y 1) (.slice af ac ad)) (zR u1) nx))
theorem xEL:let y0:=wkc ak af ac ad ae aa ab am ar ah;∀ (nx:Q (iV 3) (Z.row y0 6)) (u1:¬ 12<(ac:Int):=by omega) (u2:6<(aa:Int):=by omega),qg 55 [qf y0] Z Q :=
 let s1:=Z.row (wkc ak af ac ad ae aa ab am ar ah) 6;fun nx u1 u2=>zG [.g,.g,.g,.l (.slice af ac ad),.g,.b false,.g,.g,.l (.slice ae aa ab),.g,.b true,.g,.g] (kd (an4 ((zC _ _ _).rw.ld zAF (k:=1) rfl:lz s1 22 (qe Z.y 1) (.slice af ac ad)) (zT u1) ((zC _ _ _).rw.ld zCZ (k:=2) rfl:lz s1 23 (qe Z.y 2) (.slice ae aa ab)) (zR u2) nx))
theorem yJC (hb:∀ k aV Z,Inv k aV Z->zAS BA aV Z (NX1 Inv k) Qr Q0):∀ k aV Z,Inv k aV Z->yEQ BA aV Z Qr Q0 :=
 xF (ai zAR (ai (xX 0) trivial)) hb
theorem yUW:let s1:=Z.row (zF 0 0 0 0 0) 5;let s2:=s1.own Z.y (zF nG nA nB nD nF) 5;∀ (h1:lz Z 22 (qe BA 1) (.slice (some dc) lA cE)) (h2:lz Z 92 (zL dc (Int.toNat aV*5)) (qf (zF nG nA nB nD nF))) (h3:lz s2 3 (qe BA 0) (iV nK)) (h4:qm 33 [iV nG,iV 0,iV (nK-1)] s2 (.bool true) s2) (h5:qm 33 [iV nA,iV 0,iV 1439] s2 (.bool true) s2) (h6:qm 33 [iV nB,iV nA,iV nD] s2 (.bool true) s2) (nx:Qr (1:Int) s2) (u1:aV<(lA:Int):=by omega) (u2:Ix aV lA:=by omega) (u3:I6 (nK-1):=by omega) (u4:I6 (nA+1440):=by omega) (u5:(nA+1440)<nD:=by omega),zAS BA aV Z Nx Qr Q0:=
 let s1:=Z.row (zF 0 0 0 0 0) 5;let s2:=s1.own Z.y (zF nG nA nB nD nF) 5;fun h1 h2 h3 h4 h5 h6 nx u1 u2 u3 u4 u5=>kO 1 (1:Int) [.g,.g,.l (.slice (some dc) lA cE),.g,.b true,.g,.l (.slice (some dc) lA cE),.g,.i,.l (qf (zF nG nA nB nD nF)),.g,.e undef s2,.g,.l (iV nG),.g,.l (iV nK),.n (nK-1),.c (.bool true) s2,.g,.g,.g,.l (iV nA),.c (.bool true) s2,.g,.g,.g,.g,.g,.l (iV nB),.g,.l (iV nA),.g,.g,.l (iV nD),.c (.bool true) s2,.g,.g,.g,.g,.g,.l (iV nD),.g,.l (iV nA),.n (nA+1440),.b true,.g,.g,.g,.g] (fun _ f=>an2 h1 (zR u1) (an6 h1 u2 h2 ((zC _ _ _).store (vs:=(zF nG nA nB nD nF)) rfl zJA rfl (nle rfl) rfl:qn (evL [pq Z.y 0,qf (zF nG nA nB nD nF)]) s1 (.store 92 (.tmp 0) (.tmp 1))=some (undef,s2)) ((zC _ _ _).put.rw.ld zU (k:=0) rfl:lz s2 3 (qe Z.y 0) (iV nG)) h3 (an6 (w64 u3) h4 ((zC _ _ _).put.rw.ld zU (k:=1) rfl:lz s2 3 (qe Z.y 1) (iV nA)) h5 ((zC _ _ _).put.rw.ld zU (k:=2) rfl:lz s2 3 (qe Z.y 2) (iV nB)) ((zC _ _ _).put.rw.ld zU (k:=1) rfl:lz s2 3 (qe Z.y 1) (iV nA)) (an6 ((zC _ _ _).put.rw.ld zU (k:=3) rfl:lz s2 3 (qe Z.y 3) (iV nD)) h6 ((zC _ _ _).put.rw.ld zU (k:=3) rfl:lz s2 3 (qe Z.y 3) (iV nD)) ((zC _ _ _).put.rw.ld zU (k:=1) rfl:lz s2 3 (qe Z.y 1) (iV nA)) (w64 u4) (zR u5) f)))) nx
theorem yUV:let s1:=Z.row (zF 0 0 0 0 0) 5;let s2:=s1.own Z.y (zF nG nA nB nD nF) 5;∀ (h1:lz Z 22 (qe BA 1) (.slice (some dc) lA cE)) (h2:lz Z 92 (zL dc (Int.toNat aV*5)) (qf (zF nG nA nB nD nF))) (h3:lz s2 3 (qe BA 0) (iV nK)) (h4:qm 33 [iV nG,iV 0,iV (nK-1)] s2 (.bool true) s2) (h5:qm 33 [iV nA,iV 0,iV 1439] s2 (.bool true) s2) (h6:qm 33 [iV nB,iV nA,iV nD] s2 (.bool true) s2) (h7:qm 33 [iV nF,iV 0,iV 15] s2 (.bool true) s2) (nx:Nx (aV+1) s2) (u1:aV<(lA:Int):=by omega) (u2:Ix aV lA:=by omega) (u3:I6 (nK-1):=by omega) (u4:I6 (nA+1440):=by omega) (u5:¬ (nA+1440)<nD:=by omega) (u6:I6 (aV+1):=by omega),zAS BA aV Z Nx Qr Q0:=
 let s1:=Z.row (zF 0 0 0 0 0) 5;let s2:=s1.own Z.y (zF nG nA nB nD nF) 5;fun h1 h2 h3 h4 h5 h6 h7 nx u1 u2 u3 u4 u5 u6=>kO 0 (aV+1) [.g,.g,.l (.slice (some dc) lA cE),.g,.b true,.g,.l (.slice (some dc) lA cE),.g,.i,.l (qf (zF nG nA nB nD nF)),.g,.e undef s2,.g,.l (iV nG),.g,.l (iV nK),.n (nK-1),.c (.bool true) s2,.g,.g,.g,.l (iV nA),.c (.bool true) s2,.g,.g,.g,.g,.g,.l (iV nB),.g,.l (iV nA),.g,.g,.l (iV nD),.c (.bool true) s2,.g,.g,.g,.g,.g,.l (iV nD),.g,.l (iV nA),.n (nA+1440),.b false,.g,.g,.g,.l (iV nF),.c (.bool true) s2,.g,.g,.g,.n (aV+1),.g] (fun _ f=>an5 h1 (zR u1) h1 u2 h2 (an6 ((zC _ _ _).store (vs:=(zF nG nA nB nD nF)) rfl zJA rfl (nle rfl) rfl:qn (evL [pq Z.y 0,qf (zF nG nA nB nD nF)]) s1 (.store 92 (.tmp 0) (.tmp 1))=some (undef,s2)) ((zC _ _ _).put.rw.ld zU (k:=0) rfl:lz s2 3 (qe Z.y 0) (iV nG)) h3 (w64 u3) h4 ((zC _ _ _).put.rw.ld zU (k:=1) rfl:lz s2 3 (qe Z.y 1) (iV nA)) (an6 h5 ((zC _ _ _).put.rw.ld zU (k:=2) rfl:lz s2 3 (qe Z.y 2) (iV nB)) ((zC _ _ _).put.rw.ld zU (k:=1) rfl:lz s2 3 (qe Z.y 1) (iV nA)) ((zC _ _ _).put.rw.ld zU (k:=3) rfl:lz s2 3 (qe Z.y 3) (iV nD)) h6 ((zC _ _ _).put.rw.ld zU (k:=3) rfl:lz s2 3 (qe Z.y 3) (iV nD)) (an6 ((zC _ _ _).put.rw.ld zU (k:=1) rfl:lz s2 3 (qe Z.y 1) (iV nA)) (w64 u4) (zT u5) ((zC _ _ _).put.rw.ld zU (k:=4) rfl:lz s2 3 (qe Z.y 4) (iV nF)) h7 (w64 u6) f)))) nx
theorem yUU:let s1:=Z.row (zF 0 0 0 0 0) 5;let s2:=s1.own Z.y (zF nG nA nB nD nF) 5;∀ (h1:lz Z 22 (qe BA 1) (.slice (some dc) lA cE)) (h2:lz Z 92 (zL dc (Int.toNat aV*5)) (qf (zF nG nA nB nD nF))) (h3:lz s2 3 (qe BA 0) (iV nK)) (h4:qm 33 [iV nG,iV 0,iV (nK-1)] s2 (.bool true) s2) (h5:qm 33 [iV nA,iV 0,iV 1439] s2 (.bool true) s2) (h6:qm 33 [iV nB,iV nA,iV nD] s2 (.bool true) s2) (h7:qm 33 [iV nF,iV 0,iV 15] s2 (.bool false) s2) (nx:Qr (1:Int) s2) (u1:aV<(lA:Int):=by omega) (u2:Ix aV lA:=by omega) (u3:I6 (nK-1):=by omega) (u4:I6 (nA+1440):=by omega) (u5:¬ (nA+1440)<nD:=by omega),zAS BA aV Z Nx Qr Q0:=
 let s1:=Z.row (zF 0 0 0 0 0) 5;let s2:=s1.own Z.y (zF nG nA nB nD nF) 5;fun h1 h2 h3 h4 h5 h6 h7 nx u1 u2 u3 u4 u5=>kO 1 (1:Int) [.g,.g,.l (.slice (some dc) lA cE),.g,.b true,.g,.l (.slice (some dc) lA cE),.g,.i,.l (qf (zF nG nA nB nD nF)),.g,.e undef s2,.g,.l (iV nG),.g,.l (iV nK),.n (nK-1),.c (.bool true) s2,.g,.g,.g,.l (iV nA),.c (.bool true) s2,.g,.g,.g,.g,.g,.l (iV nB),.g,.l (iV nA),.g,.g,.l (iV nD),.c (.bool true) s2,.g,.g,.g,.g,.g,.l (iV nD),.g,.l (iV nA),.n (nA+1440),.b false,.g,.g,.g,.l (iV nF),.c (.bool false) s2,.g,.g,.g] (fun _ f=>an4 h1 (zR u1) h1 u2 (an6 h2 ((zC _ _ _).store (vs:=(zF nG nA nB nD nF)) rfl zJA rfl (nle rfl) rfl:qn (evL [pq Z.y 0,qf (zF nG nA nB nD nF)]) s1 (.store 92 (.tmp 0) (.tmp 1))=some (undef,s2)) ((zC _ _ _).put.rw.ld zU (k:=0) rfl:lz s2 3 (qe Z.y 0) (iV nG)) h3 (w64 u3) h4 (an6 ((zC _ _ _).put.rw.ld zU (k:=1) rfl:lz s2 3 (qe Z.y 1) (iV nA)) h5 ((zC _ _ _).put.rw.ld zU (k:=2) rfl:lz s2 3 (qe Z.y 2) (iV nB)) ((zC _ _ _).put.rw.ld zU (k:=1) rfl:lz s2 3 (qe Z.y 1) (iV nA)) ((zC _ _ _).put.rw.ld zU (k:=3) rfl:lz s2 3 (qe Z.y 3) (iV nD)) h6 (an6 ((zC _ _ _).put.rw.ld zU (k:=3) rfl:lz s2 3 (qe Z.y 3) (iV nD)) ((zC _ _ _).put.rw.ld zU (k:=1) rfl:lz s2 3 (qe Z.y 1) (iV nA)) (w64 u4) (zT u5) ((zC _ _ _).put.rw.ld zU (k:=4) rfl:lz s2 3 (qe Z.y 4) (iV nF)) h7 f)))) nx
theorem yUT:let s1:=Z.row (zF 0 0 0 0 0) 5;let s2:=s1.own Z.y (zF nG nA nB nD nF) 5;∀ (h1:lz Z 22 (qe BA 1) (.slice (some dc) lA cE)) (h2:lz Z 92 (zL dc (Int.toNat aV*5)) (qf (zF nG nA nB nD nF))) (h3:lz s2 3 (qe BA 0) (iV nK)) (h4:qm 33 [iV nG,iV 0,iV (nK-1)] s2 (.bool true) s2) (h5:qm 33 [iV nA,iV 0,iV 1439] s2 (.bool true) s2) (h6:qm 33 [iV nB,iV nA,iV nD] s2 (.bool false) s2) (nx:Qr (1:Int) s2) (u1:aV<(lA:Int):=by omega) (u2:Ix aV lA:=by omega) (u3:I6 (nK-1):=by omega),zAS BA aV Z Nx Qr Q0:=
 let s1:=Z.row (zF 0 0 0 0 0) 5;let s2:=s1.own Z.y (zF nG nA nB nD nF) 5;fun h1 h2 h3 h4 h5 h6 nx u1 u2 u3=>kO 1 (1:Int) [.g,.g,.l (.slice (some dc) lA cE),.g,.b true,.g,.l (.slice (some dc) lA cE),.g,.i,.l (qf (zF nG nA nB nD nF)),.g,.e undef s2,.g,.l (iV nG),.g,.l (iV nK),.n (nK-1),.c (.bool true) s2,.g,.g,.g,.l (iV nA),.c (.bool true) s2,.g,.g,.g,.g,.g,.l (iV nB),.g,.l (iV nA),.g,.g,.l (iV nD),.c (.bool false) s2,.g,.g,.g,.g,.g,.g,.g] (fun _ f=>an4 h1 (zR u1) h1 u2 (an6 h2 ((zC _ _ _).store (vs:=(zF nG nA nB nD nF)) rfl zJA rfl (nle rfl) rfl:qn (evL [pq Z.y 0,qf (zF nG nA nB nD nF)]) s1 (.store 92 (.tmp 0) (.tmp 1))=some (undef,s2)) ((zC _ _ _).put.rw.ld zU (k:=0) rfl:lz s2 3 (qe Z.y 0) (iV nG)) h3 (w64 u3) h4 (an6 ((zC _ _ _).put.rw.ld zU (k:=1) rfl:lz s2 3 (qe Z.y 1) (iV nA)) h5 ((zC _ _ _).put.rw.ld zU (k:=2) rfl:lz s2 3 (qe Z.y 2) (iV nB)) ((zC _ _ _).put.rw.ld zU (k:=1) rfl:lz s2 3 (qe Z.y 1) (iV nA)) ((zC _ _ _).put.rw.ld zU (k:=3) rfl:lz s2 3 (qe Z.y 3) (iV nD)) h6 f))) nx
theorem yUS:let s1:=Z.row (zF 0 0 0 0 0) 5;let s2:=s1.own Z.y (zF nG nA nB nD nF) 5;∀ (h1:lz Z 22 (qe BA 1) (.slice (some dc) lA cE)) (h2:lz Z 92 (zL dc (Int.toNat aV*5)) (qf (zF nG nA nB nD nF))) (h3:lz s2 3 (qe BA 0) (iV nK)) (h4:qm 33 [iV nG,iV 0,iV (nK-1)] s2 (.bool true) s2) (h5:qm 33 [iV nA,iV 0,iV 1439] s2 (.bool false) s2) (nx:Qr (1:Int) s2) (u1:aV<(lA:Int):=by omega) (u2:Ix aV lA:=by omega) (u3:I6 (nK-1):=by omega),zAS BA aV Z Nx Qr Q0:=
 let s1:=Z.row (zF 0 0 0 0 0) 5;let s2:=s1.own Z.y (zF nG nA nB nD nF) 5;fun h1 h2 h3 h4 h5 nx u1 u2 u3=>kO 1 (1:Int) [.g,.g,.l (.slice (some dc) lA cE),.g,.b true,.g,.l (.slice (some dc) lA cE),.g,.i,.l (qf (zF nG nA nB nD nF)),.g,.e undef s2,.g,.l (iV nG),.g,.l (iV nK),.n (nK-1),.c (.bool true) s2,.g,.g,.g,.l (iV nA),.c (.bool false) s2,.g,.g,.g,.g,.g,.g,.g,.g,.g] (fun _ f=>an6 h1 (zR u1) h1 u2 h2 ((zC _ _ _).store (vs:=(zF nG nA nB nD nF)) rfl zJA rfl (nle rfl) rfl:qn (evL [pq Z.y 0,qf (zF nG nA nB nD nF)]) s1 (.store 92 (.tmp 0) (.tmp 1))=some (undef,s2)) (an6 ((zC _ _ _).put.rw.ld zU (k:=0) rfl:lz s2 3 (qe Z.y 0) (iV nG)) h3 (w64 u3) h4 ((zC _ _ _).put.rw.ld zU (k:=1) rfl:lz s2 3 (qe Z.y 1) (iV nA)) h5 f)) nx
theorem yUR:let s1:=Z.row (zF 0 0 0 0 0) 5;let s2:=s1.own Z.y (zF nG nA nB nD nF) 5;∀ (h1:lz Z 22 (qe BA 1) (.slice (some dc) lA cE)) (h2:lz Z 92 (zL dc (Int.toNat aV*5)) (qf (zF nG nA nB nD nF))) (h3:lz s2 3 (qe BA 0) (iV nK)) (h4:qm 33 [iV nG,iV 0,iV (nK-1)] s2 (.bool false) s2) (nx:Qr (1:Int) s2) (u1:aV<(lA:Int):=by omega) (u2:Ix aV lA:=by omega) (u3:I6 (nK-1):=by omega),zAS BA aV Z Nx Qr Q0:=
 let s1:=Z.row (zF 0 0 0 0 0) 5;let s2:=s1.own Z.y (zF nG nA nB nD nF) 5;fun h1 h2 h3 h4 nx u1 u2 u3=>kO 1 (1:Int) [.g,.g,.l (.slice (some dc) lA cE),.g,.b true,.g,.l (.slice (some dc) lA cE),.g,.i,.l (qf (zF nG nA nB nD nF)),.g,.e undef s2,.g,.l (iV nG),.g,.l (iV nK),.n (nK-1),.c (.bool false) s2,.g,.g,.g,.g,.g,.g,.g,.g,.g,.g] (fun _ f=>an4 h1 (zR u1) h1 u2 (an6 h2 ((zC _ _ _).store (vs:=(zF nG nA nB nD nF)) rfl zJA rfl (nle rfl) rfl:qn (evL [pq Z.y 0,qf (zF nG nA nB nD nF)]) s1 (.store 92 (.tmp 0) (.tmp 1))=some (undef,s2)) ((zC _ _ _).put.rw.ld zU (k:=0) rfl:lz s2 3 (qe Z.y 0) (iV nG)) h3 (w64 u3) h4 f)) nx
theorem yUQ (h1:lz Z 22 (qe BA 1) (.slice qD lA cE)) (nx:Q0 Z) (u1:¬ aV<(lA:Int):=by omega):zAS BA aV Z Nx Qr Q0 :=
 kO 2 () [.g,.g,.l (.slice qD lA cE),.g,.b false] (fun _ f=>an2 h1 (zT u1) f) nx
theorem xEK:let s1:=Z.row (wkc ak af ac ad ae aa ab am ar ah) 6;∀ (h1:qm 33 [iV ak,iV 1,iV 7] s1 (.bool true) s1) (h2:qm 33 [iV am,iV 0,iV 3000] s1 (.bool true) s1) (h3:qm 33 [iV ar,iV 1,iV 14] s1 (.bool true) s1) (h4:qm 33 [iV ah,iV 0,iV 20000] s1 (.bool true) s1) (hL:yEQ Z.y 0 s1 Pr P0) (kr:∀ i2_1' Z',Pr i2_1' Z'->zUO Z.y i2_1' Z' Q) (k0:∀ Z',P0 Z'->zUP Z.y Z' Q) (u1:¬ 12<(ac:Int):=by omega) (u2:¬ 6<(aa:Int):=by omega),qg 55 [qf (wkc ak af ac ad ae aa ab am ar ah)] Z Q:=
 let s1:=Z.row (wkc ak af ac ad ae aa ab am ar ah) 6;fun h1 h2 h3 h4 hL kr k0 u1 u2=>zG [.g,.g,.g,.l (.slice af ac ad),.g,.b false,.g,.g,.l (.slice ae aa ab),.g,.b false,.g,.g,.l (iV ak),.c (.bool true) s1,.g,.g,.g,.l (iV am),.c (.bool true) s1,.g,.g,.g,.g,.l (iV ar),.c (.bool true) s1,.g,.g,.g,.g,.l (iV ah),.c (.bool true) s1,.g,.g,.g,.lf 145 (zFY Z.y 0) [zJR Z.y Pr,zJS Z.y P0]] (kd (an6 ((zC _ _ _).rw.ld zAF (k:=1) rfl:lz s1 22 (qe Z.y 1) (.slice af ac ad)) (zT u1) ((zC _ _ _).rw.ld zCZ (k:=2) rfl:lz s1 23 (qe Z.y 2) (.slice ae aa ab)) (zT u2) ((zC _ _ _).rw.ld zU (k:=0) rfl:lz s1 3 (qe Z.y 0) (iV ak)) h1 (an6 ((zC _ _ _).rw.ld zU (k:=3) rfl:lz s1 3 (qe Z.y 3) (iV am)) h2 ((zC _ _ _).rw.ld zU (k:=4) rfl:lz s1 3 (qe Z.y 4) (iV ar)) h3 ((zC _ _ _).rw.ld zU (k:=5) rfl:lz s1 3 (qe Z.y 5) (iV ah)) h4 (ai (ai tt (ai (arf (zFY Z.y 0)) hL)) (ai (kz1 kr) (ai (kz0 k0) trivial))))))
theorem xEJ:let s1:=Z.row (wkc ak af ac ad ae aa ab am ar ah) 6;∀ (h1:qm 33 [iV ak,iV 1,iV 7] s1 (.bool true) s1) (h2:qm 33 [iV am,iV 0,iV 3000] s1 (.bool true) s1) (h3:qm 33 [iV ar,iV 1,iV 14] s1 (.bool true) s1) (h4:qm 33 [iV ah,iV 0,iV 20000] s1 (.bool false) s1) (nx:Q (iV 1) s1) (u1:¬ 12<(ac:Int):=by omega) (u2:¬ 6<(aa:Int):=by omega),qg 55 [qf (wkc ak af ac ad ae aa ab am ar ah)] Z Q:=
 let s1:=Z.row (wkc ak af ac ad ae aa ab am ar ah) 6;fun h1 h2 h3 h4 nx u1 u2=>zG [.g,.g,.g,.l (.slice af ac ad),.g,.b false,.g,.g,.l (.slice ae aa ab),.g,.b false,.g,.g,.l (iV ak),.c (.bool true) s1,.g,.g,.g,.l (iV am),.c (.bool true) s1,.g,.g,.g,.g,.l (iV ar),.c (.bool true) s1,.g,.g,.g,.g,.l (iV ah),.c (.bool false) s1,.g,.g,.g] (kd (an6 ((zC _ _ _).rw.ld zAF (k:=1) rfl:lz s1 22 (qe Z.y 1) (.slice af ac ad)) (zT u1) ((zC _ _ _).rw.ld zCZ (k:=2) rfl:lz s1 23 (qe Z.y 2) (.slice ae aa ab)) (zT u2) ((zC _ _ _).rw.ld zU (k:=0) rfl:lz s1 3 (qe Z.y 0) (iV ak)) h1 (an6 ((zC _ _ _).rw.ld zU (k:=3) rfl:lz s1 3 (qe Z.y 3) (iV am)) h2 ((zC _ _ _).rw.ld zU (k:=4) rfl:lz s1 3 (qe Z.y 4) (iV ar)) h3 ((zC _ _ _).rw.ld zU (k:=5) rfl:lz s1 3 (qe Z.y 5) (iV ah)) h4 nx)))
theorem xEI:let s1:=Z.row (wkc ak af ac ad ae aa ab am ar ah) 6;∀ (h1:qm 33 [iV ak,iV 1,iV 7] s1 (.bool true) s1) (h2:qm 33 [iV am,iV 0,iV 3000] s1 (.bool true) s1) (h3:qm 33 [iV ar,iV 1,iV 14] s1 (.bool false) s1) (nx:Q (iV 1) s1) (u1:¬ 12<(ac:Int):=by omega) (u2:¬ 6<(aa:Int):=by omega),qg 55 [qf (wkc ak af ac ad ae aa ab am ar ah)] Z Q:=
 let s1:=Z.row (wkc ak af ac ad ae aa ab am ar ah) 6;fun h1 h2 h3 nx u1 u2=>zG [.g,.g,.g,.l (.slice af ac ad),.g,.b false,.g,.g,.l (.slice ae aa ab),.g,.b false,.g,.g,.l (iV ak),.c (.bool true) s1,.g,.g,.g,.l (iV am),.c (.bool true) s1,.g,.g,.g,.g,.l (iV ar),.c (.bool false) s1,.g,.g,.g,.g,.g] (kd (an4 ((zC _ _ _).rw.ld zAF (k:=1) rfl:lz s1 22 (qe Z.y 1) (.slice af ac ad)) (zT u1) ((zC _ _ _).rw.ld zCZ (k:=2) rfl:lz s1 23 (qe Z.y 2) (.slice ae aa ab)) (zT u2) (an6 ((zC _ _ _).rw.ld zU (k:=0) rfl:lz s1 3 (qe Z.y 0) (iV ak)) h1 ((zC _ _ _).rw.ld zU (k:=3) rfl:lz s1 3 (qe Z.y 3) (iV am)) h2 ((zC _ _ _).rw.ld zU (k:=4) rfl:lz s1 3 (qe Z.y 4) (iV ar)) h3 nx)))
theorem xEH:let s1:=Z.row (wkc ak af ac ad ae aa ab am ar ah) 6;∀ (h1:qm 33 [iV ak,iV 1,iV 7] s1 (.bool true) s1) (h2:qm 33 [iV am,iV 0,iV 3000] s1 (.bool false) s1) (nx:Q (iV 1) s1) (u1:¬ 12<(ac:Int):=by omega) (u2:¬ 6<(aa:Int):=by omega),qg 55 [qf (wkc ak af ac ad ae aa ab am ar ah)] Z Q:=
 let s1:=Z.row (wkc ak af ac ad ae aa ab am ar ah) 6;fun h1 h2 nx u1 u2=>zG [.g,.g,.g,.l (.slice af ac ad),.g,.b false,.g,.g,.l (.slice ae aa ab),.g,.b false,.g,.g,.l (iV ak),.c (.bool true) s1,.g,.g,.g,.l (iV am),.c (.bool false) s1,.g,.g,.g,.g,.g,.g,.g] (kd (an2 ((zC _ _ _).rw.ld zAF (k:=1) rfl:lz s1 22 (qe Z.y 1) (.slice af ac ad)) (zT u1) (an6 ((zC _ _ _).rw.ld zCZ (k:=2) rfl:lz s1 23 (qe Z.y 2) (.slice ae aa ab)) (zT u2) ((zC _ _ _).rw.ld zU (k:=0) rfl:lz s1 3 (qe Z.y 0) (iV ak)) h1 ((zC _ _ _).rw.ld zU (k:=3) rfl:lz s1 3 (qe Z.y 3) (iV am)) h2 nx)))
theorem xEG:let s1:=Z.row (wkc ak af ac ad ae aa ab am ar ah) 6;∀ (h1:qm 33 [iV ak,iV 1,iV 7] s1 (.bool false) s1) (nx:Q (iV 1) s1) (u1:¬ 12<(ac:Int):=by omega) (u2:¬ 6<(aa:Int):=by omega),qg 55 [qf (wkc ak af ac ad ae aa ab am ar ah)] Z Q:=
 let s1:=Z.row (wkc ak af ac ad ae aa ab am ar ah) 6;fun h1 nx u1 u2=>zG [.g,.g,.g,.l (.slice af ac ad),.g,.b false,.g,.g,.l (.slice ae aa ab),.g,.b false,.g,.g,.l (iV ak),.c (.bool false) s1,.g,.g,.g,.g,.g,.g,.g,.g] (kd (an6 ((zC _ _ _).rw.ld zAF (k:=1) rfl:lz s1 22 (qe Z.y 1) (.slice af ac ad)) (zT u1) ((zC _ _ _).rw.ld zCZ (k:=2) rfl:lz s1 23 (qe Z.y 2) (.slice ae aa ab)) (zT u2) ((zC _ _ _).rw.ld zU (k:=0) rfl:lz s1 3 (qe Z.y 0) (iV ak)) h1 nx))
theorem yIZ (nx:Q (iV aI) Z):zUO BA aI Z Q :=
 sK [] nx
theorem yJB (hb:∀ k dN Z,Inv k dN Z->uQ BA dN Z (NX1 Inv k) Qr Q2):∀ k dN Z,Inv k dN Z->yEP BA dN Z Qr Q2 :=
 xF (ai zAR (ai (xX 2) trivial)) hb
theorem yUP:let s1:=Z.row (zO none 0 0 none 0 0 none 0 0 0 0 0) 6;let s2:=s1.own Z.y (zO qB lE cB qA lB cA qC lF cD nH nI nJ) 6;∀ (h1:lz Z 23 (qe BA 2) (.slice (some eI) lI cJ)) (h2:lz Z 76 (zL eI (Int.toNat dN*6)) (qf (zO qB lE cB qA lB cA qC lF cD nH nI nJ))) (h3:qm 42 [.slice qB lE cB,iV 0,iV 15] s2 (.bool true) s2) (h4:lz s2 3 (qe BA 0) (iV nN)) (h5:qm 42 [.slice qA lB cA,iV 0,iV (nN-1)] s2 (.bool true) s2) (h6:qm 42 [.slice qC lF cD,iV 0,iV (nN-1)] s2 (.bool true) s2) (h7:qm 33 [iV nH,iV (-10080),iV 1440] s2 (.bool true) s2) (h8:qm 33 [iV nI,iV 0,iV 14] s2 (.bool true) s2) (h9:lz s2 3 (qe BA 5) (iV nBD)) (h10:qm 33 [iV nJ,iV 0,iV nBD] s2 (.bool true) s2) (nx:Nx (dN+1) s2) (u1:dN<(lI:Int):=by omega) (u2:Ix dN lI:=by omega) (u3:I6 (nN-1):=by omega) (u4:I6 (dN+1):=by omega),uQ BA dN Z Nx Qr Q2:=
 let s1:=Z.row (zO none 0 0 none 0 0 none 0 0 0 0 0) 6;let s2:=s1.own Z.y (zO qB lE cB qA lB cA qC lF cD nH nI nJ) 6;fun h1 h2 h3 h4 h5 h6 h7 h8 h9 h10 nx u1 u2 u3 u4=>kO 0 (dN+1) [.g,.g,.l (.slice (some eI) lI cJ),.g,.b true,.g,.l (.slice (some eI) lI cJ),.g,.i,.l (qf (zO qB lE cB qA lB cA qC lF cD nH nI nJ)),.g,.e undef s2,.g,.l (.slice qB lE cB),.c (.bool true) s2,.g,.g,.g,.l (.slice qA lB cA),.g,.l (iV nN),.n (nN-1),.c (.bool true) s2,.g,.g,.g,.g,.l (.slice qC lF cD),.g,.l (iV nN),.n (nN-1),.c (.bool true) s2,.g,.g,.g,.g,.l (iV nH),.c (.bool true) s2,.g,.g,.g,.g,.l (iV nI),.c (.bool true) s2,.g,.g,.g,.g,.l (iV nJ),.g,.l (iV nBD),.c (.bool true) s2,.g,.g,.g,.n (dN+1),.g] (fun _ f=>an6 h1 (zR u1) h1 u2 h2 ((zC _ _ _).store (vs:=(zO qB lE cB qA lB cA qC lF cD nH nI nJ)) rfl zAI rfl (nle rfl) rfl:qn (evL [pq Z.y 0,qf (zO qB lE cB qA lB cA qC lF cD nH nI nJ)]) s1 (.store 76 (.tmp 0) (.tmp 1))=some (undef,s2)) (an6 ((zC _ _ _).put.rw.ld yZ (k:=0) rfl:lz s2 26 (qe Z.y 0) (.slice qB lE cB)) h3 ((zC _ _ _).put.rw.ld yZ (k:=1) rfl:lz s2 26 (qe Z.y 1) (.slice qA lB cA)) h4 (w64 u3) h5 (an6 ((zC _ _ _).put.rw.ld yZ (k:=2) rfl:lz s2 26 (qe Z.y 2) (.slice qC lF cD)) h4 (w64 u3) h6 ((zC _ _ _).put.rw.ld zU (k:=3) rfl:lz s2 3 (qe Z.y 3) (iV nH)) h7 (an6 ((zC _ _ _).put.rw.ld zU (k:=4) rfl:lz s2 3 (qe Z.y 4) (iV nI)) h8 ((zC _ _ _).put.rw.ld zU (k:=5) rfl:lz s2 3 (qe Z.y 5) (iV nJ)) h9 h10 (w64 u4) f)))) nx
theorem yUO:let s1:=Z.row (zO none 0 0 none 0 0 none 0 0 0 0 0) 6;let s2:=s1.own Z.y (zO qB lE cB qA lB cA qC lF cD nH nI nJ) 6;∀ (h1:lz Z 23 (qe BA 2) (.slice (some eI) lI cJ)) (h2:lz Z 76 (zL eI (Int.toNat dN*6)) (qf (zO qB lE cB qA lB cA qC lF cD nH nI nJ))) (h3:qm 42 [.slice qB lE cB,iV 0,iV 15] s2 (.bool true) s2) (h4:lz s2 3 (qe BA 0) (iV nN)) (h5:qm 42 [.slice qA lB cA,iV 0,iV (nN-1)] s2 (.bool true) s2) (h6:qm 42 [.slice qC lF cD,iV 0,iV (nN-1)] s2 (.bool true) s2) (h7:qm 33 [iV nH,iV (-10080),iV 1440] s2 (.bool true) s2) (h8:qm 33 [iV nI,iV 0,iV 14] s2 (.bool true) s2) (h9:lz s2 3 (qe BA 5) (iV nBD)) (h10:qm 33 [iV nJ,iV 0,iV nBD] s2 (.bool false) s2) (nx:Qr (1:Int) s2) (u1:dN<(lI:Int):=by omega) (u2:Ix dN lI:=by omega) (u3:I6 (nN-1):=by omega),uQ BA dN Z Nx Qr Q2:=
 let s1:=Z.row (zO none 0 0 none 0 0 none 0 0 0 0 0) 6;let s2:=s1.own Z.y (zO qB lE cB qA lB cA qC lF cD nH nI nJ) 6;fun h1 h2 h3 h4 h5 h6 h7 h8 h9 h10 nx u1 u2 u3=>kO 1 (1:Int) [.g,.g,.l (.slice (some eI) lI cJ),.g,.b true,.g,.l (.slice (some eI) lI cJ),.g,.i,.l (qf (zO qB lE cB qA lB cA qC lF cD nH nI nJ)),.g,.e undef s2,.g,.l (.slice qB lE cB),.c (.bool true) s2,.g,.g,.g,.l (.slice qA lB cA),.g,.l (iV nN),.n (nN-1),.c (.bool true) s2,.g,.g,.g,.g,.l (.slice qC lF cD),.g,.l (iV nN),.n (nN-1),.c (.bool true) s2,.g,.g,.g,.g,.l (iV nH),.c (.bool true) s2,.g,.g,.g,.g,.l (iV nI),.c (.bool true) s2,.g,.g,.g,.g,.l (iV nJ),.g,.l (iV nBD),.c (.bool false) s2,.g,.g,.g] (fun _ f=>an5 h1 (zR u1) h1 u2 h2 (an6 ((zC _ _ _).store (vs:=(zO qB lE cB qA lB cA qC lF cD nH nI nJ)) rfl zAI rfl (nle rfl) rfl:qn (evL [pq Z.y 0,qf (zO qB lE cB qA lB cA qC lF cD nH nI nJ)]) s1 (.store 76 (.tmp 0) (.tmp 1))=some (undef,s2)) ((zC _ _ _).put.rw.ld yZ (k:=0) rfl:lz s2 26 (qe Z.y 0) (.slice qB lE cB)) h3 ((zC _ _ _).put.rw.ld yZ (k:=1) rfl:lz s2 26 (qe Z.y 1) (.slice qA lB cA)) h4 (w64 u3) (an6 h5 ((zC _ _ _).put.rw.ld yZ (k:=2) rfl:lz s2 26 (qe Z.y 2) (.slice qC lF cD)) h4 (w64 u3) h6 ((zC _ _ _).put.rw.ld zU (k:=3) rfl:lz s2 3 (qe Z.y 3) (iV nH)) (an6 h7 ((zC _ _ _).put.rw.ld zU (k:=4) rfl:lz s2 3 (qe Z.y 4) (iV nI)) h8 ((zC _ _ _).put.rw.ld zU (k:=5) rfl:lz s2 3 (qe Z.y 5) (iV nJ)) h9 h10 f)))) nx
theorem yUN:let s1:=Z.row (zO none 0 0 none 0 0 none 0 0 0 0 0) 6;let s2:=s1.own Z.y (zO qB lE cB qA lB cA qC lF cD nH nI nJ) 6;∀ (h1:lz Z 23 (qe BA 2) (.slice (some eI) lI cJ)) (h2:lz Z 76 (zL eI (Int.toNat dN*6)) (qf (zO qB lE cB qA lB cA qC lF cD nH nI nJ))) (h3:qm 42 [.slice qB lE cB,iV 0,iV 15] s2 (.bool true) s2) (h4:lz s2 3 (qe BA 0) (iV nN)) (h5:qm 42 [.slice qA lB cA,iV 0,iV (nN-1)] s2 (.bool true) s2) (h6:qm 42 [.slice qC lF cD,iV 0,iV (nN-1)] s2 (.bool true) s2) (h7:qm 33 [iV nH,iV (-10080),iV 1440] s2 (.bool true) s2) (h8:qm 33 [iV nI,iV 0,iV 14] s2 (.bool false) s2) (nx:Qr (1:Int) s2) (u1:dN<(lI:Int):=by omega) (u2:Ix dN lI:=by omega) (u3:I6 (nN-1):=by omega),uQ BA dN Z Nx Qr Q2:=
 let s1:=Z.row (zO none 0 0 none 0 0 none 0 0 0 0 0) 6;let s2:=s1.own Z.y (zO qB lE cB qA lB cA qC lF cD nH nI nJ) 6;fun h1 h2 h3 h4 h5 h6 h7 h8 nx u1 u2 u3=>kO 1 (1:Int) [.g,.g,.l (.slice (some eI) lI cJ),.g,.b true,.g,.l (.slice (some eI) lI cJ),.g,.i,.l (qf (zO qB lE cB qA lB cA qC lF cD nH nI nJ)),.g,.e undef s2,.g,.l (.slice qB lE cB),.c (.bool true) s2,.g,.g,.g,.l (.slice qA lB cA),.g,.l (iV nN),.n (nN-1),.c (.bool true) s2,.g,.g,.g,.g,.l (.slice qC lF cD),.g,.l (iV nN),.n (nN-1),.c (.bool true) s2,.g,.g,.g,.g,.l (iV nH),.c (.bool true) s2,.g,.g,.g,.g,.l (iV nI),.c (.bool false) s2,.g,.g,.g,.g,.g] (fun _ f=>an2 h1 (zR u1) (an6 h1 u2 h2 ((zC _ _ _).store (vs:=(zO qB lE cB qA lB cA qC lF cD nH nI nJ)) rfl zAI rfl (nle rfl) rfl:qn (evL [pq Z.y 0,qf (zO qB lE cB qA lB cA qC lF cD nH nI nJ)]) s1 (.store 76 (.tmp 0) (.tmp 1))=some (undef,s2)) ((zC _ _ _).put.rw.ld yZ (k:=0) rfl:lz s2 26 (qe Z.y 0) (.slice qB lE cB)) h3 (an6 ((zC _ _ _).put.rw.ld yZ (k:=1) rfl:lz s2 26 (qe Z.y 1) (.slice qA lB cA)) h4 (w64 u3) h5 ((zC _ _ _).put.rw.ld yZ (k:=2) rfl:lz s2 26 (qe Z.y 2) (.slice qC lF cD)) h4 (an6 (w64 u3) h6 ((zC _ _ _).put.rw.ld zU (k:=3) rfl:lz s2 3 (qe Z.y 3) (iV nH)) h7 ((zC _ _ _).put.rw.ld zU (k:=4) rfl:lz s2 3 (qe Z.y 4) (iV nI)) h8 f)))) nx
theorem yUM:let s1:=Z.row (zO none 0 0 none 0 0 none 0 0 0 0 0) 6;let s2:=s1.own Z.y (zO qB lE cB qA lB cA qC lF cD nH nI nJ) 6;∀ (h1:lz Z 23 (qe BA 2) (.slice (some eI) lI cJ)) (h2:lz Z 76 (zL eI (Int.toNat dN*6)) (qf (zO qB lE cB qA lB cA qC lF cD nH nI nJ))) (h3:qm 42 [.slice qB lE cB,iV 0,iV 15] s2 (.bool true) s2) (h4:lz s2 3 (qe BA 0) (iV nN)) (h5:qm 42 [.slice qA lB cA,iV 0,iV (nN-1)] s2 (.bool true) s2) (h6:qm 42 [.slice qC lF cD,iV 0,iV (nN-1)] s2 (.bool true) s2) (h7:qm 33 [iV nH,iV (-10080),iV 1440] s2 (.bool false) s2) (nx:Qr (1:Int) s2) (u1:dN<(lI:Int):=by omega) (u2:Ix dN lI:=by omega) (u3:I6 (nN-1):=by omega),uQ BA dN Z Nx Qr Q2:=
 let s1:=Z.row (zO none 0 0 none 0 0 none 0 0 0 0 0) 6;let s2:=s1.own Z.y (zO qB lE cB qA lB cA qC lF cD nH nI nJ) 6;fun h1 h2 h3 h4 h5 h6 h7 nx u1 u2 u3=>kO 1 (1:Int) [.g,.g,.l (.slice (some eI) lI cJ),.g,.b true,.g,.l (.slice (some eI) lI cJ),.g,.i,.l (qf (zO qB lE cB qA lB cA qC lF cD nH nI nJ)),.g,.e undef s2,.g,.l (.slice qB lE cB),.c (.bool true) s2,.g,.g,.g,.l (.slice qA lB cA),.g,.l (iV nN),.n (nN-1),.c (.bool true) s2,.g,.g,.g,.g,.l (.slice qC lF cD),.g,.l (iV nN),.n (nN-1),.c (.bool true) s2,.g,.g,.g,.g,.l (iV nH),.c (.bool false) s2,.g,.g,.g,.g,.g,.g,.g] (fun _ f=>an6 h1 (zR u1) h1 u2 h2 ((zC _ _ _).store (vs:=(zO qB lE cB qA lB cA qC lF cD nH nI nJ)) rfl zAI rfl (nle rfl) rfl:qn (evL [pq Z.y 0,qf (zO qB lE cB qA lB cA qC lF cD nH nI nJ)]) s1 (.store 76 (.tmp 0) (.tmp 1))=some (undef,s2)) (an6 ((zC _ _ _).put.rw.ld yZ (k:=0) rfl:lz s2 26 (qe Z.y 0) (.slice qB lE cB)) h3 ((zC _ _ _).put.rw.ld yZ (k:=1) rfl:lz s2 26 (qe Z.y 1) (.slice qA lB cA)) h4 (w64 u3) h5 (an6 ((zC _ _ _).put.rw.ld yZ (k:=2) rfl:lz s2 26 (qe Z.y 2) (.slice qC lF cD)) h4 (w64 u3) h6 ((zC _ _ _).put.rw.ld zU (k:=3) rfl:lz s2 3 (qe Z.y 3) (iV nH)) h7 f))) nx
theorem yUL:let s1:=Z.row (zO none 0 0 none 0 0 none 0 0 0 0 0) 6;let s2:=s1.own Z.y (zO qB lE cB qA lB cA qC lF cD nH nI nJ) 6;∀ (h1:lz Z 23 (qe BA 2) (.slice (some eI) lI cJ)) (h2:lz Z 76 (zL eI (Int.toNat dN*6)) (qf (zO qB lE cB qA lB cA qC lF cD nH nI nJ))) (h3:qm 42 [.slice qB lE cB,iV 0,iV 15] s2 (.bool true) s2) (h4:lz s2 3 (qe BA 0) (iV nN)) (h5:qm 42 [.slice qA lB cA,iV 0,iV (nN-1)] s2 (.bool true) s2) (h6:qm 42 [.slice qC lF cD,iV 0,iV (nN-1)] s2 (.bool false) s2) (nx:Qr (1:Int) s2) (u1:dN<(lI:Int):=by omega) (u2:Ix dN lI:=by omega) (u3:I6 (nN-1):=by omega),uQ BA dN Z Nx Qr Q2:=
 let s1:=Z.row (zO none 0 0 none 0 0 none 0 0 0 0 0) 6;let s2:=s1.own Z.y (zO qB lE cB qA lB cA qC lF cD nH nI nJ) 6;fun h1 h2 h3 h4 h5 h6 nx u1 u2 u3=>kO 1 (1:Int) [.g,.g,.l (.slice (some eI) lI cJ),.g,.b true,.g,.l (.slice (some eI) lI cJ),.g,.i,.l (qf (zO qB lE cB qA lB cA qC lF cD nH nI nJ)),.g,.e undef s2,.g,.l (.slice qB lE cB),.c (.bool true) s2,.g,.g,.g,.l (.slice qA lB cA),.g,.l (iV nN),.n (nN-1),.c (.bool true) s2,.g,.g,.g,.g,.l (.slice qC lF cD),.g,.l (iV nN),.n (nN-1),.c (.bool false) s2,.g,.g,.g,.g,.g,.g,.g,.g,.g] (fun _ f=>an4 h1 (zR u1) h1 u2 (an6 h2 ((zC _ _ _).store (vs:=(zO qB lE cB qA lB cA qC lF cD nH nI nJ)) rfl zAI rfl (nle rfl) rfl:qn (evL [pq Z.y 0,qf (zO qB lE cB qA lB cA qC lF cD nH nI nJ)]) s1 (.store 76 (.tmp 0) (.tmp 1))=some (undef,s2)) ((zC _ _ _).put.rw.ld yZ (k:=0) rfl:lz s2 26 (qe Z.y 0) (.slice qB lE cB)) h3 ((zC _ _ _).put.rw.ld yZ (k:=1) rfl:lz s2 26 (qe Z.y 1) (.slice qA lB cA)) h4 (an6 (w64 u3) h5 ((zC _ _ _).put.rw.ld yZ (k:=2) rfl:lz s2 26 (qe Z.y 2) (.slice qC lF cD)) h4 (w64 u3) h6 f))) nx
theorem yUK:let s1:=Z.row (zO none 0 0 none 0 0 none 0 0 0 0 0) 6;let s2:=s1.own Z.y (zO qB lE cB qA lB cA qC lF cD nH nI nJ) 6;∀ (h1:lz Z 23 (qe BA 2) (.slice (some eI) lI cJ)) (h2:lz Z 76 (zL eI (Int.toNat dN*6)) (qf (zO qB lE cB qA lB cA qC lF cD nH nI nJ))) (h3:qm 42 [.slice qB lE cB,iV 0,iV 15] s2 (.bool true) s2) (h4:lz s2 3 (qe BA 0) (iV nN)) (h5:qm 42 [.slice qA lB cA,iV 0,iV (nN-1)] s2 (.bool false) s2) (nx:Qr (1:Int) s2) (u1:dN<(lI:Int):=by omega) (u2:Ix dN lI:=by omega) (u3:I6 (nN-1):=by omega),uQ BA dN Z Nx Qr Q2:=
 let s1:=Z.row (zO none 0 0 none 0 0 none 0 0 0 0 0) 6;let s2:=s1.own Z.y (zO qB lE cB qA lB cA qC lF cD nH nI nJ) 6;fun h1 h2 h3 h4 h5 nx u1 u2 u3=>kO 1 (1:Int) [.g,.g,.l (.slice (some eI) lI cJ),.g,.b true,.g,.l (.slice (some eI) lI cJ),.g,.i,.l (qf (zO qB lE cB qA lB cA qC lF cD nH nI nJ)),.g,.e undef s2,.g,.l (.slice qB lE cB),.c (.bool true) s2,.g,.g,.g,.l (.slice qA lB cA),.g,.l (iV nN),.n (nN-1),.c (.bool false) s2,.g,.g,.g,.g,.g,.g,.g,.g,.g,.g,.g] (fun _ f=>an6 h1 (zR u1) h1 u2 h2 ((zC _ _ _).store (vs:=(zO qB lE cB qA lB cA qC lF cD nH nI nJ)) rfl zAI rfl (nle rfl) rfl:qn (evL [pq Z.y 0,qf (zO qB lE cB qA lB cA qC lF cD nH nI nJ)]) s1 (.store 76 (.tmp 0) (.tmp 1))=some (undef,s2)) (an6 ((zC _ _ _).put.rw.ld yZ (k:=0) rfl:lz s2 26 (qe Z.y 0) (.slice qB lE cB)) h3 ((zC _ _ _).put.rw.ld yZ (k:=1) rfl:lz s2 26 (qe Z.y 1) (.slice qA lB cA)) h4 (w64 u3) h5 f)) nx
theorem yUJ:let s1:=Z.row (zO none 0 0 none 0 0 none 0 0 0 0 0) 6;let s2:=s1.own Z.y (zO qB lE cB qA lB cA qC lF cD nH nI nJ) 6;∀ (h1:lz Z 23 (qe BA 2) (.slice (some eI) lI cJ)) (h2:lz Z 76 (zL eI (Int.toNat dN*6)) (qf (zO qB lE cB qA lB cA qC lF cD nH nI nJ))) (h3:qm 42 [.slice qB lE cB,iV 0,iV 15] s2 (.bool false) s2) (nx:Qr (1:Int) s2) (u1:dN<(lI:Int):=by omega) (u2:Ix dN lI:=by omega),uQ BA dN Z Nx Qr Q2:=
 let s1:=Z.row (zO none 0 0 none 0 0 none 0 0 0 0 0) 6;let s2:=s1.own Z.y (zO qB lE cB qA lB cA qC lF cD nH nI nJ) 6;fun h1 h2 h3 nx u1 u2=>kO 1 (1:Int) [.g,.g,.l (.slice (some eI) lI cJ),.g,.b true,.g,.l (.slice (some eI) lI cJ),.g,.i,.l (qf (zO qB lE cB qA lB cA qC lF cD nH nI nJ)),.g,.e undef s2,.g,.l (.slice qB lE cB),.c (.bool false) s2,.g,.g,.g,.g,.g,.g,.g,.g,.g,.g,.g,.g] (fun _ f=>an2 h1 (zR u1) (an6 h1 u2 h2 ((zC _ _ _).store (vs:=(zO qB lE cB qA lB cA qC lF cD nH nI nJ)) rfl zAI rfl (nle rfl) rfl:qn (evL [pq Z.y 0,qf (zO qB lE cB qA lB cA qC lF cD nH nI nJ)]) s1 (.store 76 (.tmp 0) (.tmp 1))=some (undef,s2)) ((zC _ _ _).put.rw.ld yZ (k:=0) rfl:lz s2 26 (qe Z.y 0) (.slice qB lE cB)) h3 f)) nx
theorem yUI (h1:lz Z 23 (qe BA 2) (.slice qI lI cJ)) (nx:Q2 Z) (u1:¬ dN<(lI:Int):=by omega):uQ BA dN Z Nx Qr Q2 :=
 kO 2 () [.g,.g,.l (.slice qI lI cJ),.g,.b false] (fun _ f=>an2 h1 (zT u1) f) nx
theorem yJA (hL:yEP BA 0 Z Pr P2) (kr:∀ i2_2' Z',Pr i2_2' Z'->zUM BA i2_2' Z' Q) (k2:∀ Z',P2 Z'->zUN BA Z' Q):zUP BA Z Q :=
 sK [.g,.lf 145 (zFX BA 0) [zJP BA Pr,zJQ BA P2]] (ai (ai tt (ai (arf (zFX BA 0)) hL)) (ai (kz1 kr) (ai (kz0 k2) trivial)))
theorem yIX (nx:Q (iV i2_2) Z):zUM BA i2_2 Z Q :=
 sK [] nx
theorem yIY (nx:Q (iV 0) Z):zUN BA Z Q :=
 sK [.g] nx
end
def vU (w:Wk) (d:Dty):Bool:=inB d.day 0 (w.days-1) && (inB d.on 0 1439 && (inB d.lo d.on d.hi && (!decide (d.on+1440<d.hi) && inB d.route 0 15)))
def zAU (w:Wk) (x:Drv):Bool:=wG x.knows 0 15 && (wG x.leave 0 (w.days-1) && (wG x.wish 0 (w.days-1) && (inB x.off (-10080) 1440 && (inB x.row 0 14 && inB x.used 0 w.hours))))
def vL (w:Wk):Bool:=inB w.days 1 7 && (inB w.rest 0 3000 && (inB w.run 1 14 && inB w.hours 0 20000))
def yY (w:Wk):Int:=if 12<w.duties.length\/6<w.drivers.length then 3 else if vL w && (w.duties.all (vU w) && w.drivers.all (zAU w)) then 0 else 1
theorem zRI {α:Type} {xs:List α} {i:Nat} {f:α->Bool} {x:α} (h:xs[i]?=some x) (ha:(xs.take i).all f=true) (hf:f x=true):(xs.take (i+1)).all f=true:=by
 rw [wA h,List.all_append,ha];simp [hf]
theorem yBY {α:Type} {xs:List α} {f:α->Bool} {x:α} (h:x∈xs) (hf:f x=false):xs.all f=false:=by
 cases ha:xs.all f with
 | false=>rfl
 | true=>rw [List.all_eq_true.1 ha x h] at hf;cases hf
def zAG (w:Wk):Prop:=∀ x∈w.drivers,x.knows.length<=1000/\x.leave.length<=1000/\x.wish.length<=1000
section
variable {Z:St} {w:Wk} {p q:Option Addr} {l m c d:Nat}
theorem xKX (h:WkP Z 92 76 w p l q m) (hsh:zAG w):zD Tryz.prog 55 [.agg ⟨wkc w.days p l c q m d w.rest w.run w.hours⟩] Z (iV (yY w)) Z:=by
 have hwp:=h;have hn:=h.len.1;have hm:=h.len.2;by_cases h12:12<l
 ·have:yY w=3:=by unfold yY;rw [if_pos (.inl (by omega))]
  rw [this];exact (xEM ⟨rfl,Nat.le_refl _⟩ (by omega)).pure
 by_cases h6:6<m
 ·have:yY w=3:=by unfold yY;rw [if_pos (.inr (by omega))]
  rw [this];exact (xEL ⟨rfl,Nat.le_refl _⟩ (by omega) (by omega)).pure
 have hf0:yY w=if vL w && (w.duties.all (vU w) && w.drivers.all (zAU w)) then 0 else 1:=by unfold yY;rw [if_neg (by omega)]
 obtain ⟨Z1,hZ1⟩:∃ Z1,Z1=Z.re.row (wkc w.days p l c q m d w.rest w.run w.hours) 6:=⟨_,rfl⟩;have cin:∀ {τ:St} {n lo hi:Int} {b:Bool},inB n lo hi=b->zD Tryz.prog 33 [iV n,iV lo,iV hi] τ (.bool b) τ:=fun e=>e ▸ xKR
 have no:vL w=false->yY w=1:=fun e=>by rw [hf0,e];rfl
 cases b1:inB w.days 1 7 with
 | false=>rw [no (by unfold vL;rw [b1];rfl)];exact (xEG (cin b1) ⟨rfl,Nat.le_refl _⟩ (by omega) (by omega)).pure
 | true =>
 cases b2:inB w.rest 0 3000 with
 | false=>rw [no (by unfold vL;rw [b1,b2];rfl)];exact (xEH (cin b1) (cin b2) ⟨rfl,Nat.le_refl _⟩ (by omega) (by omega)).pure
 | true =>
 cases b3:inB w.run 1 14 with
 | false=>rw [no (by unfold vL;rw [b1,b2,b3];rfl)];exact (xEI (cin b1) (cin b2) (cin b3) ⟨rfl,Nat.le_refl _⟩ (by omega) (by omega)).pure
 | true =>
 cases b4:inB w.hours 0 20000 with
 | false=>rw [no (by unfold vL;rw [b1,b2,b3,b4];rfl)];exact (xEJ (cin b1) (cin b2) (cin b3) (cin b4) ⟨rfl,Nat.le_refl _⟩ (by omega) (by omega)).pure
 | true =>
 have hh:vL w=true:=by unfold vL;rw [b1,b2,b3,b4];rfl
 have hd:=vG.1 b1;have N1:New Z.re Z1:=by rw [hZ1];exact New.row _ _ _
 have L1:Le Z Z1:=(le0 Z).trans N1.le;have hW:∀ {τ},Le Z1 τ->Row τ ⟨Z.re.y,0,none⟩ (wkc w.days p l c q m d w.rest w.run w.hours):=fun {τ} hN=>by
  have:=xJ Z.re (wkc w.days p l c q m d w.rest w.run w.hours) 6;rw [<- hZ1] at this;exact this.le hN
 have nod:∀ x∈w.duties,vU w x=false->yY w=1:=fun x hx e=>by rw [hf0,yBY hx e];simp
 have nov:∀ x∈w.drivers,zAU w x=false->yY w=1:=fun x hx e=>by rw [hf0,yBY hx e];simp
 have lw1:∀ {τ:St},New Z1 τ->Z.y<=τ.low:=fun hN=>(N1.trans hN).lw
 refine zN.pure (xEK (Pr:=fun n τ=>New Z1 τ/\n=yY w) (P0:=fun τ=>New Z1 τ/\w.duties.all (vU w)=true) (cin b1) (cin b2) (cin b3) (cin b4)
  (yJC (Inv:=fun k i τ=>New Z1 τ/\∃ j:Nat,i=j/\j+k=l/\(w.duties.take j).all (vU w)=true) ?_ l 0 _ ⟨by rw [<- hZ1];exact New.refl _,0,rfl,by omega,rfl⟩)
  (fun n τ h=>yIZ ⟨by rw [h.2],lw1 h.1⟩) (fun τ h=>?_) (by omega) (by omega))
 ·rintro k i τ ⟨hN,j,rfl,hk,ha⟩;have ldD:zB Tryz.prog τ 22 ⟨Z.re.y,1,none⟩=some (.slice p l c):=(hW hN.le).ld zAF rfl;by_cases hj:j<l;rotate_left
  ·exact yUQ ldD ⟨hN,by rwa [List.take_of_length_le (by omega)] at ha⟩ (by omega)
  obtain ⟨a,rfl,x,hx,lx⟩:=wS (SlV.le h.dty (L1.trans hN.le)) hj;have hmem:=List.mem_of_getElem? hx;have hN2:New Z1 ((τ.row (zF 0 0 0 0 0) 5).own τ.y (zF x.day x.on x.lo x.hi x.route) 5):=hN.row'.own hN.le.y;have ld0:zB Tryz.prog ((τ.row (zF 0 0 0 0 0) 5).own τ.y (zF x.day x.on x.lo x.hi x.route) 5) 3 ⟨Z.re.y,0,none⟩=some (iV w.days):=(hW hN2.le).ld zU rfl;cases c1:inB x.day 0 (w.days-1) with
  | false=>exact yUR ldD lx ld0 (cin c1) ⟨hN2,(nod x hmem (by unfold vU;rw [c1];rfl)).symm⟩ (by omega) (by omega) (by omega)
  | true =>
  cases c2:inB x.on 0 1439 with
  | false=>exact yUS ldD lx ld0 (cin c1) (cin c2) ⟨hN2,(nod x hmem (by unfold vU;rw [c1,c2];rfl)).symm⟩ (by omega) (by omega) (by omega)
  | true =>
  have hon:=vG.1 c2;cases c3:inB x.lo x.on x.hi with
  | false=>exact yUT ldD lx ld0 (cin c1) (cin c2) (cin c3) ⟨hN2,(nod x hmem (by unfold vU;rw [c1,c2,c3];rfl)).symm⟩ (by omega) (by omega) (by omega)
  | true =>
  by_cases c4:x.on+1440<x.hi
  ·exact yUW ldD lx ld0 (cin c1) (cin c2) (cin c3) ⟨hN2,(nod x hmem (by unfold vU;rw [c1,c2,c3,decide_eq_true c4];rfl)).symm⟩ (by omega) (by omega) (by omega) (by omega) c4
  cases c5:inB x.route 0 15 with
  | false=>exact yUU ldD lx ld0 (cin c1) (cin c2) (cin c3) (cin c5) ⟨hN2,(nod x hmem (by unfold vU;rw [c1,c2,c3,decide_eq_false c4,c5];rfl)).symm⟩ (by omega) (by omega) (by omega) (by omega) c4
  | true=>exact yUV ldD lx ld0 (cin c1) (cin c2) (cin c3) (cin c5) ⟨k-1,by omega,hN2,j+1,by omega,by omega,zRI hx ha (by unfold vU;rw [c1,c2,c3,decide_eq_false c4,c5];rfl)⟩ (by omega) (by omega) (by omega) (by omega) c4 (by omega)
 ·obtain ⟨hN1,hdu⟩:=h;refine yJA (Pr:=fun n τ=>New Z1 τ/\n=yY w) (P2:=fun τ=>New Z1 τ/\w.drivers.all (zAU w)=true)
   (yJB (Inv:=fun k i τ=>New Z1 τ/\∃ j:Nat,i=j/\j+k=m/\(w.drivers.take j).all (zAU w)=true) ?_ m 0 _ ⟨hN1,0,rfl,by omega,rfl⟩)
   (fun n τ h=>yIX ⟨by rw [h.2],lw1 h.1⟩) (fun τ h=>yIY ⟨by rw [hf0,hh,hdu,h.2];rfl,lw1 h.1⟩)
  rintro k i τ ⟨hN,j,rfl,hk,ha⟩;have ldV:zB Tryz.prog τ 23 ⟨Z.re.y,2,none⟩=some (.slice q m d):=(hW hN.le).ld zCZ rfl;by_cases hj:j<m;rotate_left
  ·exact yUI ldV ⟨hN,by rwa [List.take_of_length_le (by omega)] at ha⟩ (by omega)
  have LL:=L1.trans hN.le;obtain ⟨vs,hv1,hv2,hv3⟩:=hwp.drv;obtain ⟨qa,rfl,_⟩:=hv1.some hj;have hx:w.drivers[j]?=some w.drivers[j]:=by simp
  obtain ⟨x,hxe⟩:∃ x,x=w.drivers[j]:=⟨_,rfl⟩;rw [<- hxe] at hx;obtain ⟨v,g1,p',l',c',r',n',d',s',j',e',rfl,hkn,hlv,hws⟩:=hv3 j _ hx;have lx:zB Tryz.prog τ 76 (zL qa (Int.toNat (j:Int)*6))=some (.agg ⟨zO p' l' c' r' n' d' s' j' e' x.off x.row x.used⟩):=(hv1.le LL).at rfl g1;have hmem:=List.mem_of_getElem? hx;have hsx:=hsh x hmem;have hN2:New Z1 ((τ.row (zO none 0 0 none 0 0 none 0 0 0 0 0) 6).own τ.y (zO p' l' c' r' n' d' s' j' e' x.off x.row x.used) 6):=hN.row'.own hN.le.y;have L2:=L1.trans hN2.le;have ld0:zB Tryz.prog ((τ.row (zO none 0 0 none 0 0 none 0 0 0 0 0) 6).own τ.y (zO p' l' c' r' n' d' s' j' e' x.off x.row x.used) 6) 3 ⟨Z.re.y,0,none⟩=some (iV w.days):=(hW hN2.le).ld zU rfl;have ld5:zB Tryz.prog ((τ.row (zO none 0 0 none 0 0 none 0 0 0 0 0) 6).own τ.y (zO p' l' c' r' n' d' s' j' e' x.off x.row x.used) 6) 3 ⟨Z.re.y,5,none⟩=some (iV w.hours):=(hW hN2.le).ld zU rfl;have k1:=zJJ (c:=c') (lo:=0) (hi:=15) (SlV.le hkn L2) (by have:=hkn.len;omega);have k2:=zJJ (c:=d') (lo:=0) (hi:=w.days-1) (SlV.le hlv L2) (by have:=hlv.len;omega);have k3:=zJJ (c:=e') (lo:=0) (hi:=w.days-1) (SlV.le hws L2) (by have:=hws.len;omega);cases c1:wG x.knows 0 15 with
  | false=>rw [c1] at k1;exact yUJ ldV lx k1 ⟨hN2,(nov x hmem (by unfold zAU;rw [c1];rfl)).symm⟩ (by omega) (by omega)
  | true =>
  cases c2:wG x.leave 0 (w.days-1) with
  | false=>rw [c1] at k1;rw [c2] at k2;exact yUK ldV lx k1 ld0 k2 ⟨hN2,(nov x hmem (by unfold zAU;rw [c1,c2];rfl)).symm⟩ (by omega) (by omega) (by omega)
  | true =>
  cases c3:wG x.wish 0 (w.days-1) with
  | false=>rw [c1] at k1;rw [c2] at k2;rw [c3] at k3;exact yUL ldV lx k1 ld0 k2 k3 ⟨hN2,(nov x hmem (by unfold zAU;rw [c1,c2,c3];rfl)).symm⟩ (by omega) (by omega) (by omega)
  | true =>
  rw [c1] at k1;rw [c2] at k2;rw [c3] at k3;cases c4:inB x.off (-10080) 1440 with
  | false=>exact yUM ldV lx k1 ld0 k2 k3 (cin c4) ⟨hN2,(nov x hmem (by unfold zAU;rw [c1,c2,c3,c4];rfl)).symm⟩ (by omega) (by omega) (by omega)
  | true =>
  cases c5:inB x.row 0 14 with
  | false=>exact yUN ldV lx k1 ld0 k2 k3 (cin c4) (cin c5) ⟨hN2,(nov x hmem (by unfold zAU;rw [c1,c2,c3,c4,c5];rfl)).symm⟩ (by omega) (by omega) (by omega)
  | true =>
  cases c6:inB x.used 0 w.hours with
  | false=>exact yUO ldV lx k1 ld0 k2 k3 (cin c4) (cin c5) ld5 (cin c6) ⟨hN2,(nov x hmem (by unfold zAU;rw [c1,c2,c3,c4,c5,c6];rfl)).symm⟩ (by omega) (by omega) (by omega)
  | true=>exact yUP ldV lx k1 ld0 k2 k3 (cin c4) (cin c5) ld5 (cin c6) ⟨k-1,by omega,hN2,j+1,by omega,by omega,zRI hx ha (by unfold zAU;rw [c1,c2,c3,c4,c5,c6];rfl)⟩ (by omega) (by omega) (by omega) (by omega)
end
section
noncomputable section
variable (s:oAa) (BA s_l s_c:Nat) (l:oAa) (f:FuncId) (v:Int) (l_l l_c:Nat) (f_a f_c:lVa) (q3:Bool->St->Prop) (fS:Bool) (bJ bi aG:Int) (q2:St->Prop) (q0:Int->St->Prop) (Z:St) (Q:vPa) (Nx Qr:Int->St->Prop) (q4:Bool->St->Prop) (Q0:St->Prop)
def xCG:Code:=(Code.part [1,0,1,0,0] (qh 87))
def zQP:lNa:=[(0,.slice s s_l s_c),(1,.func (.func f) ⟨f_a⟩ ⟨f_c⟩),(7,iV (s_l:Int)),(8,iV aG)]
def xOM:Alt:=⟨Int,.normal,fun t=>zQP s s_l s_c f f_a f_c t,fun t=>[],fun t Z=>q0 t Z⟩
def yGN (s:oAa) (s_l s_c:Nat) (f:FuncId) (f_a f_c:lVa) (bi:Int):lNa:=[(4,iV bi)]
def zSU:Alt:=⟨Int,.ret,fun t=>yGN s s_l s_c f f_a f_c t,fun t=>[],fun t Z=>q0 t Z⟩
def yGO (s:oAa) (s_l s_c:Nat) (f:FuncId) (f_a f_c:lVa):lNa:=[]
def zSV:Alt:=⟨Unit,(.exit 0),fun t=>yGO s s_l s_c f f_a f_c,fun t=>[],fun t Z=>q2 Z⟩
def zXD:Prop:=qi qj none xCG 19 (zQP s s_l s_c f f_a f_c aG) [] [xOM s s_l s_c f f_a f_c Nx,zSU s s_l s_c f f_a f_c Qr,zSV s s_l s_c f f_a f_c Q0] Z
def xCH:Prop:=qk qj none xCG 19 (zQP s s_l s_c f f_a f_c aG) [] [zSU s s_l s_c f f_a f_c Qr,zSV s s_l s_c f f_a f_c Q0] Z
def yGP:Prop:=kZ qj (qh 87) [1,0,1,0] (ql 87 Q) .ret 19 (yGN s s_l s_c f f_a f_c bi) Z
def yGQ:Prop:=kZ qj (qh 87) [1,0,1,0] (ql 87 Q) (.exit 0) 19 (yGO s s_l s_c f f_a f_c) Z
def xBZ:Code:=(Code.part [1,0,1,0,0] (qh 88))
def zQM:lNa:=[(0,.slice s s_l s_c),(1,.func (.func f) ⟨f_a⟩ ⟨f_c⟩),(7,iV (s_l:Int)),(8,iV aG)]
def xOA:Alt:=⟨Int,.normal,fun t=>zQM s s_l s_c f f_a f_c t,fun t=>[],fun t Z=>q0 t Z⟩
def yGB (s:oAa) (s_l s_c:Nat) (f:FuncId) (f_a f_c:lVa) (bi:Int):lNa:=[(4,iV bi)]
def zSN:Alt:=⟨Int,.ret,fun t=>yGB s s_l s_c f f_a f_c t,fun t=>[],fun t Z=>q0 t Z⟩
def yGC (s:oAa) (s_l s_c:Nat) (f:FuncId) (f_a f_c:lVa):lNa:=[]
def zSO:Alt:=⟨Unit,(.exit 0),fun t=>yGC s s_l s_c f f_a f_c,fun t=>[],fun t Z=>q2 Z⟩
def zXA:Prop:=qi qj none xBZ 19 (zQM s s_l s_c f f_a f_c aG) [] [xOA s s_l s_c f f_a f_c Nx,zSN s s_l s_c f f_a f_c Qr,zSO s s_l s_c f f_a f_c Q0] Z
def xCA:Prop:=qk qj none xBZ 19 (zQM s s_l s_c f f_a f_c aG) [] [zSN s s_l s_c f f_a f_c Qr,zSO s s_l s_c f f_a f_c Q0] Z
def yGD:Prop:=kZ qj (qh 88) [1,0,1,0] (ql 88 Q) .ret 19 (yGB s s_l s_c f f_a f_c bi) Z
def yGE:Prop:=kZ qj (qh 88) [1,0,1,0] (ql 88 Q) (.exit 0) 19 (yGC s s_l s_c f f_a f_c) Z
def xCE:Code:=(Code.part [1,0,1,0,0] (qh 105))
def zQO:lNa:=[(0,.slice s s_l s_c),(1,.func (.func f) ⟨[]⟩ ⟨f_c⟩),(7,iV (s_l:Int)),(8,iV aG)]
def xOI:Alt:=⟨Int,.normal,fun t=>zQO s s_l s_c f f_c t,fun t=>[],fun t Z=>q0 t Z⟩
def yGJ (s:oAa) (s_l s_c:Nat) (f:FuncId) (f_c:lVa) (bi:Int):lNa:=[(4,iV bi)]
def zSS:Alt:=⟨Int,.ret,fun t=>yGJ s s_l s_c f f_c t,fun t=>[],fun t Z=>q0 t Z⟩
def yGK (s:oAa) (s_l s_c:Nat) (f:FuncId) (f_c:lVa):lNa:=[]
def zST:Alt:=⟨Unit,(.exit 0),fun t=>yGK s s_l s_c f f_c,fun t=>[],fun t Z=>q2 Z⟩
def zXC:Prop:=qi qj none xCE 19 (zQO s s_l s_c f f_c aG) [] [xOI s s_l s_c f f_c Nx,zSS s s_l s_c f f_c Qr,zST s s_l s_c f f_c Q0] Z
def xCF:Prop:=qk qj none xCE 19 (zQO s s_l s_c f f_c aG) [] [zSS s s_l s_c f f_c Qr,zST s s_l s_c f f_c Q0] Z
def yGL:Prop:=kZ qj (qh 105) [1,0,1,0] (ql 105 Q) .ret 19 (yGJ s s_l s_c f f_c bi) Z
def yGM:Prop:=kZ qj (qh 105) [1,0,1,0] (ql 105 Q) (.exit 0) 19 (yGK s s_l s_c f f_c) Z
def yDS:Code:=(Code.part [1,1,0,1,0,0] (qh 53))
def zFQ:lNa:=[(2,pq BA 0),(14,.slice l l_l l_c),(15,iV (l_l:Int)),(16,iV bJ)]
def ySM:Alt:=⟨Int,.normal,fun t=>zFQ BA l l_l l_c t,fun t=>[],fun t Z=>q0 t Z⟩
def zTW (BA:Nat) (l:oAa) (l_l l_c:Nat) (fS:Bool):lNa:=[(4,.bool fS)]
def zIQ:Alt:=⟨Bool,.ret,fun t=>zTW BA l l_l l_c t,fun t=>[],fun t Z=>q3 t Z⟩
def zTX (BA:Nat) (l:oAa) (l_l l_c:Nat):lNa:=[]
def zIR:Alt:=⟨Unit,(.exit 0),fun t=>zTX BA l l_l l_c,fun t=>[],fun t Z=>q2 Z⟩
def zLI:Prop:=qi qj none yDS 35 (zFQ BA l l_l l_c bJ) [] [ySM BA l l_l l_c Nx,zIQ BA l l_l l_c q4,zIR BA l l_l l_c Q0] Z
def yDT:Prop:=qk qj none yDS 35 (zFQ BA l l_l l_c bJ) [] [zIQ BA l l_l l_c q4,zIR BA l l_l l_c Q0] Z
def zTY:Prop:=kZ qj (qh 53) [1,1,0,1,0] (ql 53 Q) .ret 35 (zTW BA l l_l l_c fS) Z
def zTZ:Prop:=kZ qj (qh 53) [1,1,0,1,0] (ql 53 Q) (.exit 0) 35 (zTX BA l l_l l_c) Z
def yPN:Code:=(Code.part [1,0,1,0,0] (qh 83))
def zKG:lNa:=[(0,.slice s s_l s_c),(1,iV v),(7,iV (s_l:Int)),(8,iV aG)]
def xGR:Alt:=⟨Int,.normal,fun t=>zKG s s_l s_c v t,fun t=>[],fun t Z=>q0 t Z⟩
def yAD (s:oAa) (s_l s_c:Nat) (v bi:Int):lNa:=[(4,iV bi)]
def zOI:Alt:=⟨Int,.ret,fun t=>yAD s s_l s_c v t,fun t=>[],fun t Z=>q0 t Z⟩
def yAE (s:oAa) (s_l s_c:Nat) (v:Int):lNa:=[]
def zOJ:Alt:=⟨Unit,(.exit 0),fun t=>yAE s s_l s_c v,fun t=>[],fun t Z=>q2 Z⟩
def zQL:Prop:=qi qj none yPN 19 (zKG s s_l s_c v aG) [] [xGR s s_l s_c v Nx,zOI s s_l s_c v Qr,zOJ s s_l s_c v Q0] Z
def yPO:Prop:=qk qj none yPN 19 (zKG s s_l s_c v aG) [] [zOI s s_l s_c v Qr,zOJ s s_l s_c v Q0] Z
def yAF:Prop:=kZ qj (qh 83) [1,0,1,0] (ql 83 Q) .ret 19 (yAD s s_l s_c v bi) Z
def yAG:Prop:=kZ qj (qh 83) [1,0,1,0] (ql 83 Q) (.exit 0) 19 (yAE s s_l s_c v) Z
end
variable {s dK dJ ew l qD qE qF af ae aR aX bh q1:oAa} {s_l s_c bZ cf bX bY dh di l_l l_c lA cE lG cF lH cG ac ad aa ab aJ aK aL aM aO aP l1 c1 BA:Nat} {f f1 right:FuncId} {f_c f_a dT f1_a bF dv:lVa} {n1 eX fX dj dm dI eW eV eA aG nE nG nA nB nD bi nF ak am ar ah aB aN ax ay aE bG bH bu x n bJ v:Int} {Z:St} {Q:vPa} {v0 s_a l_a eJ:Addr} {Inv:Nat->Int->St->Prop} {Qr Nx Pr:Int->St->Prop} {Q0 P0:St->Prop} {b3 b6 b2 b1 fS:Bool}
theorem xVC (h1:qm 87 [.slice s s_l s_c,.func (.func f) ⟨f_a⟩ ⟨f_c⟩] Z (iV n1) Z) (nx:Q (.bool true) Z) (u1:0<=n1:=by omega):qg 67 [.slice s s_l s_c,.func (.func f) ⟨f_a⟩ ⟨f_c⟩] Z Q :=
 zG [.g,.g,.g,.c (iV n1) Z,.b true,.g] (kd (an2 h1 (yE u1) nx))
theorem xVB (h1:qm 87 [.slice s s_l s_c,.func (.func f) ⟨f_a⟩ ⟨f_c⟩] Z (iV n1) Z) (nx:Q (.bool false) Z) (u1:¬ 0<=n1:=by omega):qg 67 [.slice s s_l s_c,.func (.func f) ⟨f_a⟩ ⟨f_c⟩] Z Q :=
 zG [.g,.g,.g,.c (iV n1) Z,.b false,.g] (kd (an2 h1 (yH u1) nx))
theorem xQU:let s1:=Z.row (zF eX fX dj dm dI) 5;∀ (h1:lz s1 86 v0 (.func (.func f1) ⟨f1_a⟩ ⟨dT⟩)) (h2:qm f1 (f1_a ++ (qf (zF eX fX dj dm dI)::dT)) s1 (.bool true) s1) (nx:Q (.bool false) s1),qg 68 [qf (zF eX fX dj dm dI),pz v0] Z Q:=
 let s1:=Z.row (zF eX fX dj dm dI) 5;fun h1 h2 nx=>zG [.g,.g,.l (.func (.func f1) ⟨f1_a⟩ ⟨dT⟩),.l (qf (zF eX fX dj dm dI)),.c (.bool true) s1,.g,.g] (kd (an3 h1 ((zC _ _ _).rw.ldN zNK uB (k:=0) rfl rfl (nle rfl):lz s1 85 (qe Z.y 0) (qf (zF eX fX dj dm dI))) h2 nx))
theorem xQT:let s1:=Z.row (zF eX fX dj dm dI) 5;∀ (h1:lz s1 86 v0 (.func (.func f1) ⟨f1_a⟩ ⟨dT⟩)) (h2:qm f1 (f1_a ++ (qf (zF eX fX dj dm dI)::dT)) s1 (.bool false) s1) (nx:Q (.bool true) s1),qg 68 [qf (zF eX fX dj dm dI),pz v0] Z Q:=
 let s1:=Z.row (zF eX fX dj dm dI) 5;fun h1 h2 nx=>zG [.g,.g,.l (.func (.func f1) ⟨f1_a⟩ ⟨dT⟩),.l (qf (zF eX fX dj dm dI)),.c (.bool false) s1,.g,.g] (kd (an3 h1 ((zC _ _ _).rw.ldN zNK uB (k:=0) rfl rfl (nle rfl):lz s1 85 (qe Z.y 0) (qf (zF eX fX dj dm dI))) h2 nx))
theorem xUU (h1:qm 88 [.slice s s_l s_c,.func (.func f) ⟨f_a⟩ ⟨f_c⟩] Z (iV n1) Z) (nx:Q (.bool true) Z) (u1:0<=n1:=by omega):qg 69 [.slice s s_l s_c,.func (.func f) ⟨f_a⟩ ⟨f_c⟩] Z Q :=
 zG [.g,.g,.g,.c (iV n1) Z,.b true,.g] (kd (an2 h1 (yE u1) nx))
theorem xUT (h1:qm 88 [.slice s s_l s_c,.func (.func f) ⟨f_a⟩ ⟨f_c⟩] Z (iV n1) Z) (nx:Q (.bool false) Z) (u1:¬ 0<=n1:=by omega):qg 69 [.slice s s_l s_c,.func (.func f) ⟨f_a⟩ ⟨f_c⟩] Z Q :=
 zG [.g,.g,.g,.c (iV n1) Z,.b false,.g] (kd (an2 h1 (yH u1) nx))
theorem xQO:let s1:=Z.row (zO dK bZ cf dJ bX bY ew dh di eW eV eA) 6;∀ (h1:lz s1 89 v0 (.func (.func f1) ⟨f1_a⟩ ⟨dT⟩)) (h2:qm f1 (f1_a ++ (qf (zO dK bZ cf dJ bX bY ew dh di eW eV eA)::dT)) s1 (.bool true) s1) (nx:Q (.bool false) s1),qg 70 [qf (zO dK bZ cf dJ bX bY ew dh di eW eV eA),pz v0] Z Q:=
 let s1:=Z.row (zO dK bZ cf dJ bX bY ew dh di eW eV eA) 6;fun h1 h2 nx=>zG [.g,.g,.l (.func (.func f1) ⟨f1_a⟩ ⟨dT⟩),.l (qf (zO dK bZ cf dJ bX bY ew dh di eW eV eA)),.c (.bool true) s1,.g,.g] (kd (an3 h1 ((zC _ _ _).rw.ldN yRY zRT (k:=0) rfl rfl (nle rfl):lz s1 88 (qe Z.y 0) (qf (zO dK bZ cf dJ bX bY ew dh di eW eV eA))) h2 nx))
theorem xQN:let s1:=Z.row (zO dK bZ cf dJ bX bY ew dh di eW eV eA) 6;∀ (h1:lz s1 89 v0 (.func (.func f1) ⟨f1_a⟩ ⟨dT⟩)) (h2:qm f1 (f1_a ++ (qf (zO dK bZ cf dJ bX bY ew dh di eW eV eA)::dT)) s1 (.bool false) s1) (nx:Q (.bool true) s1),qg 70 [qf (zO dK bZ cf dJ bX bY ew dh di eW eV eA),pz v0] Z Q:=
 let s1:=Z.row (zO dK bZ cf dJ bX bY ew dh di eW eV eA) 6;fun h1 h2 nx=>zG [.g,.g,.l (.func (.func f1) ⟨f1_a⟩ ⟨dT⟩),.l (qf (zO dK bZ cf dJ bX bY ew dh di eW eV eA)),.c (.bool false) s1,.g,.g] (kd (an3 h1 ((zC _ _ _).rw.ldN yRY zRT (k:=0) rfl rfl (nle rfl):lz s1 88 (qe Z.y 0) (qf (zO dK bZ cf dJ bX bY ew dh di eW eV eA))) h2 nx))
theorem xVZ:let Y1:=Z.row [.func (.func right) ⟨dv⟩ ⟨bF⟩] 1;∀ (h1:qm 67 [.slice l l_l l_c,.func (.func 68) ⟨[]⟩ ⟨[pq Z.y 0]⟩] Y1 (.bool true) Y1) (nx:Q (.bool false) Y1),qg 48 [.slice l l_l l_c,.func (.func right) ⟨dv⟩ ⟨bF⟩] Z Q:=
 fun h1 nx=>zG [.g,.g,.g,.g,.c (.bool true) (Z.row [.func (.func right) ⟨dv⟩ ⟨bF⟩] 1),.g,.g] (kd (ai h1 nx))
theorem xVY:let Y1:=Z.row [.func (.func right) ⟨dv⟩ ⟨bF⟩] 1;∀ (h1:qm 67 [.slice l l_l l_c,.func (.func 68) ⟨[]⟩ ⟨[pq Z.y 0]⟩] Y1 (.bool false) Y1) (nx:Q (.bool true) Y1),qg 48 [.slice l l_l l_c,.func (.func right) ⟨dv⟩ ⟨bF⟩] Z Q:=
 fun h1 nx=>zG [.g,.g,.g,.g,.c (.bool false) (Z.row [.func (.func right) ⟨dv⟩ ⟨bF⟩] 1),.g,.g] (kd (ai h1 nx))
theorem xVR:let Y1:=Z.row [.func (.func right) ⟨dv⟩ ⟨bF⟩] 1;∀ (h1:qm 69 [.slice l l_l l_c,.func (.func 70) ⟨[]⟩ ⟨[pq Z.y 0]⟩] Y1 (.bool true) Y1) (nx:Q (.bool false) Y1),qg 50 [.slice l l_l l_c,.func (.func right) ⟨dv⟩ ⟨bF⟩] Z Q:=
 fun h1 nx=>zG [.g,.g,.g,.g,.c (.bool true) (Z.row [.func (.func right) ⟨dv⟩ ⟨bF⟩] 1),.g,.g] (kd (ai h1 nx))
theorem xVQ:let Y1:=Z.row [.func (.func right) ⟨dv⟩ ⟨bF⟩] 1;∀ (h1:qm 69 [.slice l l_l l_c,.func (.func 70) ⟨[]⟩ ⟨[pq Z.y 0]⟩] Y1 (.bool false) Y1) (nx:Q (.bool true) Y1),qg 50 [.slice l l_l l_c,.func (.func right) ⟨dv⟩ ⟨bF⟩] Z Q:=
 fun h1 nx=>zG [.g,.g,.g,.g,.c (.bool false) (Z.row [.func (.func right) ⟨dv⟩ ⟨bF⟩] 1),.g,.g] (kd (ai h1 nx))
theorem yXG (hb:∀ k aG Z,Inv k aG Z->zXD s s_l s_c f f_a f_c aG Z (NX1 Inv k) Qr Q0):∀ k aG Z,Inv k aG Z->xCH s s_l s_c f f_a f_c aG Z Qr Q0 :=
 xF (ai zAR (ai (xX 0) trivial)) hb
theorem xOL (h1:lz Z 85 (zL s_a (Int.toNat aG*5)) (qf (zF nE nG nA nB nD))) (h2:qm f (f_a ++ (qf (zF nE nG nA nB nD)::f_c)) Z (.bool true) Z) (nx:Qr aG Z) (u1:aG<(s_l:Int):=by omega) (u2:Ix aG s_l:=by omega):zXD (some s_a) s_l s_c f f_a f_c aG Z Nx Qr Q0 :=
 kO 1 aG [.b true,.g,.g,.g,.g,.g,.i,.l (qf (zF nE nG nA nB nD)),.c (.bool true) Z,.g,.g] (fun _ f=>an4 (zR u1) u2 h1 h2 f) nx
theorem xOK (h1:lz Z 85 (zL s_a (Int.toNat aG*5)) (qf (zF nE nG nA nB nD))) (h2:qm f (f_a ++ (qf (zF nE nG nA nB nD)::f_c)) Z (.bool false) Z) (nx:Nx (aG+1) Z) (u1:aG<(s_l:Int):=by omega) (u2:Ix aG s_l:=by omega) (u3:I6 (aG+1):=by omega):zXD (some s_a) s_l s_c f f_a f_c aG Z Nx Qr Q0 :=
 kO 0 (aG+1) [.b true,.g,.g,.g,.g,.g,.i,.l (qf (zF nE nG nA nB nD)),.c (.bool false) Z,.n (aG+1),.g] (fun _ f=>an5 (zR u1) u2 h1 h2 (w64 u3) f) nx
theorem xOJ (nx:Q0 Z) (u1:¬ aG<(s_l:Int):=by omega):zXD s s_l s_c f f_a f_c aG Z Nx Qr Q0 :=
 kO 2 () [.b false] (fun _ f=>ai (zT u1) f) nx
theorem xUI (hL:xCH s s_l s_c f f_a f_c 0 Z Pr P0) (kr:∀ i4_1' Z',Pr i4_1' Z'->yGP s s_l s_c f f_a f_c i4_1' Z' Q) (k0:∀ Z',P0 Z'->yGQ s s_l s_c f f_a f_c Z' Q):qg 87 [.slice s s_l s_c,.func (.func f) ⟨f_a⟩ ⟨f_c⟩] Z Q :=
 zG [.g,.g,.g,.g,.lf 19 (zQP s s_l s_c f f_a f_c 0) [zSU s s_l s_c f f_a f_c Pr,zSV s s_l s_c f f_a f_c P0]] (kd (ai (ai tt (ai (arf (zQP s s_l s_c f f_a f_c 0)) hL)) (ai (kz1 kr) (ai (kz0 k0) trivial))))
theorem yXE (nx:Q (iV bi) Z):yGP s s_l s_c f f_a f_c bi Z Q :=
 sK [] nx
theorem yXF (nx:Q (iV (-1)) Z):yGQ s s_l s_c f f_a f_c Z Q :=
 sK [.g] nx
theorem yWY (hb:∀ k aG Z,Inv k aG Z->zXA s s_l s_c f f_a f_c aG Z (NX1 Inv k) Qr Q0):∀ k aG Z,Inv k aG Z->xCA s s_l s_c f f_a f_c aG Z Qr Q0 :=
 xF (ai zAR (ai (xX 0) trivial)) hb
theorem xNZ (h1:lz Z 88 (zL s_a (Int.toNat aG*6)) (qf (zO qD lA cE qE lG cF qF lH cG nB nD nF))) (h2:qm f (f_a ++ (qf (zO qD lA cE qE lG cF qF lH cG nB nD nF)::f_c)) Z (.bool true) Z) (nx:Qr aG Z) (u1:aG<(s_l:Int):=by omega) (u2:Ix aG s_l:=by omega):zXA (some s_a) s_l s_c f f_a f_c aG Z Nx Qr Q0 :=
 kO 1 aG [.b true,.g,.g,.g,.g,.g,.i,.l (qf (zO qD lA cE qE lG cF qF lH cG nB nD nF)),.c (.bool true) Z,.g,.g] (fun _ f=>an4 (zR u1) u2 h1 h2 f) nx
theorem xNY (h1:lz Z 88 (zL s_a (Int.toNat aG*6)) (qf (zO qD lA cE qE lG cF qF lH cG nB nD nF))) (h2:qm f (f_a ++ (qf (zO qD lA cE qE lG cF qF lH cG nB nD nF)::f_c)) Z (.bool false) Z) (nx:Nx (aG+1) Z) (u1:aG<(s_l:Int):=by omega) (u2:Ix aG s_l:=by omega) (u3:I6 (aG+1):=by omega):zXA (some s_a) s_l s_c f f_a f_c aG Z Nx Qr Q0 :=
 kO 0 (aG+1) [.b true,.g,.g,.g,.g,.g,.i,.l (qf (zO qD lA cE qE lG cF qF lH cG nB nD nF)),.c (.bool false) Z,.n (aG+1),.g] (fun _ f=>an5 (zR u1) u2 h1 h2 (w64 u3) f) nx
theorem xNX (nx:Q0 Z) (u1:¬ aG<(s_l:Int):=by omega):zXA s s_l s_c f f_a f_c aG Z Nx Qr Q0 :=
 kO 2 () [.b false] (fun _ f=>ai (zT u1) f) nx
theorem xUG (hL:xCA s s_l s_c f f_a f_c 0 Z Pr P0) (kr:∀ i4_1' Z',Pr i4_1' Z'->yGD s s_l s_c f f_a f_c i4_1' Z' Q) (k0:∀ Z',P0 Z'->yGE s s_l s_c f f_a f_c Z' Q):qg 88 [.slice s s_l s_c,.func (.func f) ⟨f_a⟩ ⟨f_c⟩] Z Q :=
 zG [.g,.g,.g,.g,.lf 19 (zQM s s_l s_c f f_a f_c 0) [zSN s s_l s_c f f_a f_c Pr,zSO s s_l s_c f f_a f_c P0]] (kd (ai (ai tt (ai (arf (zQM s s_l s_c f f_a f_c 0)) hL)) (ai (kz1 kr) (ai (kz0 k0) trivial))))
theorem yWW (nx:Q (iV bi) Z):yGD s s_l s_c f f_a f_c bi Z Q :=
 sK [] nx
theorem yWX (nx:Q (iV (-1)) Z):yGE s s_l s_c f f_a f_c Z Q :=
 sK [.g] nx
theorem xJK:let s1:=Z.row (wkc ak af ac ad ae aa ab am ar ah) 6;let s2:=s1.row (zF aB aN ax ay aE) 5;∀ (h1:qm 47 [iV aB,iV 0,iV (ak-1)] s2 (.bool true) s2) (h2:qm 47 [iV aN,iV 0,iV 1439] s2 (.bool true) s2) (h3:qm 47 [iV aE,iV 0,iV 15] s2 (.bool b3) s2) (nx:Q (.bool b3) s2) (u1:I6 (ak-1):=by omega) (u2:aN<=ax:=by omega) (u3:ax<=ay:=by omega) (u4:I6 (aN+1440):=by omega) (u5:ay<=(aN+1440):=by omega),qg 49 [qf (wkc ak af ac ad ae aa ab am ar ah),qf (zF aB aN ax ay aE)] Z Q:=
 let s1:=Z.row (wkc ak af ac ad ae aa ab am ar ah) 6;let s2:=s1.row (zF aB aN ax ay aE) 5;let s3:=Z.y+1;fun h1 h2 h3 nx u1 u2 u3 u4 u5=>zG [.g,.g,.g,.g,.l (iV aB),.g,.l (iV ak),.n (ak-1),.c (.bool true) s2,.g,.g,.l (iV aN),.c (.bool true) s2,.g,.g,.g,.l (iV aN),.g,.g,.l (iV ax),.b true,.g,.g,.g,.g,.l (iV ax),.g,.g,.l (iV ay),.b true,.g,.g,.g,.g,.l (iV ay),.g,.l (iV aN),.n (aN+1440),.b true,.g,.g,.g,.l (iV aE),.c (.bool b3) s2,.g,.g] (kd (an6 ((zC _ _ _).rw.ld zU (k:=0) rfl:lz s2 3 (qe s3 0) (iV aB)) ((zC _ _ _).row.rw.ld zU (k:=0) rfl:lz s2 3 (qe Z.y 0) (iV ak)) (w64 u1) h1 ((zC _ _ _).rw.ld zU (k:=1) rfl:lz s2 3 (qe s3 1) (iV aN)) h2 (an6 ((zC _ _ _).rw.ld zU (k:=1) rfl:lz s2 3 (qe s3 1) (iV aN)) ((zC _ _ _).rw.ld zU (k:=2) rfl:lz s2 3 (qe s3 2) (iV ax)) (yE u2) ((zC _ _ _).rw.ld zU (k:=2) rfl:lz s2 3 (qe s3 2) (iV ax)) ((zC _ _ _).rw.ld zU (k:=3) rfl:lz s2 3 (qe s3 3) (iV ay)) (yE u3) (an6 ((zC _ _ _).rw.ld zU (k:=3) rfl:lz s2 3 (qe s3 3) (iV ay)) ((zC _ _ _).rw.ld zU (k:=1) rfl:lz s2 3 (qe s3 1) (iV aN)) (w64 u4) (yE u5) ((zC _ _ _).rw.ld zU (k:=4) rfl:lz s2 3 (qe s3 4) (iV aE)) h3 nx))))
theorem xJJ:let s1:=Z.row (wkc ak af ac ad ae aa ab am ar ah) 6;let s2:=s1.row (zF aB aN ax ay aE) 5;∀ (h1:qm 47 [iV aB,iV 0,iV (ak-1)] s2 (.bool true) s2) (h2:qm 47 [iV aN,iV 0,iV 1439] s2 (.bool true) s2) (nx:Q (.bool false) s2) (u1:I6 (ak-1):=by omega) (u2:aN<=ax:=by omega) (u3:ax<=ay:=by omega) (u4:I6 (aN+1440):=by omega) (u5:¬ ay<=(aN+1440):=by omega),qg 49 [qf (wkc ak af ac ad ae aa ab am ar ah),qf (zF aB aN ax ay aE)] Z Q:=
 let s1:=Z.row (wkc ak af ac ad ae aa ab am ar ah) 6;let s2:=s1.row (zF aB aN ax ay aE) 5;let s3:=Z.y+1;fun h1 h2 nx u1 u2 u3 u4 u5=>zG [.g,.g,.g,.g,.l (iV aB),.g,.l (iV ak),.n (ak-1),.c (.bool true) s2,.g,.g,.l (iV aN),.c (.bool true) s2,.g,.g,.g,.l (iV aN),.g,.g,.l (iV ax),.b true,.g,.g,.g,.g,.l (iV ax),.g,.g,.l (iV ay),.b true,.g,.g,.g,.g,.l (iV ay),.g,.l (iV aN),.n (aN+1440),.b false,.g,.g,.g,.g] (kd (an4 ((zC _ _ _).rw.ld zU (k:=0) rfl:lz s2 3 (qe s3 0) (iV aB)) ((zC _ _ _).row.rw.ld zU (k:=0) rfl:lz s2 3 (qe Z.y 0) (iV ak)) (w64 u1) h1 (an6 ((zC _ _ _).rw.ld zU (k:=1) rfl:lz s2 3 (qe s3 1) (iV aN)) h2 ((zC _ _ _).rw.ld zU (k:=1) rfl:lz s2 3 (qe s3 1) (iV aN)) ((zC _ _ _).rw.ld zU (k:=2) rfl:lz s2 3 (qe s3 2) (iV ax)) (yE u2) ((zC _ _ _).rw.ld zU (k:=2) rfl:lz s2 3 (qe s3 2) (iV ax)) (an6 ((zC _ _ _).rw.ld zU (k:=3) rfl:lz s2 3 (qe s3 3) (iV ay)) (yE u3) ((zC _ _ _).rw.ld zU (k:=3) rfl:lz s2 3 (qe s3 3) (iV ay)) ((zC _ _ _).rw.ld zU (k:=1) rfl:lz s2 3 (qe s3 1) (iV aN)) (w64 u4) (yH u5) nx))))
theorem xJI:let s1:=Z.row (wkc ak af ac ad ae aa ab am ar ah) 6;let s2:=s1.row (zF aB aN ax ay aE) 5;∀ (h1:qm 47 [iV aB,iV 0,iV (ak-1)] s2 (.bool true) s2) (h2:qm 47 [iV aN,iV 0,iV 1439] s2 (.bool true) s2) (nx:Q (.bool false) s2) (u1:I6 (ak-1):=by omega) (u2:aN<=ax:=by omega) (u3:¬ ax<=ay:=by omega),qg 49 [qf (wkc ak af ac ad ae aa ab am ar ah),qf (zF aB aN ax ay aE)] Z Q:=
 let s1:=Z.row (wkc ak af ac ad ae aa ab am ar ah) 6;let s2:=s1.row (zF aB aN ax ay aE) 5;let s3:=Z.y+1;fun h1 h2 nx u1 u2 u3=>zG [.g,.g,.g,.g,.l (iV aB),.g,.l (iV ak),.n (ak-1),.c (.bool true) s2,.g,.g,.l (iV aN),.c (.bool true) s2,.g,.g,.g,.l (iV aN),.g,.g,.l (iV ax),.b true,.g,.g,.g,.g,.l (iV ax),.g,.g,.l (iV ay),.b false,.g,.g,.g,.g,.g,.g] (kd (an6 ((zC _ _ _).rw.ld zU (k:=0) rfl:lz s2 3 (qe s3 0) (iV aB)) ((zC _ _ _).row.rw.ld zU (k:=0) rfl:lz s2 3 (qe Z.y 0) (iV ak)) (w64 u1) h1 ((zC _ _ _).rw.ld zU (k:=1) rfl:lz s2 3 (qe s3 1) (iV aN)) h2 (an6 ((zC _ _ _).rw.ld zU (k:=1) rfl:lz s2 3 (qe s3 1) (iV aN)) ((zC _ _ _).rw.ld zU (k:=2) rfl:lz s2 3 (qe s3 2) (iV ax)) (yE u2) ((zC _ _ _).rw.ld zU (k:=2) rfl:lz s2 3 (qe s3 2) (iV ax)) ((zC _ _ _).rw.ld zU (k:=3) rfl:lz s2 3 (qe s3 3) (iV ay)) (yH u3) nx)))
theorem xJH:let s1:=Z.row (wkc ak af ac ad ae aa ab am ar ah) 6;let s2:=s1.row (zF aB aN ax ay aE) 5;∀ (h1:qm 47 [iV aB,iV 0,iV (ak-1)] s2 (.bool true) s2) (h2:qm 47 [iV aN,iV 0,iV 1439] s2 (.bool true) s2) (nx:Q (.bool false) s2) (u1:I6 (ak-1):=by omega) (u2:¬ aN<=ax:=by omega),qg 49 [qf (wkc ak af ac ad ae aa ab am ar ah),qf (zF aB aN ax ay aE)] Z Q:=
 let s1:=Z.row (wkc ak af ac ad ae aa ab am ar ah) 6;let s2:=s1.row (zF aB aN ax ay aE) 5;let s3:=Z.y+1;fun h1 h2 nx u1 u2=>zG [.g,.g,.g,.g,.l (iV aB),.g,.l (iV ak),.n (ak-1),.c (.bool true) s2,.g,.g,.l (iV aN),.c (.bool true) s2,.g,.g,.g,.l (iV aN),.g,.g,.l (iV ax),.b false,.g,.g,.g,.g,.g,.g,.g,.g] (kd (an3 ((zC _ _ _).rw.ld zU (k:=0) rfl:lz s2 3 (qe s3 0) (iV aB)) ((zC _ _ _).row.rw.ld zU (k:=0) rfl:lz s2 3 (qe Z.y 0) (iV ak)) (w64 u1) (an6 h1 ((zC _ _ _).rw.ld zU (k:=1) rfl:lz s2 3 (qe s3 1) (iV aN)) h2 ((zC _ _ _).rw.ld zU (k:=1) rfl:lz s2 3 (qe s3 1) (iV aN)) ((zC _ _ _).rw.ld zU (k:=2) rfl:lz s2 3 (qe s3 2) (iV ax)) (yH u2) nx)))
theorem xJG:let s1:=Z.row (wkc ak af ac ad ae aa ab am ar ah) 6;let s2:=s1.row (zF aB aN ax ay aE) 5;∀ (h1:qm 47 [iV aB,iV 0,iV (ak-1)] s2 (.bool true) s2) (h2:qm 47 [iV aN,iV 0,iV 1439] s2 (.bool false) s2) (nx:Q (.bool false) s2) (u1:I6 (ak-1):=by omega),qg 49 [qf (wkc ak af ac ad ae aa ab am ar ah),qf (zF aB aN ax ay aE)] Z Q:=
 let s1:=Z.row (wkc ak af ac ad ae aa ab am ar ah) 6;let s2:=s1.row (zF aB aN ax ay aE) 5;fun h1 h2 nx u1=>zG [.g,.g,.g,.g,.l (iV aB),.g,.l (iV ak),.n (ak-1),.c (.bool true) s2,.g,.g,.l (iV aN),.c (.bool false) s2,.g,.g,.g,.g,.g,.g,.g,.g,.g,.g] (kd (an6 ((zC _ _ _).rw.ld zU (k:=0) rfl:lz s2 3 ⟨(Z.y+1),0,none⟩ (iV aB)) ((zC _ _ _).row.rw.ld zU (k:=0) rfl:lz s2 3 (qe Z.y 0) (iV ak)) (w64 u1) h1 ((zC _ _ _).rw.ld zU (k:=1) rfl:lz s2 3 ⟨(Z.y+1),1,none⟩ (iV aN)) h2 nx))
theorem xJF:let s1:=Z.row (wkc ak af ac ad ae aa ab am ar ah) 6;let s2:=s1.row (zF aB aN ax ay aE) 5;∀ (h1:qm 47 [iV aB,iV 0,iV (ak-1)] s2 (.bool false) s2) (nx:Q (.bool false) s2) (u1:I6 (ak-1):=by omega),qg 49 [qf (wkc ak af ac ad ae aa ab am ar ah),qf (zF aB aN ax ay aE)] Z Q:=
 let s1:=Z.row (wkc ak af ac ad ae aa ab am ar ah) 6;let s2:=s1.row (zF aB aN ax ay aE) 5;fun h1 nx u1=>zG [.g,.g,.g,.g,.l (iV aB),.g,.l (iV ak),.n (ak-1),.c (.bool false) s2,.g,.g,.g,.g,.g,.g,.g,.g,.g,.g,.g] (kd (an4 ((zC _ _ _).rw.ld zU (k:=0) rfl:lz s2 3 ⟨(Z.y+1),0,none⟩ (iV aB)) ((zC _ _ _).row.rw.ld zU (k:=0) rfl:lz s2 3 (qe Z.y 0) (iV ak)) (w64 u1) h1 nx))
theorem ySX:let s1:=Z.row (wkc ak af ac ad ae aa ab am ar ah) 6;let s2:=s1.row (zO aR aJ aK aX aL aM bh aO aP bG bH bu) 6;∀ (h1:qm 71 [.slice aR aJ aK,iV 0,iV 15] s2 (.bool true) s2) (h2:qm 71 [.slice aX aL aM,iV 0,iV (ak-1)] s2 (.bool true) s2) (h3:qm 71 [.slice bh aO aP,iV 0,iV (ak-1)] s2 (.bool true) s2) (h4:qm 47 [iV bG,iV (-10080),iV 1440] s2 (.bool true) s2) (h5:qm 47 [iV bH,iV 0,iV 14] s2 (.bool true) s2) (h6:qm 47 [iV bu,iV 0,iV ah] s2 (.bool b6) s2) (nx:Q (.bool b6) s2) (u1:I6 (ak-1):=by omega),qg 51 [qf (wkc ak af ac ad ae aa ab am ar ah),qf (zO aR aJ aK aX aL aM bh aO aP bG bH bu)] Z Q:=
 let s1:=Z.row (wkc ak af ac ad ae aa ab am ar ah) 6;let s2:=s1.row (zO aR aJ aK aX aL aM bh aO aP bG bH bu) 6;let s3:=Z.y+1;fun h1 h2 h3 h4 h5 h6 nx u1=>zG [.g,.g,.g,.g,.l (.slice aR aJ aK),.c (.bool true) s2,.g,.g,.l (.slice aX aL aM),.g,.l (iV ak),.n (ak-1),.c (.bool true) s2,.g,.g,.g,.l (.slice bh aO aP),.g,.l (iV ak),.n (ak-1),.c (.bool true) s2,.g,.g,.g,.l (iV bG),.c (.bool true) s2,.g,.g,.g,.l (iV bH),.c (.bool true) s2,.g,.g,.g,.l (iV bu),.g,.l (iV ah),.c (.bool b6) s2,.g,.g] (kd (an5 ((zC _ _ _).rw.ld yZ (k:=0) rfl:lz s2 26 (qe s3 0) (.slice aR aJ aK)) h1 ((zC _ _ _).rw.ld yZ (k:=1) rfl:lz s2 26 (qe s3 1) (.slice aX aL aM)) ((zC _ _ _).row.rw.ld zU (k:=0) rfl:lz s2 3 (qe Z.y 0) (iV ak)) (w64 u1) (an6 h2 ((zC _ _ _).rw.ld yZ (k:=2) rfl:lz s2 26 (qe s3 2) (.slice bh aO aP)) ((zC _ _ _).row.rw.ld zU (k:=0) rfl:lz s2 3 (qe Z.y 0) (iV ak)) (w64 u1) h3 ((zC _ _ _).rw.ld zU (k:=3) rfl:lz s2 3 (qe s3 3) (iV bG)) (an6 h4 ((zC _ _ _).rw.ld zU (k:=4) rfl:lz s2 3 (qe s3 4) (iV bH)) h5 ((zC _ _ _).rw.ld zU (k:=5) rfl:lz s2 3 (qe s3 5) (iV bu)) ((zC _ _ _).row.rw.ld zU (k:=5) rfl:lz s2 3 (qe Z.y 5) (iV ah)) h6 nx))))
theorem ySW:let s1:=Z.row (wkc ak af ac ad ae aa ab am ar ah) 6;let s2:=s1.row (zO aR aJ aK aX aL aM bh aO aP bG bH bu) 6;∀ (h1:qm 71 [.slice aR aJ aK,iV 0,iV 15] s2 (.bool true) s2) (h2:qm 71 [.slice aX aL aM,iV 0,iV (ak-1)] s2 (.bool true) s2) (h3:qm 71 [.slice bh aO aP,iV 0,iV (ak-1)] s2 (.bool true) s2) (h4:qm 47 [iV bG,iV (-10080),iV 1440] s2 (.bool true) s2) (h5:qm 47 [iV bH,iV 0,iV 14] s2 (.bool false) s2) (nx:Q (.bool false) s2) (u1:I6 (ak-1):=by omega),qg 51 [qf (wkc ak af ac ad ae aa ab am ar ah),qf (zO aR aJ aK aX aL aM bh aO aP bG bH bu)] Z Q:=
 let s1:=Z.row (wkc ak af ac ad ae aa ab am ar ah) 6;let s2:=s1.row (zO aR aJ aK aX aL aM bh aO aP bG bH bu) 6;let s3:=Z.y+1;fun h1 h2 h3 h4 h5 nx u1=>zG [.g,.g,.g,.g,.l (.slice aR aJ aK),.c (.bool true) s2,.g,.g,.l (.slice aX aL aM),.g,.l (iV ak),.n (ak-1),.c (.bool true) s2,.g,.g,.g,.l (.slice bh aO aP),.g,.l (iV ak),.n (ak-1),.c (.bool true) s2,.g,.g,.g,.l (iV bG),.c (.bool true) s2,.g,.g,.g,.l (iV bH),.c (.bool false) s2,.g,.g,.g,.g] (kd (an2 ((zC _ _ _).rw.ld yZ (k:=0) rfl:lz s2 26 (qe s3 0) (.slice aR aJ aK)) h1 (an6 ((zC _ _ _).rw.ld yZ (k:=1) rfl:lz s2 26 (qe s3 1) (.slice aX aL aM)) ((zC _ _ _).row.rw.ld zU (k:=0) rfl:lz s2 3 (qe Z.y 0) (iV ak)) (w64 u1) h2 ((zC _ _ _).rw.ld yZ (k:=2) rfl:lz s2 26 (qe s3 2) (.slice bh aO aP)) ((zC _ _ _).row.rw.ld zU (k:=0) rfl:lz s2 3 (qe Z.y 0) (iV ak)) (an6 (w64 u1) h3 ((zC _ _ _).rw.ld zU (k:=3) rfl:lz s2 3 (qe s3 3) (iV bG)) h4 ((zC _ _ _).rw.ld zU (k:=4) rfl:lz s2 3 (qe s3 4) (iV bH)) h5 nx))))
theorem ySV:let s1:=Z.row (wkc ak af ac ad ae aa ab am ar ah) 6;let s2:=s1.row (zO aR aJ aK aX aL aM bh aO aP bG bH bu) 6;∀ (h1:qm 71 [.slice aR aJ aK,iV 0,iV 15] s2 (.bool true) s2) (h2:qm 71 [.slice aX aL aM,iV 0,iV (ak-1)] s2 (.bool true) s2) (h3:qm 71 [.slice bh aO aP,iV 0,iV (ak-1)] s2 (.bool true) s2) (h4:qm 47 [iV bG,iV (-10080),iV 1440] s2 (.bool false) s2) (nx:Q (.bool false) s2) (u1:I6 (ak-1):=by omega),qg 51 [qf (wkc ak af ac ad ae aa ab am ar ah),qf (zO aR aJ aK aX aL aM bh aO aP bG bH bu)] Z Q:=
 let s1:=Z.row (wkc ak af ac ad ae aa ab am ar ah) 6;let s2:=s1.row (zO aR aJ aK aX aL aM bh aO aP bG bH bu) 6;let s3:=Z.y+1;fun h1 h2 h3 h4 nx u1=>zG [.g,.g,.g,.g,.l (.slice aR aJ aK),.c (.bool true) s2,.g,.g,.l (.slice aX aL aM),.g,.l (iV ak),.n (ak-1),.c (.bool true) s2,.g,.g,.g,.l (.slice bh aO aP),.g,.l (iV ak),.n (ak-1),.c (.bool true) s2,.g,.g,.g,.l (iV bG),.c (.bool false) s2,.g,.g,.g,.g,.g,.g] (kd (an6 ((zC _ _ _).rw.ld yZ (k:=0) rfl:lz s2 26 (qe s3 0) (.slice aR aJ aK)) h1 ((zC _ _ _).rw.ld yZ (k:=1) rfl:lz s2 26 (qe s3 1) (.slice aX aL aM)) ((zC _ _ _).row.rw.ld zU (k:=0) rfl:lz s2 3 (qe Z.y 0) (iV ak)) (w64 u1) h2 (an6 ((zC _ _ _).rw.ld yZ (k:=2) rfl:lz s2 26 (qe s3 2) (.slice bh aO aP)) ((zC _ _ _).row.rw.ld zU (k:=0) rfl:lz s2 3 (qe Z.y 0) (iV ak)) (w64 u1) h3 ((zC _ _ _).rw.ld zU (k:=3) rfl:lz s2 3 (qe s3 3) (iV bG)) h4 nx)))
theorem ySU:let s1:=Z.row (wkc ak af ac ad ae aa ab am ar ah) 6;let s2:=s1.row (zO aR aJ aK aX aL aM bh aO aP bG bH bu) 6;∀ (h1:qm 71 [.slice aR aJ aK,iV 0,iV 15] s2 (.bool true) s2) (h2:qm 71 [.slice aX aL aM,iV 0,iV (ak-1)] s2 (.bool true) s2) (h3:qm 71 [.slice bh aO aP,iV 0,iV (ak-1)] s2 (.bool false) s2) (nx:Q (.bool false) s2) (u1:I6 (ak-1):=by omega),qg 51 [qf (wkc ak af ac ad ae aa ab am ar ah),qf (zO aR aJ aK aX aL aM bh aO aP bG bH bu)] Z Q:=
 let s1:=Z.row (wkc ak af ac ad ae aa ab am ar ah) 6;let s2:=s1.row (zO aR aJ aK aX aL aM bh aO aP bG bH bu) 6;let s3:=Z.y+1;fun h1 h2 h3 nx u1=>zG [.g,.g,.g,.g,.l (.slice aR aJ aK),.c (.bool true) s2,.g,.g,.l (.slice aX aL aM),.g,.l (iV ak),.n (ak-1),.c (.bool true) s2,.g,.g,.g,.l (.slice bh aO aP),.g,.l (iV ak),.n (ak-1),.c (.bool false) s2,.g,.g,.g,.g,.g,.g,.g,.g] (kd (an4 ((zC _ _ _).rw.ld yZ (k:=0) rfl:lz s2 26 (qe s3 0) (.slice aR aJ aK)) h1 ((zC _ _ _).rw.ld yZ (k:=1) rfl:lz s2 26 (qe s3 1) (.slice aX aL aM)) ((zC _ _ _).row.rw.ld zU (k:=0) rfl:lz s2 3 (qe Z.y 0) (iV ak)) (an6 (w64 u1) h2 ((zC _ _ _).rw.ld yZ (k:=2) rfl:lz s2 26 (qe s3 2) (.slice bh aO aP)) ((zC _ _ _).row.rw.ld zU (k:=0) rfl:lz s2 3 (qe Z.y 0) (iV ak)) (w64 u1) h3 nx)))
theorem yST:let s1:=Z.row (wkc ak af ac ad ae aa ab am ar ah) 6;let s2:=s1.row (zO aR aJ aK aX aL aM bh aO aP bG bH bu) 6;∀ (h1:qm 71 [.slice aR aJ aK,iV 0,iV 15] s2 (.bool true) s2) (h2:qm 71 [.slice aX aL aM,iV 0,iV (ak-1)] s2 (.bool false) s2) (nx:Q (.bool false) s2) (u1:I6 (ak-1):=by omega),qg 51 [qf (wkc ak af ac ad ae aa ab am ar ah),qf (zO aR aJ aK aX aL aM bh aO aP bG bH bu)] Z Q:=
 let s1:=Z.row (wkc ak af ac ad ae aa ab am ar ah) 6;let s2:=s1.row (zO aR aJ aK aX aL aM bh aO aP bG bH bu) 6;fun h1 h2 nx u1=>zG [.g,.g,.g,.g,.l (.slice aR aJ aK),.c (.bool true) s2,.g,.g,.l (.slice aX aL aM),.g,.l (iV ak),.n (ak-1),.c (.bool false) s2,.g,.g,.g,.g,.g,.g,.g,.g,.g,.g] (kd (an6 ((zC _ _ _).rw.ld yZ (k:=0) rfl:lz s2 26 ⟨(Z.y+1),0,none⟩ (.slice aR aJ aK)) h1 ((zC _ _ _).rw.ld yZ (k:=1) rfl:lz s2 26 ⟨(Z.y+1),1,none⟩ (.slice aX aL aM)) ((zC _ _ _).row.rw.ld zU (k:=0) rfl:lz s2 3 (qe Z.y 0) (iV ak)) (w64 u1) h2 nx))
theorem ySS:let s1:=Z.row (wkc ak af ac ad ae aa ab am ar ah) 6;let s2:=s1.row (zO aR aJ aK aX aL aM bh aO aP bG bH bu) 6;∀ (h1:qm 71 [.slice aR aJ aK,iV 0,iV 15] s2 (.bool false) s2) (nx:Q (.bool false) s2),qg 51 [qf (wkc ak af ac ad ae aa ab am ar ah),qf (zO aR aJ aK aX aL aM bh aO aP bG bH bu)] Z Q:=
 let s1:=Z.row (wkc ak af ac ad ae aa ab am ar ah) 6;let s2:=s1.row (zO aR aJ aK aX aL aM bh aO aP bG bH bu) 6;fun h1 nx=>zG [.g,.g,.g,.g,.l (.slice aR aJ aK),.c (.bool false) s2,.g,.g,.g,.g,.g,.g,.g,.g,.g,.g,.g] (kd (an2 ((zC _ _ _).rw.ld yZ (k:=0) rfl:lz s2 26 ⟨(Z.y+1),0,none⟩ (.slice aR aJ aK)) h1 nx))
theorem xVW:let Y1:=Z.row [.func (.func right) ⟨[]⟩ ⟨bF⟩] 1;∀ (h1:qm 89 [.slice l l_l l_c,.func (.func 90) ⟨[]⟩ ⟨[pq Z.y 0]⟩] Y1 (.bool true) Y1) (nx:Q (.bool false) Y1),qg 72 [.slice l l_l l_c,.func (.func right) ⟨[]⟩ ⟨bF⟩] Z Q:=
 fun h1 nx=>zG [.g,.g,.g,.g,.c (.bool true) (Z.row [.func (.func right) ⟨[]⟩ ⟨bF⟩] 1),.g,.g] (kd (ai h1 nx))
theorem xVV:let Y1:=Z.row [.func (.func right) ⟨[]⟩ ⟨bF⟩] 1;∀ (h1:qm 89 [.slice l l_l l_c,.func (.func 90) ⟨[]⟩ ⟨[pq Z.y 0]⟩] Y1 (.bool false) Y1) (nx:Q (.bool true) Y1),qg 72 [.slice l l_l l_c,.func (.func right) ⟨[]⟩ ⟨bF⟩] Z Q:=
 fun h1 nx=>zG [.g,.g,.g,.g,.c (.bool false) (Z.row [.func (.func right) ⟨[]⟩ ⟨bF⟩] 1),.g,.g] (kd (ai h1 nx))
theorem xUY (h1:qm 105 [.slice s s_l s_c,.func (.func f) ⟨[]⟩ ⟨f_c⟩] Z (iV n1) Z) (nx:Q (.bool true) Z) (u1:0<=n1:=by omega):qg 89 [.slice s s_l s_c,.func (.func f) ⟨[]⟩ ⟨f_c⟩] Z Q :=
 zG [.g,.g,.g,.c (iV n1) Z,.b true,.g] (kd (an2 h1 (yE u1) nx))
theorem xUX (h1:qm 105 [.slice s s_l s_c,.func (.func f) ⟨[]⟩ ⟨f_c⟩] Z (iV n1) Z) (nx:Q (.bool false) Z) (u1:¬ 0<=n1:=by omega):qg 89 [.slice s s_l s_c,.func (.func f) ⟨[]⟩ ⟨f_c⟩] Z Q :=
 zG [.g,.g,.g,.c (iV n1) Z,.b false,.g] (kd (an2 h1 (yH u1) nx))
theorem xQS (h1:lz Z 105 v0 (.func (.func f1) ⟨[]⟩ ⟨dT⟩)) (h2:qm f1 (iV x::dT) Z (.bool true) Z) (nx:Q (.bool false) Z):qg 90 [iV x,pz v0] Z Q :=
 zG [.g,.l (.func (.func f1) ⟨[]⟩ ⟨dT⟩),.g,.c (.bool true) Z,.g,.g] (kd (an2 h1 h2 nx))
theorem xQR (h1:lz Z 105 v0 (.func (.func f1) ⟨[]⟩ ⟨dT⟩)) (h2:qm f1 (iV x::dT) Z (.bool false) Z) (nx:Q (.bool true) Z):qg 90 [iV x,pz v0] Z Q :=
 zG [.g,.l (.func (.func f1) ⟨[]⟩ ⟨dT⟩),.g,.c (.bool false) Z,.g,.g] (kd (an2 h1 h2 nx))
theorem yXD (hb:∀ k aG Z,Inv k aG Z->zXC s s_l s_c f f_c aG Z (NX1 Inv k) Qr Q0):∀ k aG Z,Inv k aG Z->xCF s s_l s_c f f_c aG Z Qr Q0 :=
 xF (ai zAR (ai (xX 0) trivial)) hb
theorem xOH (h1:lz Z 3 (zL s_a (Int.toNat aG*1)) (iV nE)) (h2:qm f (iV nE::f_c) Z (.bool true) Z) (nx:Qr aG Z) (u1:aG<(s_l:Int):=by omega) (u2:Ix aG s_l:=by omega):zXC (some s_a) s_l s_c f f_c aG Z Nx Qr Q0 :=
 kO 1 aG [.b true,.g,.g,.g,.g,.g,.i,.l (iV nE),.c (.bool true) Z,.g,.g] (fun _ f=>an4 (zR u1) u2 h1 h2 f) nx
theorem xOG (h1:lz Z 3 (zL s_a (Int.toNat aG*1)) (iV nE)) (h2:qm f (iV nE::f_c) Z (.bool false) Z) (nx:Nx (aG+1) Z) (u1:aG<(s_l:Int):=by omega) (u2:Ix aG s_l:=by omega) (u3:I6 (aG+1):=by omega):zXC (some s_a) s_l s_c f f_c aG Z Nx Qr Q0 :=
 kO 0 (aG+1) [.b true,.g,.g,.g,.g,.g,.i,.l (iV nE),.c (.bool false) Z,.n (aG+1),.g] (fun _ f=>an5 (zR u1) u2 h1 h2 (w64 u3) f) nx
theorem xOF (nx:Q0 Z) (u1:¬ aG<(s_l:Int):=by omega):zXC s s_l s_c f f_c aG Z Nx Qr Q0 :=
 kO 2 () [.b false] (fun _ f=>ai (zT u1) f) nx
theorem xUH (hL:xCF s s_l s_c f f_c 0 Z Pr P0) (kr:∀ i4_1' Z',Pr i4_1' Z'->yGL s s_l s_c f f_c i4_1' Z' Q) (k0:∀ Z',P0 Z'->yGM s s_l s_c f f_c Z' Q):qg 105 [.slice s s_l s_c,.func (.func f) ⟨[]⟩ ⟨f_c⟩] Z Q :=
 zG [.g,.g,.g,.g,.lf 19 (zQO s s_l s_c f f_c 0) [zSS s s_l s_c f f_c Pr,zST s s_l s_c f f_c P0]] (kd (ai (ai tt (ai (arf (zQO s s_l s_c f f_c 0)) hL)) (ai (kz1 kr) (ai (kz0 k0) trivial))))
theorem yXB (nx:Q (iV bi) Z):yGL s s_l s_c f f_c bi Z Q :=
 sK [] nx
theorem yXC (nx:Q (iV (-1)) Z):yGM s s_l s_c f f_c Z Q :=
 sK [.g] nx
theorem yTQ (h1:lz Z 32 (zL v0 2) (.slice q1 l1 c1)) (h2:qm 47 [iV n,iV (-1),iV ((l1:Int)-1)] Z (.bool b2) Z) (nx:Q (.bool b2) Z) (u1:I6 ((l1:Int)-1):=by omega):qg 73 [iV n,pz v0] Z Q :=
 zG [.g,.g,.g,.l (.slice q1 l1 c1),.g,.n ((l1:Int)-1),.c (.bool b2) Z,.g] (kd (an3 h1 (w64 u1) h2 nx))
theorem ySP:let s1:=Z.row (wkc ak af ac ad ae aa ab am ar ah) 6;∀ (h1:qm 72 [.slice l l_l l_c,.func (.func 73) ⟨[]⟩ ⟨[pq Z.y 0]⟩] s1 (.bool b1) s1) (nx:Q (.bool b1) s1) (u1:(l_l:Int)=(ac:Int):=by omega),qg 52 [qf (wkc ak af ac ad ae aa ab am ar ah),.slice l l_l l_c] Z Q:=
 let s1:=Z.row (wkc ak af ac ad ae aa ab am ar ah) 6;fun h1 nx u1=>zG [.g,.g,.g,.g,.g,.l (.slice af ac ad),.g,.b true,.g,.g,.g,.c (.bool b1) s1,.g,.g] (kd (an3 ((zC _ _ _).rw.ld uL (k:=1) rfl:lz s1 31 (qe Z.y 1) (.slice af ac ad)) (xK u1) h1 nx))
theorem ySO (nx:Q (.bool false) (Z.row (wkc ak af ac ad ae aa ab am ar ah) 6)) (u1:¬ (l_l:Int)=(ac:Int):=by omega):qg 52 [qf (wkc ak af ac ad ae aa ab am ar ah),.slice l l_l l_c] Z Q :=
 zG [.g,.g,.g,.g,.g,.l (.slice af ac ad),.g,.b false,.g,.g,.g] (kd (an2 ((zC _ _ _).rw.ld uL (k:=1) rfl:lz (Z.row (wkc ak af ac ad ae aa ab am ar ah) 6) 31 (qe Z.y 1) (.slice af ac ad)) (xH u1) nx))
theorem xDA (nx:Q (.bool false) (Z.row (wkc ak af ac ad ae aa ab am ar ah) 6)) (u1:¬ (l_l:Int)=(ac:Int):=by omega):qg 53 [qf (wkc ak af ac ad ae aa ab am ar ah),.slice l l_l l_c] Z Q :=
 zG [.g,.g,.g,.g,.g,.l (.slice af ac ad),.g,.b true,.g] (kd (an2 ((zC _ _ _).rw.ld uL (k:=1) rfl:lz (Z.row (wkc ak af ac ad ae aa ab am ar ah) 6) 31 (qe Z.y 1) (.slice af ac ad)) (zEV u1) nx))
theorem yID {Qr:Bool->St->Prop} (hb:∀ k bJ Z,Inv k bJ Z->zLI BA l l_l l_c bJ Z (NX1 Inv k) Qr Q0):∀ k bJ Z,Inv k bJ Z->yDT BA l l_l l_c bJ Z Qr Q0 :=
 xF (ai zAR (ai (xX 0) trivial)) hb
theorem ySL {Qr:Bool->St->Prop}:let s1:=Z.row [iV 0,iV 0] 2;let s2:=s1.own Z.y [iV nA,iV nB] 2;∀ (h1:lz Z 3 (zL l_a (Int.toNat bJ*1)) (iV nE)) (h2:lz Z 31 (qe BA 1) (.slice (some eJ) lG cF)) (h3:lz Z 83 (zL eJ ((Int.toNat bJ*5)+2)) (qf [iV nA,iV nB])) (h4:qm 47 [iV nE,iV nA,iV nB] s2 (.bool true) s2) (nx:Nx (bJ+1) s2) (u1:bJ<(l_l:Int):=by omega) (u2:Ix bJ l_l:=by omega) (u3:Ix bJ lG:=by omega) (u4:I6 (bJ+1):=by omega),zLI BA (some l_a) l_l l_c bJ Z Nx Qr Q0:=
 let s1:=Z.row [iV 0,iV 0] 2;let s2:=s1.own Z.y [iV nA,iV nB] 2;fun h1 h2 h3 h4 nx u1 u2 u3 u4=>kO 0 (bJ+1) [.b true,.g,.i,.l (iV nE),.g,.g,.g,.l (.slice (some eJ) lG cF),.g,.i,.g,.l (qf [iV nA,iV nB]),.g,.e undef s2,.g,.g,.l (iV nA),.g,.l (iV nB),.c (.bool true) s2,.g,.n (bJ+1),.g] (fun _ f=>an5 (zR u1) u2 h1 h2 u3 (an6 h3 ((zC _ _ _).store (vs:=[iV nA,iV nB]) rfl yTG rfl (nle rfl) rfl:qn (evL [pq Z.y 0,qf [iV nA,iV nB]]) s1 (.store 83 (.tmp 0) (.tmp 1))=some (undef,s2)) ((zC _ _ _).put.rw.ld zU (k:=0) rfl:lz s2 3 (qe Z.y 0) (iV nA)) ((zC _ _ _).put.rw.ld zU (k:=1) rfl:lz s2 3 (qe Z.y 1) (iV nB)) h4 (w64 u4) f)) nx
theorem ySK {Qr:Bool->St->Prop}:let s1:=Z.row [iV 0,iV 0] 2;let s2:=s1.own Z.y [iV nA,iV nB] 2;∀ (h1:lz Z 3 (zL l_a (Int.toNat bJ*1)) (iV nE)) (h2:lz Z 31 (qe BA 1) (.slice (some eJ) lG cF)) (h3:lz Z 83 (zL eJ ((Int.toNat bJ*5)+2)) (qf [iV nA,iV nB])) (h4:qm 47 [iV nE,iV nA,iV nB] s2 (.bool false) s2) (nx:Qr false s2) (u1:bJ<(l_l:Int):=by omega) (u2:Ix bJ l_l:=by omega) (u3:Ix bJ lG:=by omega),zLI BA (some l_a) l_l l_c bJ Z Nx Qr Q0:=
 let s1:=Z.row [iV 0,iV 0] 2;let s2:=s1.own Z.y [iV nA,iV nB] 2;fun h1 h2 h3 h4 nx u1 u2 u3=>kO 1 false [.b true,.g,.i,.l (iV nE),.g,.g,.g,.l (.slice (some eJ) lG cF),.g,.i,.g,.l (qf [iV nA,iV nB]),.g,.e undef s2,.g,.g,.l (iV nA),.g,.l (iV nB),.c (.bool false) s2,.g,.g] (fun _ f=>an4 (zR u1) u2 h1 h2 (an6 u3 h3 ((zC _ _ _).store (vs:=[iV nA,iV nB]) rfl yTG rfl (nle rfl) rfl:qn (evL [pq Z.y 0,qf [iV nA,iV nB]]) s1 (.store 83 (.tmp 0) (.tmp 1))=some (undef,s2)) ((zC _ _ _).put.rw.ld zU (k:=0) rfl:lz s2 3 (qe Z.y 0) (iV nA)) ((zC _ _ _).put.rw.ld zU (k:=1) rfl:lz s2 3 (qe Z.y 1) (iV nB)) h4 f)) nx
theorem ySJ {Qr:Bool->St->Prop} (nx:Q0 Z) (u1:¬ bJ<(l_l:Int):=by omega):zLI BA l l_l l_c bJ Z Nx Qr Q0 :=
 kO 2 () [.b false] (fun _ f=>ai (zT u1) f) nx
theorem xCZ {Pr:Bool->St->Prop} (hL:yDT Z.y l l_l l_c 0 (Z.row (wkc ak af ac ad ae aa ab am ar ah) 6) Pr P0) (kr:∀ t4_1' Z',Pr t4_1' Z'->zTY Z.y l l_l l_c t4_1' Z' Q) (k0:∀ Z',P0 Z'->zTZ Z.y l l_l l_c Z' Q) (u1:(l_l:Int)=(ac:Int):=by omega):qg 53 [qf (wkc ak af ac ad ae aa ab am ar ah),.slice l l_l l_c] Z Q :=
 zG [.g,.g,.g,.g,.g,.l (.slice af ac ad),.g,.b false,.g,.g,.g,.lf 35 (zFQ Z.y l l_l l_c 0) [zIQ Z.y l l_l l_c Pr,zIR Z.y l l_l l_c P0]] (kd (an2 ((zC _ _ _).rw.ld uL (k:=1) rfl:lz (Z.row (wkc ak af ac ad ae aa ab am ar ah) 6) 31 (qe Z.y 1) (.slice af ac ad)) (vF u1) (ai (ai tt (ai (arf (zFQ Z.y l l_l l_c 0)) hL)) (ai (kz1 kr) (ai (kz0 k0) trivial)))))
theorem yIB (nx:Q (.bool fS) Z):zTY BA l l_l l_c fS Z Q :=
 sK [] nx
theorem yIC (nx:Q (.bool true) Z):zTZ BA l l_l l_c Z Q :=
 sK [.g] nx
theorem yPM (hb:∀ k aG Z,Inv k aG Z->zQL s s_l s_c v aG Z (NX1 Inv k) Qr Q0):∀ k aG Z,Inv k aG Z->yPO s s_l s_c v aG Z Qr Q0 :=
 xF (ai zAR (ai (xX 0) trivial)) hb
theorem xGQ (h1:lz Z 3 (zL s_a (Int.toNat aG*1)) (iV nE)) (nx:Qr aG Z) (u1:aG<(s_l:Int):=by omega) (u2:Ix aG s_l:=by omega) (u3:v=nE:=by omega):zQL (some s_a) s_l s_c v aG Z Nx Qr Q0 :=
 kO 1 aG [.b true,.g,.g,.g,.g,.g,.i,.l (iV nE),.b true,.g,.g] (fun _ f=>an4 (zR u1) u2 h1 (xK u3) f) nx
theorem xGP (h1:lz Z 3 (zL s_a (Int.toNat aG*1)) (iV nE)) (nx:Nx (aG+1) Z) (u1:aG<(s_l:Int):=by omega) (u2:Ix aG s_l:=by omega) (u3:¬ v=nE:=by omega) (u4:I6 (aG+1):=by omega):zQL (some s_a) s_l s_c v aG Z Nx Qr Q0 :=
 kO 0 (aG+1) [.b true,.g,.g,.g,.g,.g,.i,.l (iV nE),.b false,.n (aG+1),.g] (fun _ f=>an5 (zR u1) u2 h1 (xH u3) (w64 u4) f) nx
theorem xGO (nx:Q0 Z) (u1:¬ aG<(s_l:Int):=by omega):zQL s s_l s_c v aG Z Nx Qr Q0 :=
 kO 2 () [.b false] (fun _ f=>ai (zT u1) f) nx
theorem xNV (hL:yPO s s_l s_c v 0 Z Pr P0) (kr:∀ i4_1' Z',Pr i4_1' Z'->yAF s s_l s_c v i4_1' Z' Q) (k0:∀ Z',P0 Z'->yAG s s_l s_c v Z' Q):qg 83 [.slice s s_l s_c,iV v] Z Q :=
 zG [.g,.g,.g,.g,.lf 19 (zKG s s_l s_c v 0) [zOI s s_l s_c v Pr,zOJ s s_l s_c v P0]] (kd (ai (ai tt (ai (arf (zKG s s_l s_c v 0)) hL)) (ai (kz1 kr) (ai (kz0 k0) trivial))))
theorem yPK (nx:Q (iV bi) Z):yAF s s_l s_c v bi Z Q :=
 sK [] nx
theorem yPL (nx:Q (iV (-1)) Z):yAG s s_l s_c v Z Q :=
 sK [.g] nx
theorem xVA (h1:qm 83 [.slice s s_l s_c,iV v] Z (iV n1) Z) (nx:Q (.bool true) Z) (u1:0<=n1:=by omega):qg 58 [.slice s s_l s_c,iV v] Z Q :=
 zG [.g,.g,.g,.c (iV n1) Z,.b true,.g] (kd (an2 h1 (yE u1) nx))
theorem xUZ (h1:qm 83 [.slice s s_l s_c,iV v] Z (iV n1) Z) (nx:Q (.bool false) Z) (u1:¬ 0<=n1:=by omega):qg 58 [.slice s s_l s_c,iV v] Z Q :=
 zG [.g,.g,.g,.c (iV n1) Z,.b false,.g] (kd (an2 h1 (yH u1) nx))
end
section
noncomputable section
variable (roster:oAa) (aA aD:Nat) (q5:Int->St->Prop) (duty aI ak bM:Int) (q0:Int->Int->St->Prop) (af:oAa) (ac ad:Nat) (ae:oAa) (aa ab:Nat) (am ar ah:Int) (dY:oAa) (q7:(Option Addr)->Nat->Nat->St->Prop) (q6:(Option Addr)->Nat->Nat->Int->St->Prop) (dZ d8:Nat) (dR:Int) (Z:St) (q8:(Option Addr)->Nat->Nat->Int->St->Prop) (Q:vPa) (Nx:Int->Int->St->Prop) (q9:(Option Addr)->Nat->Nat->St->Prop) (Q0:Int->St->Prop)
def yHG:Code:=(Code.part [1,0,1,0,0] (qh 63))
def zGJ:lNa:=[(2,iV aI),(5,.slice roster aA aD),(6,iV (aA:Int)),(7,iV bM)]
def yXW:Alt:=⟨Int × Int,.normal,fun t=>zGJ roster aA aD t.1 t.2,fun t=>[],fun t Z=>q0 t.1 t.2 Z⟩
def zVI (roster:oAa) (aA aD:Nat) (aI:Int):lNa:=[(2,iV aI)]
def zKQ:Alt:=⟨Int,(.exit 0),fun t=>zVI roster aA aD t,fun t=>[],fun t Z=>q5 t Z⟩
def zMH:Prop:=qi qj none yHG 17 (zGJ roster aA aD aI bM) [] [yXW roster aA aD Nx,zKQ roster aA aD Q0] Z
def yHH:Prop:=qk qj none yHG 17 (zGJ roster aA aD aI bM) [] [zKQ roster aA aD Q0] Z
def zVJ:Prop:=kZ qj (qh 63) [1,0,1,0] (ql 63 Q) (.exit 0) 17 (zVI roster aA aD aI) Z
def yHW:Code:=(Code.part [1,1,1,1,1,0,1,0,0] (qh 32))
def zGP:lNa:=[(1,.slice roster aA aD),(2,iV duty),(9,.func (.func 62) ⟨[qf (wkc ak af ac ad ae aa ab am ar ah)]⟩ ⟨[]⟩),(10,.slice dY dZ d8),(35,iV (aa:Int)),(36,iV dR)]
def xAB:Alt:=⟨(Option Addr) × Nat × Nat × Int,.normal,fun t=>zGP roster aA aD duty ak af ac ad ae aa ab am ar ah t.1 t.2.1 t.2.2.1 t.2.2.2,fun t=>[],fun t Z=>q6 t.1 t.2.1 t.2.2.1 t.2.2.2 Z⟩
def zVU (roster:oAa) (aA aD:Nat) (duty ak:Int) (af:oAa) (ac ad:Nat) (ae:oAa) (aa ab:Nat) (am ar ah:Int) (dY:oAa) (dZ d8:Nat):lNa:=[(10,.slice dY dZ d8)]
def zLE:Alt:=⟨(Option Addr) × Nat × Nat,(.exit 0),fun t=>zVU roster aA aD duty ak af ac ad ae aa ab am ar ah t.1 t.2.1 t.2.2,fun t=>[],fun t Z=>q7 t.1 t.2.1 t.2.2 Z⟩
def zMP:Prop:=qi qj none yHW 54 (zGP roster aA aD duty ak af ac ad ae aa ab am ar ah dY dZ d8 dR) [] [xAB roster aA aD duty ak af ac ad ae aa ab am ar ah q8,zLE roster aA aD duty ak af ac ad ae aa ab am ar ah q9] Z
def yHX:Prop:=qk qj none yHW 54 (zGP roster aA aD duty ak af ac ad ae aa ab am ar ah dY dZ d8 dR) [] [zLE roster aA aD duty ak af ac ad ae aa ab am ar ah q9] Z
def zVV:Prop:=kZ qj (qh 32) [1,1,1,1,1,0,1,0] (ql 32 Q) (.exit 0) 54 (zVU roster aA aD duty ak af ac ad ae aa ab am ar ah dY dZ d8) Z
end
variable {ak am ar ah n1 eM n4 aI bM nE duty dR:Int} {af ae roster gd q4 q1 q3 dY qKB s q2:oAa} {ac ad aa ab aA aD fh fi l4 c4 l1 c1 l3 c3 dZ d8 lA cE lOB cLB s_l s_c l2 c2:Nat} {Z Z5 Z2 Z4 ZC ZD ZHB Z1:St} {Q:vPa} {Inv:Nat->Int->Int->St->Prop} {Q0 P0:Int->St->Prop} {eO dc:Addr} {Nx:Int->Int->St->Prop}
theorem yLX (nx:Q (iV 3) (Z.row (wkc ak af ac ad ae aa ab am ar ah) 6)) (u1:12<(ac:Int):=by omega):qg 16 [qf (wkc ak af ac ad ae aa ab am ar ah)] Z Q :=
 zG [.g,.g,.g,.l (.slice af ac ad),.g,.b true,.g,.g,.g,.g] (kd (an2 ((zC _ _ _).rw.ld uL (k:=1) rfl:lz (Z.row (wkc ak af ac ad ae aa ab am ar ah) 6) 31 (qe Z.y 1) (.slice af ac ad)) (zR u1) nx))
theorem yLW:let y0:=wkc ak af ac ad ae aa ab am ar ah;∀ (nx:Q (iV 3) (Z.row y0 6)) (u1:¬ 12<(ac:Int):=by omega) (u2:6<(aa:Int):=by omega),qg 16 [qf y0] Z Q :=
 let s1:=Z.row (wkc ak af ac ad ae aa ab am ar ah) 6;fun nx u1 u2=>zG [.g,.g,.g,.l (.slice af ac ad),.g,.b false,.g,.g,.l (.slice ae aa ab),.g,.b true,.g,.g,.g] (kd (an4 ((zC _ _ _).rw.ld uL (k:=1) rfl:lz s1 31 (qe Z.y 1) (.slice af ac ad)) (zT u1) ((zC _ _ _).rw.ld zAX (k:=2) rfl:lz s1 32 (qe Z.y 2) (.slice ae aa ab)) (zR u2) nx))
theorem yLV:let s1:=Z.row (wkc ak af ac ad ae aa ab am ar ah) 6;∀ (h1:qm 47 [iV ak,iV 1,iV 7] s1 (.bool true) s1) (h2:qm 47 [iV am,iV 0,iV 3000] s1 (.bool true) s1) (h3:qm 47 [iV ar,iV 1,iV 14] s1 (.bool true) s1) (h4:qm 47 [iV ah,iV 0,iV 20000] s1 (.bool true) s1) (h5:qm 48 [.slice af ac ad,.func (.func 49) ⟨[qf (wkc ak af ac ad ae aa ab am ar ah)]⟩ ⟨[]⟩] s1 (.bool true) s1) (h6:qm 50 [.slice ae aa ab,.func (.func 51) ⟨[qf (wkc ak af ac ad ae aa ab am ar ah)]⟩ ⟨[]⟩] s1 (.bool true) s1) (nx:Q (iV 0) s1) (u1:¬ 12<(ac:Int):=by omega) (u2:¬ 6<(aa:Int):=by omega),qg 16 [qf (wkc ak af ac ad ae aa ab am ar ah)] Z Q:=
 let s1:=Z.row (wkc ak af ac ad ae aa ab am ar ah) 6;fun h1 h2 h3 h4 h5 h6 nx u1 u2=>zG [.g,.g,.g,.l (.slice af ac ad),.g,.b false,.g,.g,.l (.slice ae aa ab),.g,.b false,.g,.g,.g,.l (iV ak),.c (.bool true) s1,.g,.g,.g,.l (iV am),.c (.bool true) s1,.g,.g,.g,.g,.l (iV ar),.c (.bool true) s1,.g,.g,.g,.g,.l (iV ah),.c (.bool true) s1,.g,.g,.g,.g,.l (.slice af ac ad),.l (qf (wkc ak af ac ad ae aa ab am ar ah)),.g,.c (.bool true) s1,.g,.g,.g,.l (.slice ae aa ab),.l (qf (wkc ak af ac ad ae aa ab am ar ah)),.g,.c (.bool true) s1,.g,.g,.g,.g] (kd (an6 ((zC _ _ _).rw.ld uL (k:=1) rfl:lz s1 31 (qe Z.y 1) (.slice af ac ad)) (zT u1) ((zC _ _ _).rw.ld zAX (k:=2) rfl:lz s1 32 (qe Z.y 2) (.slice ae aa ab)) (zT u2) ((zC _ _ _).rw.ld zU (k:=0) rfl:lz s1 3 (qe Z.y 0) (iV ak)) h1 (an6 ((zC _ _ _).rw.ld zU (k:=3) rfl:lz s1 3 (qe Z.y 3) (iV am)) h2 ((zC _ _ _).rw.ld zU (k:=4) rfl:lz s1 3 (qe Z.y 4) (iV ar)) h3 ((zC _ _ _).rw.ld zU (k:=5) rfl:lz s1 3 (qe Z.y 5) (iV ah)) h4 (an6 ((zC _ _ _).rw.ld uL (k:=1) rfl:lz s1 31 (qe Z.y 1) (.slice af ac ad)) ((zC _ _ _).rw.ldN xL yS (k:=0) rfl rfl (nle rfl):lz s1 34 (qe Z.y 0) (qf (wkc ak af ac ad ae aa ab am ar ah))) h5 ((zC _ _ _).rw.ld zAX (k:=2) rfl:lz s1 32 (qe Z.y 2) (.slice ae aa ab)) ((zC _ _ _).rw.ldN xL yS (k:=0) rfl rfl (nle rfl):lz s1 34 (qe Z.y 0) (qf (wkc ak af ac ad ae aa ab am ar ah))) h6 nx))))
theorem yLU:let s1:=Z.row (wkc ak af ac ad ae aa ab am ar ah) 6;∀ (h1:qm 47 [iV ak,iV 1,iV 7] s1 (.bool true) s1) (h2:qm 47 [iV am,iV 0,iV 3000] s1 (.bool true) s1) (h3:qm 47 [iV ar,iV 1,iV 14] s1 (.bool true) s1) (h4:qm 47 [iV ah,iV 0,iV 20000] s1 (.bool true) s1) (h5:qm 48 [.slice af ac ad,.func (.func 49) ⟨[qf (wkc ak af ac ad ae aa ab am ar ah)]⟩ ⟨[]⟩] s1 (.bool true) s1) (h6:qm 50 [.slice ae aa ab,.func (.func 51) ⟨[qf (wkc ak af ac ad ae aa ab am ar ah)]⟩ ⟨[]⟩] s1 (.bool false) s1) (nx:Q (iV 1) s1) (u1:¬ 12<(ac:Int):=by omega) (u2:¬ 6<(aa:Int):=by omega),qg 16 [qf (wkc ak af ac ad ae aa ab am ar ah)] Z Q:=
 let s1:=Z.row (wkc ak af ac ad ae aa ab am ar ah) 6;fun h1 h2 h3 h4 h5 h6 nx u1 u2=>zG [.g,.g,.g,.l (.slice af ac ad),.g,.b false,.g,.g,.l (.slice ae aa ab),.g,.b false,.g,.g,.g,.l (iV ak),.c (.bool true) s1,.g,.g,.g,.l (iV am),.c (.bool true) s1,.g,.g,.g,.g,.l (iV ar),.c (.bool true) s1,.g,.g,.g,.g,.l (iV ah),.c (.bool true) s1,.g,.g,.g,.g,.l (.slice af ac ad),.l (qf (wkc ak af ac ad ae aa ab am ar ah)),.g,.c (.bool true) s1,.g,.g,.g,.l (.slice ae aa ab),.l (qf (wkc ak af ac ad ae aa ab am ar ah)),.g,.c (.bool false) s1,.g,.g,.g,.g] (kd (an6 ((zC _ _ _).rw.ld uL (k:=1) rfl:lz s1 31 (qe Z.y 1) (.slice af ac ad)) (zT u1) ((zC _ _ _).rw.ld zAX (k:=2) rfl:lz s1 32 (qe Z.y 2) (.slice ae aa ab)) (zT u2) ((zC _ _ _).rw.ld zU (k:=0) rfl:lz s1 3 (qe Z.y 0) (iV ak)) h1 (an6 ((zC _ _ _).rw.ld zU (k:=3) rfl:lz s1 3 (qe Z.y 3) (iV am)) h2 ((zC _ _ _).rw.ld zU (k:=4) rfl:lz s1 3 (qe Z.y 4) (iV ar)) h3 ((zC _ _ _).rw.ld zU (k:=5) rfl:lz s1 3 (qe Z.y 5) (iV ah)) h4 (an6 ((zC _ _ _).rw.ld uL (k:=1) rfl:lz s1 31 (qe Z.y 1) (.slice af ac ad)) ((zC _ _ _).rw.ldN xL yS (k:=0) rfl rfl (nle rfl):lz s1 34 (qe Z.y 0) (qf (wkc ak af ac ad ae aa ab am ar ah))) h5 ((zC _ _ _).rw.ld zAX (k:=2) rfl:lz s1 32 (qe Z.y 2) (.slice ae aa ab)) ((zC _ _ _).rw.ldN xL yS (k:=0) rfl rfl (nle rfl):lz s1 34 (qe Z.y 0) (qf (wkc ak af ac ad ae aa ab am ar ah))) h6 nx))))
theorem yLT:let s1:=Z.row (wkc ak af ac ad ae aa ab am ar ah) 6;∀ (h1:qm 47 [iV ak,iV 1,iV 7] s1 (.bool true) s1) (h2:qm 47 [iV am,iV 0,iV 3000] s1 (.bool true) s1) (h3:qm 47 [iV ar,iV 1,iV 14] s1 (.bool true) s1) (h4:qm 47 [iV ah,iV 0,iV 20000] s1 (.bool true) s1) (h5:qm 48 [.slice af ac ad,.func (.func 49) ⟨[qf (wkc ak af ac ad ae aa ab am ar ah)]⟩ ⟨[]⟩] s1 (.bool false) s1) (nx:Q (iV 1) s1) (u1:¬ 12<(ac:Int):=by omega) (u2:¬ 6<(aa:Int):=by omega),qg 16 [qf (wkc ak af ac ad ae aa ab am ar ah)] Z Q:=
 let s1:=Z.row (wkc ak af ac ad ae aa ab am ar ah) 6;fun h1 h2 h3 h4 h5 nx u1 u2=>zG [.g,.g,.g,.l (.slice af ac ad),.g,.b false,.g,.g,.l (.slice ae aa ab),.g,.b false,.g,.g,.g,.l (iV ak),.c (.bool true) s1,.g,.g,.g,.l (iV am),.c (.bool true) s1,.g,.g,.g,.g,.l (iV ar),.c (.bool true) s1,.g,.g,.g,.g,.l (iV ah),.c (.bool true) s1,.g,.g,.g,.g,.l (.slice af ac ad),.l (qf (wkc ak af ac ad ae aa ab am ar ah)),.g,.c (.bool false) s1,.g,.g,.g,.g,.g] (kd (an3 ((zC _ _ _).rw.ld uL (k:=1) rfl:lz s1 31 (qe Z.y 1) (.slice af ac ad)) (zT u1) ((zC _ _ _).rw.ld zAX (k:=2) rfl:lz s1 32 (qe Z.y 2) (.slice ae aa ab)) (an6 (zT u2) ((zC _ _ _).rw.ld zU (k:=0) rfl:lz s1 3 (qe Z.y 0) (iV ak)) h1 ((zC _ _ _).rw.ld zU (k:=3) rfl:lz s1 3 (qe Z.y 3) (iV am)) h2 ((zC _ _ _).rw.ld zU (k:=4) rfl:lz s1 3 (qe Z.y 4) (iV ar)) (an6 h3 ((zC _ _ _).rw.ld zU (k:=5) rfl:lz s1 3 (qe Z.y 5) (iV ah)) h4 ((zC _ _ _).rw.ld uL (k:=1) rfl:lz s1 31 (qe Z.y 1) (.slice af ac ad)) ((zC _ _ _).rw.ldN xL yS (k:=0) rfl rfl (nle rfl):lz s1 34 (qe Z.y 0) (qf (wkc ak af ac ad ae aa ab am ar ah))) h5 nx))))
theorem yLS:let s1:=Z.row (wkc ak af ac ad ae aa ab am ar ah) 6;∀ (h1:qm 47 [iV ak,iV 1,iV 7] s1 (.bool true) s1) (h2:qm 47 [iV am,iV 0,iV 3000] s1 (.bool true) s1) (h3:qm 47 [iV ar,iV 1,iV 14] s1 (.bool true) s1) (h4:qm 47 [iV ah,iV 0,iV 20000] s1 (.bool false) s1) (nx:Q (iV 1) s1) (u1:¬ 12<(ac:Int):=by omega) (u2:¬ 6<(aa:Int):=by omega),qg 16 [qf (wkc ak af ac ad ae aa ab am ar ah)] Z Q:=
 let s1:=Z.row (wkc ak af ac ad ae aa ab am ar ah) 6;fun h1 h2 h3 h4 nx u1 u2=>zG [.g,.g,.g,.l (.slice af ac ad),.g,.b false,.g,.g,.l (.slice ae aa ab),.g,.b false,.g,.g,.g,.l (iV ak),.c (.bool true) s1,.g,.g,.g,.l (iV am),.c (.bool true) s1,.g,.g,.g,.g,.l (iV ar),.c (.bool true) s1,.g,.g,.g,.g,.l (iV ah),.c (.bool false) s1,.g,.g,.g,.g] (kd (an6 ((zC _ _ _).rw.ld uL (k:=1) rfl:lz s1 31 (qe Z.y 1) (.slice af ac ad)) (zT u1) ((zC _ _ _).rw.ld zAX (k:=2) rfl:lz s1 32 (qe Z.y 2) (.slice ae aa ab)) (zT u2) ((zC _ _ _).rw.ld zU (k:=0) rfl:lz s1 3 (qe Z.y 0) (iV ak)) h1 (an6 ((zC _ _ _).rw.ld zU (k:=3) rfl:lz s1 3 (qe Z.y 3) (iV am)) h2 ((zC _ _ _).rw.ld zU (k:=4) rfl:lz s1 3 (qe Z.y 4) (iV ar)) h3 ((zC _ _ _).rw.ld zU (k:=5) rfl:lz s1 3 (qe Z.y 5) (iV ah)) h4 nx)))
theorem yLR:let s1:=Z.row (wkc ak af ac ad ae aa ab am ar ah) 6;∀ (h1:qm 47 [iV ak,iV 1,iV 7] s1 (.bool true) s1) (h2:qm 47 [iV am,iV 0,iV 3000] s1 (.bool true) s1) (h3:qm 47 [iV ar,iV 1,iV 14] s1 (.bool false) s1) (nx:Q (iV 1) s1) (u1:¬ 12<(ac:Int):=by omega) (u2:¬ 6<(aa:Int):=by omega),qg 16 [qf (wkc ak af ac ad ae aa ab am ar ah)] Z Q:=
 let s1:=Z.row (wkc ak af ac ad ae aa ab am ar ah) 6;fun h1 h2 h3 nx u1 u2=>zG [.g,.g,.g,.l (.slice af ac ad),.g,.b false,.g,.g,.l (.slice ae aa ab),.g,.b false,.g,.g,.g,.l (iV ak),.c (.bool true) s1,.g,.g,.g,.l (iV am),.c (.bool true) s1,.g,.g,.g,.g,.l (iV ar),.c (.bool false) s1,.g,.g,.g,.g,.g,.g] (kd (an4 ((zC _ _ _).rw.ld uL (k:=1) rfl:lz s1 31 (qe Z.y 1) (.slice af ac ad)) (zT u1) ((zC _ _ _).rw.ld zAX (k:=2) rfl:lz s1 32 (qe Z.y 2) (.slice ae aa ab)) (zT u2) (an6 ((zC _ _ _).rw.ld zU (k:=0) rfl:lz s1 3 (qe Z.y 0) (iV ak)) h1 ((zC _ _ _).rw.ld zU (k:=3) rfl:lz s1 3 (qe Z.y 3) (iV am)) h2 ((zC _ _ _).rw.ld zU (k:=4) rfl:lz s1 3 (qe Z.y 4) (iV ar)) h3 nx)))
theorem yLQ:let s1:=Z.row (wkc ak af ac ad ae aa ab am ar ah) 6;∀ (h1:qm 47 [iV ak,iV 1,iV 7] s1 (.bool true) s1) (h2:qm 47 [iV am,iV 0,iV 3000] s1 (.bool false) s1) (nx:Q (iV 1) s1) (u1:¬ 12<(ac:Int):=by omega) (u2:¬ 6<(aa:Int):=by omega),qg 16 [qf (wkc ak af ac ad ae aa ab am ar ah)] Z Q:=
 let s1:=Z.row (wkc ak af ac ad ae aa ab am ar ah) 6;fun h1 h2 nx u1 u2=>zG [.g,.g,.g,.l (.slice af ac ad),.g,.b false,.g,.g,.l (.slice ae aa ab),.g,.b false,.g,.g,.g,.l (iV ak),.c (.bool true) s1,.g,.g,.g,.l (iV am),.c (.bool false) s1,.g,.g,.g,.g,.g,.g,.g,.g] (kd (an2 ((zC _ _ _).rw.ld uL (k:=1) rfl:lz s1 31 (qe Z.y 1) (.slice af ac ad)) (zT u1) (an6 ((zC _ _ _).rw.ld zAX (k:=2) rfl:lz s1 32 (qe Z.y 2) (.slice ae aa ab)) (zT u2) ((zC _ _ _).rw.ld zU (k:=0) rfl:lz s1 3 (qe Z.y 0) (iV ak)) h1 ((zC _ _ _).rw.ld zU (k:=3) rfl:lz s1 3 (qe Z.y 3) (iV am)) h2 nx)))
theorem yLP:let s1:=Z.row (wkc ak af ac ad ae aa ab am ar ah) 6;∀ (h1:qm 47 [iV ak,iV 1,iV 7] s1 (.bool false) s1) (nx:Q (iV 1) s1) (u1:¬ 12<(ac:Int):=by omega) (u2:¬ 6<(aa:Int):=by omega),qg 16 [qf (wkc ak af ac ad ae aa ab am ar ah)] Z Q:=
 let s1:=Z.row (wkc ak af ac ad ae aa ab am ar ah) 6;fun h1 nx u1 u2=>zG [.g,.g,.g,.l (.slice af ac ad),.g,.b false,.g,.g,.l (.slice ae aa ab),.g,.b false,.g,.g,.g,.l (iV ak),.c (.bool false) s1,.g,.g,.g,.g,.g,.g,.g,.g,.g] (kd (an6 ((zC _ _ _).rw.ld uL (k:=1) rfl:lz s1 31 (qe Z.y 1) (.slice af ac ad)) (zT u1) ((zC _ _ _).rw.ld zAX (k:=2) rfl:lz s1 32 (qe Z.y 2) (.slice ae aa ab)) (zT u2) ((zC _ _ _).rw.ld zU (k:=0) rfl:lz s1 3 (qe Z.y 0) (iV ak)) h1 nx))
theorem xJA:let s1:=Z.row (wkc ak af ac ad ae aa ab am ar ah) 6;∀ (h1:qm 16 [qf (wkc ak af ac ad ae aa ab am ar ah)] s1 (iV n1) s1) (h2:qm 52 [qf (wkc ak af ac ad ae aa ab am ar ah),.slice roster aA aD] s1 (.bool true) s1) (h3:qm 53 [qf (wkc ak af ac ad ae aa ab am ar ah),.slice gd fh fi] s1 (.bool true) s1) (h4:qm 54 [qf (wkc ak af ac ad ae aa ab am ar ah),.slice roster aA aD,.slice gd fh fi] s1 (.slice q4 l4 c4) Z5) (nx:Q (.tuple ⟨[.slice q4 l4 c4,iV 0]⟩) Z5) (u1:n1=0:=by omega),qg 18 [qf (wkc ak af ac ad ae aa ab am ar ah),.slice roster aA aD,.slice gd fh fi] Z Q:=
 let s1:=Z.row (wkc ak af ac ad ae aa ab am ar ah) 6;fun h1 h2 h3 h4 nx u1=>zG [.g,.g,.g,.l (qf (wkc ak af ac ad ae aa ab am ar ah)),.c (iV n1) s1,.g,.g,.b false,.l (qf (wkc ak af ac ad ae aa ab am ar ah)),.g,.c (.bool true) s1,.g,.g,.l (qf (wkc ak af ac ad ae aa ab am ar ah)),.g,.c (.bool true) s1,.g,.g,.l (qf (wkc ak af ac ad ae aa ab am ar ah)),.g,.g,.c (.slice q4 l4 c4) Z5,.g,.g] (kd (an3 ((zC _ _ _).rw.ldN xL yS (k:=0) rfl rfl (nle rfl):lz s1 34 (qe Z.y 0) (qf (wkc ak af ac ad ae aa ab am ar ah))) h1 (vF u1) (an6 ((zC _ _ _).rw.ldN xL yS (k:=0) rfl rfl (nle rfl):lz s1 34 (qe Z.y 0) (qf (wkc ak af ac ad ae aa ab am ar ah))) h2 ((zC _ _ _).rw.ldN xL yS (k:=0) rfl rfl (nle rfl):lz s1 34 (qe Z.y 0) (qf (wkc ak af ac ad ae aa ab am ar ah))) h3 ((zC _ _ _).rw.ldN xL yS (k:=0) rfl rfl (nle rfl):lz s1 34 (qe Z.y 0) (qf (wkc ak af ac ad ae aa ab am ar ah))) h4 nx)))
theorem xNI:let s1:=Z.row (wkc ak af ac ad ae aa ab am ar ah) 6;∀ (h1:qm 86 [qf (wkc ak af ac ad ae aa ab am ar ah)] s1 (.slice q1 l1 c1) Z2) (h2:qm 54 [qf (wkc ak af ac ad ae aa ab am ar ah),.slice roster aA aD,.slice q1 l1 c1] Z2 (.slice q3 l3 c3) Z4) (h3:zI s1.y [qf (wkc ak af ac ad ae aa ab am ar ah)]) (h4:zI Z2.y [qf (wkc ak af ac ad ae aa ab am ar ah),.slice roster aA aD,.slice q1 l1 c1]) (h5:zI Z4.y [.slice q3 l3 c3]) (h6:(zLq Z2 34 (qe Z.y 0) (qf (wkc ak af ac ad ae aa ab am ar ah)))) (nx:Q (.bool true) Z4) (u1:(l3:Int)=0:=by omega),qg 62 [qf (wkc ak af ac ad ae aa ab am ar ah),.slice roster aA aD] Z Q:=
 let s1:=Z.row (wkc ak af ac ad ae aa ab am ar ah) 6;fun h1 h2 h3 h4 h5 h6 nx u1=>zG [.g,.g,.l (qf (wkc ak af ac ad ae aa ab am ar ah)),.g,.l (qf (wkc ak af ac ad ae aa ab am ar ah)),.c (.slice q1 l1 c1) Z2,.c (.slice q3 l3 c3) Z4,.g,.b true,.g] (kd (an6 ((zC _ _ _).rw.ldN xL yS (k:=0) rfl rfl (nle rfl):lz s1 34 (qe Z.y 0) (qf (wkc ak af ac ad ae aa ab am ar ah))) ((zC _ _ _).rw.ldN xL yS (k:=0) rfl rfl (nle rfl):lz s1 34 (qe Z.y 0) (qf (wkc ak af ac ad ae aa ab am ar ah))) h1 h2 (xK u1) ((zE (zP (nlt Z.y 0 1 rfl)) zH):zI s1.y [pq Z.y 0]) (an6 ((zE (zP (nlt Z.y 0 1 rfl)) zH):zI s1.y [pq Z.y 0]) h3 h4 h5 (⟨⟨(nlt Z.y 0 1 rfl),rfl⟩,((zC _ _ _).rw.ldN xL yS (k:=0) rfl rfl (nle rfl))⟩:(zLq s1 34 (qe Z.y 0) (qf (wkc ak af ac ad ae aa ab am ar ah)))) h6 nx)))
theorem xNH:let s1:=Z.row (wkc ak af ac ad ae aa ab am ar ah) 6;∀ (h1:qm 86 [qf (wkc ak af ac ad ae aa ab am ar ah)] s1 (.slice q1 l1 c1) Z2) (h2:qm 54 [qf (wkc ak af ac ad ae aa ab am ar ah),.slice roster aA aD,.slice q1 l1 c1] Z2 (.slice q3 l3 c3) Z4) (h3:zI s1.y [qf (wkc ak af ac ad ae aa ab am ar ah)]) (h4:zI Z2.y [qf (wkc ak af ac ad ae aa ab am ar ah),.slice roster aA aD,.slice q1 l1 c1]) (h5:zI Z4.y [.slice q3 l3 c3]) (h6:(zLq Z2 34 (qe Z.y 0) (qf (wkc ak af ac ad ae aa ab am ar ah)))) (nx:Q (.bool false) Z4) (u1:¬ (l3:Int)=0:=by omega),qg 62 [qf (wkc ak af ac ad ae aa ab am ar ah),.slice roster aA aD] Z Q:=
 let s1:=Z.row (wkc ak af ac ad ae aa ab am ar ah) 6;fun h1 h2 h3 h4 h5 h6 nx u1=>zG [.g,.g,.l (qf (wkc ak af ac ad ae aa ab am ar ah)),.g,.l (qf (wkc ak af ac ad ae aa ab am ar ah)),.c (.slice q1 l1 c1) Z2,.c (.slice q3 l3 c3) Z4,.g,.b false,.g] (kd (an6 ((zC _ _ _).rw.ldN xL yS (k:=0) rfl rfl (nle rfl):lz s1 34 (qe Z.y 0) (qf (wkc ak af ac ad ae aa ab am ar ah))) ((zC _ _ _).rw.ldN xL yS (k:=0) rfl rfl (nle rfl):lz s1 34 (qe Z.y 0) (qf (wkc ak af ac ad ae aa ab am ar ah))) h1 h2 (xH u1) ((zE (zP (nlt Z.y 0 1 rfl)) zH):zI s1.y [pq Z.y 0]) (an6 ((zE (zP (nlt Z.y 0 1 rfl)) zH):zI s1.y [pq Z.y 0]) h3 h4 h5 (⟨⟨(nlt Z.y 0 1 rfl),rfl⟩,((zC _ _ _).rw.ldN xL yS (k:=0) rfl rfl (nle rfl))⟩:(zLq s1 34 (qe Z.y 0) (qf (wkc ak af ac ad ae aa ab am ar ah)))) h6 nx)))
theorem yCG:let s1:=Z.row (wkc ak af ac ad ae aa ab am ar ah) 6;∀ (h1:qm 16 [qf (wkc ak af ac ad ae aa ab am ar ah)] s1 (iV n1) s1) (h2:qm 52 [qf (wkc ak af ac ad ae aa ab am ar ah),.slice roster aA aD] s1 (.bool true) s1) (h3:qm 62 [qf (wkc ak af ac ad ae aa ab am ar ah),.slice roster aA aD] s1 (.bool true) s1) (h4:qm 63 [.slice roster aA aD] s1 (iV n4) s1) (nx:Q (.bool true) s1) (u1:n1=0:=by omega) (u2:eM<=n4:=by omega),qg 35 [qf (wkc ak af ac ad ae aa ab am ar ah),.slice roster aA aD,iV eM] Z Q:=
 let s1:=Z.row (wkc ak af ac ad ae aa ab am ar ah) 6;fun h1 h2 h3 h4 nx u1 u2=>zG [.g,.g,.l (qf (wkc ak af ac ad ae aa ab am ar ah)),.c (iV n1) s1,.b true,.g,.l (qf (wkc ak af ac ad ae aa ab am ar ah)),.g,.c (.bool true) s1,.g,.g,.l (qf (wkc ak af ac ad ae aa ab am ar ah)),.g,.c (.bool true) s1,.g,.g,.g,.c (iV n4) s1,.g,.b true,.g,.g] (kd (an3 ((zC _ _ _).rw.ldN xL yS (k:=0) rfl rfl (nle rfl):lz s1 34 (qe Z.y 0) (qf (wkc ak af ac ad ae aa ab am ar ah))) h1 (xK u1) (an6 ((zC _ _ _).rw.ldN xL yS (k:=0) rfl rfl (nle rfl):lz s1 34 (qe Z.y 0) (qf (wkc ak af ac ad ae aa ab am ar ah))) h2 ((zC _ _ _).rw.ldN xL yS (k:=0) rfl rfl (nle rfl):lz s1 34 (qe Z.y 0) (qf (wkc ak af ac ad ae aa ab am ar ah))) h3 h4 (yE u2) nx)))
theorem yCF:let s1:=Z.row (wkc ak af ac ad ae aa ab am ar ah) 6;∀ (h1:qm 16 [qf (wkc ak af ac ad ae aa ab am ar ah)] s1 (iV n1) s1) (h2:qm 52 [qf (wkc ak af ac ad ae aa ab am ar ah),.slice roster aA aD] s1 (.bool true) s1) (h3:qm 62 [qf (wkc ak af ac ad ae aa ab am ar ah),.slice roster aA aD] s1 (.bool true) s1) (h4:qm 63 [.slice roster aA aD] s1 (iV n4) s1) (nx:Q (.bool false) s1) (u1:n1=0:=by omega) (u2:¬ eM<=n4:=by omega),qg 35 [qf (wkc ak af ac ad ae aa ab am ar ah),.slice roster aA aD,iV eM] Z Q:=
 let s1:=Z.row (wkc ak af ac ad ae aa ab am ar ah) 6;fun h1 h2 h3 h4 nx u1 u2=>zG [.g,.g,.l (qf (wkc ak af ac ad ae aa ab am ar ah)),.c (iV n1) s1,.b true,.g,.l (qf (wkc ak af ac ad ae aa ab am ar ah)),.g,.c (.bool true) s1,.g,.g,.l (qf (wkc ak af ac ad ae aa ab am ar ah)),.g,.c (.bool true) s1,.g,.g,.g,.c (iV n4) s1,.g,.b false,.g,.g] (kd (an3 ((zC _ _ _).rw.ldN xL yS (k:=0) rfl rfl (nle rfl):lz s1 34 (qe Z.y 0) (qf (wkc ak af ac ad ae aa ab am ar ah))) h1 (xK u1) (an6 ((zC _ _ _).rw.ldN xL yS (k:=0) rfl rfl (nle rfl):lz s1 34 (qe Z.y 0) (qf (wkc ak af ac ad ae aa ab am ar ah))) h2 ((zC _ _ _).rw.ldN xL yS (k:=0) rfl rfl (nle rfl):lz s1 34 (qe Z.y 0) (qf (wkc ak af ac ad ae aa ab am ar ah))) h3 h4 (yH u2) nx)))
theorem yCE:let s1:=Z.row (wkc ak af ac ad ae aa ab am ar ah) 6;∀ (h1:qm 16 [qf (wkc ak af ac ad ae aa ab am ar ah)] s1 (iV n1) s1) (h2:qm 52 [qf (wkc ak af ac ad ae aa ab am ar ah),.slice roster aA aD] s1 (.bool true) s1) (h3:qm 62 [qf (wkc ak af ac ad ae aa ab am ar ah),.slice roster aA aD] s1 (.bool false) s1) (nx:Q (.bool false) s1) (u1:n1=0:=by omega),qg 35 [qf (wkc ak af ac ad ae aa ab am ar ah),.slice roster aA aD,iV eM] Z Q:=
 let s1:=Z.row (wkc ak af ac ad ae aa ab am ar ah) 6;fun h1 h2 h3 nx u1=>zG [.g,.g,.l (qf (wkc ak af ac ad ae aa ab am ar ah)),.c (iV n1) s1,.b true,.g,.l (qf (wkc ak af ac ad ae aa ab am ar ah)),.g,.c (.bool true) s1,.g,.g,.l (qf (wkc ak af ac ad ae aa ab am ar ah)),.g,.c (.bool false) s1,.g,.g,.g,.g] (kd (ai ((zC _ _ _).rw.ldN xL yS (k:=0) rfl rfl (nle rfl):lz s1 34 (qe Z.y 0) (qf (wkc ak af ac ad ae aa ab am ar ah))) (an6 h1 (xK u1) ((zC _ _ _).rw.ldN xL yS (k:=0) rfl rfl (nle rfl):lz s1 34 (qe Z.y 0) (qf (wkc ak af ac ad ae aa ab am ar ah))) h2 ((zC _ _ _).rw.ldN xL yS (k:=0) rfl rfl (nle rfl):lz s1 34 (qe Z.y 0) (qf (wkc ak af ac ad ae aa ab am ar ah))) h3 nx)))
theorem yCD:let s1:=Z.row (wkc ak af ac ad ae aa ab am ar ah) 6;∀ (h1:qm 16 [qf (wkc ak af ac ad ae aa ab am ar ah)] s1 (iV n1) s1) (h2:qm 52 [qf (wkc ak af ac ad ae aa ab am ar ah),.slice roster aA aD] s1 (.bool false) s1) (nx:Q (.bool false) s1) (u1:n1=0:=by omega),qg 35 [qf (wkc ak af ac ad ae aa ab am ar ah),.slice roster aA aD,iV eM] Z Q:=
 let s1:=Z.row (wkc ak af ac ad ae aa ab am ar ah) 6;fun h1 h2 nx u1=>zG [.g,.g,.l (qf (wkc ak af ac ad ae aa ab am ar ah)),.c (iV n1) s1,.b true,.g,.l (qf (wkc ak af ac ad ae aa ab am ar ah)),.g,.c (.bool false) s1,.g,.g,.g,.g,.g,.g] (kd (an5 ((zC _ _ _).rw.ldN xL yS (k:=0) rfl rfl (nle rfl):lz s1 34 (qe Z.y 0) (qf (wkc ak af ac ad ae aa ab am ar ah))) h1 (xK u1) ((zC _ _ _).rw.ldN xL yS (k:=0) rfl rfl (nle rfl):lz s1 34 (qe Z.y 0) (qf (wkc ak af ac ad ae aa ab am ar ah))) h2 nx))
theorem yCC:let s1:=Z.row (wkc ak af ac ad ae aa ab am ar ah) 6;∀ (h1:qm 16 [qf (wkc ak af ac ad ae aa ab am ar ah)] s1 (iV n1) s1) (nx:Q (.bool false) s1) (u1:¬ n1=0:=by omega),qg 35 [qf (wkc ak af ac ad ae aa ab am ar ah),.slice roster aA aD,iV eM] Z Q:=
 let s1:=Z.row (wkc ak af ac ad ae aa ab am ar ah) 6;fun h1 nx u1=>zG [.g,.g,.l (qf (wkc ak af ac ad ae aa ab am ar ah)),.c (iV n1) s1,.b false,.g,.g,.g,.g,.g,.g,.g] (kd (an3 ((zC _ _ _).rw.ldN xL yS (k:=0) rfl rfl (nle rfl):lz s1 34 (qe Z.y 0) (qf (wkc ak af ac ad ae aa ab am ar ah))) h1 (xH u1) nx))
theorem yKS (hb:∀ k aI bM Z,Inv k aI bM Z->zMH roster aA aD aI bM Z (NX2 Inv k) Q0):∀ k aI bM Z,Inv k aI bM Z->yHH roster aA aD aI bM Z Q0 :=
 zEB (ai (xX 0) trivial) hb
theorem yXV (h1:lz Z 3 (zL eO (Int.toNat bM*1)) (iV nE)) (nx:Nx (aI+1) (bM+1) Z) (u1:bM<(aA:Int):=by omega) (u2:Ix bM aA:=by omega) (u3:¬ nE=(-1):=by omega) (u4:I6 (aI+1):=by omega) (u5:I6 (bM+1):=by omega):zMH (some eO) aA aD aI bM Z Nx Q0 :=
 kO 0 (aI+1,bM+1) [.b true,.i,.l (iV nE),.g,.g,.b true,.g,.n (aI+1),.g,.n (bM+1),.g] (fun _ f=>an6 (zR u1) u2 h1 (zEV u3) (w64 u4) (w64 u5) f) nx
theorem yXU (h1:lz Z 3 (zL eO (Int.toNat bM*1)) (iV nE)) (nx:Nx aI (bM+1) Z) (u1:bM<(aA:Int):=by omega) (u2:Ix bM aA:=by omega) (u3:nE=(-1):=by omega) (u4:I6 (bM+1):=by omega):zMH (some eO) aA aD aI bM Z Nx Q0 :=
 kO 0 (aI,bM+1) [.b true,.i,.l (iV nE),.g,.g,.b false,.n (bM+1),.g] (fun _ f=>an5 (zR u1) u2 h1 (vF u3) (w64 u4) f) nx
theorem yXT (nx:Q0 aI Z) (u1:¬ bM<(aA:Int):=by omega):zMH roster aA aD aI bM Z Nx Q0 :=
 kO 1 aI [.b false] (fun _ f=>ai (zT u1) f) nx
theorem xHL (hL:yHH roster aA aD 0 0 Z P0) (k0:∀ i2_1' Z',P0 i2_1' Z'->zVJ roster aA aD i2_1' Z' Q):qg 63 [.slice roster aA aD] Z Q :=
 zG [.g,.g,.g,.g,.lf 17 (zGJ roster aA aD 0 0) [zKQ roster aA aD P0]] (kd (ai (ai tt (ai (arf (zGJ roster aA aD 0 0)) hL)) (ai (kz1 k0) trivial)))
theorem yKR (nx:Q (iV aI) Z):zVJ roster aA aD aI Z Q :=
 sK [.g,.g] nx
theorem yLM {Inv:Nat->(Option Addr)->Nat->Nat->Int->St->Prop} {Q0:(Option Addr)->Nat->Nat->St->Prop} (hb:∀ k dY dZ d8 dR Z,Inv k dY dZ d8 dR Z->zMP roster aA aD duty ak af ac ad ae aa ab am ar ah dY dZ d8 dR Z (NX4 Inv k) Q0):∀ k dY dZ d8 dR Z,Inv k dY dZ d8 dR Z->yHX roster aA aD duty ak af ac ad ae aa ab am ar ah dY dZ d8 dR Z Q0 :=
 zZZ (ai (xX 0) trivial) hb
theorem xAA {Nx:(Option Addr)->Nat->Nat->Int->St->Prop} {Q0:(Option Addr)->Nat->Nat->St->Prop} (h1:qm 60 [.slice roster aA aD] Z (.slice (some dc) lA cE) ZC) (h2:qn (evL [pz (zL dc (Int.toNat duty*1)),iV dR]) ZC (.store 3 (.tmp 0) (.tmp 1))=some (undef,ZD)) (h3:qm 62 [qf (wkc ak af ac ad ae aa ab am ar ah),.slice (some dc) lA cE] ZD (.bool true) ZD) (h4:yG Pg 26 26 (.slice dY dZ d8) (.slice (some (qe ZD.y 0)) 1 1) (ZD.row [iV dR] 1)=some (.slice qKB lOB cLB,ZHB)) (nx:Nx qKB lOB cLB (dR+1) ZHB) (u1:dR<(aa:Int):=by omega) (u2:Ix duty lA:=by omega) (u3:I6 (dR+1):=by omega):zMP roster aA aD duty ak af ac ad ae aa ab am ar ah dY dZ d8 dR Z Nx Q0 :=
 kO 0 (qKB,lOB,cLB,dR+1) [.b true,.g,.g,.g,.c (.slice (some dc) lA cE) ZC,.g,.g,.g,.g,.i,.e undef ZD,.g,.g,.c (.bool true) ZD,.g,.g,.g,.e (.slice qKB lOB cLB) ZHB,.g,.n (dR+1),.g] (fun _ f=>ai (zR u1) (an6 h1 u2 h2 h3 h4 (w64 u3) f)) nx
theorem yZZ {Nx:(Option Addr)->Nat->Nat->Int->St->Prop} {Q0:(Option Addr)->Nat->Nat->St->Prop} (h1:qm 60 [.slice roster aA aD] Z (.slice (some dc) lA cE) ZC) (h2:qn (evL [pz (zL dc (Int.toNat duty*1)),iV dR]) ZC (.store 3 (.tmp 0) (.tmp 1))=some (undef,ZD)) (h3:qm 62 [qf (wkc ak af ac ad ae aa ab am ar ah),.slice (some dc) lA cE] ZD (.bool false) ZD) (nx:Nx dY dZ d8 (dR+1) ZD) (u1:dR<(aa:Int):=by omega) (u2:Ix duty lA:=by omega) (u3:I6 (dR+1):=by omega):zMP roster aA aD duty ak af ac ad ae aa ab am ar ah dY dZ d8 dR Z Nx Q0 :=
 kO 0 (dY,dZ,d8,dR+1) [.b true,.g,.g,.g,.c (.slice (some dc) lA cE) ZC,.g,.g,.g,.g,.i,.e undef ZD,.g,.g,.c (.bool false) ZD,.n (dR+1),.g] (fun _ f=>an6 (zR u1) h1 u2 h2 h3 (w64 u3) f) nx
theorem yZY {Nx:(Option Addr)->Nat->Nat->Int->St->Prop} {Q0:(Option Addr)->Nat->Nat->St->Prop} (nx:Q0 dY dZ d8 Z) (u1:¬ dR<(aa:Int):=by omega):zMP roster aA aD duty ak af ac ad ae aa ab am ar ah dY dZ d8 dR Z Nx Q0 :=
 kO 1 (dY,dZ,d8) [.b false] (fun _ f=>ai (zT u1) f) nx
theorem xIT {P0:(Option Addr)->Nat->Nat->St->Prop}:let s1:=Z.row (wkc ak af ac ad ae aa ab am ar ah) 6;let y0:=wkc ak af ac ad ae aa ab am ar ah;∀ (h1:qm 16 [qf y0] s1 (iV n1) s1) (h2:qm 52 [qf y0,.slice roster aA aD] s1 (.bool true) s1) (h3:qm 47 [iV duty,iV 0,iV ((ac:Int)-1)] s1 (.bool true) s1) (hL:yHX roster aA aD duty ak af ac ad ae aa ab am ar ah none 0 0 0 s1 P0) (k0:∀ p10_1' l10_1' c10_1' Z',P0 p10_1' l10_1' c10_1' Z'->zVV roster aA aD duty ak af ac ad ae aa ab am ar ah p10_1' l10_1' c10_1' Z' Q) (u1:n1=0:=by omega) (u2:I6 ((ac:Int)-1):=by omega),qg 32 [qf y0,.slice roster aA aD,iV duty] Z Q:=
 let s1:=Z.row (wkc ak af ac ad ae aa ab am ar ah) 6;let y0:=wkc ak af ac ad ae aa ab am ar ah;fun h1 h2 h3 hL k0 u1 u2=>zG [.g,.g,.g,.l (qf y0),.c (iV n1) s1,.g,.g,.b false,.l (qf y0),.g,.c (.bool true) s1,.g,.g,.g,.g,.l (.slice af ac ad),.g,.n ((ac:Int)-1),.c (.bool true) s1,.g,.g,.l (qf y0),.g,.g,.g,.g,.l (.slice ae aa ab),.g,.g,.lf 54 (zGP roster aA aD duty ak af ac ad ae aa ab am ar ah none 0 0 0) [zLE roster aA aD duty ak af ac ad ae aa ab am ar ah P0]] (kd (an4 ((zC _ _ _).rw.ldN xL yS (k:=0) rfl rfl (nle rfl):lz s1 34 (qe Z.y 0) (qf y0)) h1 (vF u1) ((zC _ _ _).rw.ldN xL yS (k:=0) rfl rfl (nle rfl):lz s1 34 (qe Z.y 0) (qf y0)) (an6 h2 ((zC _ _ _).rw.ld uL (k:=1) rfl:lz s1 31 (qe Z.y 1) (.slice af ac ad)) (w64 u2) h3 ((zC _ _ _).rw.ldN xL yS (k:=0) rfl rfl (nle rfl):lz s1 34 (qe Z.y 0) (qf y0)) ((zC _ _ _).rw.ld zAX (k:=2) rfl:lz s1 32 (qe Z.y 2) (.slice ae aa ab)) (ai (ai tt (ai (arf (zGP roster aA aD duty ak af ac ad ae aa ab am ar ah none 0 0 0)) hL)) (ai (kz3 k0) trivial)))))
theorem yLL (nx:Q (.tuple ⟨[.slice dY dZ d8,iV 0]⟩) Z):zVV roster aA aD duty ak af ac ad ae aa ab am ar ah dY dZ d8 Z Q :=
 sK [.g,.g,.g] nx
theorem xPU (h1:uE Pg .eql 26 (.tmp 3) (.const (.slice none 0 0)) (.slice s s_l s_c) (.slice none 0 0)=some (.bool false)) (h2:yG Pg 26 26 (.slice (some (qe Z.y 0)) 0 0) (.slice s s_l s_c) (Z.row [] 1)=some (.slice q2 l2 c2,Z1)) (nx:Q (.slice q2 l2 c2) Z1):qg 60 [.slice s s_l s_c] Z Q :=
 zG [.g,.g,.v (.bool false),.g,.g,.e (.slice q2 l2 c2) Z1,.g] (kd (an2 h1 h2 nx))
end
section
variable {Z:St}
theorem xYT {p:Option Addr} {len cap:Nat} {g:FuncId} {ga:List Value} {gc:List Value} {xs:List Dty} {f:Dty->Bool} (hs:SlV Pg Z 85 5 p len (xs.map zAL)) (hlen:len<=1073741824)
  (hc:∀ x∈xs,∀ τ,Le Z τ->zD Pg g (ga++(zAL x::gc)) τ (.bool (f x)) τ):∃ r:Int,zD Pg 87 [.slice p len cap,.func (.func g) ⟨ga⟩ ⟨gc⟩] Z (iV r) Z/\(0<=r↔xs.any f=true):=by
 have hl:xs.length=len:=by have:=hs.2.1;simpa using this
 have key:zN Pg 87 [.slice p len cap,.func (.func g) ⟨ga⟩ ⟨gc⟩] Z.re fun v s=>(∃ r:Int,v=iV r/\(0<=r↔xs.any f=true))/\s=Z.re:=by
  refine xUI (yXG (Inv:=fun k i τ=>τ=Z.re/\∃ j:Nat,i=j/\j+k=len/\(xs.take j).any f=false) (Qr:=fun i τ=>τ=Z.re/\0<=i/\xs.any f=true) (Q0:=fun τ=>τ=Z.re/\xs.any f=false) ?_ len 0 Z.re ⟨rfl,0,rfl,by omega,by simp⟩) ?_ ?_
  ·rintro k i τ ⟨rfl,j,rfl,hk,ha⟩;by_cases hj:j<len
   ·obtain ⟨a,rfl,x,hx,ld⟩:=wS hs.re hj;have c:=hc x (List.mem_of_getElem? hx) Z.re (le0 Z);cases hf:f x with
    | true =>
     rw [hf] at c;exact xOL ld c ⟨rfl,by omega,List.any_eq_true.2 ⟨x,List.mem_of_getElem? hx,hf⟩⟩
    | false =>
     rw [hf] at c;exact xOK ld c ⟨k-1,by omega,rfl,j+1,by omega,by omega,by rw [wA hx,List.any_append,ha];simp [hf]⟩
   ·exact xOJ ⟨rfl,by rwa [List.take_of_length_le (by omega)] at ha⟩
  ·rintro i τ ⟨rfl,h1,h2⟩;exact yXE ⟨⟨i,rfl,by simp [h1,h2]⟩,rfl⟩
  ·rintro τ ⟨rfl,h⟩;exact yXF ⟨⟨-1,rfl,by simp [h]⟩,rfl⟩
 obtain ⟨v,s,h1,⟨r,rfl,h2⟩,rfl⟩:=key;exact ⟨r,zRZ h1 (Nat.le_refl _) rfl,h2⟩
theorem xZC {p:Option Addr} {len cap:Nat} {g:FuncId} {ga:List Value} {gc:List Value} {xs:List Dty} {f:Dty->Bool} (hs:SlV Pg Z 85 5 p len (xs.map zAL)) (hlen:len<=1073741824)
  (hc:∀ x∈xs,∀ τ,Le Z τ->zD Pg g (ga++(zAL x::gc)) τ (.bool (f x)) τ):zD Pg 67 [.slice p len cap,.func (.func g) ⟨ga⟩ ⟨gc⟩] Z (.bool (xs.any f)) Z:=by
 obtain ⟨r,h1,h2⟩:=xYT (Z:=Z.re) (cap:=cap) hs.re hlen (fun x hx τ hτ=>hc x hx τ ((le0 Z).trans hτ));cases ha:xs.any f with
 | true=>exact (xVC h1 ⟨rfl,Nat.le_refl _⟩ (h2.2 ha)).pure
 | false=>exact (xVB h1 ⟨rfl,Nat.le_refl _⟩ (fun h=>by rw [h2.1 h] at ha;cases ha)).pure
theorem xWA {x:Dty} {a:Addr} {g:FuncId} {ga:List Value} {gc:List Value} {b:Bool} (hr:Row Z a [.func (.func g) ⟨ga⟩ ⟨gc⟩]) (hc:∀ τ,Le Z τ->zD Pg g (ga++(zAL x::gc)) τ (.bool b) τ) :
  zD Pg 68 [zAL x,.pointer (some a)] Z (.bool (!b)) Z:=by
 cases b with
 | true=>exact (xQU (hr.re.row.ld1 xWY) (hc _ ((le0 Z).trans (Le.row _ _ _))) ⟨rfl,Nat.le_refl _⟩).pure
 | false=>exact (xQT (hr.re.row.ld1 xWY) (hc _ ((le0 Z).trans (Le.row _ _ _))) ⟨rfl,Nat.le_refl _⟩).pure
theorem xZH {p:Option Addr} {len cap:Nat} {g:FuncId} {ga:List Value} {gc:List Value} {xs:List Dty} {f:Dty->Bool} (hs:SlV Pg Z 85 5 p len (xs.map zAL)) (hlen:len<=1073741824)
  (hc:∀ x∈xs,∀ τ,Le Z τ->zD Pg g (ga++(zAL x::gc)) τ (.bool (f x)) τ):zD Pg 48 [.slice p len cap,.func (.func g) ⟨ga⟩ ⟨gc⟩] Z (.bool (xs.all f)) Z:=by
 have c:=xZC (Z:=Z.re.row [.func (.func g) ⟨ga⟩ ⟨gc⟩] 1) (g:=68) (ga:=[]) (gc:=[.pointer (some ⟨Z.re.y,0,none⟩)]) (f:=fun x=>!f x) (cap:=cap) hs.re.row hlen
  (fun x hx τ hτ=>xWA ((xJ _ _ _).le hτ) (fun τ' hτ'=>hc x hx τ' ((((le0 Z).trans (Le.row _ _ _)).trans hτ).trans hτ')))
 have e:(xs.any fun x=>!f x)=!xs.all f:=by rw [List.not_all_eq_any_not]
 rw [e] at c;cases ha:xs.all f with
 | true=>rw [ha] at c;exact (xVY c ⟨rfl,Nat.le_refl _⟩).pure
 | false=>rw [ha] at c;exact (xVZ c ⟨rfl,Nat.le_refl _⟩).pure
theorem xYS {p:Option Addr} {len cap:Nat} {g:FuncId} {gc:List Value} {xs:List Int} {f:Int->Bool} (hs:SlV Pg Z 3 1 p len (xs.map zZ)) (hlen:len<=1073741824)
  (hc:∀ x∈xs,∀ τ,Le Z τ->zD Pg g (zZ x::gc) τ (.bool (f x)) τ):∃ r:Int,zD Pg 105 [.slice p len cap,.func (.func g) ⟨[]⟩ ⟨gc⟩] Z (iV r) Z/\(0<=r↔xs.any f=true):=by
 have hl:xs.length=len:=by have:=hs.2.1;simpa using this
 have key:zN Pg 105 [.slice p len cap,.func (.func g) ⟨[]⟩ ⟨gc⟩] Z.re fun v s=>(∃ r:Int,v=iV r/\(0<=r↔xs.any f=true))/\s=Z.re:=by
  refine xUH (yXD (Inv:=fun k i τ=>τ=Z.re/\∃ j:Nat,i=j/\j+k=len/\(xs.take j).any f=false) (Qr:=fun i τ=>τ=Z.re/\0<=i/\xs.any f=true) (Q0:=fun τ=>τ=Z.re/\xs.any f=false) ?_ len 0 Z.re ⟨rfl,0,rfl,by omega,by simp⟩) ?_ ?_
  ·rintro k i τ ⟨rfl,j,rfl,hk,ha⟩;by_cases hj:j<len
   ·obtain ⟨a,rfl,x,hx,ld⟩:=wS hs.re hj;have c:=hc x (List.mem_of_getElem? hx) Z.re (le0 Z);cases hf:f x with
    | true =>
     rw [hf] at c;exact xOH ld c ⟨rfl,by omega,List.any_eq_true.2 ⟨x,List.mem_of_getElem? hx,hf⟩⟩
    | false =>
     rw [hf] at c;exact xOG ld c ⟨k-1,by omega,rfl,j+1,by omega,by omega,by rw [wA hx,List.any_append,ha];simp [hf]⟩
   ·exact xOF ⟨rfl,by rwa [List.take_of_length_le (by omega)] at ha⟩
  ·rintro i τ ⟨rfl,h1,h2⟩;exact yXB ⟨⟨i,rfl,by simp [h1,h2]⟩,rfl⟩
  ·rintro τ ⟨rfl,h⟩;exact yXC ⟨⟨-1,rfl,by simp [h]⟩,rfl⟩
 obtain ⟨v,s,h1,⟨r,rfl,h2⟩,rfl⟩:=key;exact ⟨r,zRZ h1 (Nat.le_refl _) rfl,h2⟩
theorem xZB {p:Option Addr} {len cap:Nat} {g:FuncId} {gc:List Value} {xs:List Int} {f:Int->Bool} (hs:SlV Pg Z 3 1 p len (xs.map zZ)) (hlen:len<=1073741824)
  (hc:∀ x∈xs,∀ τ,Le Z τ->zD Pg g (zZ x::gc) τ (.bool (f x)) τ):zD Pg 89 [.slice p len cap,.func (.func g) ⟨[]⟩ ⟨gc⟩] Z (.bool (xs.any f)) Z:=by
 obtain ⟨r,h1,h2⟩:=xYS (Z:=Z.re) (cap:=cap) hs.re hlen (fun x hx τ hτ=>hc x hx τ ((le0 Z).trans hτ));cases ha:xs.any f with
 | true=>exact (xUY h1 ⟨rfl,Nat.le_refl _⟩ (h2.2 ha)).pure
 | false=>exact (xUX h1 ⟨rfl,Nat.le_refl _⟩ (fun h=>by rw [h2.1 h] at ha;cases ha)).pure
theorem xVX {x:Int} {a:Addr} {g:FuncId} {gc:List Value} {b:Bool} (hr:Row Z a [.func (.func g) ⟨[]⟩ ⟨gc⟩]) (hc:∀ τ,Le Z τ->zD Pg g (zZ x::gc) τ (.bool b) τ) :
  zD Pg 90 [zZ x,.pointer (some a)] Z (.bool (!b)) Z:=by
 cases b with
 | true=>exact (xQS (hr.re.ld1 xQZ) (hc _ (le0 Z)) ⟨rfl,Nat.le_refl _⟩).pure
 | false=>exact (xQR (hr.re.ld1 xQZ) (hc _ (le0 Z)) ⟨rfl,Nat.le_refl _⟩).pure
theorem xZG {p:Option Addr} {len cap:Nat} {g:FuncId} {gc:List Value} {xs:List Int} {f:Int->Bool} (hs:SlV Pg Z 3 1 p len (xs.map zZ)) (hlen:len<=1073741824)
  (hc:∀ x∈xs,∀ τ,Le Z τ->zD Pg g (zZ x::gc) τ (.bool (f x)) τ):zD Pg 72 [.slice p len cap,.func (.func g) ⟨[]⟩ ⟨gc⟩] Z (.bool (xs.all f)) Z:=by
 have c:=xZB (Z:=Z.re.row [.func (.func g) ⟨[]⟩ ⟨gc⟩] 1) (g:=90) (gc:=[.pointer (some ⟨Z.re.y,0,none⟩)]) (f:=fun x=>!f x) (cap:=cap) hs.re.row hlen
  (fun x hx τ hτ=>xVX ((xJ _ _ _).le hτ) (fun τ' hτ'=>hc x hx τ' ((((le0 Z).trans (Le.row _ _ _)).trans hτ).trans hτ')))
 have e:(xs.any fun x=>!f x)=!xs.all f:=by rw [List.not_all_eq_any_not]
 rw [e] at c;cases ha:xs.all f with
 | true=>rw [ha] at c;exact (xVV c ⟨rfl,Nat.le_refl _⟩).pure
 | false=>rw [ha] at c;exact (xVW c ⟨rfl,Nat.le_refl _⟩).pure
theorem xYQ {p:Option Addr} {len cap:Nat} {g:FuncId} {ga:List Value} {gc:List Value} {xs:List Drv} {f:Drv->Bool} (hs:zVZ Z 88 p len xs) (hlen:len<=1073741824)
  (hc:∀ x∈xs,∀ v τ,Le Z τ->zWH τ v x->zD Pg g (ga++(v::gc)) τ (.bool (f x)) τ):∃ r:Int,zD Pg 88 [.slice p len cap,.func (.func g) ⟨ga⟩ ⟨gc⟩] Z (iV r) Z/\(0<=r↔xs.any f=true):=by
 obtain ⟨vs,hv1,hl,hv3⟩:=hs.le (le0 Z);have key:zN Pg 88 [.slice p len cap,.func (.func g) ⟨ga⟩ ⟨gc⟩] Z.re fun v s=>(∃ r:Int,v=iV r/\(0<=r↔xs.any f=true))/\s=Z.re:=by
  refine xUG (yWY (Inv:=fun k i τ=>τ=Z.re/\∃ j:Nat,i=j/\j+k=len/\(xs.take j).any f=false) (Qr:=fun i τ=>τ=Z.re/\0<=i/\xs.any f=true) (Q0:=fun τ=>τ=Z.re/\xs.any f=false) ?_ len 0 Z.re ⟨rfl,0,rfl,by omega,by simp⟩) ?_ ?_
  ·rintro k i τ ⟨rfl,j,rfl,hk,ha⟩;by_cases hj:j<len
   ·obtain ⟨a,rfl,_⟩:=hv1.some hj;obtain ⟨x,hxe⟩:∃ x,x=xs[j]:=⟨_,rfl⟩;have hx:xs[j]?=some x:=by rw [hxe];simp
    obtain ⟨v,g1,hv⟩:=hv3 j x hx;have c:=hc x (List.mem_of_getElem? hx) v Z.re (le0 Z) hv;obtain ⟨p',l',c',r',n',d',s',j',e',rfl,_⟩:=hv;have ld:zB Pg Z.re 88 (zL a (Int.toNat (j:Int)*6))=some (.agg ⟨zO p' l' c' r' n' d' s' j' e' x.off x.row x.used⟩):=hv1.at rfl g1;cases hf:f x with
    | true =>
     rw [hf] at c;exact xNZ ld c ⟨rfl,by omega,List.any_eq_true.2 ⟨x,List.mem_of_getElem? hx,hf⟩⟩
    | false =>
     rw [hf] at c;exact xNY ld c ⟨k-1,by omega,rfl,j+1,by omega,by omega,by rw [wA hx,List.any_append,ha];simp [hf]⟩
   ·exact xNX ⟨rfl,by rwa [List.take_of_length_le (by omega)] at ha⟩
  ·rintro i τ ⟨rfl,h1,h2⟩;exact yWW ⟨⟨i,rfl,by simp [h1,h2]⟩,rfl⟩
  ·rintro τ ⟨rfl,h⟩;exact yWX ⟨⟨-1,rfl,by simp [h]⟩,rfl⟩
 obtain ⟨v,s,h1,⟨r,rfl,h2⟩,rfl⟩:=key;exact ⟨r,zRZ h1 (Nat.le_refl _) rfl,h2⟩
theorem xYZ {p:Option Addr} {len cap:Nat} {g:FuncId} {ga:List Value} {gc:List Value} {xs:List Drv} {f:Drv->Bool} (hs:zVZ Z 88 p len xs) (hlen:len<=1073741824)
  (hc:∀ x∈xs,∀ v τ,Le Z τ->zWH τ v x->zD Pg g (ga++(v::gc)) τ (.bool (f x)) τ):zD Pg 69 [.slice p len cap,.func (.func g) ⟨ga⟩ ⟨gc⟩] Z (.bool (xs.any f)) Z:=by
 obtain ⟨r,h1,h2⟩:=xYQ (Z:=Z.re) (cap:=cap) (hs.le (le0 Z)) hlen (fun x hx v τ hτ=>hc x hx v τ ((le0 Z).trans hτ));cases ha:xs.any f with
 | true=>exact (xUU h1 ⟨rfl,Nat.le_refl _⟩ (h2.2 ha)).pure
 | false=>exact (xUT h1 ⟨rfl,Nat.le_refl _⟩ (fun h=>by rw [h2.1 h] at ha;cases ha)).pure
theorem xVS {x:Drv} {v:Value} {a:Addr} {g:FuncId} {ga:List Value} {gc:List Value} {b:Bool} (hv:zWH Z v x) (hr:Row Z a [.func (.func g) ⟨ga⟩ ⟨gc⟩]) (hc:∀ τ,Le Z τ->zWH τ v x->zD Pg g (ga++(v::gc)) τ (.bool b) τ) :
  zD Pg 70 [v,.pointer (some a)] Z (.bool (!b)) Z:=by
 have hc2:=fun τ (hτ:Le Z τ)=>hc τ hτ (hv.le hτ)
 obtain ⟨p',l',c',r',n',d',s',j',e',rfl,_⟩:=hv;cases b with
 | true=>exact (xQO (hr.re.row.ld1 xWX) (hc2 _ ((le0 Z).trans (Le.row _ _ _))) ⟨rfl,Nat.le_refl _⟩).pure
 | false=>exact (xQN (hr.re.row.ld1 xWX) (hc2 _ ((le0 Z).trans (Le.row _ _ _))) ⟨rfl,Nat.le_refl _⟩).pure
theorem xZE {p:Option Addr} {len cap:Nat} {g:FuncId} {ga:List Value} {gc:List Value} {xs:List Drv} {f:Drv->Bool} (hs:zVZ Z 88 p len xs) (hlen:len<=1073741824)
  (hc:∀ x∈xs,∀ v τ,Le Z τ->zWH τ v x->zD Pg g (ga++(v::gc)) τ (.bool (f x)) τ):zD Pg 50 [.slice p len cap,.func (.func g) ⟨ga⟩ ⟨gc⟩] Z (.bool (xs.all f)) Z:=by
 have c:=xYZ (Z:=Z.re.row [.func (.func g) ⟨ga⟩ ⟨gc⟩] 1) (g:=70) (ga:=[]) (gc:=[.pointer (some ⟨Z.re.y,0,none⟩)]) (f:=fun x=>!f x) (cap:=cap) (hs.le ((le0 Z).trans (Le.row _ _ _))) hlen
  (fun x hx v τ hτ hv=>xVS hv ((xJ _ _ _).le hτ) (fun τ' hτ'=>hc x hx v τ' ((((le0 Z).trans (Le.row _ _ _)).trans hτ).trans hτ')))
 have e:(xs.any fun x=>!f x)=!xs.all f:=by rw [List.not_all_eq_any_not]
 rw [e] at c;cases ha:xs.all f with
 | true=>rw [ha] at c;exact (xVQ c ⟨rfl,Nat.le_refl _⟩).pure
 | false=>rw [ha] at c;exact (xVR c ⟨rfl,Nat.le_refl _⟩).pure
section
variable {w:Wk} {p q:Option Addr} {l m c d:Nat}
theorem xRX {x:Dty} (hd:1<=w.days/\w.days<=7):zD Pg 49 [.agg ⟨wkc w.days p l c q m d w.rest w.run w.hours⟩,zAL x] Z (.bool (vU w x)) Z:=by
 have cin:∀ {τ:St} {n lo hi:Int} {b:Bool},inB n lo hi=b->zD Pg 47 [iV n,iV lo,iV hi] τ (.bool b) τ:=fun e=>e ▸ zDN
 unfold vU;cases c1:inB x.day 0 (w.days-1) with
 | false=>exact (xJF (cin c1) ⟨rfl,Nat.le_refl _⟩ (by omega)).pure
 | true =>
 cases c2:inB x.on 0 1439 with
 | false=>exact (xJG (cin c1) (cin c2) ⟨rfl,Nat.le_refl _⟩ (by omega)).pure
 | true =>
 have hon:=vG.1 c2;by_cases h1:x.on<=x.lo;rotate_left
 ·have:inB x.lo x.on x.hi=false:=yGA.2 (fun h=>h1 h.1);rw [this];exact (xJH (cin c1) (cin c2) ⟨rfl,Nat.le_refl _⟩ (by omega) h1).pure
 by_cases h2:x.lo<=x.hi;rotate_left
 ·have:inB x.lo x.on x.hi=false:=yGA.2 (fun h=>h2 h.2);rw [this];exact (xJI (cin c1) (cin c2) ⟨rfl,Nat.le_refl _⟩ (by omega) h1 h2).pure
 have c3:inB x.lo x.on x.hi=true:=vG.2 ⟨h1,h2⟩;rw [c3];by_cases h3:x.hi<=x.on+1440
 ·rw [decide_eq_false (by omega:¬ x.on+1440<x.hi)];exact (xJK (cin c1) (cin c2) (cin rfl) ⟨by simp,Nat.le_refl _⟩ (by omega) h1 h2 (by omega) h3).pure
 ·rw [decide_eq_true (by omega:x.on+1440<x.hi)];exact (xJJ (cin c1) (cin c2) ⟨rfl,Nat.le_refl _⟩ (by omega) h1 h2 (by omega) h3).pure
theorem xDE {x:Drv} {v:Value} (hv:zWH Z v x) (hl:x.knows.length<=1000/\x.leave.length<=1000/\x.wish.length<=1000) (hd:1<=w.days/\w.days<=7):zD Pg 51 [.agg ⟨wkc w.days p l c q m d w.rest w.run w.hours⟩,v] Z (.bool (zAU w x)) Z:=by
 have cin:∀ {τ:St} {n lo hi:Int} {b:Bool},inB n lo hi=b->zD Pg 47 [iV n,iV lo,iV hi] τ (.bool b) τ:=fun e=>e ▸ zDN
 obtain ⟨p',l',c',r',n',d',s',j',e',rfl,hkn,hlv,hws⟩:=hv;have L2:Le Z ((Z.re.row (wkc w.days p l c q m d w.rest w.run w.hours) 6).row (zO p' l' c' r' n' d' s' j' e' x.off x.row x.used) 6):=((le0 Z).trans (Le.row _ _ _)).trans (Le.row _ _ _);have k1:=yIP (c:=c') (lo:=0) (hi:=15) (SlV.le hkn L2) (by have:=hkn.len;omega);have k2:=yIP (c:=d') (lo:=0) (hi:=w.days-1) (SlV.le hlv L2) (by have:=hlv.len;omega);have k3:=yIP (c:=e') (lo:=0) (hi:=w.days-1) (SlV.le hws L2) (by have:=hws.len;omega);unfold zAU;cases c1:wG x.knows 0 15 with
 | false=>rw [c1] at k1;exact (ySS k1 ⟨rfl,Nat.le_refl _⟩).pure
 | true =>
 rw [c1] at k1;cases c2:wG x.leave 0 (w.days-1) with
 | false=>rw [c2] at k2;exact (yST k1 k2 ⟨rfl,Nat.le_refl _⟩ (by omega)).pure
 | true =>
 rw [c2] at k2;cases c3:wG x.wish 0 (w.days-1) with
 | false=>rw [c3] at k3;exact (ySU k1 k2 k3 ⟨rfl,Nat.le_refl _⟩ (by omega)).pure
 | true =>
 rw [c3] at k3;cases c4:inB x.off (-10080) 1440 with
 | false=>exact (ySV k1 k2 k3 (cin c4) ⟨rfl,Nat.le_refl _⟩ (by omega)).pure
 | true =>
 cases c5:inB x.row 0 14 with
 | false=>exact (ySW k1 k2 k3 (cin c4) (cin c5) ⟨rfl,Nat.le_refl _⟩ (by omega)).pure
 | true=>exact (ySX k1 k2 k3 (cin c4) (cin c5) (cin rfl) ⟨by simp,Nat.le_refl _⟩ (by omega)).pure
theorem zFC (h:WkP Z 85 88 w p l q m) (hsh:zAG w):zD Pg 16 [.agg ⟨wkc w.days p l c q m d w.rest w.run w.hours⟩] Z (iV (yY w)) Z:=by
 have hn:=h.len.1;have hm:=h.len.2;by_cases h12:12<l
 ·have:yY w=3:=by unfold yY;rw [if_pos (.inl (by omega))]
  rw [this];exact (yLX ⟨rfl,Nat.le_refl _⟩ (by omega)).pure
 by_cases h6:6<m
 ·have:yY w=3:=by unfold yY;rw [if_pos (.inr (by omega))]
  rw [this];exact (yLW ⟨rfl,Nat.le_refl _⟩ (by omega) (by omega)).pure
 have hf0:yY w=if vL w && (w.duties.all (vU w) && w.drivers.all (zAU w)) then 0 else 1:=by unfold yY;rw [if_neg (by omega)]
 have cin:∀ {τ:St} {n lo hi:Int} {b:Bool},inB n lo hi=b->zD Pg 47 [iV n,iV lo,iV hi] τ (.bool b) τ:=fun e=>e ▸ zDN
 have no:vL w=false->yY w=1:=fun e=>by rw [hf0,e];rfl
 cases b1:inB w.days 1 7 with
 | false=>rw [no (by unfold vL;rw [b1];rfl)];exact (yLP (cin b1) ⟨rfl,Nat.le_refl _⟩ (by omega) (by omega)).pure
 | true =>
 cases b2:inB w.rest 0 3000 with
 | false=>rw [no (by unfold vL;rw [b1,b2];rfl)];exact (yLQ (cin b1) (cin b2) ⟨rfl,Nat.le_refl _⟩ (by omega) (by omega)).pure
 | true =>
 cases b3:inB w.run 1 14 with
 | false=>rw [no (by unfold vL;rw [b1,b2,b3];rfl)];exact (yLR (cin b1) (cin b2) (cin b3) ⟨rfl,Nat.le_refl _⟩ (by omega) (by omega)).pure
 | true =>
 cases b4:inB w.hours 0 20000 with
 | false=>rw [no (by unfold vL;rw [b1,b2,b3,b4];rfl)];exact (yLS (cin b1) (cin b2) (cin b3) (cin b4) ⟨rfl,Nat.le_refl _⟩ (by omega) (by omega)).pure
 | true =>
 have hh:vL w=true:=by unfold vL;rw [b1,b2,b3,b4];rfl
 have hd:=vG.1 b1;have L1:Le Z (Z.re.row (wkc w.days p l c q m d w.rest w.run w.hours) 6):=(le0 Z).trans (Le.row _ _ _);have cd:=xZH (cap:=c) (g:=49) (ga:=[.agg ⟨wkc w.days p l c q m d w.rest w.run w.hours⟩]) (gc:=[]) (f:=vU w) (SlV.le h.dty L1) (by omega) (fun x _ τ _=>xRX hd);have cv:=xZE (cap:=d) (g:=51) (ga:=[.agg ⟨wkc w.days p l c q m d w.rest w.run w.hours⟩]) (gc:=[]) (f:=zAU w) (h.drv.le L1) (by omega) (fun x hx v τ _ hv=>xDE hv (hsh x hx) hd);cases e1:w.duties.all (vU w) with
 | false=>rw [e1] at cd;rw [hf0,hh,e1];exact (yLT (cin b1) (cin b2) (cin b3) (cin b4) cd ⟨rfl,Nat.le_refl _⟩ (by omega) (by omega)).pure
 | true =>
 rw [e1] at cd;cases e2:w.drivers.all (zAU w) with
 | false=>rw [e2] at cv;rw [hf0,hh,e1,e2];exact (yLU (cin b1) (cin b2) (cin b3) (cin b4) cd cv ⟨rfl,Nat.le_refl _⟩ (by omega) (by omega)).pure
 | true=>rw [e2] at cv;rw [hf0,hh,e1,e2];exact (yLV (cin b1) (cin b2) (cin b3) (cin b4) cd cv ⟨rfl,Nat.le_refl _⟩ (by omega) (by omega)).pure
end
end
def zY (rs:List Int) (i:Nat):Int:=rs.getD i 0
section
variable {w:Wk} {ros tru:Nat->Int} {k D i:Nat}
end
section
variable {Z:St} {w:Wk} {p q r t:Option Addr} {l m c d rc tc:Nat} {rs ts:List Int} {k D:Nat}
end
section
noncomputable section
variable (l:oAa) (l_l l_c BA:Nat) (q2:St->Prop) (dp:Int) (q3:(Option Addr)->Nat->Nat->Int->St->Prop) (fS:Bool) (q0:Int->St->Prop) (q1:Bool->St->Prop) (fk:oAa) (q4:(Option Addr)->Nat->Nat->St->Prop) (fp fz:Nat) (bi:Int) (Z:St) (Q:vPa) (q5:(Option Addr)->Nat->Nat->Int->St->Prop) (Nx:Int->St->Prop) (q6:(Option Addr)->Nat->Nat->St->Prop) (Qr:Bool->St->Prop) (Q0:St->Prop)
def zPS:Code:=(Code.part [1,0,1,0,0] (qh 21))
def zAZ:lNa:=[(1,.slice l l_l l_c),(2,pq BA 0),(5,iV dp)]
def yDC:Alt:=⟨Int,.normal,fun t=>zAZ l l_l l_c BA t,fun t=>[],fun t Z=>q0 t Z⟩
def zJM (l:oAa) (l_l l_c BA:Nat) (fS:Bool):lNa:=[(4,.bool fS)]
def zDW:Alt:=⟨Bool,.ret,fun t=>zJM l l_l l_c BA t,fun t=>[],fun t Z=>q1 t Z⟩
def zJN:lNa:=[(1,.slice l l_l l_c),(2,pq BA 0)]
def zDX:Alt:=⟨Unit,(.exit 0),fun t=>zJN l l_l l_c BA,fun t=>[],fun t Z=>q2 Z⟩
def zDC:Prop:=qi qj none zPS 28 (zAZ l l_l l_c BA dp) [] [yDC l l_l l_c BA Nx,zDW l l_l l_c BA Qr,zDX l l_l l_c BA Q0] Z
def zPT:Prop:=qk qj none zPS 28 (zAZ l l_l l_c BA dp) [] [zDW l l_l l_c BA Qr,zDX l l_l l_c BA Q0] Z
def zJO:Prop:=kZ qj (qh 21) [1,0,1,0] (ql 21 Q) .ret 28 (zJM l l_l l_c BA fS) Z
def zDY:Prop:=kZ qj (qh 21) [1,0,1,0] (ql 21 Q) (.exit 0) 28 (zJN l l_l l_c BA) Z
def zYS:Code:=(Code.part [1,1,0,1,0,0] (qh 40))
def zDV:lNa:=[(1,pq BA 0),(3,.slice fk fp fz),(4,iV bi)]
def yNM:Alt:=⟨(Option Addr) × Nat × Nat × Int,.normal,fun t=>zDV BA t.1 t.2.1 t.2.2.1 t.2.2.2,fun t=>[],fun t Z=>q3 t.1 t.2.1 t.2.2.1 t.2.2.2 Z⟩
def zPQ (BA:Nat) (fk:oAa) (fp fz:Nat):lNa:=[(3,.slice fk fp fz)]
def zHF:Alt:=⟨(Option Addr) × Nat × Nat,(.exit 0),fun t=>zPQ BA t.1 t.2.1 t.2.2,fun t=>[],fun t Z=>q4 t.1 t.2.1 t.2.2 Z⟩
def zNX:Prop:=qi qj none zYS 23 (zDV BA fk fp fz bi) [] [yNM BA q5,zHF BA q6] Z
def zYT:Prop:=qk qj none zYS 23 (zDV BA fk fp fz bi) [] [zHF BA q6] Z
def zPR:Prop:=kZ qj (qh 40) [1,1,0,1,0] (ql 40 Q) (.exit 0) 23 (zPQ BA fk fp fz) Z
end
variable {l qE af ae qM fk qG qD:oAa} {l_l l_c BA lG cF ac ad aa ab lP cN fp fz lA cE lK cH:Nat} {Inv:Nat->Int->St->Prop} {Qr Pr:Bool->St->Prop} {Q0 P0:St->Prop} {dp nE ak am ar ah bi nG:Int} {l_a dc:Addr} {Z ZD:St} {Nx:Int->St->Prop} {Q:vPa} {fS:Bool}
theorem zWF (hb:∀ k dp Z,Inv k dp Z->zDC l l_l l_c BA dp Z (NX1 Inv k) Qr Q0):∀ k dp Z,Inv k dp Z->zPT l l_l l_c BA dp Z Qr Q0 :=
 xF (ai zAR (ai (xX 0) trivial)) hb
theorem yDB (h1:lz Z 3 (zL l_a (Int.toNat dp*1)) (iV nE)) (h2:lz Z 23 (qe BA 2) (.slice qE lG cF)) (h3:qm 33 [iV nE,iV (-1),iV ((lG:Int)-1)] Z (.bool true) Z) (nx:Nx (dp+1) Z) (u1:dp<(l_l:Int):=by omega) (u2:Ix dp l_l:=by omega) (u3:I6 ((lG:Int)-1):=by omega) (u4:I6 (dp+1):=by omega):zDC (some l_a) l_l l_c BA dp Z Nx Qr Q0 :=
 kO 0 (dp+1) [.g,.g,.g,.b true,.g,.g,.i,.l (iV nE),.g,.l (.slice qE lG cF),.g,.n ((lG:Int)-1),.c (.bool true) Z,.g,.g,.n (dp+1),.g] (fun _ f=>ai (zR u1) (an6 u2 h1 h2 (w64 u3) h3 (w64 u4) f)) nx
theorem yDA (h1:lz Z 3 (zL l_a (Int.toNat dp*1)) (iV nE)) (h2:lz Z 23 (qe BA 2) (.slice qE lG cF)) (h3:qm 33 [iV nE,iV (-1),iV ((lG:Int)-1)] Z (.bool false) Z) (nx:Qr false Z) (u1:dp<(l_l:Int):=by omega) (u2:Ix dp l_l:=by omega) (u3:I6 ((lG:Int)-1):=by omega):zDC (some l_a) l_l l_c BA dp Z Nx Qr Q0 :=
 kO 1 false [.g,.g,.g,.b true,.g,.g,.i,.l (iV nE),.g,.l (.slice qE lG cF),.g,.n ((lG:Int)-1),.c (.bool false) Z,.g,.g] (fun _ f=>an6 (zR u1) u2 h1 h2 (w64 u3) h3 f) nx
theorem yCZ (nx:Q0 Z) (u1:¬ dp<(l_l:Int):=by omega):zDC l l_l l_c BA dp Z Nx Qr Q0 :=
 kO 2 () [.g,.g,.g,.b false] (fun _ f=>ai (zT u1) f) nx
theorem yIW:let y0:=wkc ak af ac ad ae aa ab am ar ah;∀ (hL:zPT l l_l l_c Z.y 0 (Z.row y0 6) Pr P0) (kr:∀ t4_1' Z',Pr t4_1' Z'->zJO l l_l l_c Z.y t4_1' Z' Q) (k0:∀ Z',P0 Z'->zDY l l_l l_c Z.y Z' Q),qg 21 [qf y0,.slice l l_l l_c] Z Q :=
 fun hL kr k0=>zG [.g,.g,.g,.lf 28 (zAZ l l_l l_c Z.y 0) [zDW l l_l l_c Z.y Pr,zDX l l_l l_c Z.y P0]] (kd (ai (ai tt (ai (arf (zAZ l l_l l_c Z.y 0)) hL)) (ai (kz1 kr) (ai (kz0 k0) trivial))))
theorem zWC (nx:Q (.bool fS) Z):zJO l l_l l_c BA fS Z Q :=
 sK [] nx
theorem zWE (h1:lz Z 22 (qe BA 1) (.slice qM lP cN)) (nx:Q (.bool true) Z) (u1:(l_l:Int)=(lP:Int):=by omega):zDY l l_l l_c BA Z Q :=
 sK [.g,.g,.g,.l (.slice qM lP cN),.g,.b true,.g] (an2 h1 (xK u1) nx)
theorem zWD (h1:lz Z 22 (qe BA 1) (.slice qM lP cN)) (nx:Q (.bool false) Z) (u1:¬ (l_l:Int)=(lP:Int):=by omega):zDY l l_l l_c BA Z Q :=
 sK [.g,.g,.g,.l (.slice qM lP cN),.g,.b false,.g] (an2 h1 (xH u1) nx)
theorem yCY {Inv:Nat->(Option Addr)->Nat->Nat->Int->St->Prop} {Q0:(Option Addr)->Nat->Nat->St->Prop} (hb:∀ k fk fp fz bi Z,Inv k fk fp fz bi Z->zNX BA fk fp fz bi Z (NX4 Inv k) Q0):∀ k fk fp fz bi Z,Inv k fk fp fz bi Z->zYT BA fk fp fz bi Z Q0 :=
 zZZ (ai (xX 0) trivial) hb
theorem yNL {Nx:(Option Addr)->Nat->Nat->Int->St->Prop} {Q0:(Option Addr)->Nat->Nat->St->Prop} (h1:lz Z 22 (qe BA 1) (.slice (some dc) lA cE)) (h2:lz Z 3 (zL dc (((Int.toNat bi*5)+2)+1)) (iV nG)) (h3:yG Pg 26 26 (.slice fk fp fz) (.slice (some (qe Z.y 0)) 1 1) (Z.row [iV nG] 1)=some (.slice qG lK cH,ZD)) (nx:Nx qG lK cH (bi+1) ZD) (u1:bi<(lA:Int):=by omega) (u2:Ix bi lA:=by omega) (u3:I6 (bi+1):=by omega):zNX BA fk fp fz bi Z Nx Q0 :=
 kO 0 (qG,lK,cH,bi+1) [.g,.g,.l (.slice (some dc) lA cE),.g,.b true,.g,.g,.l (.slice (some dc) lA cE),.g,.i,.g,.g,.l (iV nG),.g,.e (.slice qG lK cH) ZD,.g,.g,.n (bi+1),.g] (fun _ f=>ai h1 (an6 (zR u1) h1 u2 h2 h3 (w64 u3) f)) nx
theorem yNK {Nx:(Option Addr)->Nat->Nat->Int->St->Prop} {Q0:(Option Addr)->Nat->Nat->St->Prop} (h1:lz Z 22 (qe BA 1) (.slice qD lA cE)) (nx:Q0 fk fp fz Z) (u1:¬ bi<(lA:Int):=by omega):zNX BA fk fp fz bi Z Nx Q0 :=
 kO 1 (fk,fp,fz) [.g,.g,.l (.slice qD lA cE),.g,.b false] (fun _ f=>an2 h1 (zT u1) f) nx
theorem yUE {P0:(Option Addr)->Nat->Nat->St->Prop}:let y0:=wkc ak af ac ad ae aa ab am ar ah;∀ (hL:zYT Z.y none 0 0 0 (Z.row y0 6) P0) (k0:∀ p3_1' l3_1' c3_1' Z',P0 p3_1' l3_1' c3_1' Z'->zPR Z.y p3_1' l3_1' c3_1' Z' Q),qg 40 [qf y0] Z Q :=
 fun hL k0=>zG [.g,.g,.g,.g,.lf 23 (zDV Z.y none 0 0 0) [zHF Z.y P0]] (kd (ai (ai tt (ai (arf (zDV Z.y none 0 0 0)) hL)) (ai (kz3 k0) trivial)))
theorem yCX (nx:Q (.slice fk fp fz) Z):zPR BA fk fp fz Z Q :=
 sK [.g,.g] nx
end
structure Sane (w:Wk) (l m:Nat):Prop where
 l12:l<=12
 m6:m<=6
 duty:∀ i,i<l->0<=(dty w i).day/\(dty w i).day<=6/\0<=(dty w i).on/\(dty w i).on<=1439/\(dty w i).on<=(dty w i).lo/\(dty w i).lo<=(dty w i).hi/\(dty w i).hi<=(dty w i).on+1440
 dr:∀ k,k<m->-10080<=(drv w k).off/\(drv w k).off<=1440/\0<=(drv w k).row/\(drv w k).row<=14/\0<=(drv w k).used/\(drv w k).used<=20000
 kn:∀ k,k<m->(drv w k).knows.length<=1000/\(drv w k).leave.length<=1000/\(drv w k).wish.length<=1000
 rest:0<=w.rest/\w.rest<=3000
 run:1<=w.run/\w.run<=14
 hours:0<=w.hours/\w.hours<=20000
theorem yZI {n:Nat} {p q r:Option Addr} {l c m d j e:Nat} {x y z:Int} (h1:∀ a,p=some a->a.block<n) (h2:∀ a,q=some a->a.block<n) (h3:∀ a,r=some a->a.block<n):yV RD n (.agg ⟨zO p l c q m d r j e x y z⟩)=true:=by
 have e1:∀ a b:Nat,a<b->Nat.blt a b=true:=fun a b h=>by rw [Nat.blt_eq];exact h
 show List.all (zO p l c q m d r j e x y z) (yV (RD-1) n)=true;rcases p with _ | p <;> rcases q with _ | q <;> rcases r with _ | r <;> simp [yV,RD] <;> simp_all
theorem zGN {n:Nat} {p q:Option Addr} {l c m d:Nat} {a x y z:Int} (h1:∀ a,p=some a->a.block<n) (h2:∀ a,q=some a->a.block<n):yV RD n (.agg ⟨wkc a p l c q m d x y z⟩)=true:=by
 have e1:∀ a b:Nat,a<b->Nat.blt a b=true:=fun a b h=>by rw [Nat.blt_eq];exact h
 show List.all (wkc a p l c q m d x y z) (yV (RD-1) n)=true;rcases p with _ | p <;> rcases q with _ | q <;> simp [yV,RD] <;> simp_all
section
variable {Z:St} {w:Wk} {p q r t:Option Addr} {l m c d rc tc:Nat} {rs ts:List Int} {k i:Nat}
end
abbrev yLE (b:Bch):Value:=.agg ⟨rcd b.kind b.drv b.dut⟩
section
variable {w:Wk} {ros tru:Nat->Int} {k q j:Nat}
end
section
variable {Z:St} {w:Wk} {p q r t:Option Addr} {l m c d rc tc:Nat} {rs ts:List Int} {k i:Nat}
end
def zAC (w:Wk) (rs:List Int):Bool:=rs.all (fun x=>inB x (-1) ((w.drivers.length:Int)-1)) && decide (rs.length=w.duties.length)
def zXT (w:Wk) (ts:List Int) (j:Nat):Bool:=(List.range j).all fun i=>inB (ts.getD i 0) (dty w i).lo (dty w i).hi
def zGH (w:Wk) (ts:List Int):Bool:=zXT w ts (min ts.length w.duties.length) && decide (ts.length=w.duties.length)
def wL (w:Wk):List Int:=w.duties.map Dty.hi
section
variable {Z:St} {w:Wk} {p q r t:Option Addr} {l m c d rl rc tl tc:Nat} {rs ts:List Int} {td tv:Nat}
theorem yNN (h:WkP Z 92 76 w p l q m) (hr:yD Z r rl rs) (hl:rl<=1073741824) (hm:m<=1073741824):zD Tryz.prog 21 [.agg ⟨wkc w.days p l c q m d w.rest w.run w.hours⟩,.slice r rl rc] Z (.bool (zAC w rs)) Z:=by
 have hn:=h.len.1;have hmm:=h.len.2;have el:=hr.len;obtain ⟨Z1,hZ1⟩:∃ Z1,Z1=Z.re.row (wkc w.days p l c q m d w.rest w.run w.hours) 6:=⟨_,rfl⟩;have hk0:=xJ Z.re (wkc w.days p l c q m d w.rest w.run w.hours) 6;rw [<- hZ1] at hk0;have hr0:yD Z1 r rl rs:=by rw [hZ1];exact SlV.le hr ((le0 Z).trans (Le.row _ _ _))
 have lD:zB Tryz.prog Z1 22 ⟨Z.re.y,1,none⟩=some (.slice p l c):=hk0.ld zAF rfl;have lV:zB Tryz.prog Z1 23 ⟨Z.re.y,2,none⟩=some (.slice q m d):=hk0.ld zCZ rfl;have low1:Z.y<=Z1.low:=by rw [hZ1];exact Nat.le_refl _
 refine (yIW (zWF (Inv:=fun k i τ=>τ=Z1/\∃ j:Nat,i=j/\j+k=rl/\(rs.take j).all (fun x=>inB x (-1) ((w.drivers.length:Int)-1))=true) (Qr:=fun b τ=>τ=Z1/\b=false/\zAC w rs=false)
  (Q0:=fun τ=>τ=Z1/\rs.all (fun x=>inB x (-1) ((w.drivers.length:Int)-1))=true) ?_ rl 0 _ ⟨hZ1.symm,0,rfl,by omega,rfl⟩) ?_ ?_).pure
 ·rintro k i τ ⟨rfl,j,rfl,hk,ha⟩;by_cases hj:j<rl;rotate_left
  ·exact yCZ ⟨rfl,by rwa [List.take_of_length_le (by omega)] at ha⟩ (by omega)
  obtain ⟨a,rfl,x,hx,lx⟩:=wS hr0 hj;have cin:=xKR (Z:=τ) (n:=x) (lo:=-1) (hi:=(m:Int)-1);cases hb:inB x (-1) ((m:Int)-1) with
  | true=>rw [hb] at cin;exact yDB lx lV cin ⟨k-1,by omega,rfl,j+1,by omega,by omega,zRI hx ha (by rw [hmm];exact hb)⟩ (by omega) (by omega) (by omega) (by omega)
  | false=>rw [hb] at cin;exact yDA lx lV cin ⟨rfl,rfl,by unfold zAC;rw [yBY (f:=fun x=>inB x (-1) ((w.drivers.length:Int)-1)) (List.mem_of_getElem? hx) (by rw [hmm];exact hb)];rfl⟩ (by omega) (by omega) (by omega)
 ·rintro b τ ⟨rfl,rfl,e⟩;exact zWC ⟨by rw [e],low1⟩
 ·rintro τ ⟨rfl,e⟩;by_cases hh:rl=l
  ·exact zWE lD ⟨by unfold zAC;rw [e,decide_eq_true (by omega)];rfl,low1⟩ (by omega)
  ·exact zWD lD ⟨by unfold zAC;rw [e,decide_eq_false (by omega)];rfl,low1⟩ (by omega)
theorem xEF (h:WkP Z 92 76 w p l q m) (hl:l<=1000):∃ p' c' Z',zD Tryz.prog 40 [.agg ⟨wkc w.days p l c q m d w.rest w.run w.hours⟩] Z (.slice p' l c') Z'/\New Z Z'/\yD Z' p' l (wL w)/\∀ b,AtP p' b->Z.y<=b:=by
 have hn:=h.len.1;obtain ⟨Z1,hZ1⟩:∃ Z1,Z1=Z.re.row (wkc w.days p l c q m d w.rest w.run w.hours) 6:=⟨_,rfl⟩;have hk0:=xJ Z.re (wkc w.days p l c q m d w.rest w.run w.hours) 6;rw [<- hZ1] at hk0;have N1:New Z.re Z1:=by rw [hZ1];exact New.row _ _ _
 have L1:Le Z Z1:=(le0 Z).trans N1.le;refine zN.newSl (yUE (yCY (Inv:=fun k p' l' c' i τ=>New Z1 τ/\∃ j:Nat,i=j/\j+k=l/\l'=j/\Gr Tryz.prog τ Z1.y 3 1 p' l' c' (((wL w).take j).map zZ))
  (Q0:=fun p' l' c' τ=>New Z1 τ/\l'=l/\Gr Tryz.prog τ Z1.y 3 1 p' l' c' ((wL w).map zZ)) ?_ l none 0 0 0 _ ⟨by rw [<- hZ1];exact New.refl _,0,rfl,by omega,rfl,Gr.nil⟩) ?_)
 ·rintro k p' l' c' i τ ⟨hN,j,rfl,hk,rfl,hg⟩;have lD:zB Tryz.prog τ 22 ⟨Z.re.y,1,none⟩=some (.slice p l c):=(hk0.le hN.le).ld zAF rfl;by_cases hj:l' < l
  ·obtain ⟨a,rfl,l3⟩:=(h.le (L1.trans hN.le)).dld (i:=l') (k:=3) (n:=(dty w l').hi) hj (by omega) rfl;obtain ⟨q7,d7,τ',g1,g2,g3,_,_⟩:=xYU (zZ (dty w l').hi) uS hg hN (New.refl τ) (vW _) (by omega);have hx:(wL w)[l']?=some (dty w l').hi:=by
    unfold wL dty;rw [List.getElem?_map,List.getD_eq_getElem?_getD,List.getElem?_eq_getElem (by omega)];rfl
   refine yNL lD l3 g1 ⟨k-1,by omega,g3,l'+1,by omega,by omega,rfl, ?_⟩ (by omega) (by omega) (by omega);rw [wA hx,List.map_append];exact g2
  ·have:l'=l:=by omega
   subst this;refine yNK lD ⟨hN,rfl, ?_⟩ (by omega);rwa [List.take_of_length_le (by unfold wL;rw [List.length_map];omega)] at hg
 ·rintro p' l' c' τ ⟨hN,rfl,hg⟩;refine yCX ⟨N1.trans hN,p',c',rfl,hg.slv,fun b hb=>?_⟩;have:=(hg.bd hb).1;have:=N1.nx;show Z.re.y<=b;omega
end
section
noncomputable section
variable (BA:Nat) (af vals ae:oAa) (f1:FuncId) (ac bL aa ad bP ab:Nat) (dT:lVa) (q2:(Option Addr)->Nat->Nat->St->Prop) (fm:oAa) (q0:(Option Addr)->Nat->Nat->Int->St->Prop) (aI:Int) (q5:Int->St->Prop) (q6:St->Prop) (ms:List Nat) (g:Nat->Value) (fq fK:Nat) (st:LoopState) (aG:Int) (pend:Option Code) (Z:St) (db:Nat) (Qn:St->Prop) (q3:(Option Addr)->Nat->Nat->Int->St->Prop) (Q:vPa) (Nx Qr:Int->St->Prop) (q4:(Option Addr)->Nat->Nat->St->Prop) (Q0:St->Prop)
def zHX:Code:=(Code.part [1,0,1,0,0] (qh 85))
def zHW:Code:=(Code.part [1,0,1,0,1] (qh 85))
def zGI:lNa:=[(4,pq BA 0),(8,.func (.func f1) ⟨[]⟩ ⟨dT⟩)]
def yHC:Blk:=.loop (Fm 16 (ov (zGI BA f1 dT) g)) [9,10] zHX zHW st pend db
def xHJ:Prop:=zTR Pg qj (.tmp 8) ⟨[9,10]⟩ zHX zHW 16 (zGI BA f1 dT) [(.normal,Qn)] Z
def zVG:Prop:=∀ g:Nat->Value,∃ an,Hid (kAt Pg qj none (qh 85) [1,0,1,0] (ql 85 Q) .normal ⟨Fm 16 (ov (zGI BA f1 dT) g),ms⟩ Z an)
def xCK:Code:=(Code.part [1,0,1,0,0] (qh 86))
def zQV:lNa:=[(2,.slice fm fq fK),(6,.slice af ac ad),(7,iV (ac:Int)),(8,iV aG)]
def xPJ:Alt:=⟨(Option Addr) × Nat × Nat × Int,.normal,fun t=>zQV af ac ad t.1 t.2.1 t.2.2.1 t.2.2.2,fun t=>[],fun t Z=>q0 t.1 t.2.1 t.2.2.1 t.2.2.2 Z⟩
def yHA (af:oAa) (ac ad:Nat) (fm:oAa) (fq fK:Nat):lNa:=[(2,.slice fm fq fK)]
def zSZ:Alt:=⟨(Option Addr) × Nat × Nat,(.exit 0),fun t=>yHA af ac ad t.1 t.2.1 t.2.2,fun t=>[],fun t Z=>q2 t.1 t.2.1 t.2.2 Z⟩
def yKM:Prop:=qi qj none xCK 20 (zQV af ac ad fm fq fK aG) [] [xPJ af ac ad q3,zSZ af ac ad q4] Z
def xCL:Prop:=qk qj none xCK 20 (zQV af ac ad fm fq fK aG) [] [zSZ af ac ad q4] Z
def yHB:Prop:=kZ qj (qh 86) [1,0,1,0] (ql 86 Q) (.exit 0) 20 (yHA af ac ad fm fq fK) Z
def zXO:Code:=(Code.part [1,0,1,0,0] (qh 74))
def zGZ:lNa:=[(2,pq BA 0),(6,.slice ae aa ab),(7,iV (aa:Int)),(8,iV aG)]
def yME:Alt:=⟨Int,.normal,fun t=>zGZ BA ae aa ab t,fun t=>[],fun t Z=>q5 t Z⟩
def zPD (BA:Nat) (ae:oAa) (aa ab:Nat):lNa:=[(2,pq BA 0)]
def zHA:Alt:=⟨Unit,(.exit 0),fun t=>zPD BA ae aa ab,fun t=>[],fun t Z=>q6 Z⟩
def zNP:Prop:=qi qj none zXO 24 (zGZ BA ae aa ab aG) [] [yME BA ae aa ab Nx,zHA BA ae aa ab Q0] Z
def zXP:Prop:=qk qj none zXO 24 (zGZ BA ae aa ab aG) [] [zHA BA ae aa ab Q0] Z
def zPE:Prop:=kZ qj (qh 74) [1,0,1,0] (ql 74 Q) (.exit 0) 24 (zPD BA ae aa ab) Z
def yRG:Code:=(Code.part [1,1,0,1,0,0] (qh 80))
def zKT:lNa:=[(3,iV 0),(6,.slice vals bL bP),(7,iV (bL:Int)),(8,iV aG)]
def xHV:Alt:=⟨Int,.normal,fun t=>zKT vals bL bP t,fun t=>[],fun t Z=>q5 t Z⟩
def yBK (vals:oAa) (bL bP:Nat) (aI:Int):lNa:=[(2,iV aI)]
def zOR:Alt:=⟨Int,.ret,fun t=>yBK vals bL bP t,fun t=>[],fun t Z=>q5 t Z⟩
def yBL (vals:oAa) (bL bP:Nat):lNa:=[(3,iV 0)]
def zOS:Alt:=⟨Unit,(.exit 0),fun t=>yBL vals bL bP,fun t=>[],fun t Z=>q6 Z⟩
def zRB:Prop:=qi qj none yRG 18 (zKT vals bL bP aG) [] [xHV vals bL bP Nx,zOR vals bL bP Qr,zOS vals bL bP Q0] Z
def yRH:Prop:=qk qj none yRG 18 (zKT vals bL bP aG) [] [zOR vals bL bP Qr,zOS vals bL bP Q0] Z
def yBM:Prop:=kZ qj (qh 80) [1,1,0,1,0] (ql 80 Q) .ret 18 (yBK vals bL bP aI) Z
def yBN:Prop:=kZ qj (qh 80) [1,1,0,1,0] (ql 80 Q) (.exit 0) 18 (yBL vals bL bP) Z
end
variable {ak am ar ah day y aB aN ax ay aE aG nE nG nA nB nD nF dg dM eB dL eC x1 aS bt a7 aZ n1 n2 n3 n4 dW aI dS dw eg eS ee fg:Int} {af ae qMB qNB qP qGB fm qH qD qE qF q1 vals:oAa} {ac ad aa ab BA lo lQB cNB lRB cOB db lL cQ lMB cGB fq fK lJ cI lA cE lG cF lH cG l1 c1 bL bP:Nat} {Z ZIB ZJB τ Z2 ZI fT ZP ZX:St} {Q:vPa} {f1:FuncId} {dT cs1838 cs1840:lVa} {g:Nat->Value} {Qn Pn Q0 P0:St->Prop} {ms:List Nat} {Inv:Nat->Int->St->Prop} {w_Duties_a bj vals_a:Addr} {Nx Qr Pr:Int->St->Prop} {b2:Bool}
theorem wAA:let y0:=wkc ak af ac ad ae aa ab am ar ah;∀ (nx:Q (.func (.func 91) ⟨[]⟩ ⟨[pq Z.y 0,pq ((Z.y+1)) 0]⟩) ((Z.row y0 6).row [iV day] 1)),qg 75 [qf y0,iV day] Z Q :=
 fun nx=>zG [.g,.g,.g,.g,.g] (kd nx)
theorem yXQ (hl:yI τ.heap lo=some (yHC BA f1 dT g .ready none db)) (hZ:Z=τ.re.put lo (yHC BA f1 dT g .busy none db)) (h1:lz Z 26 (qe BA 0) (.slice qMB lQB cNB)) (h2:yG Pg 26 26 (.slice qMB lQB cNB) (.slice (some (qe Z.y 0)) 1 1) (Z.row [iV y] 1)=some (.slice qNB lRB cOB,ZIB)) (h3:qn (evL [pq BA 0,.slice qNB lRB cOB]) ZIB (.store 26 (.tmp 0) (.tmp 1))=some (undef,ZJB)) (nx:Qn ZJB):zFP Pg lo [iV y,qf (zF aB aN ax ay aE)] τ (Fm 16 (ov (zGI BA f1 dT) g)) [9,10] zHX zHW db [⟨Unit,.normal,fun _=>[],fun _=>[],fun _ Z=>Qn Z⟩] :=
 xKE hl rfl hZ [.g,.l (.slice qMB lQB cNB),.g,.g,.e (.slice qNB lRB cOB) ZIB,.e undef ZJB,.fin ⟨Unit,.normal,fun _=>[],fun _=>[],fun _ Z=>Qn Z⟩ ()] (kc (by kernel_rfl) (ai (ai (rfl:Exit.normal=Exit.normal) (rfl:τ.re=τ.re)) (an3 h1 h2 h3 (xYV (alts:=[⟨Unit,.normal,fun _=>[],fun _=>[],fun _ Z=>Qn Z⟩]) ⟨Unit,.normal,fun _=>[],fun _=>[],fun _ Z=>Qn Z⟩ () nx in0))))
theorem xHI:let y0:=wkc ak af ac ad ae aa ab am ar ah;∀ (h1:qm 75 [qf y0,iV day] ((Z.row y0 6).row [.slice none 0 0] 1) (.func (.func f1) ⟨[]⟩ ⟨dT⟩) Z2) (hL:xHJ (Z.y+1) f1 dT Z2 Pn) (kn:∀ Z',Pn Z'->zVG (Z.y+1) f1 dT [Z2.y] Z' Q),qg 85 [qf y0,iV day] Z Q :=
 let s1:=zGI (Z.y+1) f1 dT;let y0:=wkc ak af ac ad ae aa ab am ar ah;fun h1 hL kn=>zG [.g,.g,.l (qf y0),.g,.c (.func (.func f1) ⟨[]⟩ ⟨dT⟩) Z2,.rf 16 s1 [(.normal,Pn)]] (kd (an2 ((zC _ _ _).row.rw.ldN xL yS (k:=0) rfl rfl (nle rfl):lz ((Z.row y0 6).row [.slice none 0 0] 1) 34 (qe Z.y 0) (qf y0)) h1 (ai (ai tt (ai (arf s1) hL)) (ai (kz kn) trivial))))
theorem yKO (h1:lz Z 26 (qe BA 0) (.slice qP lL cQ)) (h2:qn (evL [pq BA 0,.slice qP lL cQ]) Z (.store 26 (.tmp 0) (.tmp 1))=some (undef,ZI)) (h3:xCY ms ZI fT) (h4:lz fT 26 (qe BA 0) (.slice qGB lMB cGB)) (nx:Q (.slice qGB lMB cGB) fT):zVG BA f1 dT ms Z Q :=
 sK [.l (.slice qP lL cQ),.e undef ZI,.l (.slice qGB lMB cGB)] (an2 h1 h2 (zNO (K:=(fun fT=>lz fT 26 (qe BA 0) (.slice qGB lMB cGB)/\Q (.slice qGB lMB cGB) fT)) h3 (ai h4 nx)))
theorem yXM {Inv:Nat->(Option Addr)->Nat->Nat->Int->St->Prop} {Q0:(Option Addr)->Nat->Nat->St->Prop} (hb:∀ k fm fq fK aG Z,Inv k fm fq fK aG Z->yKM af ac ad fm fq fK aG Z (NX4 Inv k) Q0):∀ k fm fq fK aG Z,Inv k fm fq fK aG Z->xCL af ac ad fm fq fK aG Z Q0 :=
 zZZ (ai (xX 0) trivial) hb
theorem xPI {Nx:(Option Addr)->Nat->Nat->Int->St->Prop} {Q0:(Option Addr)->Nat->Nat->St->Prop}:let y0:=zF nE nG nA nB nD;∀ (h1:lz Z 85 (zL w_Duties_a (Int.toNat aG*5)) (qf y0)) (h2:yG Pg 26 26 (.slice fm fq fK) (.slice (some ⟨(Z.y+1),0,none⟩) 1 1) (((Z.row (zF 0 0 0 0 0) 5).own Z.y y0 5).row [iV nB] 1)=some (.slice qH lJ cI,ZP)) (nx:Nx qH lJ cI (aG+1) ZP) (u1:aG<(ac:Int):=by omega) (u2:Ix aG ac:=by omega) (u3:I6 (aG+1):=by omega),yKM (some w_Duties_a) ac ad fm fq fK aG Z Nx Q0 :=
 let s1:=Z.row (zF 0 0 0 0 0) 5;let s2:=s1.own Z.y (zF nE nG nA nB nD) 5;let y0:=zF nE nG nA nB nD;fun h1 h2 nx u1 u2 u3=>kO 0 (qH,lJ,cI,aG+1) [.b true,.i,.l (qf y0),.g,.e undef s2,.g,.g,.g,.l (iV nB),.g,.e (.slice qH lJ cI) ZP,.g,.n (aG+1),.g] (fun _ f=>ai (zR u1) (an6 u2 h1 ((zC _ _ _).store (vs:=y0) rfl uB rfl (nle rfl) rfl:qn (evL [pq Z.y 0,qf y0]) s1 (.store 85 (.tmp 0) (.tmp 1))=some (undef,s2)) ((zC _ _ _).put.rw.ld zU (k:=3) rfl:lz s2 3 (qe Z.y 3) (iV nB)) h2 (w64 u3) f)) nx
theorem xPH {Nx:(Option Addr)->Nat->Nat->Int->St->Prop} {Q0:(Option Addr)->Nat->Nat->St->Prop} (nx:Q0 fm fq fK Z) (u1:¬ aG<(ac:Int):=by omega):yKM af ac ad fm fq fK aG Z Nx Q0 :=
 kO 1 (fm,fq,fK) [.b false] (fun _ f=>ai (zT u1) f) nx
theorem xUP {P0:(Option Addr)->Nat->Nat->St->Prop} (hL:xCL af ac ad none 0 0 0 (Z.row (wkc ak af ac ad ae aa ab am ar ah) 6) P0) (k0:∀ p2_1' l2_1' c2_1' Z',P0 p2_1' l2_1' c2_1' Z'->yHB af ac ad p2_1' l2_1' c2_1' Z' Q):qg 86 [qf (wkc ak af ac ad ae aa ab am ar ah)] Z Q :=
 zG [.g,.g,.g,.l (.slice af ac ad),.g,.g,.lf 20 (zQV af ac ad none 0 0 0) [zSZ af ac ad P0]] (kd (ai ((zC _ _ _).rw.ld uL (k:=1) rfl:lz (Z.row (wkc ak af ac ad ae aa ab am ar ah) 6) 31 (qe Z.y 1) (.slice af ac ad)) (ai (ai tt (ai (arf (zQV af ac ad none 0 0 0)) hL)) (ai (kz3 k0) trivial))))
theorem yXL (nx:Q (.slice fm fq fK) Z):yHB af ac ad fm fq fK Z Q :=
 sK [.g,.g] nx
theorem yCR (hb:∀ k aG Z,Inv k aG Z->zNP BA ae aa ab aG Z (NX1 Inv k) Q0):∀ k aG Z,Inv k aG Z->zXP BA ae aa ab aG Z Q0 :=
 xF (ai (xX 0) trivial) hb
theorem yMD:let y0:=zO qD lA cE qE lG cF qF lH cG nB nD nF;∀ (h1:lz Z 88 (zL bj (Int.toNat aG*6)) (qf y0)) (h2:qn (evL [pq BA (0+Int.toNat aG*4),qf (zK nB nD nF (-1))]) ((Z.row (zO none 0 0 none 0 0 none 0 0 0 0 0) 6).own Z.y y0 6) (.store 107 (.tmp 0) (.tmp 1))=some (undef,ZX)) (nx:Nx (aG+1) ZX) (u1:aG<(aa:Int):=by omega) (u2:Ix aG aa:=by omega) (u3:Ix aG 6:=by omega) (u4:I6 (aG+1):=by omega),zNP BA (some bj) aa ab aG Z Nx Q0 :=
 let s1:=Z.row (zO none 0 0 none 0 0 none 0 0 0 0 0) 6;let s2:=s1.own Z.y (zO qD lA cE qE lG cF qF lH cG nB nD nF) 6;let y0:=zO qD lA cE qE lG cF qF lH cG nB nD nF;fun h1 h2 nx u1 u2 u3 u4=>kO 0 (aG+1) [.b true,.g,.i,.l (qf y0),.g,.g,.e undef s2,.g,.g,.l (iV nB),.g,.l (iV nD),.g,.l (iV nF),.g,.i,.e undef ZX,.n (aG+1),.g] (fun _ f=>an4 (zR u1) u2 h1 ((zC _ _ _).store (vs:=y0) rfl zRT rfl (nle rfl) rfl:qn (evL [pq Z.y 0,qf y0]) s1 (.store 88 (.tmp 0) (.tmp 1))=some (undef,s2)) (an6 ((zC _ _ _).put.rw.ld zU (k:=3) rfl:lz s2 3 (qe Z.y 3) (iV nB)) ((zC _ _ _).put.rw.ld zU (k:=4) rfl:lz s2 3 (qe Z.y 4) (iV nD)) ((zC _ _ _).put.rw.ld zU (k:=5) rfl:lz s2 3 (qe Z.y 5) (iV nF)) u3 h2 (w64 u4) f)) nx
theorem yMC (nx:Q0 Z) (u1:¬ aG<(aa:Int):=by omega):zNP BA ae aa ab aG Z Nx Q0 :=
 kO 1 () [.b false] (fun _ f=>ai (zT u1) f) nx
theorem ySY (hL:zXP (Z.y+1) ae aa ab 0 ((Z.row (wkc ak af ac ad ae aa ab am ar ah) 6).row [iV 0,iV 0,iV 0,iV 0,iV 0,iV 0,iV 0,iV 0,iV 0,iV 0,iV 0,iV 0,iV 0,iV 0,iV 0,iV 0,iV 0,iV 0,iV 0,iV 0,iV 0,iV 0,iV 0,iV 0] 4) P0) (k0:∀ Z',P0 Z'->zPE (Z.y+1) ae aa ab Z' Q):qg 74 [qf (wkc ak af ac ad ae aa ab am ar ah)] Z Q :=
 let s1:=zGZ (Z.y+1) ae aa ab 0;zG [.g,.g,.g,.l (.slice ae aa ab),.g,.g,.lf 24 s1 [zHA (Z.y+1) ae aa ab P0]] (kd (ai ((zC _ _ _).row.rw.ld zAX (k:=2) rfl:lz ((Z.row (wkc ak af ac ad ae aa ab am ar ah) 6).row [iV 0,iV 0,iV 0,iV 0,iV 0,iV 0,iV 0,iV 0,iV 0,iV 0,iV 0,iV 0,iV 0,iV 0,iV 0,iV 0,iV 0,iV 0,iV 0,iV 0,iV 0,iV 0,iV 0,iV 0] 4) 32 (qe Z.y 2) (.slice ae aa ab)) (ai (ai tt (ai (arf s1) hL)) (ai (kz0 k0) trivial))))
theorem yCQ (h1:lz Z 109 (qe BA 0) (qf cs1838)) (h2:qn (evL [pq BA 0,qf cs1838]) Z (.store 109 (.tmp 0) (.tmp 1))=some (undef,ZI)) (h3:lz ZI 109 (qe BA 0) (qf cs1840)) (nx:Q (qf cs1840) ZI):zPE BA ae aa ab Z Q :=
 sK [.l (qf cs1838),.e undef ZI,.l (qf cs1840)] (an3 h1 h2 h3 nx)
theorem yJD (nx:Q (.slice (some (qe Z.y 0)) 5 5) (Z.row [.int .u8 0,.func (.func 92) ⟨[]⟩ ⟨[]⟩,.int .u8 1,.func (.func 93) ⟨[]⟩ ⟨[]⟩,.int .u8 2,.func (.func 94) ⟨[]⟩ ⟨[]⟩,.int .u8 3,.func (.func 95) ⟨[]⟩ ⟨[]⟩,.int .u8 4,.func (.func 96) ⟨[]⟩ ⟨[]⟩] 2)):qg 76 [] Z Q :=
 zG [.g,.g,.g,.g,.g,.g,.g,.g] (kd nx)
theorem xEN:let s1:=Z.row (wkc ak af ac ad (some bj) aa ab am ar ah) 6;let s2:=s1.row (zF aB aN ax ay aE) 5;let s3:=s2.row (zK dM eB dL eC) 4;∀ (h1:lz s3 26 (zL bj ((Int.toNat dg*6)+0)) (.slice q1 l1 c1)) (h2:qm 58 [.slice q1 l1 c1,iV aE] s3 (.bool b2) s3) (nx:Q (.bool b2) s3) (u1:Ix dg aa:=by omega),qg 92 [qf (wkc ak af ac ad (some bj) aa ab am ar ah),iV dg,qf (zF aB aN ax ay aE),qf (zK dM eB dL eC)] Z Q:=
 let s1:=Z.row (wkc ak af ac ad (some bj) aa ab am ar ah) 6;let s2:=s1.row (zF aB aN ax ay aE) 5;let s3:=s2.row (zK dM eB dL eC) 4;fun h1 h2 nx u1=>zG [.g,.g,.g,.g,.g,.l (.slice (some bj) aa ab),.g,.i,.g,.l (.slice q1 l1 c1),.g,.l (iV aE),.c (.bool b2) s3,.g] (kd (an5 ((zC _ _ _).row.row.rw.ld zAX (k:=2) rfl:lz s3 32 (qe Z.y 2) (.slice (some bj) aa ab)) u1 h1 ((zC _ _ _).row.rw.ld zU (k:=4) rfl:lz s3 3 ⟨(Z.y+1),4,none⟩ (iV aE)) h2 nx))
theorem xKZ:let s1:=Z.row (wkc ak af ac ad (some bj) aa ab am ar ah) 6;let s2:=s1.row (zF aB aN ax ay aE) 5;let s3:=s2.row (zK dM eB dL eC) 4;∀ (h1:lz s3 26 (zL bj ((Int.toNat dg*6)+1)) (.slice q1 l1 c1)) (h2:qm 58 [.slice q1 l1 c1,iV aB] s3 (.bool true) s3) (nx:Q (.bool false) s3) (u1:Ix dg aa:=by omega),qg 93 [qf (wkc ak af ac ad (some bj) aa ab am ar ah),iV dg,qf (zF aB aN ax ay aE),qf (zK dM eB dL eC)] Z Q:=
 let s1:=Z.row (wkc ak af ac ad (some bj) aa ab am ar ah) 6;let s2:=s1.row (zF aB aN ax ay aE) 5;let s3:=s2.row (zK dM eB dL eC) 4;fun h1 h2 nx u1=>zG [.g,.g,.g,.g,.g,.l (.slice (some bj) aa ab),.g,.i,.g,.l (.slice q1 l1 c1),.g,.l (iV aB),.c (.bool true) s3,.g,.g] (kd (an5 ((zC _ _ _).row.row.rw.ld zAX (k:=2) rfl:lz s3 32 (qe Z.y 2) (.slice (some bj) aa ab)) u1 h1 ((zC _ _ _).row.rw.ld zU (k:=0) rfl:lz s3 3 ⟨(Z.y+1),0,none⟩ (iV aB)) h2 nx))
theorem xKY:let s1:=Z.row (wkc ak af ac ad (some bj) aa ab am ar ah) 6;let s2:=s1.row (zF aB aN ax ay aE) 5;let s3:=s2.row (zK dM eB dL eC) 4;∀ (h1:lz s3 26 (zL bj ((Int.toNat dg*6)+1)) (.slice q1 l1 c1)) (h2:qm 58 [.slice q1 l1 c1,iV aB] s3 (.bool false) s3) (nx:Q (.bool true) s3) (u1:Ix dg aa:=by omega),qg 93 [qf (wkc ak af ac ad (some bj) aa ab am ar ah),iV dg,qf (zF aB aN ax ay aE),qf (zK dM eB dL eC)] Z Q:=
 let s1:=Z.row (wkc ak af ac ad (some bj) aa ab am ar ah) 6;let s2:=s1.row (zF aB aN ax ay aE) 5;let s3:=s2.row (zK dM eB dL eC) 4;fun h1 h2 nx u1=>zG [.g,.g,.g,.g,.g,.l (.slice (some bj) aa ab),.g,.i,.g,.l (.slice q1 l1 c1),.g,.l (iV aB),.c (.bool false) s3,.g,.g] (kd (an5 ((zC _ _ _).row.row.rw.ld zAX (k:=2) rfl:lz s3 32 (qe Z.y 2) (.slice (some bj) aa ab)) u1 h1 ((zC _ _ _).row.rw.ld zU (k:=0) rfl:lz s3 3 ⟨(Z.y+1),0,none⟩ (iV aB)) h2 nx))
theorem yVB:let y0:=wkc ak af ac ad ae aa ab am ar ah;let y1:=zF aB aN ax ay aE;∀ (nx:Q (.bool true) (((Z.row y0 6).row y1 5).row (zK aS bt a7 aZ) 4)) (u1:¬ aZ=aB:=by omega),qg 94 [qf y0,iV x1,qf y1,qf (zK aS bt a7 aZ)] Z Q :=
 let s1:=Z.row (wkc ak af ac ad ae aa ab am ar ah) 6;let s2:=s1.row (zF aB aN ax ay aE) 5;let s3:=s2.row (zK aS bt a7 aZ) 4;fun nx u1=>zG [.g,.g,.g,.g,.g,.l (iV aZ),.g,.l (iV aB),.b true,.g] (kd (an3 ((zC _ _ _).rw.ld zU (k:=3) rfl:lz s3 3 ⟨(Z.y+2),3,none⟩ (iV aZ)) ((zC _ _ _).row.rw.ld zU (k:=0) rfl:lz s3 3 ⟨(Z.y+1),0,none⟩ (iV aB)) (zEV u1) nx))
theorem yVA:let y0:=wkc ak af ac ad ae aa ab am ar ah;let y1:=zF aB aN ax ay aE;∀ (nx:Q (.bool false) (((Z.row y0 6).row y1 5).row (zK aS bt a7 aZ) 4)) (u1:aZ=aB:=by omega),qg 94 [qf y0,iV x1,qf y1,qf (zK aS bt a7 aZ)] Z Q :=
 let s1:=Z.row (wkc ak af ac ad ae aa ab am ar ah) 6;let s2:=s1.row (zF aB aN ax ay aE) 5;let s3:=s2.row (zK aS bt a7 aZ) 4;fun nx u1=>zG [.g,.g,.g,.g,.g,.l (iV aZ),.g,.l (iV aB),.b false,.g] (kd (an3 ((zC _ _ _).rw.ld zU (k:=3) rfl:lz s3 3 ⟨(Z.y+2),3,none⟩ (iV aZ)) ((zC _ _ _).row.rw.ld zU (k:=0) rfl:lz s3 3 ⟨(Z.y+1),0,none⟩ (iV aB)) (vF u1) nx))
theorem yVE:let y0:=wkc ak af ac ad ae aa ab am ar ah;let y1:=zF aB aN ax ay aE;∀ (nx:Q (.bool true) (((Z.row y0 6).row y1 5).row (zK aS bt a7 aZ) 4)) (u1:aZ=aB:=by omega),qg 95 [qf y0,iV x1,qf y1,qf (zK aS bt a7 aZ)] Z Q :=
 let s1:=Z.row (wkc ak af ac ad ae aa ab am ar ah) 6;let s2:=s1.row (zF aB aN ax ay aE) 5;let s3:=s2.row (zK aS bt a7 aZ) 4;fun nx u1=>zG [.g,.g,.g,.g,.g,.l (iV aZ),.g,.l (iV aB),.b true,.g,.g,.g] (kd (an3 ((zC _ _ _).rw.ld zU (k:=3) rfl:lz s3 3 ⟨(Z.y+2),3,none⟩ (iV aZ)) ((zC _ _ _).row.rw.ld zU (k:=0) rfl:lz s3 3 ⟨(Z.y+1),0,none⟩ (iV aB)) (xK u1) nx))
theorem yVD:let y0:=wkc ak af ac ad ae aa ab am ar ah;let y1:=(aB*1440)+aN;let y2:=zF aB aN ax ay aE;∀ (nx:Q (.bool true) (((Z.row y0 6).row y2 5).row (zK aS bt a7 aZ) 4)) (u1:¬ aZ=aB:=by omega) (u2:I6 (aB*1440):=by omega) (u3:I6 y1:=by omega) (u4:I6 (y1-aS):=by omega) (u5:am<=(y1-aS):=by omega),qg 95 [qf y0,iV x1,qf y2,qf (zK aS bt a7 aZ)] Z Q :=
 let s1:=Z.row (wkc ak af ac ad ae aa ab am ar ah) 6;let s2:=s1.row (zF aB aN ax ay aE) 5;let s3:=s2.row (zK aS bt a7 aZ) 4;let s4:=aB*1440;let s5:=Z.y+1;fun nx u1 u2 u3 u4 u5=>zG [.g,.g,.g,.g,.g,.l (iV aZ),.g,.l (iV aB),.b false,.g,.g,.l (iV aB),.n s4,.g,.l (iV aN),.n (s4+aN),.g,.l (iV aS),.n ((s4+aN)-aS),.g,.l (iV am),.b true,.g,.g] (kd (an5 ((zC _ _ _).rw.ld zU (k:=3) rfl:lz s3 3 ⟨(Z.y+2),3,none⟩ (iV aZ)) ((zC _ _ _).row.rw.ld zU (k:=0) rfl:lz s3 3 (qe s5 0) (iV aB)) (xH u1) ((zC _ _ _).row.rw.ld zU (k:=0) rfl:lz s3 3 (qe s5 0) (iV aB)) (w64 u2) (an6 ((zC _ _ _).row.rw.ld zU (k:=1) rfl:lz s3 3 (qe s5 1) (iV aN)) (w64 u3) ((zC _ _ _).rw.ld zU (k:=0) rfl:lz s3 3 ⟨(Z.y+2),0,none⟩ (iV aS)) (w64 u4) ((zC _ _ _).row.row.rw.ld zU (k:=3) rfl:lz s3 3 (qe Z.y 3) (iV am)) (yE u5) nx)))
theorem yVC:let y0:=wkc ak af ac ad ae aa ab am ar ah;let y1:=(aB*1440)+aN;let y2:=zF aB aN ax ay aE;∀ (nx:Q (.bool false) (((Z.row y0 6).row y2 5).row (zK aS bt a7 aZ) 4)) (u1:¬ aZ=aB:=by omega) (u2:I6 (aB*1440):=by omega) (u3:I6 y1:=by omega) (u4:I6 (y1-aS):=by omega) (u5:¬ am<=(y1-aS):=by omega),qg 95 [qf y0,iV x1,qf y2,qf (zK aS bt a7 aZ)] Z Q :=
 let s1:=Z.row (wkc ak af ac ad ae aa ab am ar ah) 6;let s2:=s1.row (zF aB aN ax ay aE) 5;let s3:=s2.row (zK aS bt a7 aZ) 4;let s4:=aB*1440;let s5:=Z.y+1;fun nx u1 u2 u3 u4 u5=>zG [.g,.g,.g,.g,.g,.l (iV aZ),.g,.l (iV aB),.b false,.g,.g,.l (iV aB),.n s4,.g,.l (iV aN),.n (s4+aN),.g,.l (iV aS),.n ((s4+aN)-aS),.g,.l (iV am),.b false,.g,.g] (kd (an5 ((zC _ _ _).rw.ld zU (k:=3) rfl:lz s3 3 ⟨(Z.y+2),3,none⟩ (iV aZ)) ((zC _ _ _).row.rw.ld zU (k:=0) rfl:lz s3 3 (qe s5 0) (iV aB)) (xH u1) ((zC _ _ _).row.rw.ld zU (k:=0) rfl:lz s3 3 (qe s5 0) (iV aB)) (w64 u2) (an6 ((zC _ _ _).row.rw.ld zU (k:=1) rfl:lz s3 3 (qe s5 1) (iV aN)) (w64 u3) ((zC _ _ _).rw.ld zU (k:=0) rfl:lz s3 3 ⟨(Z.y+2),0,none⟩ (iV aS)) (w64 u4) ((zC _ _ _).row.row.rw.ld zU (k:=3) rfl:lz s3 3 (qe Z.y 3) (iV am)) (yH u5) nx)))
theorem xEQ:let y0:=wkc ak af ac ad ae aa ab am ar ah;let y1:=zF aB aN ax ay aE;∀ (nx:Q (.bool true) (((Z.row y0 6).row y1 5).row (zK aS bt a7 aZ) 4)) (u1:aZ=aB:=by omega),qg 96 [qf y0,iV x1,qf y1,qf (zK aS bt a7 aZ)] Z Q :=
 let s1:=Z.row (wkc ak af ac ad ae aa ab am ar ah) 6;let s2:=s1.row (zF aB aN ax ay aE) 5;let s3:=s2.row (zK aS bt a7 aZ) 4;fun nx u1=>zG [.g,.g,.g,.g,.g,.l (iV aZ),.g,.l (iV aB),.b true,.g,.g,.g] (kd (an5 ((zC _ _ _).rw.ld zU (k:=3) rfl:lz s3 3 ⟨(Z.y+2),3,none⟩ (iV aZ)) ((zC _ _ _).row.rw.ld zU (k:=0) rfl:lz s3 3 ⟨(Z.y+1),0,none⟩ (iV aB)) (xK u1) ((zE (zP (nlt Z.y 2 3 rfl)) zH):zI s3.y [pq ((Z.y+2)) 3]) ((zE (zP (nlt Z.y 1 3 rfl)) zH):zI s3.y [pq ((Z.y+1)) 0]) nx))
theorem xEP:let s1:=Z.row (wkc ak af ac ad ae aa ab am ar ah) 6;let s2:=s1.row (zF aB aN ax ay aE) 5;let s3:=s2.row (zK aS bt a7 aZ) 4;∀ (h1:qm 77 [qf (zK aS bt a7 aZ),qf (zF aB aN ax ay aE),iV aN] s3 (qf (zK n1 n2 n3 n4)) s3) (nx:Q (.bool true) s3) (u1:¬ aZ=aB:=by omega) (u2:n2<=ar:=by omega),qg 96 [qf (wkc ak af ac ad ae aa ab am ar ah),iV x1,qf (zF aB aN ax ay aE),qf (zK aS bt a7 aZ)] Z Q:=
 let s1:=Z.row (wkc ak af ac ad ae aa ab am ar ah) 6;let s2:=s1.row (zF aB aN ax ay aE) 5;let s3:=s2.row (zK aS bt a7 aZ) 4;let s4:=Z.y+1;let s5:=Z.y+2;fun h1 nx u1 u2=>zG [.g,.g,.g,.g,.g,.l (iV aZ),.g,.l (iV aB),.b false,.g,.l (qf (zK aS bt a7 aZ)),.l (qf (zF aB aN ax ay aE)),.g,.l (iV aN),.c (qf (zK n1 n2 n3 n4)) s3,.g,.g,.l (iV ar),.b true,.g,.g] (kd (an6 ((zC _ _ _).rw.ld zU (k:=3) rfl:lz s3 3 (qe s5 3) (iV aZ)) ((zC _ _ _).row.rw.ld zU (k:=0) rfl:lz s3 3 (qe s4 0) (iV aB)) (xH u1) ((zC _ _ _).rw.ldN vO xC (k:=0) rfl rfl (nle rfl):lz s3 107 (qe s5 0) (qf (zK aS bt a7 aZ))) ((zC _ _ _).row.rw.ldN zNK uB (k:=0) rfl rfl (nle rfl):lz s3 85 (qe s4 0) (qf (zF aB aN ax ay aE))) ((zC _ _ _).row.rw.ld zU (k:=1) rfl:lz s3 3 (qe s4 1) (iV aN)) (an6 h1 ((zC _ _ _).row.row.rw.ld zU (k:=4) rfl:lz s3 3 (qe Z.y 4) (iV ar)) (yE u2) ((zE (zP (nlt Z.y 2 3 rfl)) zH):zI s3.y [pq s5 3]) ((zE (zP (nlt Z.y 1 3 rfl)) zH):zI s3.y [pq s4 0]) ((zE (zP (nlt Z.y 2 3 rfl)) zH):zI s3.y [pq s5 0]) (an6 ((zE (zP (nlt Z.y 1 3 rfl)) zH):zI s3.y [pq s4 0]) ((zE (zP (nlt Z.y 1 3 rfl)) zH):zI s3.y [pq s4 1]) ((zE (yL rfl) (zE (yL rfl) (zE (yL rfl) zH))):zI s3.y [qf (zK aS bt a7 aZ),qf (zF aB aN ax ay aE),iV aN]) ((zE (zP (nlt Z.y 0 3 rfl)) zH):zI s3.y [pq Z.y 4]) (⟨⟨(nlt Z.y 0 3 rfl),rfl⟩,((zC _ _ _).row.row.rw.ld zU (k:=4) rfl)⟩:(zLq s3 3 (qe Z.y 4) (iV ar))) (⟨⟨(nlt Z.y 0 3 rfl),rfl⟩,((zC _ _ _).row.row.rw.ld zU (k:=4) rfl)⟩:(zLq s3 3 (qe Z.y 4) (iV ar))) nx))))
theorem xEO:let s1:=Z.row (wkc ak af ac ad ae aa ab am ar ah) 6;let s2:=s1.row (zF aB aN ax ay aE) 5;let s3:=s2.row (zK aS bt a7 aZ) 4;∀ (h1:qm 77 [qf (zK aS bt a7 aZ),qf (zF aB aN ax ay aE),iV aN] s3 (qf (zK n1 n2 n3 n4)) s3) (nx:Q (.bool false) s3) (u1:¬ aZ=aB:=by omega) (u2:¬ n2<=ar:=by omega),qg 96 [qf (wkc ak af ac ad ae aa ab am ar ah),iV x1,qf (zF aB aN ax ay aE),qf (zK aS bt a7 aZ)] Z Q:=
 let s1:=Z.row (wkc ak af ac ad ae aa ab am ar ah) 6;let s2:=s1.row (zF aB aN ax ay aE) 5;let s3:=s2.row (zK aS bt a7 aZ) 4;let s4:=Z.y+1;let s5:=Z.y+2;fun h1 nx u1 u2=>zG [.g,.g,.g,.g,.g,.l (iV aZ),.g,.l (iV aB),.b false,.g,.l (qf (zK aS bt a7 aZ)),.l (qf (zF aB aN ax ay aE)),.g,.l (iV aN),.c (qf (zK n1 n2 n3 n4)) s3,.g,.g,.l (iV ar),.b false,.g,.g] (kd (an6 ((zC _ _ _).rw.ld zU (k:=3) rfl:lz s3 3 (qe s5 3) (iV aZ)) ((zC _ _ _).row.rw.ld zU (k:=0) rfl:lz s3 3 (qe s4 0) (iV aB)) (xH u1) ((zC _ _ _).rw.ldN vO xC (k:=0) rfl rfl (nle rfl):lz s3 107 (qe s5 0) (qf (zK aS bt a7 aZ))) ((zC _ _ _).row.rw.ldN zNK uB (k:=0) rfl rfl (nle rfl):lz s3 85 (qe s4 0) (qf (zF aB aN ax ay aE))) ((zC _ _ _).row.rw.ld zU (k:=1) rfl:lz s3 3 (qe s4 1) (iV aN)) (an6 h1 ((zC _ _ _).row.row.rw.ld zU (k:=4) rfl:lz s3 3 (qe Z.y 4) (iV ar)) (yH u2) ((zE (zP (nlt Z.y 2 3 rfl)) zH):zI s3.y [pq s5 3]) ((zE (zP (nlt Z.y 1 3 rfl)) zH):zI s3.y [pq s4 0]) ((zE (zP (nlt Z.y 2 3 rfl)) zH):zI s3.y [pq s5 0]) (an6 ((zE (zP (nlt Z.y 1 3 rfl)) zH):zI s3.y [pq s4 0]) ((zE (zP (nlt Z.y 1 3 rfl)) zH):zI s3.y [pq s4 1]) ((zE (yL rfl) (zE (yL rfl) (zE (yL rfl) zH))):zI s3.y [qf (zK aS bt a7 aZ),qf (zF aB aN ax ay aE),iV aN]) ((zE (zP (nlt Z.y 0 3 rfl)) zH):zI s3.y [pq Z.y 4]) (⟨⟨(nlt Z.y 0 3 rfl),rfl⟩,((zC _ _ _).row.row.rw.ld zU (k:=4) rfl)⟩:(zLq s3 3 (qe Z.y 4) (iV ar))) (⟨⟨(nlt Z.y 0 3 rfl),rfl⟩,((zC _ _ _).row.row.rw.ld zU (k:=4) rfl)⟩:(zLq s3 3 (qe Z.y 4) (iV ar))) nx))))
theorem xJR:let y0:=zK aS bt (a7+(dW-aN)) aZ;let y1:=zF aB aN ax ay aE;∀ (nx:Q (qf y0) (((((Z.row (zK aS bt a7 aZ) 4).row y1 5).row (zK 0 0 0 0) 4).own Z.y y0 4).own (Z.y+2) y0 4)) (u1:I6 (dW-aN):=by omega) (u2:I6 (a7+(dW-aN)):=by omega) (u3:aZ=aB:=by omega),qg 77 [qf (zK aS bt a7 aZ),qf y1,iV dW] Z Q :=
 let s1:=Z.row (zK aS bt a7 aZ) 4;let s2:=s1.row (zF aB aN ax ay aE) 5;let s3:=s2.row (zK 0 0 0 0) 4;let s6:=a7+(dW-aN);let s4:=s3.own Z.y (zK aS bt s6 aZ) 4;let s5:=s4.own (Z.y+2) (zK aS bt s6 aZ) 4;fun nx u1 u2 u3=>zG [.g,.g,.g,.g,.l (iV a7),.g,.g,.l (iV aN),.n (dW-aN),.n s6,.g,.e undef s4,.g,.l (iV aZ),.g,.l (iV aB),.b true,.l (qf (zK aS bt s6 aZ)),.e undef s5,.l (qf (zK aS bt s6 aZ))] (kd (an5 ((zC _ _ _).row.row.rw.ld zU (k:=2) rfl:lz s3 3 (qe Z.y 2) (iV a7)) ((zC _ _ _).row.rw.ld zU (k:=1) rfl:lz s3 3 ⟨(Z.y+1),1,none⟩ (iV aN)) (w64 u1) (w64 u2) ((zC _ _ _).row.row.store (vs:=[iV s6]) rfl vD rfl (nle rfl) rfl:qn (evL [pq Z.y 2,iV s6]) s3 (.store 3 (.tmp 0) (.tmp 1))=some (undef,s4)) (an6 ((zC _ _ _).row.row.put.rw.ld zU (k:=3) rfl:lz s4 3 (qe Z.y 3) (iV aZ)) (((zC _ _ _).row.own (nne Z.y 1 0 rfl)).rw.ld zU (k:=0) rfl:lz s4 3 ⟨(Z.y+1),0,none⟩ (iV aB)) (xK u3) ((zC _ _ _).row.row.put.rw.ldN vO xC (k:=0) rfl rfl (nle rfl):lz s4 107 (qe Z.y 0) (qf (zK aS bt s6 aZ))) (((zC _ _ _).own (nne Z.y 2 0 rfl)).store (vs:=(zK aS bt s6 aZ)) rfl xC rfl (nle rfl) rfl:qn (evL [pq ((Z.y+2)) 0,qf (zK aS bt s6 aZ)]) s4 (.store 107 (.tmp 0) (.tmp 1))=some (undef,s5)) (((zC _ _ _).own (nne Z.y 2 0 rfl)).put.rw.ldN vO xC (k:=0) rfl rfl (nle rfl):lz s5 107 ⟨(Z.y+2),0,none⟩ (qf (zK aS bt s6 aZ))) nx)))
theorem xJQ:let y1:=a7+(dW-aN);let y0:=zK ((aB*1440)+dW) 1 y1 aB;let y2:=zF aB aN ax ay aE;∀ (nx:Q (qf y0) (((((((((Z.row (zK aS bt a7 aZ) 4).row y2 5).row (zK 0 0 0 0) 4).own Z.y (zK aS bt y1 aZ) 4).own Z.y (zK aS 0 y1 aZ) 4).own Z.y (zK aS 1 y1 aZ) 4).own Z.y (zK aS 1 y1 aB) 4).own Z.y y0 4).own (Z.y+2) y0 4)) (u1:I6 (dW-aN):=by omega) (u2:I6 y1:=by omega) (u3:¬ aZ=aB:=by omega) (u4:I6 (aB-1):=by omega) (u5:¬ aZ=(aB-1):=by omega) (u6:I6 (aB*1440):=by omega) (u7:I6 ((aB*1440)+dW):=by omega),qg 77 [qf (zK aS bt a7 aZ),qf y2,iV dW] Z Q :=
 let s1:=Z.row (zK aS bt a7 aZ) 4;let s2:=s1.row (zF aB aN ax ay aE) 5;let s3:=s2.row (zK 0 0 0 0) 4;let s10:=a7+(dW-aN);let s4:=s3.own Z.y (zK aS bt s10 aZ) 4;let s5:=s4.own Z.y (zK aS 0 s10 aZ) 4;let s6:=s5.own Z.y (zK aS 1 s10 aZ) 4;let s7:=s6.own Z.y (zK aS 1 s10 aB) 4;let s11:=(aB*1440)+dW;let s8:=s7.own Z.y (zK s11 1 s10 aB) 4;let s9:=s8.own (Z.y+2) (zK s11 1 s10 aB) 4;let s12:=Z.y+1;fun nx u1 u2 u3 u4 u5 u6 u7=>zG [.g,.g,.g,.g,.l (iV a7),.g,.g,.l (iV aN),.n (dW-aN),.n s10,.g,.e undef s4,.g,.l (iV aZ),.g,.l (iV aB),.b false,.g,.l (iV aZ),.g,.l (iV aB),.n (aB-1),.b true,.g,.e undef s5,.g,.l (iV 0),.g,.g,.e undef s6,.g,.l (iV aB),.g,.e undef s7,.g,.l (iV aB),.n (aB*1440),.g,.n s11,.g,.e undef s8,.l (qf (zK s11 1 s10 aB)),.e undef s9,.l (qf (zK s11 1 s10 aB))] (kd (an6 ((zC _ _ _).row.row.rw.ld zU (k:=2) rfl:lz s3 3 (qe Z.y 2) (iV a7)) ((zC _ _ _).row.rw.ld zU (k:=1) rfl:lz s3 3 (qe s12 1) (iV aN)) (w64 u1) (w64 u2) ((zC _ _ _).row.row.store (vs:=[iV s10]) rfl vD rfl (nle rfl) rfl:qn (evL [pq Z.y 2,iV s10]) s3 (.store 3 (.tmp 0) (.tmp 1))=some (undef,s4)) ((zC _ _ _).row.row.put.rw.ld zU (k:=3) rfl:lz s4 3 (qe Z.y 3) (iV aZ)) (an6 (((zC _ _ _).row.own (nne Z.y 1 0 rfl)).rw.ld zU (k:=0) rfl:lz s4 3 (qe s12 0) (iV aB)) (xH u3) ((zC _ _ _).row.row.put.rw.ld zU (k:=3) rfl:lz s4 3 (qe Z.y 3) (iV aZ)) (((zC _ _ _).row.own (nne Z.y 1 0 rfl)).rw.ld zU (k:=0) rfl:lz s4 3 (qe s12 0) (iV aB)) (w64 u4) (zEV u5) (an6 ((zC _ _ _).row.row.put.store (vs:=[iV 0]) rfl vD rfl (nle rfl) rfl:qn (evL [pq Z.y 1,iV 0]) s4 (.store 3 (.tmp 0) (.tmp 1))=some (undef,s5)) ((zC _ _ _).row.row.put.put.rw.ld zU (k:=1) rfl:lz s5 3 (qe Z.y 1) (iV 0)) ((zC _ _ _).row.row.put.put.store (vs:=[iV 1]) rfl vD rfl (nle rfl) rfl:qn (evL [pq Z.y 1,iV 1]) s5 (.store 3 (.tmp 0) (.tmp 1))=some (undef,s6)) (((((zC _ _ _).row.own (nne Z.y 1 0 rfl)).own (nne Z.y 1 0 rfl)).own (nne Z.y 1 0 rfl)).rw.ld zU (k:=0) rfl:lz s6 3 (qe s12 0) (iV aB)) ((zC _ _ _).row.row.put.put.put.store (vs:=[iV aB]) rfl vD rfl (nle rfl) rfl:qn (evL [pq Z.y 3,iV aB]) s6 (.store 3 (.tmp 0) (.tmp 1))=some (undef,s7)) ((((((zC _ _ _).row.own (nne Z.y 1 0 rfl)).own (nne Z.y 1 0 rfl)).own (nne Z.y 1 0 rfl)).own (nne Z.y 1 0 rfl)).rw.ld zU (k:=0) rfl:lz s7 3 (qe s12 0) (iV aB)) (an6 (w64 u6) (w64 u7) ((zC _ _ _).row.row.put.put.put.put.store (vs:=[iV s11]) rfl vD rfl (nle rfl) rfl:qn (evL [pq Z.y 0,iV s11]) s7 (.store 3 (.tmp 0) (.tmp 1))=some (undef,s8)) ((zC _ _ _).row.row.put.put.put.put.put.rw.ldN vO xC (k:=0) rfl rfl (nle rfl):lz s8 107 (qe Z.y 0) (qf (zK s11 1 s10 aB))) (((((((zC _ _ _).own (nne Z.y 2 0 rfl)).own (nne Z.y 2 0 rfl)).own (nne Z.y 2 0 rfl)).own (nne Z.y 2 0 rfl)).own (nne Z.y 2 0 rfl)).store (vs:=(zK s11 1 s10 aB)) rfl xC rfl (nle rfl) rfl:qn (evL [pq ((Z.y+2)) 0,qf (zK s11 1 s10 aB)]) s8 (.store 107 (.tmp 0) (.tmp 1))=some (undef,s9)) (((((((zC _ _ _).own (nne Z.y 2 0 rfl)).own (nne Z.y 2 0 rfl)).own (nne Z.y 2 0 rfl)).own (nne Z.y 2 0 rfl)).own (nne Z.y 2 0 rfl)).put.rw.ldN vO xC (k:=0) rfl rfl (nle rfl):lz s9 107 ⟨(Z.y+2),0,none⟩ (qf (zK s11 1 s10 aB))) nx)))))
theorem xJP:let y1:=a7+(dW-aN);let y0:=zK ((aB*1440)+dW) (bt+1) y1 aB;let y2:=zF aB aN ax ay aE;∀ (nx:Q (qf y0) ((((((((Z.row (zK aS bt a7 aZ) 4).row y2 5).row (zK 0 0 0 0) 4).own Z.y (zK aS bt y1 aZ) 4).own Z.y (zK aS (bt+1) y1 aZ) 4).own Z.y (zK aS (bt+1) y1 aB) 4).own Z.y y0 4).own (Z.y+2) y0 4)) (u1:I6 (dW-aN):=by omega) (u2:I6 y1:=by omega) (u3:¬ aZ=aB:=by omega) (u4:I6 (aB-1):=by omega) (u5:aZ=(aB-1):=by omega) (u6:I6 (bt+1):=by omega) (u7:I6 (aB*1440):=by omega) (u8:I6 ((aB*1440)+dW):=by omega),qg 77 [qf (zK aS bt a7 aZ),qf y2,iV dW] Z Q :=
 let s1:=Z.row (zK aS bt a7 aZ) 4;let s2:=s1.row (zF aB aN ax ay aE) 5;let s3:=s2.row (zK 0 0 0 0) 4;let s9:=a7+(dW-aN);let s4:=s3.own Z.y (zK aS bt s9 aZ) 4;let s10:=(aB*1440)+dW;let s11:=bt+1;let s5:=s4.own Z.y (zK aS s11 s9 aZ) 4;let s6:=s5.own Z.y (zK aS s11 s9 aB) 4;let s7:=s6.own Z.y (zK s10 s11 s9 aB) 4;let s8:=s7.own (Z.y+2) (zK s10 s11 s9 aB) 4;let s12:=Z.y+1;fun nx u1 u2 u3 u4 u5 u6 u7 u8=>zG [.g,.g,.g,.g,.l (iV a7),.g,.g,.l (iV aN),.n (dW-aN),.n s9,.g,.e undef s4,.g,.l (iV aZ),.g,.l (iV aB),.b false,.g,.l (iV aZ),.g,.l (iV aB),.n (aB-1),.b false,.g,.l (iV bt),.n s11,.g,.e undef s5,.g,.l (iV aB),.g,.e undef s6,.g,.l (iV aB),.n (aB*1440),.g,.n s10,.g,.e undef s7,.l (qf (zK s10 s11 s9 aB)),.e undef s8,.l (qf (zK s10 s11 s9 aB))] (kd (an6 ((zC _ _ _).row.row.rw.ld zU (k:=2) rfl:lz s3 3 (qe Z.y 2) (iV a7)) ((zC _ _ _).row.rw.ld zU (k:=1) rfl:lz s3 3 (qe s12 1) (iV aN)) (w64 u1) (w64 u2) ((zC _ _ _).row.row.store (vs:=[iV s9]) rfl vD rfl (nle rfl) rfl:qn (evL [pq Z.y 2,iV s9]) s3 (.store 3 (.tmp 0) (.tmp 1))=some (undef,s4)) ((zC _ _ _).row.row.put.rw.ld zU (k:=3) rfl:lz s4 3 (qe Z.y 3) (iV aZ)) (an6 (((zC _ _ _).row.own (nne Z.y 1 0 rfl)).rw.ld zU (k:=0) rfl:lz s4 3 (qe s12 0) (iV aB)) (xH u3) ((zC _ _ _).row.row.put.rw.ld zU (k:=3) rfl:lz s4 3 (qe Z.y 3) (iV aZ)) (((zC _ _ _).row.own (nne Z.y 1 0 rfl)).rw.ld zU (k:=0) rfl:lz s4 3 (qe s12 0) (iV aB)) (w64 u4) (vF u5) (an6 ((zC _ _ _).row.row.put.rw.ld zU (k:=1) rfl:lz s4 3 (qe Z.y 1) (iV bt)) (w64 u6) ((zC _ _ _).row.row.put.store (vs:=[iV s11]) rfl vD rfl (nle rfl) rfl:qn (evL [pq Z.y 1,iV s11]) s4 (.store 3 (.tmp 0) (.tmp 1))=some (undef,s5)) ((((zC _ _ _).row.own (nne Z.y 1 0 rfl)).own (nne Z.y 1 0 rfl)).rw.ld zU (k:=0) rfl:lz s5 3 (qe s12 0) (iV aB)) ((zC _ _ _).row.row.put.put.store (vs:=[iV aB]) rfl vD rfl (nle rfl) rfl:qn (evL [pq Z.y 3,iV aB]) s5 (.store 3 (.tmp 0) (.tmp 1))=some (undef,s6)) (((((zC _ _ _).row.own (nne Z.y 1 0 rfl)).own (nne Z.y 1 0 rfl)).own (nne Z.y 1 0 rfl)).rw.ld zU (k:=0) rfl:lz s6 3 (qe s12 0) (iV aB)) (an6 (w64 u7) (w64 u8) ((zC _ _ _).row.row.put.put.put.store (vs:=[iV s10]) rfl vD rfl (nle rfl) rfl:qn (evL [pq Z.y 0,iV s10]) s6 (.store 3 (.tmp 0) (.tmp 1))=some (undef,s7)) ((zC _ _ _).row.row.put.put.put.put.rw.ldN vO xC (k:=0) rfl rfl (nle rfl):lz s7 107 (qe Z.y 0) (qf (zK s10 s11 s9 aB))) ((((((zC _ _ _).own (nne Z.y 2 0 rfl)).own (nne Z.y 2 0 rfl)).own (nne Z.y 2 0 rfl)).own (nne Z.y 2 0 rfl)).store (vs:=(zK s10 s11 s9 aB)) rfl xC rfl (nle rfl) rfl:qn (evL [pq ((Z.y+2)) 0,qf (zK s10 s11 s9 aB)]) s7 (.store 107 (.tmp 0) (.tmp 1))=some (undef,s8)) ((((((zC _ _ _).own (nne Z.y 2 0 rfl)).own (nne Z.y 2 0 rfl)).own (nne Z.y 2 0 rfl)).own (nne Z.y 2 0 rfl)).put.rw.ldN vO xC (k:=0) rfl rfl (nle rfl):lz s8 107 ⟨(Z.y+2),0,none⟩ (qf (zK s10 s11 s9 aB))) nx)))))
theorem yRF (hb:∀ k aG Z,Inv k aG Z->zRB vals bL bP aG Z (NX1 Inv k) Qr Q0):∀ k aG Z,Inv k aG Z->yRH vals bL bP aG Z Qr Q0 :=
 xF (ai zAR (ai (xX 0) trivial)) hb
theorem zTC (h1:lz Z 3 (zL vals_a (Int.toNat aG*1)) (iV nE)) (nx:Qr nE Z) (u1:aG<(bL:Int):=by omega) (u2:Ix aG bL:=by omega) (u3:¬ nE=0:=by omega):zRB (some vals_a) bL bP aG Z Nx Qr Q0 :=
 kO 1 nE [.b true,.i,.l (iV nE),.g,.g,.g,.b true,.g,.g] (fun _ f=>an4 (zR u1) u2 h1 (zEV u3) f) nx
theorem zTB (h1:lz Z 3 (zL vals_a (Int.toNat aG*1)) (iV nE)) (nx:Nx (aG+1) Z) (u1:aG<(bL:Int):=by omega) (u2:Ix aG bL:=by omega) (u3:nE=0:=by omega) (u4:I6 (aG+1):=by omega):zRB (some vals_a) bL bP aG Z Nx Qr Q0 :=
 kO 0 (aG+1) [.b true,.i,.l (iV nE),.g,.g,.g,.b false,.n (aG+1),.g] (fun _ f=>an5 (zR u1) u2 h1 (vF u3) (w64 u4) f) nx
theorem xHU (nx:Q0 Z) (u1:¬ aG<(bL:Int):=by omega):zRB vals bL bP aG Z Nx Qr Q0 :=
 kO 2 () [.b false] (fun _ f=>ai (zT u1) f) nx
theorem xPT (hL:yRH vals bL bP 0 Z Pr P0) (kr:∀ i2_1' Z',Pr i2_1' Z'->yBM vals bL bP i2_1' Z' Q) (k0:∀ Z',P0 Z'->yBN vals bL bP Z' Q):qg 80 [.slice vals bL bP] Z Q :=
 zG [.g,.g,.g,.g,.g,.lf 18 (zKT vals bL bP 0) [zOR vals bL bP Pr,zOS vals bL bP P0]] (kd (ai (ai tt (ai (arf (zKT vals bL bP 0)) hL)) (ai (kz1 kr) (ai (kz0 k0) trivial))))
theorem yRD (nx:Q (iV aI) Z):yBM vals bL bP aI Z Q :=
 sK [] nx
theorem yRE (nx:Q (iV 0) Z):yBN vals bL bP Z Q :=
 sK [.g,.g] nx
theorem xVH:let s1:=Z.row (rcd dS dw eg) 3;let s2:=s1.row (rcd eS ee fg) 3;let s3:=dw-ee;let s5:=dS-eS;let s6:=eg-fg;let Y1:=s2.row [iV s3,iV s5,iV s6] 1;∀ (h1:qm 80 [.slice (some ⟨(Z.y+2),0,none⟩) 3 3] Y1 (iV n1) Y1) (nx:Q (iV n1) Y1) (u1:I6 s3:=by omega) (u2:I6 dS:=by omega) (u3:I6 eS:=by omega) (u4:I6 s5:=by omega) (u5:I6 s6:=by omega),qg 79 [qf (rcd dS dw eg),qf (rcd eS ee fg)] Z Q:=
 let s1:=Z.row (rcd dS dw eg) 3;let s2:=s1.row (rcd eS ee fg) 3;let s3:=dw-ee;let s4:=Z.y+1;let s5:=dS-eS;let s6:=eg-fg;fun h1 nx u1 u2 u3 u4 u5=>zG [.g,.g,.g,.g,.l (iV dw),.g,.l (iV ee),.n s3,.g,.l (.int .u8 dS),.n dS,.g,.l (.int .u8 eS),.n eS,.n s5,.g,.l (iV eg),.g,.l (iV fg),.n s6,.g,.c (iV n1) (s2.row [iV s3,iV s5,iV s6] 1),.g] (kd (an6 ((zC _ _ _).row.rw.ld zU (k:=1) rfl:lz s2 3 (qe Z.y 1) (iV dw)) ((zC _ _ _).rw.ld zU (k:=1) rfl:lz s2 3 (qe s4 1) (iV ee)) (w64 u1) ((zC _ _ _).row.rw.ld xWB (k:=0) rfl:lz s2 5 (qe Z.y 0) (.int .u8 dS)) (w64 u2) ((zC _ _ _).rw.ld xWB (k:=0) rfl:lz s2 5 (qe s4 0) (.int .u8 eS)) (an6 (w64 u3) (w64 u4) ((zC _ _ _).row.rw.ld zU (k:=2) rfl:lz s2 3 (qe Z.y 2) (iV eg)) ((zC _ _ _).rw.ld zU (k:=2) rfl:lz s2 3 (qe s4 2) (iV fg)) (w64 u5) h1 nx)))
end
theorem uA (xs:List Int):∀ (_:IntKind),wI (xs.map zZ)=xs.map zZ:=by
 intro _;induction xs with
 | nil=>rfl
 | cons x xs ih=>simp only [wI,List.map_cons,List.flatMap_cons] at ih ⊢;rw [ih];rfl
section
variable {Z:St}
theorem zOH {p:Option Addr} {l c:Nat} {xs:List Int} (h:yD Z p l xs) (hl:l<=1073741824) :
  ∃ p' c' Z',zD Pg 19 [.slice p l c] Z (.slice p' l c') Z'/\New Z Z'/\yD Z' p' l xs/\∀ b,AtP p' b->Z.y<=b:=by
 have hc:(wI (xs.map zZ)).all cellB=true:=by rw [uA xs .i64];simp [List.all_eq_true];intro a _;rfl
 have N1:New Z.re (Z.re.row [] 1):=New.row _ _ _;obtain ⟨p6,c6,s5,ap1,A6,O6,b6⟩:=Ax.append (P:=Pg) (k:=c) (n0:=Z.re.y) uS (Ax.lit (len:=0) (zC Z.re [] 1) rfl ((xD 0).2 vK) (Nat.le_refl _)) (SlV.le h ((le0 Z).trans N1.le)).1 (by omega) hc N1.nx;rw [Nat.zero_add] at ap1 A6;have N5:New Z.re s5:=N1.of_only O6 (by rintro b ⟨a,e,rfl⟩;cases e;exact Nat.le_refl _);exact zN.newSl (xUC ap1 ⟨N5,p6,c6,rfl,Ax.slv (by simpa using A6) (by simpa using h.2.1) h.2.2,fun b hb=>(A6.bd b hb).1⟩)
theorem xZT {p:Option Addr} {l c:Nat} {xs:List Int} (h:yD Z p l xs) (hl:l<=1073741824):zD Pg 27 [.slice p l c] Z (iV ((xs.filter fun x=>decide (0<=x)).length:Nat)) Z:=by
 have h1:=h.re;have e1:=h.len;refine (yUZ (yDE (Inv:=fun k i3 i4 τ=>τ=Z.re/\∃ j:Nat,i4=j/\j+k=l/\i3=(((xs.take j).filter fun x=>decide (0<=x)).length:Nat)/\((xs.take j).filter fun x=>decide (0<=x)).length<=j) (Q0:=fun i3 τ=>τ=Z.re/\i3=((xs.filter fun x=>decide (0<=x)).length:Nat)) ?_ l 0 0 Z.re ⟨rfl,0,rfl,by omega,rfl,Nat.le_refl _⟩) ?_).pure
 ·rintro k i3 i4 τ ⟨rfl,j,rfl,hk,rfl,hle⟩;by_cases hj:j<l
  ·obtain ⟨a,rfl,x,hx,l1⟩:=wS h1 hj;have es:(xs.take (j+1)).filter (fun x=>decide (0<=x))=(xs.take j).filter (fun x=>decide (0<=x))++if 0<=x then [x] else []:=by
    rw [wA hx,List.filter_append];by_cases e:0<=x <;> simp [e]
   by_cases e:0<=x
   ·rw [if_pos e] at es;exact yNQ l1 ⟨k-1,by omega,rfl,j+1,by omega,by omega,by rw [es,List.length_append];simp,by rw [es,List.length_append];show _+1<=_;omega⟩ (by omega) (by omega) e (by omega) (by omega)
   ·rw [if_neg e,List.append_nil] at es;exact yNP l1 ⟨k-1,by omega,rfl,j+1,by omega,by omega,by rw [es],by rw [es];omega⟩ (by omega) (by omega) e (by omega)
  ·rw [List.take_of_length_le (by omega)];exact yNO ⟨rfl,rfl⟩ (by omega)
 ·rintro i3 τ ⟨rfl,rfl⟩;exact yDD ⟨rfl,Nat.le_refl _⟩
theorem yQR {p:Option Addr} {l c:Nat} {xs:List Int} (h:yD Z p l xs) (hl:l<=1073741824):zD Pg 63 [.slice p l c] Z (iV ((xs.filter fun x=>decide (x≠-1)).length:Nat)) Z:=by
 have h1:=h.re;have e1:=h.len;refine (xHL (yKS (Inv:=fun k i3 i4 τ=>τ=Z.re/\∃ j:Nat,i4=j/\j+k=l/\i3=(((xs.take j).filter fun x=>decide (x≠-1)).length:Nat)/\((xs.take j).filter fun x=>decide (x≠-1)).length<=j) (Q0:=fun i3 τ=>τ=Z.re/\i3=((xs.filter fun x=>decide (x≠-1)).length:Nat)) ?_ l 0 0 Z.re ⟨rfl,0,rfl,by omega,rfl,Nat.le_refl _⟩) ?_).pure
 ·rintro k i3 i4 τ ⟨rfl,j,rfl,hk,rfl,hle⟩;by_cases hj:j<l
  ·obtain ⟨a,rfl,x,hx,l1⟩:=wS h1 hj;have es:(xs.take (j+1)).filter (fun x=>decide (x≠-1))=(xs.take j).filter (fun x=>decide (x≠-1))++if x≠-1 then [x] else []:=by
    rw [wA hx,List.filter_append];by_cases e:x≠-1 <;> simp [e]
   by_cases e:x≠-1
   ·rw [if_pos e] at es;exact yXV l1 ⟨k-1,by omega,rfl,j+1,by omega,by omega,by rw [es,List.length_append];simp,by rw [es,List.length_append];show _+1<=_;omega⟩ (by omega) (by omega) e (by omega) (by omega)
   ·rw [if_neg e,List.append_nil] at es;exact yXU l1 ⟨k-1,by omega,rfl,j+1,by omega,by omega,by rw [es],by rw [es];omega⟩ (by omega) (by omega) (Decidable.not_not.1 e) (by omega)
  ·rw [List.take_of_length_le (by omega)];exact yXT ⟨rfl,rfl⟩ (by omega)
 ·rintro i3 τ ⟨rfl,rfl⟩;exact yKR ⟨rfl,Nat.le_refl _⟩
section
variable {w:Wk} {p q r t:Option Addr} {l m c d rl rc tl tc:Nat} {rs ts:List Int}
theorem xYX (h:WkP Z 85 88 w p l q m) (hl:l<=1000):∃ p' c' Z',zD Pg 86 [.agg ⟨wkc w.days p l c q m d w.rest w.run w.hours⟩] Z (.slice p' l c') Z'/\New Z Z'/\yD Z' p' l (wL w)/\∀ b,AtP p' b->Z.y<=b:=by
 have hn:=h.len.1;obtain ⟨Z1,hZ1⟩:∃ Z1,Z1=Z.re.row (wkc w.days p l c q m d w.rest w.run w.hours) 6:=⟨_,rfl⟩;have N1:New Z.re Z1:=by rw [hZ1];exact New.row _ _ _
 have L1:Le Z Z1:=(le0 Z).trans N1.le;refine zN.newSl (xUP (yXM (Inv:=fun k p' l' c' i τ=>New Z1 τ/\∃ j:Nat,i=j/\j+k=l/\l'=j/\Gr Pg τ Z1.y 3 1 p' l' c' (((wL w).take j).map zZ))
  (Q0:=fun p' l' c' τ=>New Z1 τ/\l'=l/\Gr Pg τ Z1.y 3 1 p' l' c' ((wL w).map zZ)) ?_ l none 0 0 0 _ ⟨by rw [<- hZ1];exact New.refl _,0,rfl,by omega,rfl,Gr.nil⟩) ?_)
 ·rintro k p' l' c' i τ ⟨hN,j,rfl,hk,rfl,hg⟩;by_cases hj:l' < l
  ·obtain ⟨a,rfl,x,hx,lx⟩:=wS (SlV.le h.dty (L1.trans hN.le)) hj;have hN2:New τ ((τ.row (zF 0 0 0 0 0) 5).own τ.y (zF x.day x.on x.lo x.hi x.route) 5):=(New.row _ _ _).own (Nat.le_refl _);obtain ⟨q7,d7,τ',g1,g2,g3,_,_⟩:=xYU (zZ x.hi) uS hg hN hN2 (vW _) (by omega);have hx2:(wL w)[l']?=some x.hi:=by unfold wL;rw [List.getElem?_map,hx];rfl
   refine xPI lx g1 ⟨k-1,by omega,g3,l'+1,by omega,by omega,rfl, ?_⟩ (by omega) (by omega) (by omega);rw [wA hx2,List.map_append];exact g2
  ·have:l'=l:=by omega
   subst this;refine xPH ⟨hN,rfl, ?_⟩ (by omega);rwa [List.take_of_length_le (by unfold wL;rw [List.length_map];omega)] at hg
 ·rintro p' l' c' τ ⟨hN,rfl,hg⟩;refine yXL ⟨N1.trans hN,p',c',rfl,hg.slv,fun b hb=>?_⟩;have:=(hg.bd hb).1;have:=N1.nx;show Z.re.y<=b;omega
theorem zRP (h:WkP Z 85 88 w p l q m) (hr:yD Z r rl rs) (hl:rl<=1073741824) (hm:m<=1073741824):zD Pg 52 [.agg ⟨wkc w.days p l c q m d w.rest w.run w.hours⟩,.slice r rl rc] Z (.bool (zAC w rs)) Z:=by
 have hn:=h.len.1;have hmm:=h.len.2;have el:=hr.len;by_cases hh:rl=l;rotate_left
 ·have:zAC w rs=false:=by unfold zAC;rw [decide_eq_false (by omega),Bool.and_false]
  rw [this];exact (ySO ⟨rfl,Nat.le_refl _⟩ (by omega)).pure
 have L1:Le Z (Z.re.row (wkc w.days p l c q m d w.rest w.run w.hours) 6):=(le0 Z).trans (Le.row _ _ _);have hk0:=xJ Z.re (wkc w.days p l c q m d w.rest w.run w.hours) 6;have ca:=xZG (cap:=rc) (g:=73) (gc:=[.pointer (some ⟨Z.re.y,0,none⟩)]) (f:=fun x=>inB x (-1) ((w.drivers.length:Int)-1)) (SlV.le hr L1) hl (fun x _ τ hτ=>by
  have ld:zB Pg τ.re 32 (zL ⟨Z.re.y,0,none⟩ 2)=some (.slice q m d):=((hk0.le hτ).re).load1 zAX rfl;rw [hmm];exact (yTQ ld zDN ⟨rfl,Nat.le_refl _⟩ (by omega)).pure)
 have:zAC w rs=rs.all (fun x=>inB x (-1) ((w.drivers.length:Int)-1)):=by unfold zAC;rw [decide_eq_true (by omega),Bool.and_true]
 rw [this];exact (ySP ca ⟨rfl,Nat.le_refl _⟩ (by omega)).pure
end
end
section
open Go.Sort (swp)
def zBC (d:Array Rec):List Value:=d.toList.flatMap zBF
theorem zRW:∀ l:List Rec,(l.flatMap zBF).length=l.length*3
 | []=>rfl
 | x::l=>by rw [List.flatMap_cons,List.length_append,zRW l];simp;omega
theorem yBP (d:Array Rec):(zBC d).length=d.size*3:=by unfold zBC;rw [zRW];simp
def Dt (Z:St) (b:Nat) (s:Option Nat) (d:Array Rec):Prop:=b<Z.y/\∃ log nx,yI Z.heap b=some (.cells (zBC d) 3 ((s.getD 0,d.size*3)::log) nx false)
section
variable {Z τ:St} {b:Nat} {s:Option Nat} {d d0:Array Rec}
theorem Dt.le (h:Dt Z b s d) (k:Le Z τ):Dt τ b s d:=by
 obtain ⟨h1,log,nx,h2⟩:=h;exact ⟨Nat.lt_of_lt_of_le h1 k.y,log,nx,by rw [k.get b h1];exact h2⟩
theorem Dt.only {S:Nat->Prop} (h:Dt Z b s d) (k:Only S Z τ) (hs:¬ S b):Dt τ b s d:=by
 obtain ⟨h1,log,nx,h2⟩:=h;exact ⟨Nat.lt_of_lt_of_le h1 k.y,log,nx,by rw [k.get b h1 hs];exact h2⟩
theorem yEG:∀ (l:List Rec) (i:Nat) (x:Rec),l[i]?=some x->((l.flatMap zBF).drop (i*3)).take 3=zBF x
 | [],i,x,h=>by simp at h
 | y::l,0,x,h=>by
  cases h
  rw [List.flatMap_cons,Nat.zero_mul,List.drop_zero];exact List.take_left' rfl
 | y::l,i+1,x,h=>by
  rw [List.flatMap_cons,Nat.add_mul,Nat.one_mul,Nat.add_comm (i*3),<- List.drop_drop,show List.drop 3 (zBF y++l.flatMap zBF)=l.flatMap zBF from rfl];exact yEG l i x (by simpa using h)
theorem yNJ:∀ (l:List Rec) (i:Nat) (x:Rec),i<l.length->(l.flatMap zBF).take (i*3)++(zBF x++(l.flatMap zBF).drop (i*3+3))=(l.set i x).flatMap zBF
 | [],i,x,h=>by simp at h
 | y::l,0,x,h=>by
  rw [List.set_cons_zero,List.flatMap_cons,List.flatMap_cons,Nat.zero_mul,List.take_zero,List.nil_append,Nat.zero_add,show List.drop 3 (zBF y++l.flatMap zBF)=l.flatMap zBF from rfl]
 | y::l,i+1,x,h=>by
  rw [List.set_cons_succ,List.flatMap_cons,List.flatMap_cons,<- yNJ l i x (by simpa using h),show (i+1)*3=3+i*3 by omega,List.take_append,List.drop_append,show 3+i*3+3-(zBF y).length=i*3+3 by simp;omega,show 3+i*3-(zBF y).length=i*3 by simp];rw [List.take_of_length_le (by simp),List.drop_of_length_le (by simp),List.nil_append,List.append_assoc]
theorem xUL {i:Nat} (h:i<d.size):d.toList[i]?=some d[i]! := by
 rw [Array.getElem?_toList,getElem!_pos d i h,Array.getElem?_eq_getElem h]
theorem Dt.ld (h:Dt Z b s d) {i:Int} (h0:0<=i) (hi:i<(d.size:Int)):zB Tryz.prog Z 45 (zL ⟨b,0,s⟩ (Int.toNat i*3))=some (zER d[i.toNat]!):=by
 obtain ⟨h1,log,nx,h2⟩:=h;have hlt:i.toNat<d.size:=by omega
 have hr:yP Z ⟨b,0+i.toNat*3,s⟩ 3=some (zBF d[i.toNat]!):=by
  have hle:Nat.ble (0+i.toNat*3+3) (d.size*3)=true:=(zV _ _).2 (by omega);unfold yP;simp only [h2,yB,wV,Nat.beq_refl,cond_true,hle];rw [Nat.zero_add];unfold zBC;rw [yEG _ _ _ (xUL hlt)]
 have hR:Row Z ⟨b,0+i.toNat*3,s⟩ (zBF d[i.toNat]!):=⟨hr,h1⟩;exact hR.loadN (P:=Tryz.prog) (t:=45) (k:=0) xQW yIK rfl rfl (by simp)
theorem Dt.st (h:Dt Z b s d) {i:Int} (x:Rec) (h0:0<=i) (hi:i<(d.size:Int)) :
  ∃ Z',zQ Tryz.prog (evL [.pointer (some (zL ⟨b,0,s⟩ (Int.toNat i*3))),zER x]) Z (.store 45 (.tmp 0) (.tmp 1))=some (undef,Z')/\Dt Z' b s (d.setIfInBounds i.toNat x)/\Only (·=b) Z Z'/\Z'.low<=b:=by
 obtain ⟨h1,log,nx,h2⟩:=h;have hlt:i.toNat<d.size:=by omega
 have hw:xW Z ⟨b,0+i.toNat*3,s⟩ (zBF x)=some (Z.put b (.cells (zBC (d.setIfInBounds i.toNat x)) 3 [(s.getD 0,d.size*3)] nx false)):=by
  have e6:(zBF x).length=3:=rfl;have hc:(Nat.beq (s.getD 0) (s.getD 0) && Nat.ble (0+i.toNat*3+3) (d.size*3) && !false && (zBF x).all cellB)=true:=by
   rw [Nat.beq_refl,(zV _ _).2 (show 0+i.toNat*3+3<=d.size*3 by omega)];rfl
  unfold xW;simp only [h2,yB,e6,hc,cond_true,zCS,St.write_eq];have e:(zBC d).take (0+i.toNat*3)++(zBF x++(zBC d).drop (0+i.toNat*3+3))=zBC (d.setIfInBounds i.toNat x):=by
   rw [Nat.zero_add];unfold zBC;rw [Array.toList_setIfInBounds];exact yNJ d.toList i.toNat x (by simpa using hlt)
  rw [e]
 refine ⟨Z.put b (.cells (zBC (d.setIfInBounds i.toNat x)) 3 [(s.getD 0,d.size*3)] nx false), ?_,⟨h1,[],nx, ?_⟩,Only.put (.inr rfl),by simp;omega⟩
 ·have e0:zQ Tryz.prog (evL [.pointer (some (zL ⟨b,0,s⟩ (Int.toNat i*3))),zER x]) Z (.store 45 (.tmp 0) (.tmp 1))=(xW Z ⟨b,0+i.toNat*3,s⟩ (zBF x)).map fun Z'=>(undef,Z'):=by
   have e1:∀ l:List Value,evL l (.tmp 0)=l.getD 0 undef:=fun _=>rfl
   have e2:∀ l:List Value,evL l (.tmp 1)=l.getD 1 undef:=fun _=>rfl
   have e3:yT Tryz.prog 45=some 3:=yIK;unfold zQ;simp only [e1,e2,List.getD_cons_zero,List.getD_cons_succ,zCQ,e3];rfl
  rw [e0,hw];rfl
 ·rw [St.put_get,if_pos rfl,Array.size_setIfInBounds]
end
end
end Go.Proofs.YtgfiniccfpfplaaGreat
