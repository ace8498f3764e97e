import Derived.Test.YtgfiniccfpfplaaGreatXA
import Derived.Test.YtgfiniccfpfplaaGreatPF
import Derived.Test.YtgfiniccfpfplaaGreatTy
import Derived.Sort.AssemblyPlain
set_option linter.unusedVariables false
set_option linter.unusedSimpArgs false
set_option maxRecDepth 20000
namespace Go.Proofs.YtgfiniccfpfplaaGreat
open Go Go.Lay
open Tryz renaming prog -> Pg
theorem zDH:AppT Pg 26 26 3 1:=zQX (by kernel_rfl)
theorem uS (x:Int):zHM Pg 3 1 (yA x):=.inl ⟨zU,rfl,rfl⟩
abbrev yD (Z:St) (p:Option Addr) (l:Nat) (xs:List Int):Prop:=SlV Pg Z 3 1 p l (xs.map yA)
theorem yD.len {Z:St} {p:Option Addr} {l:Nat} {xs:List Int} (h:yD Z p l xs):xs.length=l:=by have:=h.2.1;simpa using this
theorem wS {Z:St} {α:Type} {t n len i:Nat} {p:Option Addr} {xs:List α} {f:α->Value} (h:SlV Pg Z t n p len (xs.map f)) (hi:i<len):∃ a,p=some a/\∃ x,xs[i]?=some x/\zB Pg Z t (zL a (Int.toNat (i:Int)*n))=some (f x):=by
 obtain ⟨a,rfl,_⟩:=h.some hi;have hl:i<xs.length:=by have:=h.2.1;simp at this;omega
 exact ⟨a,rfl,xs[i],by simp,h.at rfl (by simp [hl])⟩
abbrev zAZ (d:Dty):Value:=.agg ⟨zF d.day d.on d.lo d.hi d.route⟩
abbrev yCD (Z:St) (t:Nat) (p:Option Addr) (l:Nat) (xs:List Dty):Prop:=SlV Pg Z t 5 p l (xs.map zAZ)
def zVZ (Z:St) (v:Value) (x:Drv):Prop:=∃ p l c q m d r n e,v=.agg ⟨zN p l c q m d r n e x.off x.row x.used⟩/\yD Z p l x.knows/\yD Z q m x.leave/\yD Z r n x.wish
def zVP (Z:St) (t:Nat) (p:Option Addr) (l:Nat) (xs:List Drv):Prop:=∃ vs:List Value,SlV Pg Z t 6 p l vs/\xs.length=l/\∀ (i:Nat) (x:Drv),xs[i]?=some x->∃ v,vs[i]?=some v/\zVZ Z v x
section
variable {Z Z':St} {td tv:Nat} {p q:Option Addr} {l m c d:Nat} {w:Wk}
theorem zVZ.le {v:Value} {x:Drv} (h:zVZ Z v x) (k:Le Z Z'):zVZ Z' v x:=by
 obtain ⟨p,l,c,q,m,d,r,n,e,h1,h2,h3,h4⟩:=h;exact ⟨p,l,c,q,m,d,r,n,e,h1,h2.le k,h3.le k,h4.le k⟩
theorem zVP.le {xs:List Drv} (h:zVP Z tv p l xs) (k:Le Z Z'):zVP Z' tv p l xs:=by
 obtain ⟨vs,h1,h2,h3⟩:=h;exact ⟨vs,h1.le k,h2,fun i x hi=>by obtain ⟨v,g1,g2⟩:=h3 i x hi;exact ⟨v,g1,g2.le k⟩⟩
structure WkP (Z:St) (td tv:Nat) (w:Wk) (p:Option Addr) (l:Nat) (q:Option Addr) (m:Nat):Prop where
 dty:yCD Z td p l w.duties
 drv:zVP Z tv q m w.drivers
theorem WkP.le (h:WkP Z td tv w p l q m) (k:Le Z Z'):WkP Z' td tv w p l q m:=⟨h.dty.le k,h.drv.le k⟩
theorem WkP.len (h:WkP Z td tv w p l q m):w.duties.length=l/\w.drivers.length=m:=by
 have h1:=h.dty.2.1;exact ⟨by simpa using h1,h.drv.choose_spec.2.1⟩
theorem yQK {α:Type} {F:α->Value} {n k:Nat} {x:α} {v:Value} (hn:∀ y,(F y).cells.toList.length=n) (hk:k<n) (hv:(F x).cells.toList[k]?=some v):∀ {xs:List α} {i:Nat},xs[i]?=some x->(wV (xs.map F))[i*n+k]?=some v
 | [],i,h=>by simp at h
 | y::ys,0,h=>by
  have:y=x:=by simpa using h
  subst this;have hl:=hn y;simp only [wV,List.map_cons,List.flatMap_cons,Nat.zero_mul,Nat.zero_add];rw [List.getElem?_append_left (by omega)];exact hv
 | y::ys,i+1,h=>by
  have ih:=yQK hn hk hv (xs:=ys) (i:=i) (by simpa using h);have hl:=hn y;have e:(i+1)*n+k=(F y).cells.toList.length+(i*n+k):=by rw [hl,Nat.add_mul,Nat.one_mul];omega
  simp only [wV,List.map_cons,List.flatMap_cons] at ih ⊢;rw [e,List.getElem?_append_right (by omega),Nat.add_sub_cancel_left];exact ih
theorem zSQ {n k:Nat} {x v:Value} (hk:k<n) (hv:x.cells.toList[k]?=some v):∀ {vs:List Value} {i:Nat},(∀ y∈vs,y.cells.toList.length=n)->vs[i]?=some x->(wV vs)[i*n+k]?=some v
 | [],i,_,h=>by simp at h
 | y::ys,0,hn,h=>by
  have:y=x:=by simpa using h
  subst this;have hl:=hn y List.mem_cons_self;simp only [wV,List.flatMap_cons,Nat.zero_mul,Nat.zero_add];rw [List.getElem?_append_left (by omega)];exact hv
 | y::ys,i+1,hn,h=>by
  have ih:=zSQ hk hv (vs:=ys) (i:=i) (fun z hz=>hn z (List.mem_cons_of_mem _ hz)) (by simpa using h);have hl:=hn y List.mem_cons_self;have e:(i+1)*n+k=y.cells.toList.length+(i*n+k):=by rw [hl,Nat.add_mul,Nat.one_mul];omega
  simp only [wV,List.flatMap_cons] at ih ⊢;rw [e,List.getElem?_append_right (by omega),Nat.add_sub_cancel_left];exact ih
theorem WkP.dld (h:WkP Z td tv w p l q m) {i k:Nat} {n:Int} (hi:i<l) (hk:k<5) (hv:[(Go.Proofs.YtgfiniccfpfplaaGreat.dty w i).day,(Go.Proofs.YtgfiniccfpfplaaGreat.dty w i).on,(Go.Proofs.YtgfiniccfpfplaaGreat.dty w i).lo,(Go.Proofs.YtgfiniccfpfplaaGreat.dty w i).hi,(Go.Proofs.YtgfiniccfpfplaaGreat.dty w i).route][k]?=some n):∃ a,p=some a/\zB Pg Z 3 (zL a (Int.toNat (i:Int)*5+k))=some (yA n):=by
 obtain ⟨a,rfl,hr⟩:=h.dty.some hi;have hl:=h.len.1;have hx:w.duties[i]?=some (Go.Proofs.YtgfiniccfpfplaaGreat.dty w i):=by
  unfold Go.Proofs.YtgfiniccfpfplaaGreat.dty;rw [List.getD_eq_getElem?_getD,List.getElem?_eq_getElem (by omega)];rfl
 refine ⟨a,rfl, ?_⟩
 rw [Int.toNat_natCast];refine hr.load1 zU ?_
 refine yQK (F:=zAZ) (fun _=>rfl) hk ?_ hx;match k,hk with
 | 0,_=>exact congrArg (Option.map yA) hv
 | 1,_=>exact congrArg (Option.map yA) hv
 | 2,_=>exact congrArg (Option.map yA) hv
 | 3,_=>exact congrArg (Option.map yA) hv
 | 4,_=>exact congrArg (Option.map yA) hv
theorem WkP.vld (h:WkP Z td tv w p l q m) (ht:wJ Pg tv=some true) (hs:yV Pg tv=some 6) {i:Nat} (hi:i<m):∃ a,q=some a/\∃ p l c r n d s j e,zB Pg Z tv (zL a (Int.toNat (i:Int)*6))=some (.agg ⟨zN p l c r n d s j e (Go.Proofs.YtgfiniccfpfplaaGreat.drv w i).off (Go.Proofs.YtgfiniccfpfplaaGreat.drv w i).row (Go.Proofs.YtgfiniccfpfplaaGreat.drv w i).used⟩) /\
  yD Z p l (Go.Proofs.YtgfiniccfpfplaaGreat.drv w i).knows/\yD Z r n (Go.Proofs.YtgfiniccfpfplaaGreat.drv w i).leave/\yD Z s j (Go.Proofs.YtgfiniccfpfplaaGreat.drv w i).wish /\
  ∀ (k:Nat) (v:Value),(zN p l c r n d s j e (Go.Proofs.YtgfiniccfpfplaaGreat.drv w i).off (Go.Proofs.YtgfiniccfpfplaaGreat.drv w i).row (Go.Proofs.YtgfiniccfpfplaaGreat.drv w i).used)[k]?=some v->∀ t,wJ Pg t=some false->zB Pg Z t (zL a (Int.toNat (i:Int)*6+k))=some v:=by
 obtain ⟨vs,h1,h2,h3⟩:=h.drv;obtain ⟨a,rfl,hr⟩:=h1.some hi;have hx:w.drivers[i]?=some (Go.Proofs.YtgfiniccfpfplaaGreat.drv w i):=by
  unfold Go.Proofs.YtgfiniccfpfplaaGreat.drv;rw [List.getD_eq_getElem?_getD,List.getElem?_eq_getElem (by omega)];rfl
 obtain ⟨v,g1,p,l,c,r,n,d,s,j,e,rfl,g2,g3,g4⟩:=h3 i _ hx;refine ⟨a,rfl,p,l,c,r,n,d,s,j,e,h1.at rfl g1,g2,g3,g4, ?_⟩
 intro k v hk t htt;rw [Int.toNat_natCast];refine hr.load1 htt ?_
 have hk6:k<6:=by
  rcases Nat.lt_or_ge k 6 with h | h
  ·exact h
  ·rw [List.getElem?_eq_none (by simpa using h)] at hk;cases hk
 exact zSQ hk6 (by exact hk) (fun y hy=>(h1.2.2 y hy).len) g1
theorem zIQ {n lo hi:Int}:zD Pg 47 [iV n,iV lo,iV hi] Z (.bool (inB n lo hi)) Z:=by
 by_cases h1:lo<=n <;> by_cases h2:n<=hi
 ·exact (xDE ⟨by simp [inB,h1,h2],Nat.le_refl _⟩).pure
 ·exact (xDD ⟨by simp [inB,h1,h2],Nat.le_refl _⟩).pure
 ·exact (yDM ⟨by simp [inB,h1],Nat.le_refl _⟩).pure
 ·exact (yDM ⟨by simp [inB,h1],Nat.le_refl _⟩).pure
theorem xKO {n lo hi:Int}:zD Pg 33 [iV n,iV lo,iV hi] Z (.bool (inB n lo hi)) Z:=by
 by_cases h1:lo<=n <;> by_cases h2:n<=hi
 ·exact (xXR ⟨by simp [inB,h1,h2],Nat.le_refl _⟩).pure
 ·exact (xXQ ⟨by simp [inB,h1,h2],Nat.le_refl _⟩).pure
 ·exact (xKN ⟨by simp [inB,h1],Nat.le_refl _⟩).pure
 ·exact (xKN ⟨by simp [inB,h1],Nat.le_refl _⟩).pure
theorem wBJ {xs:List Int} {n:Int} (h:yD Z p l xs) (hl:l<=1073741824):zD Pg 43 [.slice p l c,iV n] Z (.bool (xs.contains n)) Z:=by
 have h1:=h.re;have e1:=h.len;refine (xST (yUB (Inv:=fun k i τ=>τ=Z.re/\∃ j:Nat,i=j/\j+k=l/\n ∉ xs.take j) (Qr:=fun b τ=>τ=Z.re/\b=true/\n∈xs) (Q0:=fun τ=>τ=Z.re/\n ∉ xs) ?_ l 0 Z.re ⟨rfl,0,rfl,by omega,by simp⟩) ?_ ?_).pure
 ·rintro k i τ ⟨rfl,j,rfl,hk,he⟩;by_cases hi:j<l
  ·obtain ⟨a,rfl,x,hx,l1⟩:=wS h1 hi;by_cases hxy:x=n
   ·exact xKR l1 ⟨rfl,rfl,hxy ▸ List.mem_of_getElem? hx⟩
   ·exact xKQ l1 ⟨k-1,by omega,rfl,j+1,by omega,by omega,by rw [xZ hx,List.mem_append];simp;exact ⟨he,fun e=>hxy e.symm⟩⟩
  ·rw [List.take_of_length_le (by omega)] at he;exact xKP ⟨rfl,he⟩
 ·rintro b τ ⟨rfl,rfl,hn⟩;exact yTZ ⟨by simp [hn],Nat.le_refl _⟩
 ·rintro τ ⟨rfl,hn⟩;exact yUA ⟨by simp [hn],Nat.le_refl _⟩
def wK (xs:List Int) (lo hi:Int):Bool:=(List.range xs.length).all fun i=>inB (xs.getD i 0) lo hi && (i == 0 || decide (xs.getD (i-1) 0<xs.getD i 0))
theorem yL {xs:List Int} {i:Nat} {x:Int} (h:xs[i]?=some x):xs.getD i 0=x:=by rw [List.getD_eq_getElem?_getD,h];rfl
theorem zBH {f:Nat->Bool} {n:Nat}:(List.range n).all f=true↔∀ i,i<n->f i=true:=by simp
theorem zYI {xs:List Int} {lo hi:Int} (h:yD Z p l xs) (hl:l<=1073741824):zD Pg 42 [.slice p l c,iV lo,iV hi] Z (.bool (wK xs lo hi)) Z:=by
 have h1:=h.re;have e1:=h.len;have no:∀ j,j<l->(inB (xs.getD j 0) lo hi && (j == 0 || decide (xs.getD (j-1) 0<xs.getD j 0)))=false->wK xs lo hi=false:=by
  intro j hj hf;cases hr:wK xs lo hi with
  | false=>rfl
  | true=>rw [zBH.1 hr j (by omega)] at hf;cases hf
 refine (xEE (yIN (Inv:=fun k i τ=>τ=Z.re/\∃ j:Nat,i=j/\j+k=l/\∀ i,i<j->(inB (xs.getD i 0) lo hi && (i == 0 || decide (xs.getD (i-1) 0<xs.getD i 0)))=true) (Qr:=fun b τ=>τ=Z.re/\b=false/\wK xs lo hi=false) (Q0:=fun τ=>τ=Z.re/\wK xs lo hi=true) ?_ l 0 Z.re ⟨rfl,0,rfl,by omega,fun i h=>by omega⟩) ?_ ?_).pure
 ·rintro k i τ ⟨rfl,j,rfl,hk,he⟩;by_cases hj:j<l
  ·obtain ⟨a,rfl,x,hx,l1⟩:=wS h1 hj;have cin:=xKO (Z:=Z.re) (n:=x) (lo:=lo) (hi:=hi);have gx:=yL hx;cases hb:inB x lo hi with
   | false =>
    rw [hb] at cin
    exact yTU l1 cin ⟨rfl,rfl,no j hj (by rw [gx,hb];rfl)⟩
   | true =>
    rw [hb] at cin
    by_cases h0:0<j
    ·obtain ⟨a',ea,y,hy,l2⟩:=wS h1 (show j-1<l by omega);cases ea
     have gy:=yL hy;have e:((j:Int)-1)=((j-1:Nat):Int):=by omega
     rw [<- e] at l2;by_cases hxy:x<=y
     ·exact yTX l1 cin l2 ⟨rfl,rfl,no j hj (by rw [gx,gy,hb];simp;omega)⟩
     ·refine yTW l1 cin l2 ⟨k-1,by omega,rfl,j+1,by omega,by omega, ?_⟩;intro i hi2;by_cases e2:i=j
      ·subst e2;rw [gx,gy,hb];simp;omega
      ·exact he i (by omega)
    ·refine yTV l1 cin ⟨k-1,by omega,rfl,j+1,by omega,by omega, ?_⟩
     intro i hi2;have e2:i=j:=by omega
     subst e2;have:i=0:=by omega
     rw [gx,hb,this];rfl
  ·exact yTT ⟨rfl,zBH.2 fun i hi2=>he i (by omega)⟩
 ·rintro b τ ⟨rfl,rfl,hn⟩;exact yIL ⟨by rw [hn],Nat.le_refl _⟩
 ·rintro τ ⟨rfl,hn⟩;exact yIM ⟨by rw [hn],Nat.le_refl _⟩
theorem yIH {xs:List Int} {lo hi:Int} (h:yD Z p l xs) (hl:l<=1073741824):zD Pg 71 [.slice p l c,iV lo,iV hi] Z (.bool (wK xs lo hi)) Z:=by
 have h1:=h.re;have e1:=h.len;have no:∀ j,j<l->(inB (xs.getD j 0) lo hi && (j == 0 || decide (xs.getD (j-1) 0<xs.getD j 0)))=false->wK xs lo hi=false:=by
  intro j hj hf;cases hr:wK xs lo hi with
  | false=>rfl
  | true=>rw [zBH.1 hr j (by omega)] at hf;cases hf
 refine (xKE (yMV (Inv:=fun k i τ=>τ=Z.re/\∃ j:Nat,i=j/\j+k=l/\∀ i,i<j->(inB (xs.getD i 0) lo hi && (i == 0 || decide (xs.getD (i-1) 0<xs.getD i 0)))=true) (Qr:=fun b τ=>τ=Z.re/\b=false/\wK xs lo hi=false) (Q0:=fun τ=>τ=Z.re/\wK xs lo hi=true) ?_ l 0 Z.re ⟨rfl,0,rfl,by omega,fun i h=>by omega⟩) ?_ ?_).pure
 ·rintro k i τ ⟨rfl,j,rfl,hk,he⟩;by_cases hj:j<l
  ·obtain ⟨a,rfl,x,hx,l1⟩:=wS h1 hj;have cin:=zIQ (Z:=Z.re) (n:=x) (lo:=lo) (hi:=hi);have gx:=yL hx;cases hb:inB x lo hi with
   | false =>
    rw [hb] at cin
    exact xDY l1 cin ⟨rfl,rfl,no j hj (by rw [gx,hb];rfl)⟩
   | true =>
    rw [hb] at cin
    by_cases h0:0<j
    ·obtain ⟨a',ea,y,hy,l2⟩:=wS h1 (show j-1<l by omega);cases ea
     have gy:=yL hy;have e:((j:Int)-1)=((j-1:Nat):Int):=by omega
     rw [<- e] at l2;by_cases hxy:x<=y
     ·exact xEB l1 cin l2 ⟨rfl,rfl,no j hj (by rw [gx,gy,hb];simp;omega)⟩
     ·refine xEA l1 cin l2 ⟨k-1,by omega,rfl,j+1,by omega,by omega, ?_⟩;intro i hi2;by_cases e2:i=j
      ·subst e2;rw [gx,gy,hb];simp;omega
      ·exact he i (by omega)
    ·refine xDZ l1 cin ⟨k-1,by omega,rfl,j+1,by omega,by omega, ?_⟩
     intro i hi2;have e2:i=j:=by omega
     subst e2;have:i=0:=by omega
     rw [gx,hb,this];rfl
  ·exact xDX ⟨rfl,zBH.2 fun i hi2=>he i (by omega)⟩
 ·rintro b τ ⟨rfl,rfl,hn⟩;exact yMT ⟨by rw [hn],Nat.le_refl _⟩
 ·rintro τ ⟨rfl,hn⟩;exact yMU ⟨by rw [hn],Nat.le_refl _⟩
end
section
noncomputable section
variable (BA:Nat) (q0:St->Prop) (aI dO aW i2_2:Int) (Q:Int->St->Prop) (Z:St) (Nx Qr:Int->St->Prop) (q1:vPa) (Q0 Q2:St->Prop)
def yEI:Code:=(Code.part [1,1,1,0,1,0,0] (qh 55))
def zFU:lNa:=[(1,pt BA 0),(3,iV aW)]
def yUY:Alt:=⟨Int,.normal,fun t=>zFU BA t,fun t=>[],fun t Z=>Q t Z⟩
def zUE (BA:Nat) (aI:Int):lNa:=[(2,iV aI)]
def zJP:Alt:=⟨Int,.ret,fun t=>zUE BA t,fun t=>[],fun t Z=>Q t Z⟩
def zUF:lNa:=[(1,pt BA 0)]
def zJQ:Alt:=⟨Unit,(.exit 0),fun t=>zUF BA,fun t=>[],fun t Z=>q0 Z⟩
def zAI:Prop:=qi qj none yEI 145 (zFU BA aW) [] [yUY BA Nx,zJP BA Qr,zJQ BA Q0] Z
def yEK:Prop:=qk qj none yEI 145 (zFU BA aW) [] [zJP BA Qr,zJQ BA Q0] Z
def zUI:Prop:=kZ qj (qh 55) [1,1,1,0,1,0] (ql 55 q1) .ret 145 (zUE BA aI) Z
def zUJ:Prop:=kZ qj (qh 55) [1,1,1,0,1,0] (ql 55 q1) (.exit 0) 145 (zUF BA) Z
def yEH:Code:=(Code.part [1,1,1,1,0,1,0,0] (qh 55))
def zFT:lNa:=[(1,pt BA 0),(5,iV dO)]
def yUX:Alt:=⟨Int,.normal,fun t=>zFT BA t,fun t=>[],fun t Z=>Q t Z⟩
def zUC (BA:Nat) (i2_2:Int):lNa:=[(2,iV i2_2)]
def zJN:Alt:=⟨Int,.ret,fun t=>zUC BA t,fun t=>[],fun t Z=>Q t Z⟩
def zUD (BA:Nat):lNa:=[]
def zJO:Alt:=⟨Unit,(.exit 2),fun t=>zUD BA,fun t=>[],fun t Z=>q0 Z⟩
def uL:Prop:=qi qj none yEH 145 (zFT BA dO) [] [yUX BA Nx,zJN BA Qr,zJO BA Q2] Z
def yEJ:Prop:=qk qj none yEH 145 (zFT BA dO) [] [zJN BA Qr,zJO BA Q2] Z
def zUG:Prop:=kZ qj (qh 55) [1,1,1,1,0,1,0] (ql 55 q1) .ret 145 (zUC BA i2_2) Z
def zUH:Prop:=kZ qj (qh 55) [1,1,1,1,0,1,0] (ql 55 q1) (.exit 2) 145 (zUD BA) Z
end
variable {ak am au aj aW nG nD nB nA nE nK aI dO nI nH nJ nM nBE i2_2:Int} {af ae qD qA qB qC qG:oAa} {ac ad aa ab BA lB cE lI cH lA cA lE cB lF cD:Nat} {Z:St} {Q:vPa} {Inv:Nat->Int->St->Prop} {Qr Nx Pr:Int->St->Prop} {Q0 P0 Q2 P2:St->Prop} {di dR:Addr}
theorem xER (nx:Q (iV 3) (Z.row (wkc ak af ac ad ae aa ab am au aj) 6)) (u1:12<(ac:Int):=by omega):qg 55 [qf (wkc ak af ac ad ae aa ab am au aj)] Z Q :=
 zH [.g,.g,.g,.l (.slice af ac ad),.g,.b true,.g,.g,.g] (kd (an2 ((zC _ _ _).rw.ld zCK (k:=1) rfl:lz (Z.row (wkc ak af ac ad ae aa ab am au aj) 6) 22 (qe Z.y 1) (.slice af ac ad)) (zR u1) nx))
theorem xEQ:let y0:=wkc ak af ac ad ae aa ab am au aj;∀ (nx:Q (iV 3) (Z.row y0 6)) (u1:¬ 12<(ac:Int):=by omega) (u2:6<(aa:Int):=by omega),qg 55 [qf y0] Z Q :=
 let s1:=Z.row (wkc ak af ac ad ae aa ab am au aj) 6;fun nx u1 u2=>zH [.g,.g,.g,.l (.slice af ac ad),.g,.b false,.g,.g,.l (.slice ae aa ab),.g,.b true,.g,.g] (kd (an4 ((zC _ _ _).rw.ld zCK (k:=1) rfl:lz s1 22 (qe Z.y 1) (.slice af ac ad)) (zT u1) ((zC _ _ _).rw.ld zEX (k:=2) rfl:lz s1 23 (qe Z.y 2) (.slice ae aa ab)) (zR u2) nx))
theorem yIX (hb:∀ k aW Z,Inv k aW Z->zAI BA aW Z (NX1 Inv k) Qr Q0):∀ k aW Z,Inv k aW Z->yEK BA aW Z Qr Q0 :=
 xC (ai uQ (ai (xY 0) trivial)) hb
theorem yUW:let s1:=Z.row (zF 0 0 0 0 0) 5;let s2:=s1.own Z.y (zF nG nD nB nA nE) 5;∀ (h1:lz Z 22 (qe BA 1) (.slice (some di) lB cE)) (h2:lz Z 92 (zL di (Int.toNat aW*5)) (qf (zF nG nD nB nA nE))) (h3:lz s2 3 (qe BA 0) (iV nK)) (h4:qm 33 [iV nG,iV 0,iV (nK-1)] s2 (.bool true) s2) (h5:qm 33 [iV nD,iV 0,iV 1439] s2 (.bool true) s2) (h6:qm 33 [iV nB,iV nD,iV nA] s2 (.bool true) s2) (nx:Qr (1:Int) s2) (u1:aW<(lB:Int):=by omega) (u2:Ix aW lB:=by omega) (u3:I6 (nK-1):=by omega) (u4:I6 (nD+1440):=by omega) (u5:(nD+1440)<nA:=by omega),zAI BA aW Z Nx Qr Q0:=
 let s1:=Z.row (zF 0 0 0 0 0) 5;let s2:=s1.own Z.y (zF nG nD nB nA nE) 5;fun h1 h2 h3 h4 h5 h6 nx u1 u2 u3 u4 u5=>kO 1 (1:Int) [.g,.g,.l (.slice (some di) lB cE),.g,.b true,.g,.l (.slice (some di) lB cE),.g,.i,.l (qf (zF nG nD nB nA nE)),.g,.e undef s2,.g,.l (iV nG),.g,.l (iV nK),.n (nK-1),.c (.bool true) s2,.g,.g,.g,.l (iV nD),.c (.bool true) s2,.g,.g,.g,.g,.g,.l (iV nB),.g,.l (iV nD),.g,.g,.l (iV nA),.c (.bool true) s2,.g,.g,.g,.g,.g,.l (iV nA),.g,.l (iV nD),.n (nD+1440),.b true,.g,.g,.g,.g] (fun _ f=>an2 h1 (zR u1) (an6 h1 u2 h2 ((zC _ _ _).store (vs:=(zF nG nD nB nA nE)) rfl zIV rfl (nle rfl) rfl:qn (evL [pt Z.y 0,qf (zF nG nD nB nA nE)]) s1 (.store 92 (.tmp 0) (.tmp 1))=some (undef,s2)) ((zC _ _ _).put.rw.ld zU (k:=0) rfl:lz s2 3 (qe Z.y 0) (iV nG)) h3 (an6 (w64 u3) h4 ((zC _ _ _).put.rw.ld zU (k:=1) rfl:lz s2 3 (qe Z.y 1) (iV nD)) h5 ((zC _ _ _).put.rw.ld zU (k:=2) rfl:lz s2 3 (qe Z.y 2) (iV nB)) ((zC _ _ _).put.rw.ld zU (k:=1) rfl:lz s2 3 (qe Z.y 1) (iV nD)) (an6 ((zC _ _ _).put.rw.ld zU (k:=3) rfl:lz s2 3 (qe Z.y 3) (iV nA)) h6 ((zC _ _ _).put.rw.ld zU (k:=3) rfl:lz s2 3 (qe Z.y 3) (iV nA)) ((zC _ _ _).put.rw.ld zU (k:=1) rfl:lz s2 3 (qe Z.y 1) (iV nD)) (w64 u4) (zR u5) f)))) nx
theorem yUV:let s1:=Z.row (zF 0 0 0 0 0) 5;let s2:=s1.own Z.y (zF nG nD nB nA nE) 5;∀ (h1:lz Z 22 (qe BA 1) (.slice (some di) lB cE)) (h2:lz Z 92 (zL di (Int.toNat aW*5)) (qf (zF nG nD nB nA nE))) (h3:lz s2 3 (qe BA 0) (iV nK)) (h4:qm 33 [iV nG,iV 0,iV (nK-1)] s2 (.bool true) s2) (h5:qm 33 [iV nD,iV 0,iV 1439] s2 (.bool true) s2) (h6:qm 33 [iV nB,iV nD,iV nA] s2 (.bool true) s2) (h7:qm 33 [iV nE,iV 0,iV 15] s2 (.bool true) s2) (nx:Nx (aW+1) s2) (u1:aW<(lB:Int):=by omega) (u2:Ix aW lB:=by omega) (u3:I6 (nK-1):=by omega) (u4:I6 (nD+1440):=by omega) (u5:¬ (nD+1440)<nA:=by omega) (u6:I6 (aW+1):=by omega),zAI BA aW Z Nx Qr Q0:=
 let s1:=Z.row (zF 0 0 0 0 0) 5;let s2:=s1.own Z.y (zF nG nD nB nA nE) 5;fun h1 h2 h3 h4 h5 h6 h7 nx u1 u2 u3 u4 u5 u6=>kO 0 (aW+1) [.g,.g,.l (.slice (some di) lB cE),.g,.b true,.g,.l (.slice (some di) lB cE),.g,.i,.l (qf (zF nG nD nB nA nE)),.g,.e undef s2,.g,.l (iV nG),.g,.l (iV nK),.n (nK-1),.c (.bool true) s2,.g,.g,.g,.l (iV nD),.c (.bool true) s2,.g,.g,.g,.g,.g,.l (iV nB),.g,.l (iV nD),.g,.g,.l (iV nA),.c (.bool true) s2,.g,.g,.g,.g,.g,.l (iV nA),.g,.l (iV nD),.n (nD+1440),.b false,.g,.g,.g,.l (iV nE),.c (.bool true) s2,.g,.g,.g,.n (aW+1),.g] (fun _ f=>an5 h1 (zR u1) h1 u2 h2 (an6 ((zC _ _ _).store (vs:=(zF nG nD nB nA nE)) rfl zIV rfl (nle rfl) rfl:qn (evL [pt Z.y 0,qf (zF nG nD nB nA nE)]) s1 (.store 92 (.tmp 0) (.tmp 1))=some (undef,s2)) ((zC _ _ _).put.rw.ld zU (k:=0) rfl:lz s2 3 (qe Z.y 0) (iV nG)) h3 (w64 u3) h4 ((zC _ _ _).put.rw.ld zU (k:=1) rfl:lz s2 3 (qe Z.y 1) (iV nD)) (an6 h5 ((zC _ _ _).put.rw.ld zU (k:=2) rfl:lz s2 3 (qe Z.y 2) (iV nB)) ((zC _ _ _).put.rw.ld zU (k:=1) rfl:lz s2 3 (qe Z.y 1) (iV nD)) ((zC _ _ _).put.rw.ld zU (k:=3) rfl:lz s2 3 (qe Z.y 3) (iV nA)) h6 ((zC _ _ _).put.rw.ld zU (k:=3) rfl:lz s2 3 (qe Z.y 3) (iV nA)) (an6 ((zC _ _ _).put.rw.ld zU (k:=1) rfl:lz s2 3 (qe Z.y 1) (iV nD)) (w64 u4) (zT u5) ((zC _ _ _).put.rw.ld zU (k:=4) rfl:lz s2 3 (qe Z.y 4) (iV nE)) h7 (w64 u6) f)))) nx
theorem yUU:let s1:=Z.row (zF 0 0 0 0 0) 5;let s2:=s1.own Z.y (zF nG nD nB nA nE) 5;∀ (h1:lz Z 22 (qe BA 1) (.slice (some di) lB cE)) (h2:lz Z 92 (zL di (Int.toNat aW*5)) (qf (zF nG nD nB nA nE))) (h3:lz s2 3 (qe BA 0) (iV nK)) (h4:qm 33 [iV nG,iV 0,iV (nK-1)] s2 (.bool true) s2) (h5:qm 33 [iV nD,iV 0,iV 1439] s2 (.bool true) s2) (h6:qm 33 [iV nB,iV nD,iV nA] s2 (.bool true) s2) (h7:qm 33 [iV nE,iV 0,iV 15] s2 (.bool false) s2) (nx:Qr (1:Int) s2) (u1:aW<(lB:Int):=by omega) (u2:Ix aW lB:=by omega) (u3:I6 (nK-1):=by omega) (u4:I6 (nD+1440):=by omega) (u5:¬ (nD+1440)<nA:=by omega),zAI BA aW Z Nx Qr Q0:=
 let s1:=Z.row (zF 0 0 0 0 0) 5;let s2:=s1.own Z.y (zF nG nD nB nA nE) 5;fun h1 h2 h3 h4 h5 h6 h7 nx u1 u2 u3 u4 u5=>kO 1 (1:Int) [.g,.g,.l (.slice (some di) lB cE),.g,.b true,.g,.l (.slice (some di) lB cE),.g,.i,.l (qf (zF nG nD nB nA nE)),.g,.e undef s2,.g,.l (iV nG),.g,.l (iV nK),.n (nK-1),.c (.bool true) s2,.g,.g,.g,.l (iV nD),.c (.bool true) s2,.g,.g,.g,.g,.g,.l (iV nB),.g,.l (iV nD),.g,.g,.l (iV nA),.c (.bool true) s2,.g,.g,.g,.g,.g,.l (iV nA),.g,.l (iV nD),.n (nD+1440),.b false,.g,.g,.g,.l (iV nE),.c (.bool false) s2,.g,.g,.g] (fun _ f=>an4 h1 (zR u1) h1 u2 (an6 h2 ((zC _ _ _).store (vs:=(zF nG nD nB nA nE)) rfl zIV rfl (nle rfl) rfl:qn (evL [pt Z.y 0,qf (zF nG nD nB nA nE)]) s1 (.store 92 (.tmp 0) (.tmp 1))=some (undef,s2)) ((zC _ _ _).put.rw.ld zU (k:=0) rfl:lz s2 3 (qe Z.y 0) (iV nG)) h3 (w64 u3) h4 (an6 ((zC _ _ _).put.rw.ld zU (k:=1) rfl:lz s2 3 (qe Z.y 1) (iV nD)) h5 ((zC _ _ _).put.rw.ld zU (k:=2) rfl:lz s2 3 (qe Z.y 2) (iV nB)) ((zC _ _ _).put.rw.ld zU (k:=1) rfl:lz s2 3 (qe Z.y 1) (iV nD)) ((zC _ _ _).put.rw.ld zU (k:=3) rfl:lz s2 3 (qe Z.y 3) (iV nA)) h6 (an6 ((zC _ _ _).put.rw.ld zU (k:=3) rfl:lz s2 3 (qe Z.y 3) (iV nA)) ((zC _ _ _).put.rw.ld zU (k:=1) rfl:lz s2 3 (qe Z.y 1) (iV nD)) (w64 u4) (zT u5) ((zC _ _ _).put.rw.ld zU (k:=4) rfl:lz s2 3 (qe Z.y 4) (iV nE)) h7 f)))) nx
theorem yUT:let s1:=Z.row (zF 0 0 0 0 0) 5;let s2:=s1.own Z.y (zF nG nD nB nA nE) 5;∀ (h1:lz Z 22 (qe BA 1) (.slice (some di) lB cE)) (h2:lz Z 92 (zL di (Int.toNat aW*5)) (qf (zF nG nD nB nA nE))) (h3:lz s2 3 (qe BA 0) (iV nK)) (h4:qm 33 [iV nG,iV 0,iV (nK-1)] s2 (.bool true) s2) (h5:qm 33 [iV nD,iV 0,iV 1439] s2 (.bool true) s2) (h6:qm 33 [iV nB,iV nD,iV nA] s2 (.bool false) s2) (nx:Qr (1:Int) s2) (u1:aW<(lB:Int):=by omega) (u2:Ix aW lB:=by omega) (u3:I6 (nK-1):=by omega),zAI BA aW Z Nx Qr Q0:=
 let s1:=Z.row (zF 0 0 0 0 0) 5;let s2:=s1.own Z.y (zF nG nD nB nA nE) 5;fun h1 h2 h3 h4 h5 h6 nx u1 u2 u3=>kO 1 (1:Int) [.g,.g,.l (.slice (some di) lB cE),.g,.b true,.g,.l (.slice (some di) lB cE),.g,.i,.l (qf (zF nG nD nB nA nE)),.g,.e undef s2,.g,.l (iV nG),.g,.l (iV nK),.n (nK-1),.c (.bool true) s2,.g,.g,.g,.l (iV nD),.c (.bool true) s2,.g,.g,.g,.g,.g,.l (iV nB),.g,.l (iV nD),.g,.g,.l (iV nA),.c (.bool false) s2,.g,.g,.g,.g,.g,.g,.g] (fun _ f=>an4 h1 (zR u1) h1 u2 (an6 h2 ((zC _ _ _).store (vs:=(zF nG nD nB nA nE)) rfl zIV rfl (nle rfl) rfl:qn (evL [pt Z.y 0,qf (zF nG nD nB nA nE)]) s1 (.store 92 (.tmp 0) (.tmp 1))=some (undef,s2)) ((zC _ _ _).put.rw.ld zU (k:=0) rfl:lz s2 3 (qe Z.y 0) (iV nG)) h3 (w64 u3) h4 (an6 ((zC _ _ _).put.rw.ld zU (k:=1) rfl:lz s2 3 (qe Z.y 1) (iV nD)) h5 ((zC _ _ _).put.rw.ld zU (k:=2) rfl:lz s2 3 (qe Z.y 2) (iV nB)) ((zC _ _ _).put.rw.ld zU (k:=1) rfl:lz s2 3 (qe Z.y 1) (iV nD)) ((zC _ _ _).put.rw.ld zU (k:=3) rfl:lz s2 3 (qe Z.y 3) (iV nA)) h6 f))) nx
theorem yUS:let s1:=Z.row (zF 0 0 0 0 0) 5;let s2:=s1.own Z.y (zF nG nD nB nA nE) 5;∀ (h1:lz Z 22 (qe BA 1) (.slice (some di) lB cE)) (h2:lz Z 92 (zL di (Int.toNat aW*5)) (qf (zF nG nD nB nA nE))) (h3:lz s2 3 (qe BA 0) (iV nK)) (h4:qm 33 [iV nG,iV 0,iV (nK-1)] s2 (.bool true) s2) (h5:qm 33 [iV nD,iV 0,iV 1439] s2 (.bool false) s2) (nx:Qr (1:Int) s2) (u1:aW<(lB:Int):=by omega) (u2:Ix aW lB:=by omega) (u3:I6 (nK-1):=by omega),zAI BA aW Z Nx Qr Q0:=
 let s1:=Z.row (zF 0 0 0 0 0) 5;let s2:=s1.own Z.y (zF nG nD nB nA nE) 5;fun h1 h2 h3 h4 h5 nx u1 u2 u3=>kO 1 (1:Int) [.g,.g,.l (.slice (some di) lB cE),.g,.b true,.g,.l (.slice (some di) lB cE),.g,.i,.l (qf (zF nG nD nB nA nE)),.g,.e undef s2,.g,.l (iV nG),.g,.l (iV nK),.n (nK-1),.c (.bool true) s2,.g,.g,.g,.l (iV nD),.c (.bool false) s2,.g,.g,.g,.g,.g,.g,.g,.g,.g] (fun _ f=>an6 h1 (zR u1) h1 u2 h2 ((zC _ _ _).store (vs:=(zF nG nD nB nA nE)) rfl zIV rfl (nle rfl) rfl:qn (evL [pt Z.y 0,qf (zF nG nD nB nA nE)]) s1 (.store 92 (.tmp 0) (.tmp 1))=some (undef,s2)) (an6 ((zC _ _ _).put.rw.ld zU (k:=0) rfl:lz s2 3 (qe Z.y 0) (iV nG)) h3 (w64 u3) h4 ((zC _ _ _).put.rw.ld zU (k:=1) rfl:lz s2 3 (qe Z.y 1) (iV nD)) h5 f)) nx
theorem yUR:let s1:=Z.row (zF 0 0 0 0 0) 5;let s2:=s1.own Z.y (zF nG nD nB nA nE) 5;∀ (h1:lz Z 22 (qe BA 1) (.slice (some di) lB cE)) (h2:lz Z 92 (zL di (Int.toNat aW*5)) (qf (zF nG nD nB nA nE))) (h3:lz s2 3 (qe BA 0) (iV nK)) (h4:qm 33 [iV nG,iV 0,iV (nK-1)] s2 (.bool false) s2) (nx:Qr (1:Int) s2) (u1:aW<(lB:Int):=by omega) (u2:Ix aW lB:=by omega) (u3:I6 (nK-1):=by omega),zAI BA aW Z Nx Qr Q0:=
 let s1:=Z.row (zF 0 0 0 0 0) 5;let s2:=s1.own Z.y (zF nG nD nB nA nE) 5;fun h1 h2 h3 h4 nx u1 u2 u3=>kO 1 (1:Int) [.g,.g,.l (.slice (some di) lB cE),.g,.b true,.g,.l (.slice (some di) lB cE),.g,.i,.l (qf (zF nG nD nB nA nE)),.g,.e undef s2,.g,.l (iV nG),.g,.l (iV nK),.n (nK-1),.c (.bool false) s2,.g,.g,.g,.g,.g,.g,.g,.g,.g,.g] (fun _ f=>an4 h1 (zR u1) h1 u2 (an6 h2 ((zC _ _ _).store (vs:=(zF nG nD nB nA nE)) rfl zIV rfl (nle rfl) rfl:qn (evL [pt Z.y 0,qf (zF nG nD nB nA nE)]) s1 (.store 92 (.tmp 0) (.tmp 1))=some (undef,s2)) ((zC _ _ _).put.rw.ld zU (k:=0) rfl:lz s2 3 (qe Z.y 0) (iV nG)) h3 (w64 u3) h4 f)) nx
theorem yUQ (h1:lz Z 22 (qe BA 1) (.slice qD lB cE)) (nx:Q0 Z) (u1:¬ aW<(lB:Int):=by omega):zAI BA aW Z Nx Qr Q0 :=
 kO 2 () [.g,.g,.l (.slice qD lB cE),.g,.b false] (fun _ f=>an2 h1 (zT u1) f) nx
theorem xEP:let s1:=Z.row (wkc ak af ac ad ae aa ab am au aj) 6;∀ (h1:qm 33 [iV ak,iV 1,iV 7] s1 (.bool true) s1) (h2:qm 33 [iV am,iV 0,iV 3000] s1 (.bool true) s1) (h3:qm 33 [iV au,iV 1,iV 14] s1 (.bool true) s1) (h4:qm 33 [iV aj,iV 0,iV 20000] s1 (.bool true) s1) (hL:yEK Z.y 0 s1 Pr P0) (kr:∀ i2_1' Z',Pr i2_1' Z'->zUI Z.y i2_1' Z' Q) (k0:∀ Z',P0 Z'->zUJ Z.y Z' Q) (u1:¬ 12<(ac:Int):=by omega) (u2:¬ 6<(aa:Int):=by omega),qg 55 [qf (wkc ak af ac ad ae aa ab am au aj)] Z Q:=
 let s1:=Z.row (wkc ak af ac ad ae aa ab am au aj) 6;fun h1 h2 h3 h4 hL kr k0 u1 u2=>zH [.g,.g,.g,.l (.slice af ac ad),.g,.b false,.g,.g,.l (.slice ae aa ab),.g,.b false,.g,.g,.l (iV ak),.c (.bool true) s1,.g,.g,.g,.l (iV am),.c (.bool true) s1,.g,.g,.g,.g,.l (iV au),.c (.bool true) s1,.g,.g,.g,.g,.l (iV aj),.c (.bool true) s1,.g,.g,.g,.lf 145 (zFU Z.y 0) [zJP Z.y Pr,zJQ Z.y P0]] (kd (an6 ((zC _ _ _).rw.ld zCK (k:=1) rfl:lz s1 22 (qe Z.y 1) (.slice af ac ad)) (zT u1) ((zC _ _ _).rw.ld zEX (k:=2) rfl:lz s1 23 (qe Z.y 2) (.slice ae aa ab)) (zT u2) ((zC _ _ _).rw.ld zU (k:=0) rfl:lz s1 3 (qe Z.y 0) (iV ak)) h1 (an6 ((zC _ _ _).rw.ld zU (k:=3) rfl:lz s1 3 (qe Z.y 3) (iV am)) h2 ((zC _ _ _).rw.ld zU (k:=4) rfl:lz s1 3 (qe Z.y 4) (iV au)) h3 ((zC _ _ _).rw.ld zU (k:=5) rfl:lz s1 3 (qe Z.y 5) (iV aj)) h4 (ai (ai tt (ai (arf (zFU Z.y 0)) hL)) (ai (kz1 kr) (ai (kz0 k0) trivial))))))
theorem xEO:let s1:=Z.row (wkc ak af ac ad ae aa ab am au aj) 6;∀ (h1:qm 33 [iV ak,iV 1,iV 7] s1 (.bool true) s1) (h2:qm 33 [iV am,iV 0,iV 3000] s1 (.bool true) s1) (h3:qm 33 [iV au,iV 1,iV 14] s1 (.bool true) s1) (h4:qm 33 [iV aj,iV 0,iV 20000] s1 (.bool false) s1) (nx:Q (iV 1) s1) (u1:¬ 12<(ac:Int):=by omega) (u2:¬ 6<(aa:Int):=by omega),qg 55 [qf (wkc ak af ac ad ae aa ab am au aj)] Z Q:=
 let s1:=Z.row (wkc ak af ac ad ae aa ab am au aj) 6;fun h1 h2 h3 h4 nx u1 u2=>zH [.g,.g,.g,.l (.slice af ac ad),.g,.b false,.g,.g,.l (.slice ae aa ab),.g,.b false,.g,.g,.l (iV ak),.c (.bool true) s1,.g,.g,.g,.l (iV am),.c (.bool true) s1,.g,.g,.g,.g,.l (iV au),.c (.bool true) s1,.g,.g,.g,.g,.l (iV aj),.c (.bool false) s1,.g,.g,.g] (kd (an6 ((zC _ _ _).rw.ld zCK (k:=1) rfl:lz s1 22 (qe Z.y 1) (.slice af ac ad)) (zT u1) ((zC _ _ _).rw.ld zEX (k:=2) rfl:lz s1 23 (qe Z.y 2) (.slice ae aa ab)) (zT u2) ((zC _ _ _).rw.ld zU (k:=0) rfl:lz s1 3 (qe Z.y 0) (iV ak)) h1 (an6 ((zC _ _ _).rw.ld zU (k:=3) rfl:lz s1 3 (qe Z.y 3) (iV am)) h2 ((zC _ _ _).rw.ld zU (k:=4) rfl:lz s1 3 (qe Z.y 4) (iV au)) h3 ((zC _ _ _).rw.ld zU (k:=5) rfl:lz s1 3 (qe Z.y 5) (iV aj)) h4 nx)))
theorem xEN:let s1:=Z.row (wkc ak af ac ad ae aa ab am au aj) 6;∀ (h1:qm 33 [iV ak,iV 1,iV 7] s1 (.bool true) s1) (h2:qm 33 [iV am,iV 0,iV 3000] s1 (.bool true) s1) (h3:qm 33 [iV au,iV 1,iV 14] s1 (.bool false) s1) (nx:Q (iV 1) s1) (u1:¬ 12<(ac:Int):=by omega) (u2:¬ 6<(aa:Int):=by omega),qg 55 [qf (wkc ak af ac ad ae aa ab am au aj)] Z Q:=
 let s1:=Z.row (wkc ak af ac ad ae aa ab am au aj) 6;fun h1 h2 h3 nx u1 u2=>zH [.g,.g,.g,.l (.slice af ac ad),.g,.b false,.g,.g,.l (.slice ae aa ab),.g,.b false,.g,.g,.l (iV ak),.c (.bool true) s1,.g,.g,.g,.l (iV am),.c (.bool true) s1,.g,.g,.g,.g,.l (iV au),.c (.bool false) s1,.g,.g,.g,.g,.g] (kd (an4 ((zC _ _ _).rw.ld zCK (k:=1) rfl:lz s1 22 (qe Z.y 1) (.slice af ac ad)) (zT u1) ((zC _ _ _).rw.ld zEX (k:=2) rfl:lz s1 23 (qe Z.y 2) (.slice ae aa ab)) (zT u2) (an6 ((zC _ _ _).rw.ld zU (k:=0) rfl:lz s1 3 (qe Z.y 0) (iV ak)) h1 ((zC _ _ _).rw.ld zU (k:=3) rfl:lz s1 3 (qe Z.y 3) (iV am)) h2 ((zC _ _ _).rw.ld zU (k:=4) rfl:lz s1 3 (qe Z.y 4) (iV au)) h3 nx)))
theorem xEM:let s1:=Z.row (wkc ak af ac ad ae aa ab am au aj) 6;∀ (h1:qm 33 [iV ak,iV 1,iV 7] s1 (.bool true) s1) (h2:qm 33 [iV am,iV 0,iV 3000] s1 (.bool false) s1) (nx:Q (iV 1) s1) (u1:¬ 12<(ac:Int):=by omega) (u2:¬ 6<(aa:Int):=by omega),qg 55 [qf (wkc ak af ac ad ae aa ab am au aj)] Z Q:=
 let s1:=Z.row (wkc ak af ac ad ae aa ab am au aj) 6;fun h1 h2 nx u1 u2=>zH [.g,.g,.g,.l (.slice af ac ad),.g,.b false,.g,.g,.l (.slice ae aa ab),.g,.b false,.g,.g,.l (iV ak),.c (.bool true) s1,.g,.g,.g,.l (iV am),.c (.bool false) s1,.g,.g,.g,.g,.g,.g,.g] (kd (an2 ((zC _ _ _).rw.ld zCK (k:=1) rfl:lz s1 22 (qe Z.y 1) (.slice af ac ad)) (zT u1) (an6 ((zC _ _ _).rw.ld zEX (k:=2) rfl:lz s1 23 (qe Z.y 2) (.slice ae aa ab)) (zT u2) ((zC _ _ _).rw.ld zU (k:=0) rfl:lz s1 3 (qe Z.y 0) (iV ak)) h1 ((zC _ _ _).rw.ld zU (k:=3) rfl:lz s1 3 (qe Z.y 3) (iV am)) h2 nx)))
theorem xEL:let s1:=Z.row (wkc ak af ac ad ae aa ab am au aj) 6;∀ (h1:qm 33 [iV ak,iV 1,iV 7] s1 (.bool false) s1) (nx:Q (iV 1) s1) (u1:¬ 12<(ac:Int):=by omega) (u2:¬ 6<(aa:Int):=by omega),qg 55 [qf (wkc ak af ac ad ae aa ab am au aj)] Z Q:=
 let s1:=Z.row (wkc ak af ac ad ae aa ab am au aj) 6;fun h1 nx u1 u2=>zH [.g,.g,.g,.l (.slice af ac ad),.g,.b false,.g,.g,.l (.slice ae aa ab),.g,.b false,.g,.g,.l (iV ak),.c (.bool false) s1,.g,.g,.g,.g,.g,.g,.g,.g] (kd (an6 ((zC _ _ _).rw.ld zCK (k:=1) rfl:lz s1 22 (qe Z.y 1) (.slice af ac ad)) (zT u1) ((zC _ _ _).rw.ld zEX (k:=2) rfl:lz s1 23 (qe Z.y 2) (.slice ae aa ab)) (zT u2) ((zC _ _ _).rw.ld zU (k:=0) rfl:lz s1 3 (qe Z.y 0) (iV ak)) h1 nx))
theorem yIU (nx:Q (iV aI) Z):zUI BA aI Z Q :=
 sK [] nx
theorem yIW (hb:∀ k dO Z,Inv k dO Z->uL BA dO Z (NX1 Inv k) Qr Q2):∀ k dO Z,Inv k dO Z->yEJ BA dO Z Qr Q2 :=
 xC (ai uQ (ai (xY 2) trivial)) hb
theorem yUP:let s1:=Z.row (zN none 0 0 none 0 0 none 0 0 0 0 0) 6;let s2:=s1.own Z.y (zN qA lA cA qB lE cB qC lF cD nI nH nJ) 6;∀ (h1:lz Z 23 (qe BA 2) (.slice (some dR) lI cH)) (h2:lz Z 76 (zL dR (Int.toNat dO*6)) (qf (zN qA lA cA qB lE cB qC lF cD nI nH nJ))) (h3:qm 42 [.slice qA lA cA,iV 0,iV 15] s2 (.bool true) s2) (h4:lz s2 3 (qe BA 0) (iV nM)) (h5:qm 42 [.slice qB lE cB,iV 0,iV (nM-1)] s2 (.bool true) s2) (h6:qm 42 [.slice qC lF cD,iV 0,iV (nM-1)] s2 (.bool true) s2) (h7:qm 33 [iV nI,iV (-10080),iV 1440] s2 (.bool true) s2) (h8:qm 33 [iV nH,iV 0,iV 14] s2 (.bool true) s2) (h9:lz s2 3 (qe BA 5) (iV nBE)) (h10:qm 33 [iV nJ,iV 0,iV nBE] s2 (.bool true) s2) (nx:Nx (dO+1) s2) (u1:dO<(lI:Int):=by omega) (u2:Ix dO lI:=by omega) (u3:I6 (nM-1):=by omega) (u4:I6 (dO+1):=by omega),uL BA dO Z Nx Qr Q2:=
 let s1:=Z.row (zN none 0 0 none 0 0 none 0 0 0 0 0) 6;let s2:=s1.own Z.y (zN qA lA cA qB lE cB qC lF cD nI nH nJ) 6;fun h1 h2 h3 h4 h5 h6 h7 h8 h9 h10 nx u1 u2 u3 u4=>kO 0 (dO+1) [.g,.g,.l (.slice (some dR) lI cH),.g,.b true,.g,.l (.slice (some dR) lI cH),.g,.i,.l (qf (zN qA lA cA qB lE cB qC lF cD nI nH nJ)),.g,.e undef s2,.g,.l (.slice qA lA cA),.c (.bool true) s2,.g,.g,.g,.l (.slice qB lE cB),.g,.l (iV nM),.n (nM-1),.c (.bool true) s2,.g,.g,.g,.g,.l (.slice qC lF cD),.g,.l (iV nM),.n (nM-1),.c (.bool true) s2,.g,.g,.g,.g,.l (iV nI),.c (.bool true) s2,.g,.g,.g,.g,.l (iV nH),.c (.bool true) s2,.g,.g,.g,.g,.l (iV nJ),.g,.l (iV nBE),.c (.bool true) s2,.g,.g,.g,.n (dO+1),.g] (fun _ f=>an6 h1 (zR u1) h1 u2 h2 ((zC _ _ _).store (vs:=(zN qA lA cA qB lE cB qC lF cD nI nH nJ)) rfl uZ rfl (nle rfl) rfl:qn (evL [pt Z.y 0,qf (zN qA lA cA qB lE cB qC lF cD nI nH nJ)]) s1 (.store 76 (.tmp 0) (.tmp 1))=some (undef,s2)) (an6 ((zC _ _ _).put.rw.ld yT (k:=0) rfl:lz s2 26 (qe Z.y 0) (.slice qA lA cA)) h3 ((zC _ _ _).put.rw.ld yT (k:=1) rfl:lz s2 26 (qe Z.y 1) (.slice qB lE cB)) h4 (w64 u3) h5 (an6 ((zC _ _ _).put.rw.ld yT (k:=2) rfl:lz s2 26 (qe Z.y 2) (.slice qC lF cD)) h4 (w64 u3) h6 ((zC _ _ _).put.rw.ld zU (k:=3) rfl:lz s2 3 (qe Z.y 3) (iV nI)) h7 (an6 ((zC _ _ _).put.rw.ld zU (k:=4) rfl:lz s2 3 (qe Z.y 4) (iV nH)) h8 ((zC _ _ _).put.rw.ld zU (k:=5) rfl:lz s2 3 (qe Z.y 5) (iV nJ)) h9 h10 (w64 u4) f)))) nx
theorem yUO:let s1:=Z.row (zN none 0 0 none 0 0 none 0 0 0 0 0) 6;let s2:=s1.own Z.y (zN qA lA cA qB lE cB qC lF cD nI nH nJ) 6;∀ (h1:lz Z 23 (qe BA 2) (.slice (some dR) lI cH)) (h2:lz Z 76 (zL dR (Int.toNat dO*6)) (qf (zN qA lA cA qB lE cB qC lF cD nI nH nJ))) (h3:qm 42 [.slice qA lA cA,iV 0,iV 15] s2 (.bool true) s2) (h4:lz s2 3 (qe BA 0) (iV nM)) (h5:qm 42 [.slice qB lE cB,iV 0,iV (nM-1)] s2 (.bool true) s2) (h6:qm 42 [.slice qC lF cD,iV 0,iV (nM-1)] s2 (.bool true) s2) (h7:qm 33 [iV nI,iV (-10080),iV 1440] s2 (.bool true) s2) (h8:qm 33 [iV nH,iV 0,iV 14] s2 (.bool true) s2) (h9:lz s2 3 (qe BA 5) (iV nBE)) (h10:qm 33 [iV nJ,iV 0,iV nBE] s2 (.bool false) s2) (nx:Qr (1:Int) s2) (u1:dO<(lI:Int):=by omega) (u2:Ix dO lI:=by omega) (u3:I6 (nM-1):=by omega),uL BA dO Z Nx Qr Q2:=
 let s1:=Z.row (zN none 0 0 none 0 0 none 0 0 0 0 0) 6;let s2:=s1.own Z.y (zN qA lA cA qB lE cB qC lF cD nI nH nJ) 6;fun h1 h2 h3 h4 h5 h6 h7 h8 h9 h10 nx u1 u2 u3=>kO 1 (1:Int) [.g,.g,.l (.slice (some dR) lI cH),.g,.b true,.g,.l (.slice (some dR) lI cH),.g,.i,.l (qf (zN qA lA cA qB lE cB qC lF cD nI nH nJ)),.g,.e undef s2,.g,.l (.slice qA lA cA),.c (.bool true) s2,.g,.g,.g,.l (.slice qB lE cB),.g,.l (iV nM),.n (nM-1),.c (.bool true) s2,.g,.g,.g,.g,.l (.slice qC lF cD),.g,.l (iV nM),.n (nM-1),.c (.bool true) s2,.g,.g,.g,.g,.l (iV nI),.c (.bool true) s2,.g,.g,.g,.g,.l (iV nH),.c (.bool true) s2,.g,.g,.g,.g,.l (iV nJ),.g,.l (iV nBE),.c (.bool false) s2,.g,.g,.g] (fun _ f=>an5 h1 (zR u1) h1 u2 h2 (an6 ((zC _ _ _).store (vs:=(zN qA lA cA qB lE cB qC lF cD nI nH nJ)) rfl uZ rfl (nle rfl) rfl:qn (evL [pt Z.y 0,qf (zN qA lA cA qB lE cB qC lF cD nI nH nJ)]) s1 (.store 76 (.tmp 0) (.tmp 1))=some (undef,s2)) ((zC _ _ _).put.rw.ld yT (k:=0) rfl:lz s2 26 (qe Z.y 0) (.slice qA lA cA)) h3 ((zC _ _ _).put.rw.ld yT (k:=1) rfl:lz s2 26 (qe Z.y 1) (.slice qB lE cB)) h4 (w64 u3) (an6 h5 ((zC _ _ _).put.rw.ld yT (k:=2) rfl:lz s2 26 (qe Z.y 2) (.slice qC lF cD)) h4 (w64 u3) h6 ((zC _ _ _).put.rw.ld zU (k:=3) rfl:lz s2 3 (qe Z.y 3) (iV nI)) (an6 h7 ((zC _ _ _).put.rw.ld zU (k:=4) rfl:lz s2 3 (qe Z.y 4) (iV nH)) h8 ((zC _ _ _).put.rw.ld zU (k:=5) rfl:lz s2 3 (qe Z.y 5) (iV nJ)) h9 h10 f)))) nx
theorem yUN:let s1:=Z.row (zN none 0 0 none 0 0 none 0 0 0 0 0) 6;let s2:=s1.own Z.y (zN qA lA cA qB lE cB qC lF cD nI nH nJ) 6;∀ (h1:lz Z 23 (qe BA 2) (.slice (some dR) lI cH)) (h2:lz Z 76 (zL dR (Int.toNat dO*6)) (qf (zN qA lA cA qB lE cB qC lF cD nI nH nJ))) (h3:qm 42 [.slice qA lA cA,iV 0,iV 15] s2 (.bool true) s2) (h4:lz s2 3 (qe BA 0) (iV nM)) (h5:qm 42 [.slice qB lE cB,iV 0,iV (nM-1)] s2 (.bool true) s2) (h6:qm 42 [.slice qC lF cD,iV 0,iV (nM-1)] s2 (.bool true) s2) (h7:qm 33 [iV nI,iV (-10080),iV 1440] s2 (.bool true) s2) (h8:qm 33 [iV nH,iV 0,iV 14] s2 (.bool false) s2) (nx:Qr (1:Int) s2) (u1:dO<(lI:Int):=by omega) (u2:Ix dO lI:=by omega) (u3:I6 (nM-1):=by omega),uL BA dO Z Nx Qr Q2:=
 let s1:=Z.row (zN none 0 0 none 0 0 none 0 0 0 0 0) 6;let s2:=s1.own Z.y (zN qA lA cA qB lE cB qC lF cD nI nH nJ) 6;fun h1 h2 h3 h4 h5 h6 h7 h8 nx u1 u2 u3=>kO 1 (1:Int) [.g,.g,.l (.slice (some dR) lI cH),.g,.b true,.g,.l (.slice (some dR) lI cH),.g,.i,.l (qf (zN qA lA cA qB lE cB qC lF cD nI nH nJ)),.g,.e undef s2,.g,.l (.slice qA lA cA),.c (.bool true) s2,.g,.g,.g,.l (.slice qB lE cB),.g,.l (iV nM),.n (nM-1),.c (.bool true) s2,.g,.g,.g,.g,.l (.slice qC lF cD),.g,.l (iV nM),.n (nM-1),.c (.bool true) s2,.g,.g,.g,.g,.l (iV nI),.c (.bool true) s2,.g,.g,.g,.g,.l (iV nH),.c (.bool false) s2,.g,.g,.g,.g,.g] (fun _ f=>an2 h1 (zR u1) (an6 h1 u2 h2 ((zC _ _ _).store (vs:=(zN qA lA cA qB lE cB qC lF cD nI nH nJ)) rfl uZ rfl (nle rfl) rfl:qn (evL [pt Z.y 0,qf (zN qA lA cA qB lE cB qC lF cD nI nH nJ)]) s1 (.store 76 (.tmp 0) (.tmp 1))=some (undef,s2)) ((zC _ _ _).put.rw.ld yT (k:=0) rfl:lz s2 26 (qe Z.y 0) (.slice qA lA cA)) h3 (an6 ((zC _ _ _).put.rw.ld yT (k:=1) rfl:lz s2 26 (qe Z.y 1) (.slice qB lE cB)) h4 (w64 u3) h5 ((zC _ _ _).put.rw.ld yT (k:=2) rfl:lz s2 26 (qe Z.y 2) (.slice qC lF cD)) h4 (an6 (w64 u3) h6 ((zC _ _ _).put.rw.ld zU (k:=3) rfl:lz s2 3 (qe Z.y 3) (iV nI)) h7 ((zC _ _ _).put.rw.ld zU (k:=4) rfl:lz s2 3 (qe Z.y 4) (iV nH)) h8 f)))) nx
theorem yUM:let s1:=Z.row (zN none 0 0 none 0 0 none 0 0 0 0 0) 6;let s2:=s1.own Z.y (zN qA lA cA qB lE cB qC lF cD nI nH nJ) 6;∀ (h1:lz Z 23 (qe BA 2) (.slice (some dR) lI cH)) (h2:lz Z 76 (zL dR (Int.toNat dO*6)) (qf (zN qA lA cA qB lE cB qC lF cD nI nH nJ))) (h3:qm 42 [.slice qA lA cA,iV 0,iV 15] s2 (.bool true) s2) (h4:lz s2 3 (qe BA 0) (iV nM)) (h5:qm 42 [.slice qB lE cB,iV 0,iV (nM-1)] s2 (.bool true) s2) (h6:qm 42 [.slice qC lF cD,iV 0,iV (nM-1)] s2 (.bool true) s2) (h7:qm 33 [iV nI,iV (-10080),iV 1440] s2 (.bool false) s2) (nx:Qr (1:Int) s2) (u1:dO<(lI:Int):=by omega) (u2:Ix dO lI:=by omega) (u3:I6 (nM-1):=by omega),uL BA dO Z Nx Qr Q2:=
 let s1:=Z.row (zN none 0 0 none 0 0 none 0 0 0 0 0) 6;let s2:=s1.own Z.y (zN qA lA cA qB lE cB qC lF cD nI nH nJ) 6;fun h1 h2 h3 h4 h5 h6 h7 nx u1 u2 u3=>kO 1 (1:Int) [.g,.g,.l (.slice (some dR) lI cH),.g,.b true,.g,.l (.slice (some dR) lI cH),.g,.i,.l (qf (zN qA lA cA qB lE cB qC lF cD nI nH nJ)),.g,.e undef s2,.g,.l (.slice qA lA cA),.c (.bool true) s2,.g,.g,.g,.l (.slice qB lE cB),.g,.l (iV nM),.n (nM-1),.c (.bool true) s2,.g,.g,.g,.g,.l (.slice qC lF cD),.g,.l (iV nM),.n (nM-1),.c (.bool true) s2,.g,.g,.g,.g,.l (iV nI),.c (.bool false) s2,.g,.g,.g,.g,.g,.g,.g] (fun _ f=>an6 h1 (zR u1) h1 u2 h2 ((zC _ _ _).store (vs:=(zN qA lA cA qB lE cB qC lF cD nI nH nJ)) rfl uZ rfl (nle rfl) rfl:qn (evL [pt Z.y 0,qf (zN qA lA cA qB lE cB qC lF cD nI nH nJ)]) s1 (.store 76 (.tmp 0) (.tmp 1))=some (undef,s2)) (an6 ((zC _ _ _).put.rw.ld yT (k:=0) rfl:lz s2 26 (qe Z.y 0) (.slice qA lA cA)) h3 ((zC _ _ _).put.rw.ld yT (k:=1) rfl:lz s2 26 (qe Z.y 1) (.slice qB lE cB)) h4 (w64 u3) h5 (an6 ((zC _ _ _).put.rw.ld yT (k:=2) rfl:lz s2 26 (qe Z.y 2) (.slice qC lF cD)) h4 (w64 u3) h6 ((zC _ _ _).put.rw.ld zU (k:=3) rfl:lz s2 3 (qe Z.y 3) (iV nI)) h7 f))) nx
theorem yUL:let s1:=Z.row (zN none 0 0 none 0 0 none 0 0 0 0 0) 6;let s2:=s1.own Z.y (zN qA lA cA qB lE cB qC lF cD nI nH nJ) 6;∀ (h1:lz Z 23 (qe BA 2) (.slice (some dR) lI cH)) (h2:lz Z 76 (zL dR (Int.toNat dO*6)) (qf (zN qA lA cA qB lE cB qC lF cD nI nH nJ))) (h3:qm 42 [.slice qA lA cA,iV 0,iV 15] s2 (.bool true) s2) (h4:lz s2 3 (qe BA 0) (iV nM)) (h5:qm 42 [.slice qB lE cB,iV 0,iV (nM-1)] s2 (.bool true) s2) (h6:qm 42 [.slice qC lF cD,iV 0,iV (nM-1)] s2 (.bool false) s2) (nx:Qr (1:Int) s2) (u1:dO<(lI:Int):=by omega) (u2:Ix dO lI:=by omega) (u3:I6 (nM-1):=by omega),uL BA dO Z Nx Qr Q2:=
 let s1:=Z.row (zN none 0 0 none 0 0 none 0 0 0 0 0) 6;let s2:=s1.own Z.y (zN qA lA cA qB lE cB qC lF cD nI nH nJ) 6;fun h1 h2 h3 h4 h5 h6 nx u1 u2 u3=>kO 1 (1:Int) [.g,.g,.l (.slice (some dR) lI cH),.g,.b true,.g,.l (.slice (some dR) lI cH),.g,.i,.l (qf (zN qA lA cA qB lE cB qC lF cD nI nH nJ)),.g,.e undef s2,.g,.l (.slice qA lA cA),.c (.bool true) s2,.g,.g,.g,.l (.slice qB lE cB),.g,.l (iV nM),.n (nM-1),.c (.bool true) s2,.g,.g,.g,.g,.l (.slice qC lF cD),.g,.l (iV nM),.n (nM-1),.c (.bool false) s2,.g,.g,.g,.g,.g,.g,.g,.g,.g] (fun _ f=>an4 h1 (zR u1) h1 u2 (an6 h2 ((zC _ _ _).store (vs:=(zN qA lA cA qB lE cB qC lF cD nI nH nJ)) rfl uZ rfl (nle rfl) rfl:qn (evL [pt Z.y 0,qf (zN qA lA cA qB lE cB qC lF cD nI nH nJ)]) s1 (.store 76 (.tmp 0) (.tmp 1))=some (undef,s2)) ((zC _ _ _).put.rw.ld yT (k:=0) rfl:lz s2 26 (qe Z.y 0) (.slice qA lA cA)) h3 ((zC _ _ _).put.rw.ld yT (k:=1) rfl:lz s2 26 (qe Z.y 1) (.slice qB lE cB)) h4 (an6 (w64 u3) h5 ((zC _ _ _).put.rw.ld yT (k:=2) rfl:lz s2 26 (qe Z.y 2) (.slice qC lF cD)) h4 (w64 u3) h6 f))) nx
theorem yUK:let s1:=Z.row (zN none 0 0 none 0 0 none 0 0 0 0 0) 6;let s2:=s1.own Z.y (zN qA lA cA qB lE cB qC lF cD nI nH nJ) 6;∀ (h1:lz Z 23 (qe BA 2) (.slice (some dR) lI cH)) (h2:lz Z 76 (zL dR (Int.toNat dO*6)) (qf (zN qA lA cA qB lE cB qC lF cD nI nH nJ))) (h3:qm 42 [.slice qA lA cA,iV 0,iV 15] s2 (.bool true) s2) (h4:lz s2 3 (qe BA 0) (iV nM)) (h5:qm 42 [.slice qB lE cB,iV 0,iV (nM-1)] s2 (.bool false) s2) (nx:Qr (1:Int) s2) (u1:dO<(lI:Int):=by omega) (u2:Ix dO lI:=by omega) (u3:I6 (nM-1):=by omega),uL BA dO Z Nx Qr Q2:=
 let s1:=Z.row (zN none 0 0 none 0 0 none 0 0 0 0 0) 6;let s2:=s1.own Z.y (zN qA lA cA qB lE cB qC lF cD nI nH nJ) 6;fun h1 h2 h3 h4 h5 nx u1 u2 u3=>kO 1 (1:Int) [.g,.g,.l (.slice (some dR) lI cH),.g,.b true,.g,.l (.slice (some dR) lI cH),.g,.i,.l (qf (zN qA lA cA qB lE cB qC lF cD nI nH nJ)),.g,.e undef s2,.g,.l (.slice qA lA cA),.c (.bool true) s2,.g,.g,.g,.l (.slice qB lE cB),.g,.l (iV nM),.n (nM-1),.c (.bool false) s2,.g,.g,.g,.g,.g,.g,.g,.g,.g,.g,.g] (fun _ f=>an6 h1 (zR u1) h1 u2 h2 ((zC _ _ _).store (vs:=(zN qA lA cA qB lE cB qC lF cD nI nH nJ)) rfl uZ rfl (nle rfl) rfl:qn (evL [pt Z.y 0,qf (zN qA lA cA qB lE cB qC lF cD nI nH nJ)]) s1 (.store 76 (.tmp 0) (.tmp 1))=some (undef,s2)) (an6 ((zC _ _ _).put.rw.ld yT (k:=0) rfl:lz s2 26 (qe Z.y 0) (.slice qA lA cA)) h3 ((zC _ _ _).put.rw.ld yT (k:=1) rfl:lz s2 26 (qe Z.y 1) (.slice qB lE cB)) h4 (w64 u3) h5 f)) nx
theorem yUJ:let s1:=Z.row (zN none 0 0 none 0 0 none 0 0 0 0 0) 6;let s2:=s1.own Z.y (zN qA lA cA qB lE cB qC lF cD nI nH nJ) 6;∀ (h1:lz Z 23 (qe BA 2) (.slice (some dR) lI cH)) (h2:lz Z 76 (zL dR (Int.toNat dO*6)) (qf (zN qA lA cA qB lE cB qC lF cD nI nH nJ))) (h3:qm 42 [.slice qA lA cA,iV 0,iV 15] s2 (.bool false) s2) (nx:Qr (1:Int) s2) (u1:dO<(lI:Int):=by omega) (u2:Ix dO lI:=by omega),uL BA dO Z Nx Qr Q2:=
 let s1:=Z.row (zN none 0 0 none 0 0 none 0 0 0 0 0) 6;let s2:=s1.own Z.y (zN qA lA cA qB lE cB qC lF cD nI nH nJ) 6;fun h1 h2 h3 nx u1 u2=>kO 1 (1:Int) [.g,.g,.l (.slice (some dR) lI cH),.g,.b true,.g,.l (.slice (some dR) lI cH),.g,.i,.l (qf (zN qA lA cA qB lE cB qC lF cD nI nH nJ)),.g,.e undef s2,.g,.l (.slice qA lA cA),.c (.bool false) s2,.g,.g,.g,.g,.g,.g,.g,.g,.g,.g,.g,.g] (fun _ f=>an2 h1 (zR u1) (an6 h1 u2 h2 ((zC _ _ _).store (vs:=(zN qA lA cA qB lE cB qC lF cD nI nH nJ)) rfl uZ rfl (nle rfl) rfl:qn (evL [pt Z.y 0,qf (zN qA lA cA qB lE cB qC lF cD nI nH nJ)]) s1 (.store 76 (.tmp 0) (.tmp 1))=some (undef,s2)) ((zC _ _ _).put.rw.ld yT (k:=0) rfl:lz s2 26 (qe Z.y 0) (.slice qA lA cA)) h3 f)) nx
theorem yUI (h1:lz Z 23 (qe BA 2) (.slice qG lI cH)) (nx:Q2 Z) (u1:¬ dO<(lI:Int):=by omega):uL BA dO Z Nx Qr Q2 :=
 kO 2 () [.g,.g,.l (.slice qG lI cH),.g,.b false] (fun _ f=>an2 h1 (zT u1) f) nx
theorem yIV (hL:yEJ BA 0 Z Pr P2) (kr:∀ i2_2' Z',Pr i2_2' Z'->zUG BA i2_2' Z' Q) (k2:∀ Z',P2 Z'->zUH BA Z' Q):zUJ BA Z Q :=
 sK [.g,.lf 145 (zFT BA 0) [zJN BA Pr,zJO BA P2]] (ai (ai tt (ai (arf (zFT BA 0)) hL)) (ai (kz1 kr) (ai (kz0 k2) trivial)))
theorem yIS (nx:Q (iV i2_2) Z):zUG BA i2_2 Z Q :=
 sK [] nx
theorem yIT (nx:Q (iV 0) Z):zUH BA Z Q :=
 sK [.g] nx
end
def vT (w:Wk) (d:Dty):Bool:=inB d.day 0 (w.days-1) && (inB d.on 0 1439 && (inB d.lo d.on d.hi && (!decide (d.on+1440<d.hi) && inB d.route 0 15)))
def zAJ (w:Wk) (x:Drv):Bool:=wK x.knows 0 15 && (wK x.leave 0 (w.days-1) && (wK x.wish 0 (w.days-1) && (inB x.off (-10080) 1440 && (inB x.row 0 14 && inB x.used 0 w.hours))))
def vJ (w:Wk):Bool:=inB w.days 1 7 && (inB w.rest 0 3000 && (inB w.run 1 14 && inB w.hours 0 20000))
def xF (w:Wk):Int:=if 12<w.duties.length\/6<w.drivers.length then 3 else if vJ w && (w.duties.all (vT w) && w.drivers.all (zAJ w)) then 0 else 1
theorem zQY {α:Type} {xs:List α} {i:Nat} {f:α->Bool} {x:α} (h:xs[i]?=some x) (ha:(xs.take i).all f=true) (hf:f x=true):(xs.take (i+1)).all f=true:=by
 rw [xZ h,List.all_append,ha];simp [hf]
theorem yLA {α:Type} {xs:List α} {f:α->Bool} {x:α} (h:x∈xs) (hf:f x=false):xs.all f=false:=by
 cases ha:xs.all f with
 | false=>rfl
 | true=>rw [List.all_eq_true.1 ha x h] at hf;cases hf
def zAX (w:Wk):Prop:=∀ x∈w.drivers,x.knows.length<=1000/\x.leave.length<=1000/\x.wish.length<=1000
section
variable {Z:St} {w:Wk} {p q:Option Addr} {l m c d:Nat}
theorem xKU (h:WkP Z 92 76 w p l q m) (hsh:zAX w):zD Tryz.prog 55 [.agg ⟨wkc w.days p l c q m d w.rest w.run w.hours⟩] Z (iV (xF w)) Z:=by
 have hwp:=h;have hn:=h.len.1;have hm:=h.len.2;by_cases h12:12<l
 ·have:xF w=3:=by unfold xF;rw [if_pos (.inl (by omega))]
  rw [this];exact (xER ⟨rfl,Nat.le_refl _⟩ (by omega)).pure
 by_cases h6:6<m
 ·have:xF w=3:=by unfold xF;rw [if_pos (.inr (by omega))]
  rw [this];exact (xEQ ⟨rfl,Nat.le_refl _⟩ (by omega) (by omega)).pure
 have hf0:xF w=if vJ w && (w.duties.all (vT w) && w.drivers.all (zAJ w)) then 0 else 1:=by unfold xF;rw [if_neg (by omega)]
 obtain ⟨Z1,hZ1⟩:∃ Z1,Z1=Z.re.row (wkc w.days p l c q m d w.rest w.run w.hours) 6:=⟨_,rfl⟩;have cin:∀ {τ:St} {n lo hi:Int} {b:Bool},inB n lo hi=b->zD Tryz.prog 33 [iV n,iV lo,iV hi] τ (.bool b) τ:=fun e=>e ▸ xKO
 have no:vJ w=false->xF w=1:=fun e=>by rw [hf0,e];rfl
 cases b1:inB w.days 1 7 with
 | false=>rw [no (by unfold vJ;rw [b1];rfl)];exact (xEL (cin b1) ⟨rfl,Nat.le_refl _⟩ (by omega) (by omega)).pure
 | true =>
 cases b2:inB w.rest 0 3000 with
 | false=>rw [no (by unfold vJ;rw [b1,b2];rfl)];exact (xEM (cin b1) (cin b2) ⟨rfl,Nat.le_refl _⟩ (by omega) (by omega)).pure
 | true =>
 cases b3:inB w.run 1 14 with
 | false=>rw [no (by unfold vJ;rw [b1,b2,b3];rfl)];exact (xEN (cin b1) (cin b2) (cin b3) ⟨rfl,Nat.le_refl _⟩ (by omega) (by omega)).pure
 | true =>
 cases b4:inB w.hours 0 20000 with
 | false=>rw [no (by unfold vJ;rw [b1,b2,b3,b4];rfl)];exact (xEO (cin b1) (cin b2) (cin b3) (cin b4) ⟨rfl,Nat.le_refl _⟩ (by omega) (by omega)).pure
 | true =>
 have hh:vJ w=true:=by unfold vJ;rw [b1,b2,b3,b4];rfl
 have hd:=uX.1 b1;have N1:New Z.re Z1:=by rw [hZ1];exact New.row _ _ _
 have L1:Le Z Z1:=(le0 Z).trans N1.le;have hW:∀ {τ},Le Z1 τ->Row τ ⟨Z.re.y,0,none⟩ (wkc w.days p l c q m d w.rest w.run w.hours):=fun {τ} hN=>by
  have:=xM Z.re (wkc w.days p l c q m d w.rest w.run w.hours) 6;rw [<- hZ1] at this;exact this.le hN
 have nod:∀ x∈w.duties,vT w x=false->xF w=1:=fun x hx e=>by rw [hf0,yLA hx e];simp
 have nov:∀ x∈w.drivers,zAJ w x=false->xF w=1:=fun x hx e=>by rw [hf0,yLA hx e];simp
 have lw1:∀ {τ:St},New Z1 τ->Z.y<=τ.low:=fun hN=>(N1.trans hN).lw
 refine zO.pure (xEP (Pr:=fun n τ=>New Z1 τ/\n=xF w) (P0:=fun τ=>New Z1 τ/\w.duties.all (vT w)=true) (cin b1) (cin b2) (cin b3) (cin b4)
  (yIX (Inv:=fun k i τ=>New Z1 τ/\∃ j:Nat,i=j/\j+k=l/\(w.duties.take j).all (vT w)=true) ?_ l 0 _ ⟨by rw [<- hZ1];exact New.refl _,0,rfl,by omega,rfl⟩)
  (fun n τ h=>yIU ⟨by rw [h.2],lw1 h.1⟩) (fun τ h=>?_) (by omega) (by omega))
 ·rintro k i τ ⟨hN,j,rfl,hk,ha⟩;have ldD:zB Tryz.prog τ 22 ⟨Z.re.y,1,none⟩=some (.slice p l c):=(hW hN.le).ld zCK rfl;by_cases hj:j<l;rotate_left
  ·exact yUQ ldD ⟨hN,by rwa [List.take_of_length_le (by omega)] at ha⟩ (by omega)
  obtain ⟨a,rfl,x,hx,lx⟩:=wS (SlV.le h.dty (L1.trans hN.le)) hj;have hmem:=List.mem_of_getElem? hx;have hN2:New Z1 ((τ.row (zF 0 0 0 0 0) 5).own τ.y (zF x.day x.on x.lo x.hi x.route) 5):=hN.row'.own hN.le.y;have ld0:zB Tryz.prog ((τ.row (zF 0 0 0 0 0) 5).own τ.y (zF x.day x.on x.lo x.hi x.route) 5) 3 ⟨Z.re.y,0,none⟩=some (iV w.days):=(hW hN2.le).ld zU rfl;cases c1:inB x.day 0 (w.days-1) with
  | false=>exact yUR ldD lx ld0 (cin c1) ⟨hN2,(nod x hmem (by unfold vT;rw [c1];rfl)).symm⟩ (by omega) (by omega) (by omega)
  | true =>
  cases c2:inB x.on 0 1439 with
  | false=>exact yUS ldD lx ld0 (cin c1) (cin c2) ⟨hN2,(nod x hmem (by unfold vT;rw [c1,c2];rfl)).symm⟩ (by omega) (by omega) (by omega)
  | true =>
  have hon:=uX.1 c2;cases c3:inB x.lo x.on x.hi with
  | false=>exact yUT ldD lx ld0 (cin c1) (cin c2) (cin c3) ⟨hN2,(nod x hmem (by unfold vT;rw [c1,c2,c3];rfl)).symm⟩ (by omega) (by omega) (by omega)
  | true =>
  by_cases c4:x.on+1440<x.hi
  ·exact yUW ldD lx ld0 (cin c1) (cin c2) (cin c3) ⟨hN2,(nod x hmem (by unfold vT;rw [c1,c2,c3,decide_eq_true c4];rfl)).symm⟩ (by omega) (by omega) (by omega) (by omega) c4
  cases c5:inB x.route 0 15 with
  | false=>exact yUU ldD lx ld0 (cin c1) (cin c2) (cin c3) (cin c5) ⟨hN2,(nod x hmem (by unfold vT;rw [c1,c2,c3,decide_eq_false c4,c5];rfl)).symm⟩ (by omega) (by omega) (by omega) (by omega) c4
  | true=>exact yUV ldD lx ld0 (cin c1) (cin c2) (cin c3) (cin c5) ⟨k-1,by omega,hN2,j+1,by omega,by omega,zQY hx ha (by unfold vT;rw [c1,c2,c3,decide_eq_false c4,c5];rfl)⟩ (by omega) (by omega) (by omega) (by omega) c4 (by omega)
 ·obtain ⟨hN1,hdu⟩:=h;refine yIV (Pr:=fun n τ=>New Z1 τ/\n=xF w) (P2:=fun τ=>New Z1 τ/\w.drivers.all (zAJ w)=true)
   (yIW (Inv:=fun k i τ=>New Z1 τ/\∃ j:Nat,i=j/\j+k=m/\(w.drivers.take j).all (zAJ w)=true) ?_ m 0 _ ⟨hN1,0,rfl,by omega,rfl⟩)
   (fun n τ h=>yIS ⟨by rw [h.2],lw1 h.1⟩) (fun τ h=>yIT ⟨by rw [hf0,hh,hdu,h.2];rfl,lw1 h.1⟩)
  rintro k i τ ⟨hN,j,rfl,hk,ha⟩;have ldV:zB Tryz.prog τ 23 ⟨Z.re.y,2,none⟩=some (.slice q m d):=(hW hN.le).ld zEX rfl;by_cases hj:j<m;rotate_left
  ·exact yUI ldV ⟨hN,by rwa [List.take_of_length_le (by omega)] at ha⟩ (by omega)
  have LL:=L1.trans hN.le;obtain ⟨vs,hv1,hv2,hv3⟩:=hwp.drv;obtain ⟨qa,rfl,_⟩:=hv1.some hj;have hx:w.drivers[j]?=some w.drivers[j]:=by simp
  obtain ⟨x,hxe⟩:∃ x,x=w.drivers[j]:=⟨_,rfl⟩;rw [<- hxe] at hx;obtain ⟨v,g1,p',l',c',r',n',d',s',j',e',rfl,hkn,hlv,hws⟩:=hv3 j _ hx;have lx:zB Tryz.prog τ 76 (zL qa (Int.toNat (j:Int)*6))=some (.agg ⟨zN p' l' c' r' n' d' s' j' e' x.off x.row x.used⟩):=(hv1.le LL).at rfl g1;have hmem:=List.mem_of_getElem? hx;have hsx:=hsh x hmem;have hN2:New Z1 ((τ.row (zN none 0 0 none 0 0 none 0 0 0 0 0) 6).own τ.y (zN p' l' c' r' n' d' s' j' e' x.off x.row x.used) 6):=hN.row'.own hN.le.y;have L2:=L1.trans hN2.le;have ld0:zB Tryz.prog ((τ.row (zN none 0 0 none 0 0 none 0 0 0 0 0) 6).own τ.y (zN p' l' c' r' n' d' s' j' e' x.off x.row x.used) 6) 3 ⟨Z.re.y,0,none⟩=some (iV w.days):=(hW hN2.le).ld zU rfl;have ld5:zB Tryz.prog ((τ.row (zN none 0 0 none 0 0 none 0 0 0 0 0) 6).own τ.y (zN p' l' c' r' n' d' s' j' e' x.off x.row x.used) 6) 3 ⟨Z.re.y,5,none⟩=some (iV w.hours):=(hW hN2.le).ld zU rfl;have k1:=zYI (c:=c') (lo:=0) (hi:=15) (SlV.le hkn L2) (by have:=hkn.len;omega);have k2:=zYI (c:=d') (lo:=0) (hi:=w.days-1) (SlV.le hlv L2) (by have:=hlv.len;omega);have k3:=zYI (c:=e') (lo:=0) (hi:=w.days-1) (SlV.le hws L2) (by have:=hws.len;omega);cases c1:wK x.knows 0 15 with
  | false=>rw [c1] at k1;exact yUJ ldV lx k1 ⟨hN2,(nov x hmem (by unfold zAJ;rw [c1];rfl)).symm⟩ (by omega) (by omega)
  | true =>
  cases c2:wK x.leave 0 (w.days-1) with
  | false=>rw [c1] at k1;rw [c2] at k2;exact yUK ldV lx k1 ld0 k2 ⟨hN2,(nov x hmem (by unfold zAJ;rw [c1,c2];rfl)).symm⟩ (by omega) (by omega) (by omega)
  | true =>
  cases c3:wK x.wish 0 (w.days-1) with
  | false=>rw [c1] at k1;rw [c2] at k2;rw [c3] at k3;exact yUL ldV lx k1 ld0 k2 k3 ⟨hN2,(nov x hmem (by unfold zAJ;rw [c1,c2,c3];rfl)).symm⟩ (by omega) (by omega) (by omega)
  | true =>
  rw [c1] at k1;rw [c2] at k2;rw [c3] at k3;cases c4:inB x.off (-10080) 1440 with
  | false=>exact yUM ldV lx k1 ld0 k2 k3 (cin c4) ⟨hN2,(nov x hmem (by unfold zAJ;rw [c1,c2,c3,c4];rfl)).symm⟩ (by omega) (by omega) (by omega)
  | true =>
  cases c5:inB x.row 0 14 with
  | false=>exact yUN ldV lx k1 ld0 k2 k3 (cin c4) (cin c5) ⟨hN2,(nov x hmem (by unfold zAJ;rw [c1,c2,c3,c4,c5];rfl)).symm⟩ (by omega) (by omega) (by omega)
  | true =>
  cases c6:inB x.used 0 w.hours with
  | false=>exact yUO ldV lx k1 ld0 k2 k3 (cin c4) (cin c5) ld5 (cin c6) ⟨hN2,(nov x hmem (by unfold zAJ;rw [c1,c2,c3,c4,c5,c6];rfl)).symm⟩ (by omega) (by omega) (by omega)
  | true=>exact yUP ldV lx k1 ld0 k2 k3 (cin c4) (cin c5) ld5 (cin c6) ⟨k-1,by omega,hN2,j+1,by omega,by omega,zQY hx ha (by unfold zAJ;rw [c1,c2,c3,c4,c5,c6];rfl)⟩ (by omega) (by omega) (by omega) (by omega)
end
section
noncomputable section
variable (s:oAa) (s_l s_c:Nat) (f:FuncId) (v:Int) (f_a f_c:lVa) (q0:St->Prop) (Q:Int->St->Prop) (bI aG:Int) (Z:St) (Nx Qr:Int->St->Prop) (q2:vPa) (Q0:St->Prop)
def xCI:Code:=(Code.part [1,0,1,0,0] (qh 87))
def zQH:lNa:=[(0,.slice s s_l s_c),(1,.func (.func f) ⟨f_a⟩ ⟨f_c⟩),(7,iV (s_l:Int)),(8,iV aG)]
def xOK:Alt:=⟨Int,.normal,fun t=>zQH s s_l s_c f f_a f_c t,fun t=>[],fun t Z=>Q t Z⟩
def yGJ (s:oAa) (s_l s_c:Nat) (f:FuncId) (f_a f_c:lVa) (bI:Int):lNa:=[(4,iV bI)]
def zSM:Alt:=⟨Int,.ret,fun t=>yGJ s s_l s_c f f_a f_c t,fun t=>[],fun t Z=>Q t Z⟩
def yGK (s:oAa) (s_l s_c:Nat) (f:FuncId) (f_a f_c:lVa):lNa:=[]
def zSN:Alt:=⟨Unit,(.exit 0),fun t=>yGK s s_l s_c f f_a f_c,fun t=>[],fun t Z=>q0 Z⟩
def zWX:Prop:=qi qj none xCI 19 (zQH s s_l s_c f f_a f_c aG) [] [xOK s s_l s_c f f_a f_c Nx,zSM s s_l s_c f f_a f_c Qr,zSN s s_l s_c f f_a f_c Q0] Z
def xCJ:Prop:=qk qj none xCI 19 (zQH s s_l s_c f f_a f_c aG) [] [zSM s s_l s_c f f_a f_c Qr,zSN s s_l s_c f f_a f_c Q0] Z
def yGL:Prop:=kZ qj (qh 87) [1,0,1,0] (ql 87 q2) .ret 19 (yGJ s s_l s_c f f_a f_c bI) Z
def yGM:Prop:=kZ qj (qh 87) [1,0,1,0] (ql 87 q2) (.exit 0) 19 (yGK s s_l s_c f f_a f_c) Z
def xCB:Code:=(Code.part [1,0,1,0,0] (qh 88))
def zQE:lNa:=[(0,.slice s s_l s_c),(1,.func (.func f) ⟨f_a⟩ ⟨f_c⟩),(7,iV (s_l:Int)),(8,iV aG)]
def xNZ:Alt:=⟨Int,.normal,fun t=>zQE s s_l s_c f f_a f_c t,fun t=>[],fun t Z=>Q t Z⟩
def yFX (s:oAa) (s_l s_c:Nat) (f:FuncId) (f_a f_c:lVa) (bI:Int):lNa:=[(4,iV bI)]
def zSF:Alt:=⟨Int,.ret,fun t=>yFX s s_l s_c f f_a f_c t,fun t=>[],fun t Z=>Q t Z⟩
def yFY (s:oAa) (s_l s_c:Nat) (f:FuncId) (f_a f_c:lVa):lNa:=[]
def zSG:Alt:=⟨Unit,(.exit 0),fun t=>yFY s s_l s_c f f_a f_c,fun t=>[],fun t Z=>q0 Z⟩
def zWU:Prop:=qi qj none xCB 19 (zQE s s_l s_c f f_a f_c aG) [] [xNZ s s_l s_c f f_a f_c Nx,zSF s s_l s_c f f_a f_c Qr,zSG s s_l s_c f f_a f_c Q0] Z
def xCC:Prop:=qk qj none xCB 19 (zQE s s_l s_c f f_a f_c aG) [] [zSF s s_l s_c f f_a f_c Qr,zSG s s_l s_c f f_a f_c Q0] Z
def yFZ:Prop:=kZ qj (qh 88) [1,0,1,0] (ql 88 q2) .ret 19 (yFX s s_l s_c f f_a f_c bI) Z
def yGA:Prop:=kZ qj (qh 88) [1,0,1,0] (ql 88 q2) (.exit 0) 19 (yFY s s_l s_c f f_a f_c) Z
def xCG:Code:=(Code.part [1,0,1,0,0] (qh 105))
def zQG:lNa:=[(0,.slice s s_l s_c),(1,.func (.func f) ⟨[]⟩ ⟨f_c⟩),(7,iV (s_l:Int)),(8,iV aG)]
def xOG:Alt:=⟨Int,.normal,fun t=>zQG s s_l s_c f f_c t,fun t=>[],fun t Z=>Q t Z⟩
def yGF (s:oAa) (s_l s_c:Nat) (f:FuncId) (f_c:lVa) (bI:Int):lNa:=[(4,iV bI)]
def zSK:Alt:=⟨Int,.ret,fun t=>yGF s s_l s_c f f_c t,fun t=>[],fun t Z=>Q t Z⟩
def yGG (s:oAa) (s_l s_c:Nat) (f:FuncId) (f_c:lVa):lNa:=[]
def zSL:Alt:=⟨Unit,(.exit 0),fun t=>yGG s s_l s_c f f_c,fun t=>[],fun t Z=>q0 Z⟩
def zWW:Prop:=qi qj none xCG 19 (zQG s s_l s_c f f_c aG) [] [xOG s s_l s_c f f_c Nx,zSK s s_l s_c f f_c Qr,zSL s s_l s_c f f_c Q0] Z
def xCH:Prop:=qk qj none xCG 19 (zQG s s_l s_c f f_c aG) [] [zSK s s_l s_c f f_c Qr,zSL s s_l s_c f f_c Q0] Z
def yGH:Prop:=kZ qj (qh 105) [1,0,1,0] (ql 105 q2) .ret 19 (yGF s s_l s_c f f_c bI) Z
def yGI:Prop:=kZ qj (qh 105) [1,0,1,0] (ql 105 q2) (.exit 0) 19 (yGG s s_l s_c f f_c) Z
def yPO:Code:=(Code.part [1,0,1,0,0] (qh 83))
def zKE:lNa:=[(0,.slice s s_l s_c),(1,iV v),(7,iV (s_l:Int)),(8,iV aG)]
def xGS:Alt:=⟨Int,.normal,fun t=>zKE s s_l s_c v t,fun t=>[],fun t Z=>Q t Z⟩
def zZY (s:oAa) (s_l s_c:Nat) (v bI:Int):lNa:=[(4,iV bI)]
def zOC:Alt:=⟨Int,.ret,fun t=>zZY s s_l s_c v t,fun t=>[],fun t Z=>Q t Z⟩
def zZZ (s:oAa) (s_l s_c:Nat) (v:Int):lNa:=[]
def zOD:Alt:=⟨Unit,(.exit 0),fun t=>zZZ s s_l s_c v,fun t=>[],fun t Z=>q0 Z⟩
def zQD:Prop:=qi qj none yPO 19 (zKE s s_l s_c v aG) [] [xGS s s_l s_c v Nx,zOC s s_l s_c v Qr,zOD s s_l s_c v Q0] Z
def yPP:Prop:=qk qj none yPO 19 (zKE s s_l s_c v aG) [] [zOC s s_l s_c v Qr,zOD s s_l s_c v Q0] Z
def yAA:Prop:=kZ qj (qh 83) [1,0,1,0] (ql 83 q2) .ret 19 (zZY s s_l s_c v bI) Z
def yAB:Prop:=kZ qj (qh 83) [1,0,1,0] (ql 83 q2) (.exit 0) 19 (zZZ s s_l s_c v) Z
end
variable {s dL dK eh l qD qE qF af ae aR aY bi q1:oAa} {s_l s_c ce cf bY bZ dc dd l_l l_c lB cE lG cF lH cG ac ad aa ab aJ aK aL aM aO aP l1 c1:Nat} {f f1 right:FuncId} {f_c f_a dU f1_a bJ dj:lVa} {n1 eV fM df dg dJ eU eS eA aG nF nG nD nB nA bI nE ak am au aj aC aN az aA aF bK bL bz x n v:Int} {Z:St} {Q:vPa} {v0 s_a:Addr} {Inv:Nat->Int->St->Prop} {Qr Nx Pr:Int->St->Prop} {Q0 P0:St->Prop} {b3 b6 b2 b1:Bool}
theorem xVF (h1:qm 87 [.slice s s_l s_c,.func (.func f) ⟨f_a⟩ ⟨f_c⟩] Z (iV n1) Z) (nx:Q (.bool true) Z) (u1:0<=n1:=by omega):qg 67 [.slice s s_l s_c,.func (.func f) ⟨f_a⟩ ⟨f_c⟩] Z Q :=
 zH [.g,.g,.g,.c (iV n1) Z,.b true,.g] (kd (an2 h1 (yE u1) nx))
theorem xVE (h1:qm 87 [.slice s s_l s_c,.func (.func f) ⟨f_a⟩ ⟨f_c⟩] Z (iV n1) Z) (nx:Q (.bool false) Z) (u1:¬ 0<=n1:=by omega):qg 67 [.slice s s_l s_c,.func (.func f) ⟨f_a⟩ ⟨f_c⟩] Z Q :=
 zH [.g,.g,.g,.c (iV n1) Z,.b false,.g] (kd (an2 h1 (yG u1) nx))
theorem xQT:let s1:=Z.row (zF eV fM df dg dJ) 5;∀ (h1:lz s1 86 v0 (.func (.func f1) ⟨f1_a⟩ ⟨dU⟩)) (h2:qm f1 (f1_a ++ (qf (zF eV fM df dg dJ)::dU)) s1 (.bool true) s1) (nx:Q (.bool false) s1),qg 68 [qf (zF eV fM df dg dJ),pz v0] Z Q:=
 let s1:=Z.row (zF eV fM df dg dJ) 5;fun h1 h2 nx=>zH [.g,.g,.l (.func (.func f1) ⟨f1_a⟩ ⟨dU⟩),.l (qf (zF eV fM df dg dJ)),.c (.bool true) s1,.g,.g] (kd (an3 h1 ((zC _ _ _).rw.ldN zNA vY (k:=0) rfl rfl (nle rfl):lz s1 85 (qe Z.y 0) (qf (zF eV fM df dg dJ))) h2 nx))
theorem xQS:let s1:=Z.row (zF eV fM df dg dJ) 5;∀ (h1:lz s1 86 v0 (.func (.func f1) ⟨f1_a⟩ ⟨dU⟩)) (h2:qm f1 (f1_a ++ (qf (zF eV fM df dg dJ)::dU)) s1 (.bool false) s1) (nx:Q (.bool true) s1),qg 68 [qf (zF eV fM df dg dJ),pz v0] Z Q:=
 let s1:=Z.row (zF eV fM df dg dJ) 5;fun h1 h2 nx=>zH [.g,.g,.l (.func (.func f1) ⟨f1_a⟩ ⟨dU⟩),.l (qf (zF eV fM df dg dJ)),.c (.bool false) s1,.g,.g] (kd (an3 h1 ((zC _ _ _).rw.ldN zNA vY (k:=0) rfl rfl (nle rfl):lz s1 85 (qe Z.y 0) (qf (zF eV fM df dg dJ))) h2 nx))
theorem xUX (h1:qm 88 [.slice s s_l s_c,.func (.func f) ⟨f_a⟩ ⟨f_c⟩] Z (iV n1) Z) (nx:Q (.bool true) Z) (u1:0<=n1:=by omega):qg 69 [.slice s s_l s_c,.func (.func f) ⟨f_a⟩ ⟨f_c⟩] Z Q :=
 zH [.g,.g,.g,.c (iV n1) Z,.b true,.g] (kd (an2 h1 (yE u1) nx))
theorem xUW (h1:qm 88 [.slice s s_l s_c,.func (.func f) ⟨f_a⟩ ⟨f_c⟩] Z (iV n1) Z) (nx:Q (.bool false) Z) (u1:¬ 0<=n1:=by omega):qg 69 [.slice s s_l s_c,.func (.func f) ⟨f_a⟩ ⟨f_c⟩] Z Q :=
 zH [.g,.g,.g,.c (iV n1) Z,.b false,.g] (kd (an2 h1 (yG u1) nx))
theorem xQN:let s1:=Z.row (zN dL ce cf dK bY bZ eh dc dd eU eS eA) 6;∀ (h1:lz s1 89 v0 (.func (.func f1) ⟨f1_a⟩ ⟨dU⟩)) (h2:qm f1 (f1_a ++ (qf (zN dL ce cf dK bY bZ eh dc dd eU eS eA)::dU)) s1 (.bool true) s1) (nx:Q (.bool false) s1),qg 70 [qf (zN dL ce cf dK bY bZ eh dc dd eU eS eA),pz v0] Z Q:=
 let s1:=Z.row (zN dL ce cf dK bY bZ eh dc dd eU eS eA) 6;fun h1 h2 nx=>zH [.g,.g,.l (.func (.func f1) ⟨f1_a⟩ ⟨dU⟩),.l (qf (zN dL ce cf dK bY bZ eh dc dd eU eS eA)),.c (.bool true) s1,.g,.g] (kd (an3 h1 ((zC _ _ _).rw.ldN yHL zFD (k:=0) rfl rfl (nle rfl):lz s1 88 (qe Z.y 0) (qf (zN dL ce cf dK bY bZ eh dc dd eU eS eA))) h2 nx))
theorem xQM:let s1:=Z.row (zN dL ce cf dK bY bZ eh dc dd eU eS eA) 6;∀ (h1:lz s1 89 v0 (.func (.func f1) ⟨f1_a⟩ ⟨dU⟩)) (h2:qm f1 (f1_a ++ (qf (zN dL ce cf dK bY bZ eh dc dd eU eS eA)::dU)) s1 (.bool false) s1) (nx:Q (.bool true) s1),qg 70 [qf (zN dL ce cf dK bY bZ eh dc dd eU eS eA),pz v0] Z Q:=
 let s1:=Z.row (zN dL ce cf dK bY bZ eh dc dd eU eS eA) 6;fun h1 h2 nx=>zH [.g,.g,.l (.func (.func f1) ⟨f1_a⟩ ⟨dU⟩),.l (qf (zN dL ce cf dK bY bZ eh dc dd eU eS eA)),.c (.bool false) s1,.g,.g] (kd (an3 h1 ((zC _ _ _).rw.ldN yHL zFD (k:=0) rfl rfl (nle rfl):lz s1 88 (qe Z.y 0) (qf (zN dL ce cf dK bY bZ eh dc dd eU eS eA))) h2 nx))
theorem xWC:let Y1:=Z.row [.func (.func right) ⟨dj⟩ ⟨bJ⟩] 1;∀ (h1:qm 67 [.slice l l_l l_c,.func (.func 68) ⟨[]⟩ ⟨[pt Z.y 0]⟩] Y1 (.bool true) Y1) (nx:Q (.bool false) Y1),qg 48 [.slice l l_l l_c,.func (.func right) ⟨dj⟩ ⟨bJ⟩] Z Q:=
 fun h1 nx=>zH [.g,.g,.g,.g,.c (.bool true) (Z.row [.func (.func right) ⟨dj⟩ ⟨bJ⟩] 1),.g,.g] (kd (ai h1 nx))
theorem xWB:let Y1:=Z.row [.func (.func right) ⟨dj⟩ ⟨bJ⟩] 1;∀ (h1:qm 67 [.slice l l_l l_c,.func (.func 68) ⟨[]⟩ ⟨[pt Z.y 0]⟩] Y1 (.bool false) Y1) (nx:Q (.bool true) Y1),qg 48 [.slice l l_l l_c,.func (.func right) ⟨dj⟩ ⟨bJ⟩] Z Q:=
 fun h1 nx=>zH [.g,.g,.g,.g,.c (.bool false) (Z.row [.func (.func right) ⟨dj⟩ ⟨bJ⟩] 1),.g,.g] (kd (ai h1 nx))
theorem xVU:let Y1:=Z.row [.func (.func right) ⟨dj⟩ ⟨bJ⟩] 1;∀ (h1:qm 69 [.slice l l_l l_c,.func (.func 70) ⟨[]⟩ ⟨[pt Z.y 0]⟩] Y1 (.bool true) Y1) (nx:Q (.bool false) Y1),qg 50 [.slice l l_l l_c,.func (.func right) ⟨dj⟩ ⟨bJ⟩] Z Q:=
 fun h1 nx=>zH [.g,.g,.g,.g,.c (.bool true) (Z.row [.func (.func right) ⟨dj⟩ ⟨bJ⟩] 1),.g,.g] (kd (ai h1 nx))
theorem xVT:let Y1:=Z.row [.func (.func right) ⟨dj⟩ ⟨bJ⟩] 1;∀ (h1:qm 69 [.slice l l_l l_c,.func (.func 70) ⟨[]⟩ ⟨[pt Z.y 0]⟩] Y1 (.bool false) Y1) (nx:Q (.bool true) Y1),qg 50 [.slice l l_l l_c,.func (.func right) ⟨dj⟩ ⟨bJ⟩] Z Q:=
 fun h1 nx=>zH [.g,.g,.g,.g,.c (.bool false) (Z.row [.func (.func right) ⟨dj⟩ ⟨bJ⟩] 1),.g,.g] (kd (ai h1 nx))
theorem yXL (hb:∀ k aG Z,Inv k aG Z->zWX s s_l s_c f f_a f_c aG Z (NX1 Inv k) Qr Q0):∀ k aG Z,Inv k aG Z->xCJ s s_l s_c f f_a f_c aG Z Qr Q0 :=
 xC (ai uQ (ai (xY 0) trivial)) hb
theorem xOJ (h1:lz Z 85 (zL s_a (Int.toNat aG*5)) (qf (zF nF nG nD nB nA))) (h2:qm f (f_a ++ (qf (zF nF nG nD nB nA)::f_c)) Z (.bool true) Z) (nx:Qr aG Z) (u1:aG<(s_l:Int):=by omega) (u2:Ix aG s_l:=by omega):zWX (some s_a) s_l s_c f f_a f_c aG Z Nx Qr Q0 :=
 kO 1 aG [.b true,.g,.g,.g,.g,.g,.i,.l (qf (zF nF nG nD nB nA)),.c (.bool true) Z,.g,.g] (fun _ f=>an4 (zR u1) u2 h1 h2 f) nx
theorem xOI (h1:lz Z 85 (zL s_a (Int.toNat aG*5)) (qf (zF nF nG nD nB nA))) (h2:qm f (f_a ++ (qf (zF nF nG nD nB nA)::f_c)) Z (.bool false) Z) (nx:Nx (aG+1) Z) (u1:aG<(s_l:Int):=by omega) (u2:Ix aG s_l:=by omega) (u3:I6 (aG+1):=by omega):zWX (some s_a) s_l s_c f f_a f_c aG Z Nx Qr Q0 :=
 kO 0 (aG+1) [.b true,.g,.g,.g,.g,.g,.i,.l (qf (zF nF nG nD nB nA)),.c (.bool false) Z,.n (aG+1),.g] (fun _ f=>an5 (zR u1) u2 h1 h2 (w64 u3) f) nx
theorem xOH (nx:Q0 Z) (u1:¬ aG<(s_l:Int):=by omega):zWX s s_l s_c f f_a f_c aG Z Nx Qr Q0 :=
 kO 2 () [.b false] (fun _ f=>ai (zT u1) f) nx
theorem xUL (hL:xCJ s s_l s_c f f_a f_c 0 Z Pr P0) (kr:∀ i4_1' Z',Pr i4_1' Z'->yGL s s_l s_c f f_a f_c i4_1' Z' Q) (k0:∀ Z',P0 Z'->yGM s s_l s_c f f_a f_c Z' Q):qg 87 [.slice s s_l s_c,.func (.func f) ⟨f_a⟩ ⟨f_c⟩] Z Q :=
 zH [.g,.g,.g,.g,.lf 19 (zQH s s_l s_c f f_a f_c 0) [zSM s s_l s_c f f_a f_c Pr,zSN s s_l s_c f f_a f_c P0]] (kd (ai (ai tt (ai (arf (zQH s s_l s_c f f_a f_c 0)) hL)) (ai (kz1 kr) (ai (kz0 k0) trivial))))
theorem yXJ (nx:Q (iV bI) Z):yGL s s_l s_c f f_a f_c bI Z Q :=
 sK [] nx
theorem yXK (nx:Q (iV (-1)) Z):yGM s s_l s_c f f_a f_c Z Q :=
 sK [.g] nx
theorem yXD (hb:∀ k aG Z,Inv k aG Z->zWU s s_l s_c f f_a f_c aG Z (NX1 Inv k) Qr Q0):∀ k aG Z,Inv k aG Z->xCC s s_l s_c f f_a f_c aG Z Qr Q0 :=
 xC (ai uQ (ai (xY 0) trivial)) hb
theorem xNY (h1:lz Z 88 (zL s_a (Int.toNat aG*6)) (qf (zN qD lB cE qE lG cF qF lH cG nB nA nE))) (h2:qm f (f_a ++ (qf (zN qD lB cE qE lG cF qF lH cG nB nA nE)::f_c)) Z (.bool true) Z) (nx:Qr aG Z) (u1:aG<(s_l:Int):=by omega) (u2:Ix aG s_l:=by omega):zWU (some s_a) s_l s_c f f_a f_c aG Z Nx Qr Q0 :=
 kO 1 aG [.b true,.g,.g,.g,.g,.g,.i,.l (qf (zN qD lB cE qE lG cF qF lH cG nB nA nE)),.c (.bool true) Z,.g,.g] (fun _ f=>an4 (zR u1) u2 h1 h2 f) nx
theorem xNX (h1:lz Z 88 (zL s_a (Int.toNat aG*6)) (qf (zN qD lB cE qE lG cF qF lH cG nB nA nE))) (h2:qm f (f_a ++ (qf (zN qD lB cE qE lG cF qF lH cG nB nA nE)::f_c)) Z (.bool false) Z) (nx:Nx (aG+1) Z) (u1:aG<(s_l:Int):=by omega) (u2:Ix aG s_l:=by omega) (u3:I6 (aG+1):=by omega):zWU (some s_a) s_l s_c f f_a f_c aG Z Nx Qr Q0 :=
 kO 0 (aG+1) [.b true,.g,.g,.g,.g,.g,.i,.l (qf (zN qD lB cE qE lG cF qF lH cG nB nA nE)),.c (.bool false) Z,.n (aG+1),.g] (fun _ f=>an5 (zR u1) u2 h1 h2 (w64 u3) f) nx
theorem xNW (nx:Q0 Z) (u1:¬ aG<(s_l:Int):=by omega):zWU s s_l s_c f f_a f_c aG Z Nx Qr Q0 :=
 kO 2 () [.b false] (fun _ f=>ai (zT u1) f) nx
theorem xUJ (hL:xCC s s_l s_c f f_a f_c 0 Z Pr P0) (kr:∀ i4_1' Z',Pr i4_1' Z'->yFZ s s_l s_c f f_a f_c i4_1' Z' Q) (k0:∀ Z',P0 Z'->yGA s s_l s_c f f_a f_c Z' Q):qg 88 [.slice s s_l s_c,.func (.func f) ⟨f_a⟩ ⟨f_c⟩] Z Q :=
 zH [.g,.g,.g,.g,.lf 19 (zQE s s_l s_c f f_a f_c 0) [zSF s s_l s_c f f_a f_c Pr,zSG s s_l s_c f f_a f_c P0]] (kd (ai (ai tt (ai (arf (zQE s s_l s_c f f_a f_c 0)) hL)) (ai (kz1 kr) (ai (kz0 k0) trivial))))
theorem yXB (nx:Q (iV bI) Z):yFZ s s_l s_c f f_a f_c bI Z Q :=
 sK [] nx
theorem yXC (nx:Q (iV (-1)) Z):yGA s s_l s_c f f_a f_c Z Q :=
 sK [.g] nx
theorem xJF:let s1:=Z.row (wkc ak af ac ad ae aa ab am au aj) 6;let s2:=s1.row (zF aC aN az aA aF) 5;∀ (h1:qm 47 [iV aC,iV 0,iV (ak-1)] s2 (.bool true) s2) (h2:qm 47 [iV aN,iV 0,iV 1439] s2 (.bool true) s2) (h3:qm 47 [iV aF,iV 0,iV 15] s2 (.bool b3) s2) (nx:Q (.bool b3) s2) (u1:I6 (ak-1):=by omega) (u2:aN<=az:=by omega) (u3:az<=aA:=by omega) (u4:I6 (aN+1440):=by omega) (u5:aA<=(aN+1440):=by omega),qg 49 [qf (wkc ak af ac ad ae aa ab am au aj),qf (zF aC aN az aA aF)] Z Q:=
 let s1:=Z.row (wkc ak af ac ad ae aa ab am au aj) 6;let s2:=s1.row (zF aC aN az aA aF) 5;let s3:=Z.y+1;fun h1 h2 h3 nx u1 u2 u3 u4 u5=>zH [.g,.g,.g,.g,.l (iV aC),.g,.l (iV ak),.n (ak-1),.c (.bool true) s2,.g,.g,.l (iV aN),.c (.bool true) s2,.g,.g,.g,.l (iV aN),.g,.g,.l (iV az),.b true,.g,.g,.g,.g,.l (iV az),.g,.g,.l (iV aA),.b true,.g,.g,.g,.g,.l (iV aA),.g,.l (iV aN),.n (aN+1440),.b true,.g,.g,.g,.l (iV aF),.c (.bool b3) s2,.g,.g] (kd (an6 ((zC _ _ _).rw.ld zU (k:=0) rfl:lz s2 3 (qe s3 0) (iV aC)) ((zC _ _ _).row.rw.ld zU (k:=0) rfl:lz s2 3 (qe Z.y 0) (iV ak)) (w64 u1) h1 ((zC _ _ _).rw.ld zU (k:=1) rfl:lz s2 3 (qe s3 1) (iV aN)) h2 (an6 ((zC _ _ _).rw.ld zU (k:=1) rfl:lz s2 3 (qe s3 1) (iV aN)) ((zC _ _ _).rw.ld zU (k:=2) rfl:lz s2 3 (qe s3 2) (iV az)) (yE u2) ((zC _ _ _).rw.ld zU (k:=2) rfl:lz s2 3 (qe s3 2) (iV az)) ((zC _ _ _).rw.ld zU (k:=3) rfl:lz s2 3 (qe s3 3) (iV aA)) (yE u3) (an6 ((zC _ _ _).rw.ld zU (k:=3) rfl:lz s2 3 (qe s3 3) (iV aA)) ((zC _ _ _).rw.ld zU (k:=1) rfl:lz s2 3 (qe s3 1) (iV aN)) (w64 u4) (yE u5) ((zC _ _ _).rw.ld zU (k:=4) rfl:lz s2 3 (qe s3 4) (iV aF)) h3 nx))))
theorem xJE:let s1:=Z.row (wkc ak af ac ad ae aa ab am au aj) 6;let s2:=s1.row (zF aC aN az aA aF) 5;∀ (h1:qm 47 [iV aC,iV 0,iV (ak-1)] s2 (.bool true) s2) (h2:qm 47 [iV aN,iV 0,iV 1439] s2 (.bool true) s2) (nx:Q (.bool false) s2) (u1:I6 (ak-1):=by omega) (u2:aN<=az:=by omega) (u3:az<=aA:=by omega) (u4:I6 (aN+1440):=by omega) (u5:¬ aA<=(aN+1440):=by omega),qg 49 [qf (wkc ak af ac ad ae aa ab am au aj),qf (zF aC aN az aA aF)] Z Q:=
 let s1:=Z.row (wkc ak af ac ad ae aa ab am au aj) 6;let s2:=s1.row (zF aC aN az aA aF) 5;let s3:=Z.y+1;fun h1 h2 nx u1 u2 u3 u4 u5=>zH [.g,.g,.g,.g,.l (iV aC),.g,.l (iV ak),.n (ak-1),.c (.bool true) s2,.g,.g,.l (iV aN),.c (.bool true) s2,.g,.g,.g,.l (iV aN),.g,.g,.l (iV az),.b true,.g,.g,.g,.g,.l (iV az),.g,.g,.l (iV aA),.b true,.g,.g,.g,.g,.l (iV aA),.g,.l (iV aN),.n (aN+1440),.b false,.g,.g,.g,.g] (kd (an4 ((zC _ _ _).rw.ld zU (k:=0) rfl:lz s2 3 (qe s3 0) (iV aC)) ((zC _ _ _).row.rw.ld zU (k:=0) rfl:lz s2 3 (qe Z.y 0) (iV ak)) (w64 u1) h1 (an6 ((zC _ _ _).rw.ld zU (k:=1) rfl:lz s2 3 (qe s3 1) (iV aN)) h2 ((zC _ _ _).rw.ld zU (k:=1) rfl:lz s2 3 (qe s3 1) (iV aN)) ((zC _ _ _).rw.ld zU (k:=2) rfl:lz s2 3 (qe s3 2) (iV az)) (yE u2) ((zC _ _ _).rw.ld zU (k:=2) rfl:lz s2 3 (qe s3 2) (iV az)) (an6 ((zC _ _ _).rw.ld zU (k:=3) rfl:lz s2 3 (qe s3 3) (iV aA)) (yE u3) ((zC _ _ _).rw.ld zU (k:=3) rfl:lz s2 3 (qe s3 3) (iV aA)) ((zC _ _ _).rw.ld zU (k:=1) rfl:lz s2 3 (qe s3 1) (iV aN)) (w64 u4) (yG u5) nx))))
theorem xJD:let s1:=Z.row (wkc ak af ac ad ae aa ab am au aj) 6;let s2:=s1.row (zF aC aN az aA aF) 5;∀ (h1:qm 47 [iV aC,iV 0,iV (ak-1)] s2 (.bool true) s2) (h2:qm 47 [iV aN,iV 0,iV 1439] s2 (.bool true) s2) (nx:Q (.bool false) s2) (u1:I6 (ak-1):=by omega) (u2:aN<=az:=by omega) (u3:¬ az<=aA:=by omega),qg 49 [qf (wkc ak af ac ad ae aa ab am au aj),qf (zF aC aN az aA aF)] Z Q:=
 let s1:=Z.row (wkc ak af ac ad ae aa ab am au aj) 6;let s2:=s1.row (zF aC aN az aA aF) 5;let s3:=Z.y+1;fun h1 h2 nx u1 u2 u3=>zH [.g,.g,.g,.g,.l (iV aC),.g,.l (iV ak),.n (ak-1),.c (.bool true) s2,.g,.g,.l (iV aN),.c (.bool true) s2,.g,.g,.g,.l (iV aN),.g,.g,.l (iV az),.b true,.g,.g,.g,.g,.l (iV az),.g,.g,.l (iV aA),.b false,.g,.g,.g,.g,.g,.g] (kd (an6 ((zC _ _ _).rw.ld zU (k:=0) rfl:lz s2 3 (qe s3 0) (iV aC)) ((zC _ _ _).row.rw.ld zU (k:=0) rfl:lz s2 3 (qe Z.y 0) (iV ak)) (w64 u1) h1 ((zC _ _ _).rw.ld zU (k:=1) rfl:lz s2 3 (qe s3 1) (iV aN)) h2 (an6 ((zC _ _ _).rw.ld zU (k:=1) rfl:lz s2 3 (qe s3 1) (iV aN)) ((zC _ _ _).rw.ld zU (k:=2) rfl:lz s2 3 (qe s3 2) (iV az)) (yE u2) ((zC _ _ _).rw.ld zU (k:=2) rfl:lz s2 3 (qe s3 2) (iV az)) ((zC _ _ _).rw.ld zU (k:=3) rfl:lz s2 3 (qe s3 3) (iV aA)) (yG u3) nx)))
theorem xJC:let s1:=Z.row (wkc ak af ac ad ae aa ab am au aj) 6;let s2:=s1.row (zF aC aN az aA aF) 5;∀ (h1:qm 47 [iV aC,iV 0,iV (ak-1)] s2 (.bool true) s2) (h2:qm 47 [iV aN,iV 0,iV 1439] s2 (.bool true) s2) (nx:Q (.bool false) s2) (u1:I6 (ak-1):=by omega) (u2:¬ aN<=az:=by omega),qg 49 [qf (wkc ak af ac ad ae aa ab am au aj),qf (zF aC aN az aA aF)] Z Q:=
 let s1:=Z.row (wkc ak af ac ad ae aa ab am au aj) 6;let s2:=s1.row (zF aC aN az aA aF) 5;let s3:=Z.y+1;fun h1 h2 nx u1 u2=>zH [.g,.g,.g,.g,.l (iV aC),.g,.l (iV ak),.n (ak-1),.c (.bool true) s2,.g,.g,.l (iV aN),.c (.bool true) s2,.g,.g,.g,.l (iV aN),.g,.g,.l (iV az),.b false,.g,.g,.g,.g,.g,.g,.g,.g] (kd (an3 ((zC _ _ _).rw.ld zU (k:=0) rfl:lz s2 3 (qe s3 0) (iV aC)) ((zC _ _ _).row.rw.ld zU (k:=0) rfl:lz s2 3 (qe Z.y 0) (iV ak)) (w64 u1) (an6 h1 ((zC _ _ _).rw.ld zU (k:=1) rfl:lz s2 3 (qe s3 1) (iV aN)) h2 ((zC _ _ _).rw.ld zU (k:=1) rfl:lz s2 3 (qe s3 1) (iV aN)) ((zC _ _ _).rw.ld zU (k:=2) rfl:lz s2 3 (qe s3 2) (iV az)) (yG u2) nx)))
theorem xJB:let s1:=Z.row (wkc ak af ac ad ae aa ab am au aj) 6;let s2:=s1.row (zF aC aN az aA aF) 5;∀ (h1:qm 47 [iV aC,iV 0,iV (ak-1)] s2 (.bool true) s2) (h2:qm 47 [iV aN,iV 0,iV 1439] s2 (.bool false) s2) (nx:Q (.bool false) s2) (u1:I6 (ak-1):=by omega),qg 49 [qf (wkc ak af ac ad ae aa ab am au aj),qf (zF aC aN az aA aF)] Z Q:=
 let s1:=Z.row (wkc ak af ac ad ae aa ab am au aj) 6;let s2:=s1.row (zF aC aN az aA aF) 5;fun h1 h2 nx u1=>zH [.g,.g,.g,.g,.l (iV aC),.g,.l (iV ak),.n (ak-1),.c (.bool true) s2,.g,.g,.l (iV aN),.c (.bool false) s2,.g,.g,.g,.g,.g,.g,.g,.g,.g,.g] (kd (an6 ((zC _ _ _).rw.ld zU (k:=0) rfl:lz s2 3 ⟨(Z.y+1),0,none⟩ (iV aC)) ((zC _ _ _).row.rw.ld zU (k:=0) rfl:lz s2 3 (qe Z.y 0) (iV ak)) (w64 u1) h1 ((zC _ _ _).rw.ld zU (k:=1) rfl:lz s2 3 ⟨(Z.y+1),1,none⟩ (iV aN)) h2 nx))
theorem xJA:let s1:=Z.row (wkc ak af ac ad ae aa ab am au aj) 6;let s2:=s1.row (zF aC aN az aA aF) 5;∀ (h1:qm 47 [iV aC,iV 0,iV (ak-1)] s2 (.bool false) s2) (nx:Q (.bool false) s2) (u1:I6 (ak-1):=by omega),qg 49 [qf (wkc ak af ac ad ae aa ab am au aj),qf (zF aC aN az aA aF)] Z Q:=
 let s1:=Z.row (wkc ak af ac ad ae aa ab am au aj) 6;let s2:=s1.row (zF aC aN az aA aF) 5;fun h1 nx u1=>zH [.g,.g,.g,.g,.l (iV aC),.g,.l (iV ak),.n (ak-1),.c (.bool false) s2,.g,.g,.g,.g,.g,.g,.g,.g,.g,.g,.g] (kd (an4 ((zC _ _ _).rw.ld zU (k:=0) rfl:lz s2 3 ⟨(Z.y+1),0,none⟩ (iV aC)) ((zC _ _ _).row.rw.ld zU (k:=0) rfl:lz s2 3 (qe Z.y 0) (iV ak)) (w64 u1) h1 nx))
theorem ySU:let s1:=Z.row (wkc ak af ac ad ae aa ab am au aj) 6;let s2:=s1.row (zN aR aJ aK aY aL aM bi aO aP bK bL bz) 6;∀ (h1:qm 71 [.slice aR aJ aK,iV 0,iV 15] s2 (.bool true) s2) (h2:qm 71 [.slice aY aL aM,iV 0,iV (ak-1)] s2 (.bool true) s2) (h3:qm 71 [.slice bi aO aP,iV 0,iV (ak-1)] s2 (.bool true) s2) (h4:qm 47 [iV bK,iV (-10080),iV 1440] s2 (.bool true) s2) (h5:qm 47 [iV bL,iV 0,iV 14] s2 (.bool true) s2) (h6:qm 47 [iV bz,iV 0,iV aj] s2 (.bool b6) s2) (nx:Q (.bool b6) s2) (u1:I6 (ak-1):=by omega),qg 51 [qf (wkc ak af ac ad ae aa ab am au aj),qf (zN aR aJ aK aY aL aM bi aO aP bK bL bz)] Z Q:=
 let s1:=Z.row (wkc ak af ac ad ae aa ab am au aj) 6;let s2:=s1.row (zN aR aJ aK aY aL aM bi aO aP bK bL bz) 6;let s3:=Z.y+1;fun h1 h2 h3 h4 h5 h6 nx u1=>zH [.g,.g,.g,.g,.l (.slice aR aJ aK),.c (.bool true) s2,.g,.g,.l (.slice aY aL aM),.g,.l (iV ak),.n (ak-1),.c (.bool true) s2,.g,.g,.g,.l (.slice bi aO aP),.g,.l (iV ak),.n (ak-1),.c (.bool true) s2,.g,.g,.g,.l (iV bK),.c (.bool true) s2,.g,.g,.g,.l (iV bL),.c (.bool true) s2,.g,.g,.g,.l (iV bz),.g,.l (iV aj),.c (.bool b6) s2,.g,.g] (kd (an5 ((zC _ _ _).rw.ld yT (k:=0) rfl:lz s2 26 (qe s3 0) (.slice aR aJ aK)) h1 ((zC _ _ _).rw.ld yT (k:=1) rfl:lz s2 26 (qe s3 1) (.slice aY aL aM)) ((zC _ _ _).row.rw.ld zU (k:=0) rfl:lz s2 3 (qe Z.y 0) (iV ak)) (w64 u1) (an6 h2 ((zC _ _ _).rw.ld yT (k:=2) rfl:lz s2 26 (qe s3 2) (.slice bi aO aP)) ((zC _ _ _).row.rw.ld zU (k:=0) rfl:lz s2 3 (qe Z.y 0) (iV ak)) (w64 u1) h3 ((zC _ _ _).rw.ld zU (k:=3) rfl:lz s2 3 (qe s3 3) (iV bK)) (an6 h4 ((zC _ _ _).rw.ld zU (k:=4) rfl:lz s2 3 (qe s3 4) (iV bL)) h5 ((zC _ _ _).rw.ld zU (k:=5) rfl:lz s2 3 (qe s3 5) (iV bz)) ((zC _ _ _).row.rw.ld zU (k:=5) rfl:lz s2 3 (qe Z.y 5) (iV aj)) h6 nx))))
theorem yST:let s1:=Z.row (wkc ak af ac ad ae aa ab am au aj) 6;let s2:=s1.row (zN aR aJ aK aY aL aM bi aO aP bK bL bz) 6;∀ (h1:qm 71 [.slice aR aJ aK,iV 0,iV 15] s2 (.bool true) s2) (h2:qm 71 [.slice aY aL aM,iV 0,iV (ak-1)] s2 (.bool true) s2) (h3:qm 71 [.slice bi aO aP,iV 0,iV (ak-1)] s2 (.bool true) s2) (h4:qm 47 [iV bK,iV (-10080),iV 1440] s2 (.bool true) s2) (h5:qm 47 [iV bL,iV 0,iV 14] s2 (.bool false) s2) (nx:Q (.bool false) s2) (u1:I6 (ak-1):=by omega),qg 51 [qf (wkc ak af ac ad ae aa ab am au aj),qf (zN aR aJ aK aY aL aM bi aO aP bK bL bz)] Z Q:=
 let s1:=Z.row (wkc ak af ac ad ae aa ab am au aj) 6;let s2:=s1.row (zN aR aJ aK aY aL aM bi aO aP bK bL bz) 6;let s3:=Z.y+1;fun h1 h2 h3 h4 h5 nx u1=>zH [.g,.g,.g,.g,.l (.slice aR aJ aK),.c (.bool true) s2,.g,.g,.l (.slice aY aL aM),.g,.l (iV ak),.n (ak-1),.c (.bool true) s2,.g,.g,.g,.l (.slice bi aO aP),.g,.l (iV ak),.n (ak-1),.c (.bool true) s2,.g,.g,.g,.l (iV bK),.c (.bool true) s2,.g,.g,.g,.l (iV bL),.c (.bool false) s2,.g,.g,.g,.g] (kd (an2 ((zC _ _ _).rw.ld yT (k:=0) rfl:lz s2 26 (qe s3 0) (.slice aR aJ aK)) h1 (an6 ((zC _ _ _).rw.ld yT (k:=1) rfl:lz s2 26 (qe s3 1) (.slice aY aL aM)) ((zC _ _ _).row.rw.ld zU (k:=0) rfl:lz s2 3 (qe Z.y 0) (iV ak)) (w64 u1) h2 ((zC _ _ _).rw.ld yT (k:=2) rfl:lz s2 26 (qe s3 2) (.slice bi aO aP)) ((zC _ _ _).row.rw.ld zU (k:=0) rfl:lz s2 3 (qe Z.y 0) (iV ak)) (an6 (w64 u1) h3 ((zC _ _ _).rw.ld zU (k:=3) rfl:lz s2 3 (qe s3 3) (iV bK)) h4 ((zC _ _ _).rw.ld zU (k:=4) rfl:lz s2 3 (qe s3 4) (iV bL)) h5 nx))))
theorem ySS:let s1:=Z.row (wkc ak af ac ad ae aa ab am au aj) 6;let s2:=s1.row (zN aR aJ aK aY aL aM bi aO aP bK bL bz) 6;∀ (h1:qm 71 [.slice aR aJ aK,iV 0,iV 15] s2 (.bool true) s2) (h2:qm 71 [.slice aY aL aM,iV 0,iV (ak-1)] s2 (.bool true) s2) (h3:qm 71 [.slice bi aO aP,iV 0,iV (ak-1)] s2 (.bool true) s2) (h4:qm 47 [iV bK,iV (-10080),iV 1440] s2 (.bool false) s2) (nx:Q (.bool false) s2) (u1:I6 (ak-1):=by omega),qg 51 [qf (wkc ak af ac ad ae aa ab am au aj),qf (zN aR aJ aK aY aL aM bi aO aP bK bL bz)] Z Q:=
 let s1:=Z.row (wkc ak af ac ad ae aa ab am au aj) 6;let s2:=s1.row (zN aR aJ aK aY aL aM bi aO aP bK bL bz) 6;let s3:=Z.y+1;fun h1 h2 h3 h4 nx u1=>zH [.g,.g,.g,.g,.l (.slice aR aJ aK),.c (.bool true) s2,.g,.g,.l (.slice aY aL aM),.g,.l (iV ak),.n (ak-1),.c (.bool true) s2,.g,.g,.g,.l (.slice bi aO aP),.g,.l (iV ak),.n (ak-1),.c (.bool true) s2,.g,.g,.g,.l (iV bK),.c (.bool false) s2,.g,.g,.g,.g,.g,.g] (kd (an6 ((zC _ _ _).rw.ld yT (k:=0) rfl:lz s2 26 (qe s3 0) (.slice aR aJ aK)) h1 ((zC _ _ _).rw.ld yT (k:=1) rfl:lz s2 26 (qe s3 1) (.slice aY aL aM)) ((zC _ _ _).row.rw.ld zU (k:=0) rfl:lz s2 3 (qe Z.y 0) (iV ak)) (w64 u1) h2 (an6 ((zC _ _ _).rw.ld yT (k:=2) rfl:lz s2 26 (qe s3 2) (.slice bi aO aP)) ((zC _ _ _).row.rw.ld zU (k:=0) rfl:lz s2 3 (qe Z.y 0) (iV ak)) (w64 u1) h3 ((zC _ _ _).rw.ld zU (k:=3) rfl:lz s2 3 (qe s3 3) (iV bK)) h4 nx)))
theorem ySR:let s1:=Z.row (wkc ak af ac ad ae aa ab am au aj) 6;let s2:=s1.row (zN aR aJ aK aY aL aM bi aO aP bK bL bz) 6;∀ (h1:qm 71 [.slice aR aJ aK,iV 0,iV 15] s2 (.bool true) s2) (h2:qm 71 [.slice aY aL aM,iV 0,iV (ak-1)] s2 (.bool true) s2) (h3:qm 71 [.slice bi aO aP,iV 0,iV (ak-1)] s2 (.bool false) s2) (nx:Q (.bool false) s2) (u1:I6 (ak-1):=by omega),qg 51 [qf (wkc ak af ac ad ae aa ab am au aj),qf (zN aR aJ aK aY aL aM bi aO aP bK bL bz)] Z Q:=
 let s1:=Z.row (wkc ak af ac ad ae aa ab am au aj) 6;let s2:=s1.row (zN aR aJ aK aY aL aM bi aO aP bK bL bz) 6;let s3:=Z.y+1;fun h1 h2 h3 nx u1=>zH [.g,.g,.g,.g,.l (.slice aR aJ aK),.c (.bool true) s2,.g,.g,.l (.slice aY aL aM),.g,.l (iV ak),.n (ak-1),.c (.bool true) s2,.g,.g,.g,.l (.slice bi aO aP),.g,.l (iV ak),.n (ak-1),.c (.bool false) s2,.g,.g,.g,.g,.g,.g,.g,.g] (kd (an4 ((zC _ _ _).rw.ld yT (k:=0) rfl:lz s2 26 (qe s3 0) (.slice aR aJ aK)) h1 ((zC _ _ _).rw.ld yT (k:=1) rfl:lz s2 26 (qe s3 1) (.slice aY aL aM)) ((zC _ _ _).row.rw.ld zU (k:=0) rfl:lz s2 3 (qe Z.y 0) (iV ak)) (an6 (w64 u1) h2 ((zC _ _ _).rw.ld yT (k:=2) rfl:lz s2 26 (qe s3 2) (.slice bi aO aP)) ((zC _ _ _).row.rw.ld zU (k:=0) rfl:lz s2 3 (qe Z.y 0) (iV ak)) (w64 u1) h3 nx)))
theorem ySQ:let s1:=Z.row (wkc ak af ac ad ae aa ab am au aj) 6;let s2:=s1.row (zN aR aJ aK aY aL aM bi aO aP bK bL bz) 6;∀ (h1:qm 71 [.slice aR aJ aK,iV 0,iV 15] s2 (.bool true) s2) (h2:qm 71 [.slice aY aL aM,iV 0,iV (ak-1)] s2 (.bool false) s2) (nx:Q (.bool false) s2) (u1:I6 (ak-1):=by omega),qg 51 [qf (wkc ak af ac ad ae aa ab am au aj),qf (zN aR aJ aK aY aL aM bi aO aP bK bL bz)] Z Q:=
 let s1:=Z.row (wkc ak af ac ad ae aa ab am au aj) 6;let s2:=s1.row (zN aR aJ aK aY aL aM bi aO aP bK bL bz) 6;fun h1 h2 nx u1=>zH [.g,.g,.g,.g,.l (.slice aR aJ aK),.c (.bool true) s2,.g,.g,.l (.slice aY aL aM),.g,.l (iV ak),.n (ak-1),.c (.bool false) s2,.g,.g,.g,.g,.g,.g,.g,.g,.g,.g] (kd (an6 ((zC _ _ _).rw.ld yT (k:=0) rfl:lz s2 26 ⟨(Z.y+1),0,none⟩ (.slice aR aJ aK)) h1 ((zC _ _ _).rw.ld yT (k:=1) rfl:lz s2 26 ⟨(Z.y+1),1,none⟩ (.slice aY aL aM)) ((zC _ _ _).row.rw.ld zU (k:=0) rfl:lz s2 3 (qe Z.y 0) (iV ak)) (w64 u1) h2 nx))
theorem ySP:let s1:=Z.row (wkc ak af ac ad ae aa ab am au aj) 6;let s2:=s1.row (zN aR aJ aK aY aL aM bi aO aP bK bL bz) 6;∀ (h1:qm 71 [.slice aR aJ aK,iV 0,iV 15] s2 (.bool false) s2) (nx:Q (.bool false) s2),qg 51 [qf (wkc ak af ac ad ae aa ab am au aj),qf (zN aR aJ aK aY aL aM bi aO aP bK bL bz)] Z Q:=
 let s1:=Z.row (wkc ak af ac ad ae aa ab am au aj) 6;let s2:=s1.row (zN aR aJ aK aY aL aM bi aO aP bK bL bz) 6;fun h1 nx=>zH [.g,.g,.g,.g,.l (.slice aR aJ aK),.c (.bool false) s2,.g,.g,.g,.g,.g,.g,.g,.g,.g,.g,.g] (kd (an2 ((zC _ _ _).rw.ld yT (k:=0) rfl:lz s2 26 ⟨(Z.y+1),0,none⟩ (.slice aR aJ aK)) h1 nx))
theorem xVZ:let Y1:=Z.row [.func (.func right) ⟨[]⟩ ⟨bJ⟩] 1;∀ (h1:qm 89 [.slice l l_l l_c,.func (.func 90) ⟨[]⟩ ⟨[pt Z.y 0]⟩] Y1 (.bool true) Y1) (nx:Q (.bool false) Y1),qg 72 [.slice l l_l l_c,.func (.func right) ⟨[]⟩ ⟨bJ⟩] Z Q:=
 fun h1 nx=>zH [.g,.g,.g,.g,.c (.bool true) (Z.row [.func (.func right) ⟨[]⟩ ⟨bJ⟩] 1),.g,.g] (kd (ai h1 nx))
theorem xVY:let Y1:=Z.row [.func (.func right) ⟨[]⟩ ⟨bJ⟩] 1;∀ (h1:qm 89 [.slice l l_l l_c,.func (.func 90) ⟨[]⟩ ⟨[pt Z.y 0]⟩] Y1 (.bool false) Y1) (nx:Q (.bool true) Y1),qg 72 [.slice l l_l l_c,.func (.func right) ⟨[]⟩ ⟨bJ⟩] Z Q:=
 fun h1 nx=>zH [.g,.g,.g,.g,.c (.bool false) (Z.row [.func (.func right) ⟨[]⟩ ⟨bJ⟩] 1),.g,.g] (kd (ai h1 nx))
theorem xVB (h1:qm 105 [.slice s s_l s_c,.func (.func f) ⟨[]⟩ ⟨f_c⟩] Z (iV n1) Z) (nx:Q (.bool true) Z) (u1:0<=n1:=by omega):qg 89 [.slice s s_l s_c,.func (.func f) ⟨[]⟩ ⟨f_c⟩] Z Q :=
 zH [.g,.g,.g,.c (iV n1) Z,.b true,.g] (kd (an2 h1 (yE u1) nx))
theorem xVA (h1:qm 105 [.slice s s_l s_c,.func (.func f) ⟨[]⟩ ⟨f_c⟩] Z (iV n1) Z) (nx:Q (.bool false) Z) (u1:¬ 0<=n1:=by omega):qg 89 [.slice s s_l s_c,.func (.func f) ⟨[]⟩ ⟨f_c⟩] Z Q :=
 zH [.g,.g,.g,.c (iV n1) Z,.b false,.g] (kd (an2 h1 (yG u1) nx))
theorem xQR (h1:lz Z 105 v0 (.func (.func f1) ⟨[]⟩ ⟨dU⟩)) (h2:qm f1 (iV x::dU) Z (.bool true) Z) (nx:Q (.bool false) Z):qg 90 [iV x,pz v0] Z Q :=
 zH [.g,.l (.func (.func f1) ⟨[]⟩ ⟨dU⟩),.g,.c (.bool true) Z,.g,.g] (kd (an2 h1 h2 nx))
theorem xQQ (h1:lz Z 105 v0 (.func (.func f1) ⟨[]⟩ ⟨dU⟩)) (h2:qm f1 (iV x::dU) Z (.bool false) Z) (nx:Q (.bool true) Z):qg 90 [iV x,pz v0] Z Q :=
 zH [.g,.l (.func (.func f1) ⟨[]⟩ ⟨dU⟩),.g,.c (.bool false) Z,.g,.g] (kd (an2 h1 h2 nx))
theorem yXI (hb:∀ k aG Z,Inv k aG Z->zWW s s_l s_c f f_c aG Z (NX1 Inv k) Qr Q0):∀ k aG Z,Inv k aG Z->xCH s s_l s_c f f_c aG Z Qr Q0 :=
 xC (ai uQ (ai (xY 0) trivial)) hb
theorem xOF (h1:lz Z 3 (zL s_a (Int.toNat aG*1)) (iV nF)) (h2:qm f (iV nF::f_c) Z (.bool true) Z) (nx:Qr aG Z) (u1:aG<(s_l:Int):=by omega) (u2:Ix aG s_l:=by omega):zWW (some s_a) s_l s_c f f_c aG Z Nx Qr Q0 :=
 kO 1 aG [.b true,.g,.g,.g,.g,.g,.i,.l (iV nF),.c (.bool true) Z,.g,.g] (fun _ f=>an4 (zR u1) u2 h1 h2 f) nx
theorem xOE (h1:lz Z 3 (zL s_a (Int.toNat aG*1)) (iV nF)) (h2:qm f (iV nF::f_c) Z (.bool false) Z) (nx:Nx (aG+1) Z) (u1:aG<(s_l:Int):=by omega) (u2:Ix aG s_l:=by omega) (u3:I6 (aG+1):=by omega):zWW (some s_a) s_l s_c f f_c aG Z Nx Qr Q0 :=
 kO 0 (aG+1) [.b true,.g,.g,.g,.g,.g,.i,.l (iV nF),.c (.bool false) Z,.n (aG+1),.g] (fun _ f=>an5 (zR u1) u2 h1 h2 (w64 u3) f) nx
theorem xOD (nx:Q0 Z) (u1:¬ aG<(s_l:Int):=by omega):zWW s s_l s_c f f_c aG Z Nx Qr Q0 :=
 kO 2 () [.b false] (fun _ f=>ai (zT u1) f) nx
theorem xUK (hL:xCH s s_l s_c f f_c 0 Z Pr P0) (kr:∀ i4_1' Z',Pr i4_1' Z'->yGH s s_l s_c f f_c i4_1' Z' Q) (k0:∀ Z',P0 Z'->yGI s s_l s_c f f_c Z' Q):qg 105 [.slice s s_l s_c,.func (.func f) ⟨[]⟩ ⟨f_c⟩] Z Q :=
 zH [.g,.g,.g,.g,.lf 19 (zQG s s_l s_c f f_c 0) [zSK s s_l s_c f f_c Pr,zSL s s_l s_c f f_c P0]] (kd (ai (ai tt (ai (arf (zQG s s_l s_c f f_c 0)) hL)) (ai (kz1 kr) (ai (kz0 k0) trivial))))
theorem yXG (nx:Q (iV bI) Z):yGH s s_l s_c f f_c bI Z Q :=
 sK [] nx
theorem yXH (nx:Q (iV (-1)) Z):yGI s s_l s_c f f_c Z Q :=
 sK [.g] nx
theorem yTM (h1:lz Z 32 (zL v0 2) (.slice q1 l1 c1)) (h2:qm 47 [iV n,iV (-1),iV ((l1:Int)-1)] Z (.bool b2) Z) (nx:Q (.bool b2) Z) (u1:I6 ((l1:Int)-1):=by omega):qg 73 [iV n,pz v0] Z Q :=
 zH [.g,.g,.g,.l (.slice q1 l1 c1),.g,.n ((l1:Int)-1),.c (.bool b2) Z,.g] (kd (an3 h1 (w64 u1) h2 nx))
theorem ySN:let s1:=Z.row (wkc ak af ac ad ae aa ab am au aj) 6;∀ (h1:qm 72 [.slice l l_l l_c,.func (.func 73) ⟨[]⟩ ⟨[pt Z.y 0]⟩] s1 (.bool b1) s1) (nx:Q (.bool b1) s1) (u1:(l_l:Int)=(ac:Int):=by omega),qg 52 [qf (wkc ak af ac ad ae aa ab am au aj),.slice l l_l l_c] Z Q:=
 let s1:=Z.row (wkc ak af ac ad ae aa ab am au aj) 6;fun h1 nx u1=>zH [.g,.g,.g,.g,.g,.l (.slice af ac ad),.g,.b true,.g,.g,.g,.c (.bool b1) s1,.g,.g] (kd (an3 ((zC _ _ _).rw.ld zAV (k:=1) rfl:lz s1 31 (qe Z.y 1) (.slice af ac ad)) (xL u1) h1 nx))
theorem ySM (nx:Q (.bool false) (Z.row (wkc ak af ac ad ae aa ab am au aj) 6)) (u1:¬ (l_l:Int)=(ac:Int):=by omega):qg 52 [qf (wkc ak af ac ad ae aa ab am au aj),.slice l l_l l_c] Z Q :=
 zH [.g,.g,.g,.g,.g,.l (.slice af ac ad),.g,.b false,.g,.g,.g] (kd (an2 ((zC _ _ _).rw.ld zAV (k:=1) rfl:lz (Z.row (wkc ak af ac ad ae aa ab am au aj) 6) 31 (qe Z.y 1) (.slice af ac ad)) (xK u1) nx))
theorem yPN (hb:∀ k aG Z,Inv k aG Z->zQD s s_l s_c v aG Z (NX1 Inv k) Qr Q0):∀ k aG Z,Inv k aG Z->yPP s s_l s_c v aG Z Qr Q0 :=
 xC (ai uQ (ai (xY 0) trivial)) hb
theorem xGR (h1:lz Z 3 (zL s_a (Int.toNat aG*1)) (iV nF)) (nx:Qr aG Z) (u1:aG<(s_l:Int):=by omega) (u2:Ix aG s_l:=by omega) (u3:v=nF:=by omega):zQD (some s_a) s_l s_c v aG Z Nx Qr Q0 :=
 kO 1 aG [.b true,.g,.g,.g,.g,.g,.i,.l (iV nF),.b true,.g,.g] (fun _ f=>an4 (zR u1) u2 h1 (xL u3) f) nx
theorem xGQ (h1:lz Z 3 (zL s_a (Int.toNat aG*1)) (iV nF)) (nx:Nx (aG+1) Z) (u1:aG<(s_l:Int):=by omega) (u2:Ix aG s_l:=by omega) (u3:¬ v=nF:=by omega) (u4:I6 (aG+1):=by omega):zQD (some s_a) s_l s_c v aG Z Nx Qr Q0 :=
 kO 0 (aG+1) [.b true,.g,.g,.g,.g,.g,.i,.l (iV nF),.b false,.n (aG+1),.g] (fun _ f=>an5 (zR u1) u2 h1 (xK u3) (w64 u4) f) nx
theorem xGP (nx:Q0 Z) (u1:¬ aG<(s_l:Int):=by omega):zQD s s_l s_c v aG Z Nx Qr Q0 :=
 kO 2 () [.b false] (fun _ f=>ai (zT u1) f) nx
theorem xNU (hL:yPP s s_l s_c v 0 Z Pr P0) (kr:∀ i4_1' Z',Pr i4_1' Z'->yAA s s_l s_c v i4_1' Z' Q) (k0:∀ Z',P0 Z'->yAB s s_l s_c v Z' Q):qg 83 [.slice s s_l s_c,iV v] Z Q :=
 zH [.g,.g,.g,.g,.lf 19 (zKE s s_l s_c v 0) [zOC s s_l s_c v Pr,zOD s s_l s_c v P0]] (kd (ai (ai tt (ai (arf (zKE s s_l s_c v 0)) hL)) (ai (kz1 kr) (ai (kz0 k0) trivial))))
theorem yPL (nx:Q (iV bI) Z):yAA s s_l s_c v bI Z Q :=
 sK [] nx
theorem yPM (nx:Q (iV (-1)) Z):yAB s s_l s_c v Z Q :=
 sK [.g] nx
theorem xVD (h1:qm 83 [.slice s s_l s_c,iV v] Z (iV n1) Z) (nx:Q (.bool true) Z) (u1:0<=n1:=by omega):qg 58 [.slice s s_l s_c,iV v] Z Q :=
 zH [.g,.g,.g,.c (iV n1) Z,.b true,.g] (kd (an2 h1 (yE u1) nx))
theorem xVC (h1:qm 83 [.slice s s_l s_c,iV v] Z (iV n1) Z) (nx:Q (.bool false) Z) (u1:¬ 0<=n1:=by omega):qg 58 [.slice s s_l s_c,iV v] Z Q :=
 zH [.g,.g,.g,.c (iV n1) Z,.b false,.g] (kd (an2 h1 (yG u1) nx))
end
section
noncomputable section
variable (roster:oAa) (ax ay:Nat) (Q:Int->Int->St->Prop) (q0:Int->St->Prop) (aI bO:Int) (Z:St) (Nx:Int->Int->St->Prop) (q4:vPa) (Q0:Int->St->Prop)
def yHC:Code:=(Code.part [1,0,1,0,0] (qh 63))
def zGE:lNa:=[(2,iV aI),(5,.slice roster ax ay),(6,iV (ax:Int)),(7,iV bO)]
def yYE:Alt:=⟨Int × Int,.normal,fun t=>zGE roster ax ay t.1 t.2,fun t=>[],fun t Z=>Q t.1 t.2 Z⟩
def zUZ (roster:oAa) (ax ay:Nat) (aI:Int):lNa:=[(2,iV aI)]
def zKN:Alt:=⟨Int,(.exit 0),fun t=>zUZ roster ax ay t,fun t=>[],fun t Z=>q0 t Z⟩
def zLZ:Prop:=qi qj none yHC 17 (zGE roster ax ay aI bO) [] [yYE roster ax ay Nx,zKN roster ax ay Q0] Z
def yHD:Prop:=qk qj none yHC 17 (zGE roster ax ay aI bO) [] [zKN roster ax ay Q0] Z
def zVA:Prop:=kZ qj (qh 63) [1,0,1,0] (ql 63 q4) (.exit 0) 17 (zUZ roster ax ay aI) Z
end
variable {ak am au aj eH n1 n4 aI bO nF:Int} {af ae roster q1 q3 s q2:oAa} {ac ad aa ab ax ay l1 c1 l3 c3 s_l s_c l2 c2:Nat} {Z Z2 Z4 Z1:St} {Q:vPa} {Inv:Nat->Int->Int->St->Prop} {Q0 P0:Int->St->Prop} {dG:Addr} {Nx:Int->Int->St->Prop}
theorem yLP (nx:Q (iV 3) (Z.row (wkc ak af ac ad ae aa ab am au aj) 6)) (u1:12<(ac:Int):=by omega):qg 16 [qf (wkc ak af ac ad ae aa ab am au aj)] Z Q :=
 zH [.g,.g,.g,.l (.slice af ac ad),.g,.b true,.g,.g,.g,.g] (kd (an2 ((zC _ _ _).rw.ld zAV (k:=1) rfl:lz (Z.row (wkc ak af ac ad ae aa ab am au aj) 6) 31 (qe Z.y 1) (.slice af ac ad)) (zR u1) nx))
theorem yLO:let y0:=wkc ak af ac ad ae aa ab am au aj;∀ (nx:Q (iV 3) (Z.row y0 6)) (u1:¬ 12<(ac:Int):=by omega) (u2:6<(aa:Int):=by omega),qg 16 [qf y0] Z Q :=
 let s1:=Z.row (wkc ak af ac ad ae aa ab am au aj) 6;fun nx u1 u2=>zH [.g,.g,.g,.l (.slice af ac ad),.g,.b false,.g,.g,.l (.slice ae aa ab),.g,.b true,.g,.g,.g] (kd (an4 ((zC _ _ _).rw.ld zAV (k:=1) rfl:lz s1 31 (qe Z.y 1) (.slice af ac ad)) (zT u1) ((zC _ _ _).rw.ld uV (k:=2) rfl:lz s1 32 (qe Z.y 2) (.slice ae aa ab)) (zR u2) nx))
theorem yLN:let s1:=Z.row (wkc ak af ac ad ae aa ab am au aj) 6;∀ (h1:qm 47 [iV ak,iV 1,iV 7] s1 (.bool true) s1) (h2:qm 47 [iV am,iV 0,iV 3000] s1 (.bool true) s1) (h3:qm 47 [iV au,iV 1,iV 14] s1 (.bool true) s1) (h4:qm 47 [iV aj,iV 0,iV 20000] s1 (.bool true) s1) (h5:qm 48 [.slice af ac ad,.func (.func 49) ⟨[qf (wkc ak af ac ad ae aa ab am au aj)]⟩ ⟨[]⟩] s1 (.bool true) s1) (h6:qm 50 [.slice ae aa ab,.func (.func 51) ⟨[qf (wkc ak af ac ad ae aa ab am au aj)]⟩ ⟨[]⟩] s1 (.bool true) s1) (nx:Q (iV 0) s1) (u1:¬ 12<(ac:Int):=by omega) (u2:¬ 6<(aa:Int):=by omega),qg 16 [qf (wkc ak af ac ad ae aa ab am au aj)] Z Q:=
 let s1:=Z.row (wkc ak af ac ad ae aa ab am au aj) 6;fun h1 h2 h3 h4 h5 h6 nx u1 u2=>zH [.g,.g,.g,.l (.slice af ac ad),.g,.b false,.g,.g,.l (.slice ae aa ab),.g,.b false,.g,.g,.g,.l (iV ak),.c (.bool true) s1,.g,.g,.g,.l (iV am),.c (.bool true) s1,.g,.g,.g,.g,.l (iV au),.c (.bool true) s1,.g,.g,.g,.g,.l (iV aj),.c (.bool true) s1,.g,.g,.g,.g,.l (.slice af ac ad),.l (qf (wkc ak af ac ad ae aa ab am au aj)),.g,.c (.bool true) s1,.g,.g,.g,.l (.slice ae aa ab),.l (qf (wkc ak af ac ad ae aa ab am au aj)),.g,.c (.bool true) s1,.g,.g,.g,.g] (kd (an6 ((zC _ _ _).rw.ld zAV (k:=1) rfl:lz s1 31 (qe Z.y 1) (.slice af ac ad)) (zT u1) ((zC _ _ _).rw.ld uV (k:=2) rfl:lz s1 32 (qe Z.y 2) (.slice ae aa ab)) (zT u2) ((zC _ _ _).rw.ld zU (k:=0) rfl:lz s1 3 (qe Z.y 0) (iV ak)) h1 (an6 ((zC _ _ _).rw.ld zU (k:=3) rfl:lz s1 3 (qe Z.y 3) (iV am)) h2 ((zC _ _ _).rw.ld zU (k:=4) rfl:lz s1 3 (qe Z.y 4) (iV au)) h3 ((zC _ _ _).rw.ld zU (k:=5) rfl:lz s1 3 (qe Z.y 5) (iV aj)) h4 (an6 ((zC _ _ _).rw.ld zAV (k:=1) rfl:lz s1 31 (qe Z.y 1) (.slice af ac ad)) ((zC _ _ _).rw.ldN xV xB (k:=0) rfl rfl (nle rfl):lz s1 34 (qe Z.y 0) (qf (wkc ak af ac ad ae aa ab am au aj))) h5 ((zC _ _ _).rw.ld uV (k:=2) rfl:lz s1 32 (qe Z.y 2) (.slice ae aa ab)) ((zC _ _ _).rw.ldN xV xB (k:=0) rfl rfl (nle rfl):lz s1 34 (qe Z.y 0) (qf (wkc ak af ac ad ae aa ab am au aj))) h6 nx))))
theorem yLM:let s1:=Z.row (wkc ak af ac ad ae aa ab am au aj) 6;∀ (h1:qm 47 [iV ak,iV 1,iV 7] s1 (.bool true) s1) (h2:qm 47 [iV am,iV 0,iV 3000] s1 (.bool true) s1) (h3:qm 47 [iV au,iV 1,iV 14] s1 (.bool true) s1) (h4:qm 47 [iV aj,iV 0,iV 20000] s1 (.bool true) s1) (h5:qm 48 [.slice af ac ad,.func (.func 49) ⟨[qf (wkc ak af ac ad ae aa ab am au aj)]⟩ ⟨[]⟩] s1 (.bool true) s1) (h6:qm 50 [.slice ae aa ab,.func (.func 51) ⟨[qf (wkc ak af ac ad ae aa ab am au aj)]⟩ ⟨[]⟩] s1 (.bool false) s1) (nx:Q (iV 1) s1) (u1:¬ 12<(ac:Int):=by omega) (u2:¬ 6<(aa:Int):=by omega),qg 16 [qf (wkc ak af ac ad ae aa ab am au aj)] Z Q:=
 let s1:=Z.row (wkc ak af ac ad ae aa ab am au aj) 6;fun h1 h2 h3 h4 h5 h6 nx u1 u2=>zH [.g,.g,.g,.l (.slice af ac ad),.g,.b false,.g,.g,.l (.slice ae aa ab),.g,.b false,.g,.g,.g,.l (iV ak),.c (.bool true) s1,.g,.g,.g,.l (iV am),.c (.bool true) s1,.g,.g,.g,.g,.l (iV au),.c (.bool true) s1,.g,.g,.g,.g,.l (iV aj),.c (.bool true) s1,.g,.g,.g,.g,.l (.slice af ac ad),.l (qf (wkc ak af ac ad ae aa ab am au aj)),.g,.c (.bool true) s1,.g,.g,.g,.l (.slice ae aa ab),.l (qf (wkc ak af ac ad ae aa ab am au aj)),.g,.c (.bool false) s1,.g,.g,.g,.g] (kd (an6 ((zC _ _ _).rw.ld zAV (k:=1) rfl:lz s1 31 (qe Z.y 1) (.slice af ac ad)) (zT u1) ((zC _ _ _).rw.ld uV (k:=2) rfl:lz s1 32 (qe Z.y 2) (.slice ae aa ab)) (zT u2) ((zC _ _ _).rw.ld zU (k:=0) rfl:lz s1 3 (qe Z.y 0) (iV ak)) h1 (an6 ((zC _ _ _).rw.ld zU (k:=3) rfl:lz s1 3 (qe Z.y 3) (iV am)) h2 ((zC _ _ _).rw.ld zU (k:=4) rfl:lz s1 3 (qe Z.y 4) (iV au)) h3 ((zC _ _ _).rw.ld zU (k:=5) rfl:lz s1 3 (qe Z.y 5) (iV aj)) h4 (an6 ((zC _ _ _).rw.ld zAV (k:=1) rfl:lz s1 31 (qe Z.y 1) (.slice af ac ad)) ((zC _ _ _).rw.ldN xV xB (k:=0) rfl rfl (nle rfl):lz s1 34 (qe Z.y 0) (qf (wkc ak af ac ad ae aa ab am au aj))) h5 ((zC _ _ _).rw.ld uV (k:=2) rfl:lz s1 32 (qe Z.y 2) (.slice ae aa ab)) ((zC _ _ _).rw.ldN xV xB (k:=0) rfl rfl (nle rfl):lz s1 34 (qe Z.y 0) (qf (wkc ak af ac ad ae aa ab am au aj))) h6 nx))))
theorem yLL:let s1:=Z.row (wkc ak af ac ad ae aa ab am au aj) 6;∀ (h1:qm 47 [iV ak,iV 1,iV 7] s1 (.bool true) s1) (h2:qm 47 [iV am,iV 0,iV 3000] s1 (.bool true) s1) (h3:qm 47 [iV au,iV 1,iV 14] s1 (.bool true) s1) (h4:qm 47 [iV aj,iV 0,iV 20000] s1 (.bool true) s1) (h5:qm 48 [.slice af ac ad,.func (.func 49) ⟨[qf (wkc ak af ac ad ae aa ab am au aj)]⟩ ⟨[]⟩] s1 (.bool false) s1) (nx:Q (iV 1) s1) (u1:¬ 12<(ac:Int):=by omega) (u2:¬ 6<(aa:Int):=by omega),qg 16 [qf (wkc ak af ac ad ae aa ab am au aj)] Z Q:=
 let s1:=Z.row (wkc ak af ac ad ae aa ab am au aj) 6;fun h1 h2 h3 h4 h5 nx u1 u2=>zH [.g,.g,.g,.l (.slice af ac ad),.g,.b false,.g,.g,.l (.slice ae aa ab),.g,.b false,.g,.g,.g,.l (iV ak),.c (.bool true) s1,.g,.g,.g,.l (iV am),.c (.bool true) s1,.g,.g,.g,.g,.l (iV au),.c (.bool true) s1,.g,.g,.g,.g,.l (iV aj),.c (.bool true) s1,.g,.g,.g,.g,.l (.slice af ac ad),.l (qf (wkc ak af ac ad ae aa ab am au aj)),.g,.c (.bool false) s1,.g,.g,.g,.g,.g] (kd (an3 ((zC _ _ _).rw.ld zAV (k:=1) rfl:lz s1 31 (qe Z.y 1) (.slice af ac ad)) (zT u1) ((zC _ _ _).rw.ld uV (k:=2) rfl:lz s1 32 (qe Z.y 2) (.slice ae aa ab)) (an6 (zT u2) ((zC _ _ _).rw.ld zU (k:=0) rfl:lz s1 3 (qe Z.y 0) (iV ak)) h1 ((zC _ _ _).rw.ld zU (k:=3) rfl:lz s1 3 (qe Z.y 3) (iV am)) h2 ((zC _ _ _).rw.ld zU (k:=4) rfl:lz s1 3 (qe Z.y 4) (iV au)) (an6 h3 ((zC _ _ _).rw.ld zU (k:=5) rfl:lz s1 3 (qe Z.y 5) (iV aj)) h4 ((zC _ _ _).rw.ld zAV (k:=1) rfl:lz s1 31 (qe Z.y 1) (.slice af ac ad)) ((zC _ _ _).rw.ldN xV xB (k:=0) rfl rfl (nle rfl):lz s1 34 (qe Z.y 0) (qf (wkc ak af ac ad ae aa ab am au aj))) h5 nx))))
theorem yLK:let s1:=Z.row (wkc ak af ac ad ae aa ab am au aj) 6;∀ (h1:qm 47 [iV ak,iV 1,iV 7] s1 (.bool true) s1) (h2:qm 47 [iV am,iV 0,iV 3000] s1 (.bool true) s1) (h3:qm 47 [iV au,iV 1,iV 14] s1 (.bool true) s1) (h4:qm 47 [iV aj,iV 0,iV 20000] s1 (.bool false) s1) (nx:Q (iV 1) s1) (u1:¬ 12<(ac:Int):=by omega) (u2:¬ 6<(aa:Int):=by omega),qg 16 [qf (wkc ak af ac ad ae aa ab am au aj)] Z Q:=
 let s1:=Z.row (wkc ak af ac ad ae aa ab am au aj) 6;fun h1 h2 h3 h4 nx u1 u2=>zH [.g,.g,.g,.l (.slice af ac ad),.g,.b false,.g,.g,.l (.slice ae aa ab),.g,.b false,.g,.g,.g,.l (iV ak),.c (.bool true) s1,.g,.g,.g,.l (iV am),.c (.bool true) s1,.g,.g,.g,.g,.l (iV au),.c (.bool true) s1,.g,.g,.g,.g,.l (iV aj),.c (.bool false) s1,.g,.g,.g,.g] (kd (an6 ((zC _ _ _).rw.ld zAV (k:=1) rfl:lz s1 31 (qe Z.y 1) (.slice af ac ad)) (zT u1) ((zC _ _ _).rw.ld uV (k:=2) rfl:lz s1 32 (qe Z.y 2) (.slice ae aa ab)) (zT u2) ((zC _ _ _).rw.ld zU (k:=0) rfl:lz s1 3 (qe Z.y 0) (iV ak)) h1 (an6 ((zC _ _ _).rw.ld zU (k:=3) rfl:lz s1 3 (qe Z.y 3) (iV am)) h2 ((zC _ _ _).rw.ld zU (k:=4) rfl:lz s1 3 (qe Z.y 4) (iV au)) h3 ((zC _ _ _).rw.ld zU (k:=5) rfl:lz s1 3 (qe Z.y 5) (iV aj)) h4 nx)))
theorem yLJ:let s1:=Z.row (wkc ak af ac ad ae aa ab am au aj) 6;∀ (h1:qm 47 [iV ak,iV 1,iV 7] s1 (.bool true) s1) (h2:qm 47 [iV am,iV 0,iV 3000] s1 (.bool true) s1) (h3:qm 47 [iV au,iV 1,iV 14] s1 (.bool false) s1) (nx:Q (iV 1) s1) (u1:¬ 12<(ac:Int):=by omega) (u2:¬ 6<(aa:Int):=by omega),qg 16 [qf (wkc ak af ac ad ae aa ab am au aj)] Z Q:=
 let s1:=Z.row (wkc ak af ac ad ae aa ab am au aj) 6;fun h1 h2 h3 nx u1 u2=>zH [.g,.g,.g,.l (.slice af ac ad),.g,.b false,.g,.g,.l (.slice ae aa ab),.g,.b false,.g,.g,.g,.l (iV ak),.c (.bool true) s1,.g,.g,.g,.l (iV am),.c (.bool true) s1,.g,.g,.g,.g,.l (iV au),.c (.bool false) s1,.g,.g,.g,.g,.g,.g] (kd (an4 ((zC _ _ _).rw.ld zAV (k:=1) rfl:lz s1 31 (qe Z.y 1) (.slice af ac ad)) (zT u1) ((zC _ _ _).rw.ld uV (k:=2) rfl:lz s1 32 (qe Z.y 2) (.slice ae aa ab)) (zT u2) (an6 ((zC _ _ _).rw.ld zU (k:=0) rfl:lz s1 3 (qe Z.y 0) (iV ak)) h1 ((zC _ _ _).rw.ld zU (k:=3) rfl:lz s1 3 (qe Z.y 3) (iV am)) h2 ((zC _ _ _).rw.ld zU (k:=4) rfl:lz s1 3 (qe Z.y 4) (iV au)) h3 nx)))
theorem yLI:let s1:=Z.row (wkc ak af ac ad ae aa ab am au aj) 6;∀ (h1:qm 47 [iV ak,iV 1,iV 7] s1 (.bool true) s1) (h2:qm 47 [iV am,iV 0,iV 3000] s1 (.bool false) s1) (nx:Q (iV 1) s1) (u1:¬ 12<(ac:Int):=by omega) (u2:¬ 6<(aa:Int):=by omega),qg 16 [qf (wkc ak af ac ad ae aa ab am au aj)] Z Q:=
 let s1:=Z.row (wkc ak af ac ad ae aa ab am au aj) 6;fun h1 h2 nx u1 u2=>zH [.g,.g,.g,.l (.slice af ac ad),.g,.b false,.g,.g,.l (.slice ae aa ab),.g,.b false,.g,.g,.g,.l (iV ak),.c (.bool true) s1,.g,.g,.g,.l (iV am),.c (.bool false) s1,.g,.g,.g,.g,.g,.g,.g,.g] (kd (an2 ((zC _ _ _).rw.ld zAV (k:=1) rfl:lz s1 31 (qe Z.y 1) (.slice af ac ad)) (zT u1) (an6 ((zC _ _ _).rw.ld uV (k:=2) rfl:lz s1 32 (qe Z.y 2) (.slice ae aa ab)) (zT u2) ((zC _ _ _).rw.ld zU (k:=0) rfl:lz s1 3 (qe Z.y 0) (iV ak)) h1 ((zC _ _ _).rw.ld zU (k:=3) rfl:lz s1 3 (qe Z.y 3) (iV am)) h2 nx)))
theorem yLH:let s1:=Z.row (wkc ak af ac ad ae aa ab am au aj) 6;∀ (h1:qm 47 [iV ak,iV 1,iV 7] s1 (.bool false) s1) (nx:Q (iV 1) s1) (u1:¬ 12<(ac:Int):=by omega) (u2:¬ 6<(aa:Int):=by omega),qg 16 [qf (wkc ak af ac ad ae aa ab am au aj)] Z Q:=
 let s1:=Z.row (wkc ak af ac ad ae aa ab am au aj) 6;fun h1 nx u1 u2=>zH [.g,.g,.g,.l (.slice af ac ad),.g,.b false,.g,.g,.l (.slice ae aa ab),.g,.b false,.g,.g,.g,.l (iV ak),.c (.bool false) s1,.g,.g,.g,.g,.g,.g,.g,.g,.g] (kd (an6 ((zC _ _ _).rw.ld zAV (k:=1) rfl:lz s1 31 (qe Z.y 1) (.slice af ac ad)) (zT u1) ((zC _ _ _).rw.ld uV (k:=2) rfl:lz s1 32 (qe Z.y 2) (.slice ae aa ab)) (zT u2) ((zC _ _ _).rw.ld zU (k:=0) rfl:lz s1 3 (qe Z.y 0) (iV ak)) h1 nx))
theorem xNE:let s1:=Z.row (wkc ak af ac ad ae aa ab am au aj) 6;∀ (h1:qm 86 [qf (wkc ak af ac ad ae aa ab am au aj)] s1 (.slice q1 l1 c1) Z2) (h2:qm 54 [qf (wkc ak af ac ad ae aa ab am au aj),.slice roster ax ay,.slice q1 l1 c1] Z2 (.slice q3 l3 c3) Z4) (h3:zG s1.y [qf (wkc ak af ac ad ae aa ab am au aj)]) (h4:zG Z2.y [qf (wkc ak af ac ad ae aa ab am au aj),.slice roster ax ay,.slice q1 l1 c1]) (h5:zG Z4.y [.slice q3 l3 c3]) (h6:(zLq Z2 34 (qe Z.y 0) (qf (wkc ak af ac ad ae aa ab am au aj)))) (nx:Q (.bool true) Z4) (u1:(l3:Int)=0:=by omega),qg 62 [qf (wkc ak af ac ad ae aa ab am au aj),.slice roster ax ay] Z Q:=
 let s1:=Z.row (wkc ak af ac ad ae aa ab am au aj) 6;fun h1 h2 h3 h4 h5 h6 nx u1=>zH [.g,.g,.l (qf (wkc ak af ac ad ae aa ab am au aj)),.g,.l (qf (wkc ak af ac ad ae aa ab am au aj)),.c (.slice q1 l1 c1) Z2,.c (.slice q3 l3 c3) Z4,.g,.b true,.g] (kd (an6 ((zC _ _ _).rw.ldN xV xB (k:=0) rfl rfl (nle rfl):lz s1 34 (qe Z.y 0) (qf (wkc ak af ac ad ae aa ab am au aj))) ((zC _ _ _).rw.ldN xV xB (k:=0) rfl rfl (nle rfl):lz s1 34 (qe Z.y 0) (qf (wkc ak af ac ad ae aa ab am au aj))) h1 h2 (xL u1) ((zE (zP (nlt Z.y 0 1 rfl)) zI):zG s1.y [pt Z.y 0]) (an6 ((zE (zP (nlt Z.y 0 1 rfl)) zI):zG s1.y [pt Z.y 0]) h3 h4 h5 (⟨⟨(nlt Z.y 0 1 rfl),rfl⟩,((zC _ _ _).rw.ldN xV xB (k:=0) rfl rfl (nle rfl))⟩:(zLq s1 34 (qe Z.y 0) (qf (wkc ak af ac ad ae aa ab am au aj)))) h6 nx)))
theorem xND:let s1:=Z.row (wkc ak af ac ad ae aa ab am au aj) 6;∀ (h1:qm 86 [qf (wkc ak af ac ad ae aa ab am au aj)] s1 (.slice q1 l1 c1) Z2) (h2:qm 54 [qf (wkc ak af ac ad ae aa ab am au aj),.slice roster ax ay,.slice q1 l1 c1] Z2 (.slice q3 l3 c3) Z4) (h3:zG s1.y [qf (wkc ak af ac ad ae aa ab am au aj)]) (h4:zG Z2.y [qf (wkc ak af ac ad ae aa ab am au aj),.slice roster ax ay,.slice q1 l1 c1]) (h5:zG Z4.y [.slice q3 l3 c3]) (h6:(zLq Z2 34 (qe Z.y 0) (qf (wkc ak af ac ad ae aa ab am au aj)))) (nx:Q (.bool false) Z4) (u1:¬ (l3:Int)=0:=by omega),qg 62 [qf (wkc ak af ac ad ae aa ab am au aj),.slice roster ax ay] Z Q:=
 let s1:=Z.row (wkc ak af ac ad ae aa ab am au aj) 6;fun h1 h2 h3 h4 h5 h6 nx u1=>zH [.g,.g,.l (qf (wkc ak af ac ad ae aa ab am au aj)),.g,.l (qf (wkc ak af ac ad ae aa ab am au aj)),.c (.slice q1 l1 c1) Z2,.c (.slice q3 l3 c3) Z4,.g,.b false,.g] (kd (an6 ((zC _ _ _).rw.ldN xV xB (k:=0) rfl rfl (nle rfl):lz s1 34 (qe Z.y 0) (qf (wkc ak af ac ad ae aa ab am au aj))) ((zC _ _ _).rw.ldN xV xB (k:=0) rfl rfl (nle rfl):lz s1 34 (qe Z.y 0) (qf (wkc ak af ac ad ae aa ab am au aj))) h1 h2 (xK u1) ((zE (zP (nlt Z.y 0 1 rfl)) zI):zG s1.y [pt Z.y 0]) (an6 ((zE (zP (nlt Z.y 0 1 rfl)) zI):zG s1.y [pt Z.y 0]) h3 h4 h5 (⟨⟨(nlt Z.y 0 1 rfl),rfl⟩,((zC _ _ _).rw.ldN xV xB (k:=0) rfl rfl (nle rfl))⟩:(zLq s1 34 (qe Z.y 0) (qf (wkc ak af ac ad ae aa ab am au aj)))) h6 nx)))
theorem yCA:let s1:=Z.row (wkc ak af ac ad ae aa ab am au aj) 6;∀ (h1:qm 16 [qf (wkc ak af ac ad ae aa ab am au aj)] s1 (iV n1) s1) (h2:qm 52 [qf (wkc ak af ac ad ae aa ab am au aj),.slice roster ax ay] s1 (.bool true) s1) (h3:qm 62 [qf (wkc ak af ac ad ae aa ab am au aj),.slice roster ax ay] s1 (.bool true) s1) (h4:qm 63 [.slice roster ax ay] s1 (iV n4) s1) (nx:Q (.bool true) s1) (u1:n1=0:=by omega) (u2:eH<=n4:=by omega),qg 35 [qf (wkc ak af ac ad ae aa ab am au aj),.slice roster ax ay,iV eH] Z Q:=
 let s1:=Z.row (wkc ak af ac ad ae aa ab am au aj) 6;fun h1 h2 h3 h4 nx u1 u2=>zH [.g,.g,.l (qf (wkc ak af ac ad ae aa ab am au aj)),.c (iV n1) s1,.b true,.g,.l (qf (wkc ak af ac ad ae aa ab am au aj)),.g,.c (.bool true) s1,.g,.g,.l (qf (wkc ak af ac ad ae aa ab am au aj)),.g,.c (.bool true) s1,.g,.g,.g,.c (iV n4) s1,.g,.b true,.g,.g] (kd (an3 ((zC _ _ _).rw.ldN xV xB (k:=0) rfl rfl (nle rfl):lz s1 34 (qe Z.y 0) (qf (wkc ak af ac ad ae aa ab am au aj))) h1 (xL u1) (an6 ((zC _ _ _).rw.ldN xV xB (k:=0) rfl rfl (nle rfl):lz s1 34 (qe Z.y 0) (qf (wkc ak af ac ad ae aa ab am au aj))) h2 ((zC _ _ _).rw.ldN xV xB (k:=0) rfl rfl (nle rfl):lz s1 34 (qe Z.y 0) (qf (wkc ak af ac ad ae aa ab am au aj))) h3 h4 (yE u2) nx)))
theorem yBZ:let s1:=Z.row (wkc ak af ac ad ae aa ab am au aj) 6;∀ (h1:qm 16 [qf (wkc ak af ac ad ae aa ab am au aj)] s1 (iV n1) s1) (h2:qm 52 [qf (wkc ak af ac ad ae aa ab am au aj),.slice roster ax ay] s1 (.bool true) s1) (h3:qm 62 [qf (wkc ak af ac ad ae aa ab am au aj),.slice roster ax ay] s1 (.bool true) s1) (h4:qm 63 [.slice roster ax ay] s1 (iV n4) s1) (nx:Q (.bool false) s1) (u1:n1=0:=by omega) (u2:¬ eH<=n4:=by omega),qg 35 [qf (wkc ak af ac ad ae aa ab am au aj),.slice roster ax ay,iV eH] Z Q:=
 let s1:=Z.row (wkc ak af ac ad ae aa ab am au aj) 6;fun h1 h2 h3 h4 nx u1 u2=>zH [.g,.g,.l (qf (wkc ak af ac ad ae aa ab am au aj)),.c (iV n1) s1,.b true,.g,.l (qf (wkc ak af ac ad ae aa ab am au aj)),.g,.c (.bool true) s1,.g,.g,.l (qf (wkc ak af ac ad ae aa ab am au aj)),.g,.c (.bool true) s1,.g,.g,.g,.c (iV n4) s1,.g,.b false,.g,.g] (kd (an3 ((zC _ _ _).rw.ldN xV xB (k:=0) rfl rfl (nle rfl):lz s1 34 (qe Z.y 0) (qf (wkc ak af ac ad ae aa ab am au aj))) h1 (xL u1) (an6 ((zC _ _ _).rw.ldN xV xB (k:=0) rfl rfl (nle rfl):lz s1 34 (qe Z.y 0) (qf (wkc ak af ac ad ae aa ab am au aj))) h2 ((zC _ _ _).rw.ldN xV xB (k:=0) rfl rfl (nle rfl):lz s1 34 (qe Z.y 0) (qf (wkc ak af ac ad ae aa ab am au aj))) h3 h4 (yG u2) nx)))
theorem yBY:let s1:=Z.row (wkc ak af ac ad ae aa ab am au aj) 6;∀ (h1:qm 16 [qf (wkc ak af ac ad ae aa ab am au aj)] s1 (iV n1) s1) (h2:qm 52 [qf (wkc ak af ac ad ae aa ab am au aj),.slice roster ax ay] s1 (.bool true) s1) (h3:qm 62 [qf (wkc ak af ac ad ae aa ab am au aj),.slice roster ax ay] s1 (.bool false) s1) (nx:Q (.bool false) s1) (u1:n1=0:=by omega),qg 35 [qf (wkc ak af ac ad ae aa ab am au aj),.slice roster ax ay,iV eH] Z Q:=
 let s1:=Z.row (wkc ak af ac ad ae aa ab am au aj) 6;fun h1 h2 h3 nx u1=>zH [.g,.g,.l (qf (wkc ak af ac ad ae aa ab am au aj)),.c (iV n1) s1,.b true,.g,.l (qf (wkc ak af ac ad ae aa ab am au aj)),.g,.c (.bool true) s1,.g,.g,.l (qf (wkc ak af ac ad ae aa ab am au aj)),.g,.c (.bool false) s1,.g,.g,.g,.g] (kd (ai ((zC _ _ _).rw.ldN xV xB (k:=0) rfl rfl (nle rfl):lz s1 34 (qe Z.y 0) (qf (wkc ak af ac ad ae aa ab am au aj))) (an6 h1 (xL u1) ((zC _ _ _).rw.ldN xV xB (k:=0) rfl rfl (nle rfl):lz s1 34 (qe Z.y 0) (qf (wkc ak af ac ad ae aa ab am au aj))) h2 ((zC _ _ _).rw.ldN xV xB (k:=0) rfl rfl (nle rfl):lz s1 34 (qe Z.y 0) (qf (wkc ak af ac ad ae aa ab am au aj))) h3 nx)))
theorem yBX:let s1:=Z.row (wkc ak af ac ad ae aa ab am au aj) 6;∀ (h1:qm 16 [qf (wkc ak af ac ad ae aa ab am au aj)] s1 (iV n1) s1) (h2:qm 52 [qf (wkc ak af ac ad ae aa ab am au aj),.slice roster ax ay] s1 (.bool false) s1) (nx:Q (.bool false) s1) (u1:n1=0:=by omega),qg 35 [qf (wkc ak af ac ad ae aa ab am au aj),.slice roster ax ay,iV eH] Z Q:=
 let s1:=Z.row (wkc ak af ac ad ae aa ab am au aj) 6;fun h1 h2 nx u1=>zH [.g,.g,.l (qf (wkc ak af ac ad ae aa ab am au aj)),.c (iV n1) s1,.b true,.g,.l (qf (wkc ak af ac ad ae aa ab am au aj)),.g,.c (.bool false) s1,.g,.g,.g,.g,.g,.g] (kd (an5 ((zC _ _ _).rw.ldN xV xB (k:=0) rfl rfl (nle rfl):lz s1 34 (qe Z.y 0) (qf (wkc ak af ac ad ae aa ab am au aj))) h1 (xL u1) ((zC _ _ _).rw.ldN xV xB (k:=0) rfl rfl (nle rfl):lz s1 34 (qe Z.y 0) (qf (wkc ak af ac ad ae aa ab am au aj))) h2 nx))
theorem yBW:let s1:=Z.row (wkc ak af ac ad ae aa ab am au aj) 6;∀ (h1:qm 16 [qf (wkc ak af ac ad ae aa ab am au aj)] s1 (iV n1) s1) (nx:Q (.bool false) s1) (u1:¬ n1=0:=by omega),qg 35 [qf (wkc ak af ac ad ae aa ab am au aj),.slice roster ax ay,iV eH] Z Q:=
 let s1:=Z.row (wkc ak af ac ad ae aa ab am au aj) 6;fun h1 nx u1=>zH [.g,.g,.l (qf (wkc ak af ac ad ae aa ab am au aj)),.c (iV n1) s1,.b false,.g,.g,.g,.g,.g,.g,.g] (kd (an3 ((zC _ _ _).rw.ldN xV xB (k:=0) rfl rfl (nle rfl):lz s1 34 (qe Z.y 0) (qf (wkc ak af ac ad ae aa ab am au aj))) h1 (xK u1) nx))
theorem yKJ (hb:∀ k aI bO Z,Inv k aI bO Z->zLZ roster ax ay aI bO Z (NX2 Inv k) Q0):∀ k aI bO Z,Inv k aI bO Z->yHD roster ax ay aI bO Z Q0 :=
 zCP (ai (xY 0) trivial) hb
theorem yYD (h1:lz Z 3 (zL dG (Int.toNat bO*1)) (iV nF)) (nx:Nx (aI+1) (bO+1) Z) (u1:bO<(ax:Int):=by omega) (u2:Ix bO ax:=by omega) (u3:¬ nF=(-1):=by omega) (u4:I6 (aI+1):=by omega) (u5:I6 (bO+1):=by omega):zLZ (some dG) ax ay aI bO Z Nx Q0 :=
 kO 0 (aI+1,bO+1) [.b true,.i,.l (iV nF),.g,.g,.b true,.g,.n (aI+1),.g,.n (bO+1),.g] (fun _ f=>an6 (zR u1) u2 h1 (uW u3) (w64 u4) (w64 u5) f) nx
theorem yYC (h1:lz Z 3 (zL dG (Int.toNat bO*1)) (iV nF)) (nx:Nx aI (bO+1) Z) (u1:bO<(ax:Int):=by omega) (u2:Ix bO ax:=by omega) (u3:nF=(-1):=by omega) (u4:I6 (bO+1):=by omega):zLZ (some dG) ax ay aI bO Z Nx Q0 :=
 kO 0 (aI,bO+1) [.b true,.i,.l (iV nF),.g,.g,.b false,.n (bO+1),.g] (fun _ f=>an5 (zR u1) u2 h1 (uB u3) (w64 u4) f) nx
theorem yYB (nx:Q0 aI Z) (u1:¬ bO<(ax:Int):=by omega):zLZ roster ax ay aI bO Z Nx Q0 :=
 kO 1 aI [.b false] (fun _ f=>ai (zT u1) f) nx
theorem xHM (hL:yHD roster ax ay 0 0 Z P0) (k0:∀ i2_1' Z',P0 i2_1' Z'->zVA roster ax ay i2_1' Z' Q):qg 63 [.slice roster ax ay] Z Q :=
 zH [.g,.g,.g,.g,.lf 17 (zGE roster ax ay 0 0) [zKN roster ax ay P0]] (kd (ai (ai tt (ai (arf (zGE roster ax ay 0 0)) hL)) (ai (kz1 k0) trivial)))
theorem yKI (nx:Q (iV aI) Z):zVA roster ax ay aI Z Q :=
 sK [.g,.g] nx
theorem xPV (h1:zBU Pg .eql 26 (.tmp 3) (.const (.slice none 0 0)) (.slice s s_l s_c) (.slice none 0 0)=some (.bool false)) (h2:yM Pg 26 26 (.slice (some (qe Z.y 0)) 0 0) (.slice s s_l s_c) (Z.row [] 1)=some (.slice q2 l2 c2,Z1)) (nx:Q (.slice q2 l2 c2) Z1):qg 60 [.slice s s_l s_c] Z Q :=
 zH [.g,.g,.v (.bool false),.g,.g,.e (.slice q2 l2 c2) Z1,.g] (kd (an2 h1 h2 nx))
end
section
variable {Z:St}
theorem xYS {p:Option Addr} {len cap:Nat} {g:FuncId} {ga:List Value} {gc:List Value} {xs:List Dty} {f:Dty->Bool} (hs:SlV Pg Z 85 5 p len (xs.map zAZ)) (hlen:len<=1073741824)
  (hc:∀ x∈xs,∀ τ,Le Z τ->zD Pg g (ga++(zAZ x::gc)) τ (.bool (f x)) τ):∃ r:Int,zD Pg 87 [.slice p len cap,.func (.func g) ⟨ga⟩ ⟨gc⟩] Z (iV r) Z/\(0<=r↔xs.any f=true):=by
 have hl:xs.length=len:=by have:=hs.2.1;simpa using this
 have key:zO Pg 87 [.slice p len cap,.func (.func g) ⟨ga⟩ ⟨gc⟩] Z.re fun v s=>(∃ r:Int,v=iV r/\(0<=r↔xs.any f=true))/\s=Z.re:=by
  refine xUL (yXL (Inv:=fun k i τ=>τ=Z.re/\∃ j:Nat,i=j/\j+k=len/\(xs.take j).any f=false) (Qr:=fun i τ=>τ=Z.re/\0<=i/\xs.any f=true) (Q0:=fun τ=>τ=Z.re/\xs.any f=false) ?_ len 0 Z.re ⟨rfl,0,rfl,by omega,by simp⟩) ?_ ?_
  ·rintro k i τ ⟨rfl,j,rfl,hk,ha⟩;by_cases hj:j<len
   ·obtain ⟨a,rfl,x,hx,ld⟩:=wS hs.re hj;have c:=hc x (List.mem_of_getElem? hx) Z.re (le0 Z);cases hf:f x with
    | true =>
     rw [hf] at c;exact xOJ ld c ⟨rfl,by omega,List.any_eq_true.2 ⟨x,List.mem_of_getElem? hx,hf⟩⟩
    | false =>
     rw [hf] at c;exact xOI ld c ⟨k-1,by omega,rfl,j+1,by omega,by omega,by rw [xZ hx,List.any_append,ha];simp [hf]⟩
   ·exact xOH ⟨rfl,by rwa [List.take_of_length_le (by omega)] at ha⟩
  ·rintro i τ ⟨rfl,h1,h2⟩;exact yXJ ⟨⟨i,rfl,by simp [h1,h2]⟩,rfl⟩
  ·rintro τ ⟨rfl,h⟩;exact yXK ⟨⟨-1,rfl,by simp [h]⟩,rfl⟩
 obtain ⟨v,s,h1,⟨r,rfl,h2⟩,rfl⟩:=key;exact ⟨r,zRN h1 (Nat.le_refl _) rfl,h2⟩
theorem xZB {p:Option Addr} {len cap:Nat} {g:FuncId} {ga:List Value} {gc:List Value} {xs:List Dty} {f:Dty->Bool} (hs:SlV Pg Z 85 5 p len (xs.map zAZ)) (hlen:len<=1073741824)
  (hc:∀ x∈xs,∀ τ,Le Z τ->zD Pg g (ga++(zAZ x::gc)) τ (.bool (f x)) τ):zD Pg 67 [.slice p len cap,.func (.func g) ⟨ga⟩ ⟨gc⟩] Z (.bool (xs.any f)) Z:=by
 obtain ⟨r,h1,h2⟩:=xYS (Z:=Z.re) (cap:=cap) hs.re hlen (fun x hx τ hτ=>hc x hx τ ((le0 Z).trans hτ));cases ha:xs.any f with
 | true=>exact (xVF h1 ⟨rfl,Nat.le_refl _⟩ (h2.2 ha)).pure
 | false=>exact (xVE h1 ⟨rfl,Nat.le_refl _⟩ (fun h=>by rw [h2.1 h] at ha;cases ha)).pure
theorem xWD {x:Dty} {a:Addr} {g:FuncId} {ga:List Value} {gc:List Value} {b:Bool} (hr:Row Z a [.func (.func g) ⟨ga⟩ ⟨gc⟩]) (hc:∀ τ,Le Z τ->zD Pg g (ga++(zAZ x::gc)) τ (.bool b) τ) :
  zD Pg 68 [zAZ x,.pointer (some a)] Z (.bool (!b)) Z:=by
 cases b with
 | true=>exact (xQT (hr.re.row.ld1 xWZ) (hc _ ((le0 Z).trans (Le.row _ _ _))) ⟨rfl,Nat.le_refl _⟩).pure
 | false=>exact (xQS (hr.re.row.ld1 xWZ) (hc _ ((le0 Z).trans (Le.row _ _ _))) ⟨rfl,Nat.le_refl _⟩).pure
theorem xZH {p:Option Addr} {len cap:Nat} {g:FuncId} {ga:List Value} {gc:List Value} {xs:List Dty} {f:Dty->Bool} (hs:SlV Pg Z 85 5 p len (xs.map zAZ)) (hlen:len<=1073741824)
  (hc:∀ x∈xs,∀ τ,Le Z τ->zD Pg g (ga++(zAZ x::gc)) τ (.bool (f x)) τ):zD Pg 48 [.slice p len cap,.func (.func g) ⟨ga⟩ ⟨gc⟩] Z (.bool (xs.all f)) Z:=by
 have c:=xZB (Z:=Z.re.row [.func (.func g) ⟨ga⟩ ⟨gc⟩] 1) (g:=68) (ga:=[]) (gc:=[.pointer (some ⟨Z.re.y,0,none⟩)]) (f:=fun x=>!f x) (cap:=cap) hs.re.row hlen
  (fun x hx τ hτ=>xWD ((xM _ _ _).le hτ) (fun τ' hτ'=>hc x hx τ' ((((le0 Z).trans (Le.row _ _ _)).trans hτ).trans hτ')))
 have e:(xs.any fun x=>!f x)=!xs.all f:=by rw [List.not_all_eq_any_not]
 rw [e] at c;cases ha:xs.all f with
 | true=>rw [ha] at c;exact (xWB c ⟨rfl,Nat.le_refl _⟩).pure
 | false=>rw [ha] at c;exact (xWC c ⟨rfl,Nat.le_refl _⟩).pure
theorem xYR {p:Option Addr} {len cap:Nat} {g:FuncId} {gc:List Value} {xs:List Int} {f:Int->Bool} (hs:SlV Pg Z 3 1 p len (xs.map yA)) (hlen:len<=1073741824)
  (hc:∀ x∈xs,∀ τ,Le Z τ->zD Pg g (yA x::gc) τ (.bool (f x)) τ):∃ r:Int,zD Pg 105 [.slice p len cap,.func (.func g) ⟨[]⟩ ⟨gc⟩] Z (iV r) Z/\(0<=r↔xs.any f=true):=by
 have hl:xs.length=len:=by have:=hs.2.1;simpa using this
 have key:zO Pg 105 [.slice p len cap,.func (.func g) ⟨[]⟩ ⟨gc⟩] Z.re fun v s=>(∃ r:Int,v=iV r/\(0<=r↔xs.any f=true))/\s=Z.re:=by
  refine xUK (yXI (Inv:=fun k i τ=>τ=Z.re/\∃ j:Nat,i=j/\j+k=len/\(xs.take j).any f=false) (Qr:=fun i τ=>τ=Z.re/\0<=i/\xs.any f=true) (Q0:=fun τ=>τ=Z.re/\xs.any f=false) ?_ len 0 Z.re ⟨rfl,0,rfl,by omega,by simp⟩) ?_ ?_
  ·rintro k i τ ⟨rfl,j,rfl,hk,ha⟩;by_cases hj:j<len
   ·obtain ⟨a,rfl,x,hx,ld⟩:=wS hs.re hj;have c:=hc x (List.mem_of_getElem? hx) Z.re (le0 Z);cases hf:f x with
    | true =>
     rw [hf] at c;exact xOF ld c ⟨rfl,by omega,List.any_eq_true.2 ⟨x,List.mem_of_getElem? hx,hf⟩⟩
    | false =>
     rw [hf] at c;exact xOE ld c ⟨k-1,by omega,rfl,j+1,by omega,by omega,by rw [xZ hx,List.any_append,ha];simp [hf]⟩
   ·exact xOD ⟨rfl,by rwa [List.take_of_length_le (by omega)] at ha⟩
  ·rintro i τ ⟨rfl,h1,h2⟩;exact yXG ⟨⟨i,rfl,by simp [h1,h2]⟩,rfl⟩
  ·rintro τ ⟨rfl,h⟩;exact yXH ⟨⟨-1,rfl,by simp [h]⟩,rfl⟩
 obtain ⟨v,s,h1,⟨r,rfl,h2⟩,rfl⟩:=key;exact ⟨r,zRN h1 (Nat.le_refl _) rfl,h2⟩
theorem xZA {p:Option Addr} {len cap:Nat} {g:FuncId} {gc:List Value} {xs:List Int} {f:Int->Bool} (hs:SlV Pg Z 3 1 p len (xs.map yA)) (hlen:len<=1073741824)
  (hc:∀ x∈xs,∀ τ,Le Z τ->zD Pg g (yA x::gc) τ (.bool (f x)) τ):zD Pg 89 [.slice p len cap,.func (.func g) ⟨[]⟩ ⟨gc⟩] Z (.bool (xs.any f)) Z:=by
 obtain ⟨r,h1,h2⟩:=xYR (Z:=Z.re) (cap:=cap) hs.re hlen (fun x hx τ hτ=>hc x hx τ ((le0 Z).trans hτ));cases ha:xs.any f with
 | true=>exact (xVB h1 ⟨rfl,Nat.le_refl _⟩ (h2.2 ha)).pure
 | false=>exact (xVA h1 ⟨rfl,Nat.le_refl _⟩ (fun h=>by rw [h2.1 h] at ha;cases ha)).pure
theorem xWA {x:Int} {a:Addr} {g:FuncId} {gc:List Value} {b:Bool} (hr:Row Z a [.func (.func g) ⟨[]⟩ ⟨gc⟩]) (hc:∀ τ,Le Z τ->zD Pg g (yA x::gc) τ (.bool b) τ) :
  zD Pg 90 [yA x,.pointer (some a)] Z (.bool (!b)) Z:=by
 cases b with
 | true=>exact (xQR (hr.re.ld1 xQY) (hc _ (le0 Z)) ⟨rfl,Nat.le_refl _⟩).pure
 | false=>exact (xQQ (hr.re.ld1 xQY) (hc _ (le0 Z)) ⟨rfl,Nat.le_refl _⟩).pure
theorem xZG {p:Option Addr} {len cap:Nat} {g:FuncId} {gc:List Value} {xs:List Int} {f:Int->Bool} (hs:SlV Pg Z 3 1 p len (xs.map yA)) (hlen:len<=1073741824)
  (hc:∀ x∈xs,∀ τ,Le Z τ->zD Pg g (yA x::gc) τ (.bool (f x)) τ):zD Pg 72 [.slice p len cap,.func (.func g) ⟨[]⟩ ⟨gc⟩] Z (.bool (xs.all f)) Z:=by
 have c:=xZA (Z:=Z.re.row [.func (.func g) ⟨[]⟩ ⟨gc⟩] 1) (g:=90) (gc:=[.pointer (some ⟨Z.re.y,0,none⟩)]) (f:=fun x=>!f x) (cap:=cap) hs.re.row hlen
  (fun x hx τ hτ=>xWA ((xM _ _ _).le hτ) (fun τ' hτ'=>hc x hx τ' ((((le0 Z).trans (Le.row _ _ _)).trans hτ).trans hτ')))
 have e:(xs.any fun x=>!f x)=!xs.all f:=by rw [List.not_all_eq_any_not]
 rw [e] at c;cases ha:xs.all f with
 | true=>rw [ha] at c;exact (xVY c ⟨rfl,Nat.le_refl _⟩).pure
 | false=>rw [ha] at c;exact (xVZ c ⟨rfl,Nat.le_refl _⟩).pure
theorem xYP {p:Option Addr} {len cap:Nat} {g:FuncId} {ga:List Value} {gc:List Value} {xs:List Drv} {f:Drv->Bool} (hs:zVP Z 88 p len xs) (hlen:len<=1073741824)
  (hc:∀ x∈xs,∀ v τ,Le Z τ->zVZ τ v x->zD Pg g (ga++(v::gc)) τ (.bool (f x)) τ):∃ r:Int,zD Pg 88 [.slice p len cap,.func (.func g) ⟨ga⟩ ⟨gc⟩] Z (iV r) Z/\(0<=r↔xs.any f=true):=by
 obtain ⟨vs,hv1,hl,hv3⟩:=hs.le (le0 Z);have key:zO Pg 88 [.slice p len cap,.func (.func g) ⟨ga⟩ ⟨gc⟩] Z.re fun v s=>(∃ r:Int,v=iV r/\(0<=r↔xs.any f=true))/\s=Z.re:=by
  refine xUJ (yXD (Inv:=fun k i τ=>τ=Z.re/\∃ j:Nat,i=j/\j+k=len/\(xs.take j).any f=false) (Qr:=fun i τ=>τ=Z.re/\0<=i/\xs.any f=true) (Q0:=fun τ=>τ=Z.re/\xs.any f=false) ?_ len 0 Z.re ⟨rfl,0,rfl,by omega,by simp⟩) ?_ ?_
  ·rintro k i τ ⟨rfl,j,rfl,hk,ha⟩;by_cases hj:j<len
   ·obtain ⟨a,rfl,_⟩:=hv1.some hj;obtain ⟨x,hxe⟩:∃ x,x=xs[j]:=⟨_,rfl⟩;have hx:xs[j]?=some x:=by rw [hxe];simp
    obtain ⟨v,g1,hv⟩:=hv3 j x hx;have c:=hc x (List.mem_of_getElem? hx) v Z.re (le0 Z) hv;obtain ⟨p',l',c',r',n',d',s',j',e',rfl,_⟩:=hv;have ld:zB Pg Z.re 88 (zL a (Int.toNat (j:Int)*6))=some (.agg ⟨zN p' l' c' r' n' d' s' j' e' x.off x.row x.used⟩):=hv1.at rfl g1;cases hf:f x with
    | true =>
     rw [hf] at c;exact xNY ld c ⟨rfl,by omega,List.any_eq_true.2 ⟨x,List.mem_of_getElem? hx,hf⟩⟩
    | false =>
     rw [hf] at c;exact xNX ld c ⟨k-1,by omega,rfl,j+1,by omega,by omega,by rw [xZ hx,List.any_append,ha];simp [hf]⟩
   ·exact xNW ⟨rfl,by rwa [List.take_of_length_le (by omega)] at ha⟩
  ·rintro i τ ⟨rfl,h1,h2⟩;exact yXB ⟨⟨i,rfl,by simp [h1,h2]⟩,rfl⟩
  ·rintro τ ⟨rfl,h⟩;exact yXC ⟨⟨-1,rfl,by simp [h]⟩,rfl⟩
 obtain ⟨v,s,h1,⟨r,rfl,h2⟩,rfl⟩:=key;exact ⟨r,zRN h1 (Nat.le_refl _) rfl,h2⟩
theorem xYY {p:Option Addr} {len cap:Nat} {g:FuncId} {ga:List Value} {gc:List Value} {xs:List Drv} {f:Drv->Bool} (hs:zVP Z 88 p len xs) (hlen:len<=1073741824)
  (hc:∀ x∈xs,∀ v τ,Le Z τ->zVZ τ v x->zD Pg g (ga++(v::gc)) τ (.bool (f x)) τ):zD Pg 69 [.slice p len cap,.func (.func g) ⟨ga⟩ ⟨gc⟩] Z (.bool (xs.any f)) Z:=by
 obtain ⟨r,h1,h2⟩:=xYP (Z:=Z.re) (cap:=cap) (hs.le (le0 Z)) hlen (fun x hx v τ hτ=>hc x hx v τ ((le0 Z).trans hτ));cases ha:xs.any f with
 | true=>exact (xUX h1 ⟨rfl,Nat.le_refl _⟩ (h2.2 ha)).pure
 | false=>exact (xUW h1 ⟨rfl,Nat.le_refl _⟩ (fun h=>by rw [h2.1 h] at ha;cases ha)).pure
theorem xVV {x:Drv} {v:Value} {a:Addr} {g:FuncId} {ga:List Value} {gc:List Value} {b:Bool} (hv:zVZ Z v x) (hr:Row Z a [.func (.func g) ⟨ga⟩ ⟨gc⟩]) (hc:∀ τ,Le Z τ->zVZ τ v x->zD Pg g (ga++(v::gc)) τ (.bool b) τ) :
  zD Pg 70 [v,.pointer (some a)] Z (.bool (!b)) Z:=by
 have hc2:=fun τ (hτ:Le Z τ)=>hc τ hτ (hv.le hτ)
 obtain ⟨p',l',c',r',n',d',s',j',e',rfl,_⟩:=hv;cases b with
 | true=>exact (xQN (hr.re.row.ld1 xWY) (hc2 _ ((le0 Z).trans (Le.row _ _ _))) ⟨rfl,Nat.le_refl _⟩).pure
 | false=>exact (xQM (hr.re.row.ld1 xWY) (hc2 _ ((le0 Z).trans (Le.row _ _ _))) ⟨rfl,Nat.le_refl _⟩).pure
theorem xZE {p:Option Addr} {len cap:Nat} {g:FuncId} {ga:List Value} {gc:List Value} {xs:List Drv} {f:Drv->Bool} (hs:zVP Z 88 p len xs) (hlen:len<=1073741824)
  (hc:∀ x∈xs,∀ v τ,Le Z τ->zVZ τ v x->zD Pg g (ga++(v::gc)) τ (.bool (f x)) τ):zD Pg 50 [.slice p len cap,.func (.func g) ⟨ga⟩ ⟨gc⟩] Z (.bool (xs.all f)) Z:=by
 have c:=xYY (Z:=Z.re.row [.func (.func g) ⟨ga⟩ ⟨gc⟩] 1) (g:=70) (ga:=[]) (gc:=[.pointer (some ⟨Z.re.y,0,none⟩)]) (f:=fun x=>!f x) (cap:=cap) (hs.le ((le0 Z).trans (Le.row _ _ _))) hlen
  (fun x hx v τ hτ hv=>xVV hv ((xM _ _ _).le hτ) (fun τ' hτ'=>hc x hx v τ' ((((le0 Z).trans (Le.row _ _ _)).trans hτ).trans hτ')))
 have e:(xs.any fun x=>!f x)=!xs.all f:=by rw [List.not_all_eq_any_not]
 rw [e] at c;cases ha:xs.all f with
 | true=>rw [ha] at c;exact (xVT c ⟨rfl,Nat.le_refl _⟩).pure
 | false=>rw [ha] at c;exact (xVU c ⟨rfl,Nat.le_refl _⟩).pure
section
variable {w:Wk} {p q:Option Addr} {l m c d:Nat}
theorem xRV {x:Dty} (hd:1<=w.days/\w.days<=7):zD Pg 49 [.agg ⟨wkc w.days p l c q m d w.rest w.run w.hours⟩,zAZ x] Z (.bool (vT w x)) Z:=by
 have cin:∀ {τ:St} {n lo hi:Int} {b:Bool},inB n lo hi=b->zD Pg 47 [iV n,iV lo,iV hi] τ (.bool b) τ:=fun e=>e ▸ zIQ
 unfold vT;cases c1:inB x.day 0 (w.days-1) with
 | false=>exact (xJA (cin c1) ⟨rfl,Nat.le_refl _⟩ (by omega)).pure
 | true =>
 cases c2:inB x.on 0 1439 with
 | false=>exact (xJB (cin c1) (cin c2) ⟨rfl,Nat.le_refl _⟩ (by omega)).pure
 | true =>
 have hon:=uX.1 c2;by_cases h1:x.on<=x.lo;rotate_left
 ·have:inB x.lo x.on x.hi=false:=yFW.2 (fun h=>h1 h.1);rw [this];exact (xJC (cin c1) (cin c2) ⟨rfl,Nat.le_refl _⟩ (by omega) h1).pure
 by_cases h2:x.lo<=x.hi;rotate_left
 ·have:inB x.lo x.on x.hi=false:=yFW.2 (fun h=>h2 h.2);rw [this];exact (xJD (cin c1) (cin c2) ⟨rfl,Nat.le_refl _⟩ (by omega) h1 h2).pure
 have c3:inB x.lo x.on x.hi=true:=uX.2 ⟨h1,h2⟩;rw [c3];by_cases h3:x.hi<=x.on+1440
 ·rw [decide_eq_false (by omega:¬ x.on+1440<x.hi)];exact (xJF (cin c1) (cin c2) (cin rfl) ⟨by simp,Nat.le_refl _⟩ (by omega) h1 h2 (by omega) h3).pure
 ·rw [decide_eq_true (by omega:x.on+1440<x.hi)];exact (xJE (cin c1) (cin c2) ⟨rfl,Nat.le_refl _⟩ (by omega) h1 h2 (by omega) h3).pure
theorem xDF {x:Drv} {v:Value} (hv:zVZ Z v x) (hl:x.knows.length<=1000/\x.leave.length<=1000/\x.wish.length<=1000) (hd:1<=w.days/\w.days<=7):zD Pg 51 [.agg ⟨wkc w.days p l c q m d w.rest w.run w.hours⟩,v] Z (.bool (zAJ w x)) Z:=by
 have cin:∀ {τ:St} {n lo hi:Int} {b:Bool},inB n lo hi=b->zD Pg 47 [iV n,iV lo,iV hi] τ (.bool b) τ:=fun e=>e ▸ zIQ
 obtain ⟨p',l',c',r',n',d',s',j',e',rfl,hkn,hlv,hws⟩:=hv;have L2:Le Z ((Z.re.row (wkc w.days p l c q m d w.rest w.run w.hours) 6).row (zN p' l' c' r' n' d' s' j' e' x.off x.row x.used) 6):=((le0 Z).trans (Le.row _ _ _)).trans (Le.row _ _ _);have k1:=yIH (c:=c') (lo:=0) (hi:=15) (SlV.le hkn L2) (by have:=hkn.len;omega);have k2:=yIH (c:=d') (lo:=0) (hi:=w.days-1) (SlV.le hlv L2) (by have:=hlv.len;omega);have k3:=yIH (c:=e') (lo:=0) (hi:=w.days-1) (SlV.le hws L2) (by have:=hws.len;omega);unfold zAJ;cases c1:wK x.knows 0 15 with
 | false=>rw [c1] at k1;exact (ySP k1 ⟨rfl,Nat.le_refl _⟩).pure
 | true =>
 rw [c1] at k1;cases c2:wK x.leave 0 (w.days-1) with
 | false=>rw [c2] at k2;exact (ySQ k1 k2 ⟨rfl,Nat.le_refl _⟩ (by omega)).pure
 | true =>
 rw [c2] at k2;cases c3:wK x.wish 0 (w.days-1) with
 | false=>rw [c3] at k3;exact (ySR k1 k2 k3 ⟨rfl,Nat.le_refl _⟩ (by omega)).pure
 | true =>
 rw [c3] at k3;cases c4:inB x.off (-10080) 1440 with
 | false=>exact (ySS k1 k2 k3 (cin c4) ⟨rfl,Nat.le_refl _⟩ (by omega)).pure
 | true =>
 cases c5:inB x.row 0 14 with
 | false=>exact (yST k1 k2 k3 (cin c4) (cin c5) ⟨rfl,Nat.le_refl _⟩ (by omega)).pure
 | true=>exact (ySU k1 k2 k3 (cin c4) (cin c5) (cin rfl) ⟨by simp,Nat.le_refl _⟩ (by omega)).pure
theorem zVQ (h:WkP Z 85 88 w p l q m) (hsh:zAX w):zD Pg 16 [.agg ⟨wkc w.days p l c q m d w.rest w.run w.hours⟩] Z (iV (xF w)) Z:=by
 have hn:=h.len.1;have hm:=h.len.2;by_cases h12:12<l
 ·have:xF w=3:=by unfold xF;rw [if_pos (.inl (by omega))]
  rw [this];exact (yLP ⟨rfl,Nat.le_refl _⟩ (by omega)).pure
 by_cases h6:6<m
 ·have:xF w=3:=by unfold xF;rw [if_pos (.inr (by omega))]
  rw [this];exact (yLO ⟨rfl,Nat.le_refl _⟩ (by omega) (by omega)).pure
 have hf0:xF w=if vJ w && (w.duties.all (vT w) && w.drivers.all (zAJ w)) then 0 else 1:=by unfold xF;rw [if_neg (by omega)]
 have cin:∀ {τ:St} {n lo hi:Int} {b:Bool},inB n lo hi=b->zD Pg 47 [iV n,iV lo,iV hi] τ (.bool b) τ:=fun e=>e ▸ zIQ
 have no:vJ w=false->xF w=1:=fun e=>by rw [hf0,e];rfl
 cases b1:inB w.days 1 7 with
 | false=>rw [no (by unfold vJ;rw [b1];rfl)];exact (yLH (cin b1) ⟨rfl,Nat.le_refl _⟩ (by omega) (by omega)).pure
 | true =>
 cases b2:inB w.rest 0 3000 with
 | false=>rw [no (by unfold vJ;rw [b1,b2];rfl)];exact (yLI (cin b1) (cin b2) ⟨rfl,Nat.le_refl _⟩ (by omega) (by omega)).pure
 | true =>
 cases b3:inB w.run 1 14 with
 | false=>rw [no (by unfold vJ;rw [b1,b2,b3];rfl)];exact (yLJ (cin b1) (cin b2) (cin b3) ⟨rfl,Nat.le_refl _⟩ (by omega) (by omega)).pure
 | true =>
 cases b4:inB w.hours 0 20000 with
 | false=>rw [no (by unfold vJ;rw [b1,b2,b3,b4];rfl)];exact (yLK (cin b1) (cin b2) (cin b3) (cin b4) ⟨rfl,Nat.le_refl _⟩ (by omega) (by omega)).pure
 | true =>
 have hh:vJ w=true:=by unfold vJ;rw [b1,b2,b3,b4];rfl
 have hd:=uX.1 b1;have L1:Le Z (Z.re.row (wkc w.days p l c q m d w.rest w.run w.hours) 6):=(le0 Z).trans (Le.row _ _ _);have cd:=xZH (cap:=c) (g:=49) (ga:=[.agg ⟨wkc w.days p l c q m d w.rest w.run w.hours⟩]) (gc:=[]) (f:=vT w) (SlV.le h.dty L1) (by omega) (fun x _ τ _=>xRV hd);have cv:=xZE (cap:=d) (g:=51) (ga:=[.agg ⟨wkc w.days p l c q m d w.rest w.run w.hours⟩]) (gc:=[]) (f:=zAJ w) (h.drv.le L1) (by omega) (fun x hx v τ _ hv=>xDF hv (hsh x hx) hd);cases e1:w.duties.all (vT w) with
 | false=>rw [e1] at cd;rw [hf0,hh,e1];exact (yLL (cin b1) (cin b2) (cin b3) (cin b4) cd ⟨rfl,Nat.le_refl _⟩ (by omega) (by omega)).pure
 | true =>
 rw [e1] at cd;cases e2:w.drivers.all (zAJ w) with
 | false=>rw [e2] at cv;rw [hf0,hh,e1,e2];exact (yLM (cin b1) (cin b2) (cin b3) (cin b4) cd cv ⟨rfl,Nat.le_refl _⟩ (by omega) (by omega)).pure
 | true=>rw [e2] at cv;rw [hf0,hh,e1,e2];exact (yLN (cin b1) (cin b2) (cin b3) (cin b4) cd cv ⟨rfl,Nat.le_refl _⟩ (by omega) (by omega)).pure
end
end
def zY (rs:List Int) (i:Nat):Int:=rs.getD i 0
def yXQ:Option Nat->Int
 | some i=>(i:Int)
 | none=>-1
section
variable {w:Wk} {ros tru:Nat->Int} {k D i:Nat}
theorem yXO (hi:i<w.duties.length) (hh:his w ros k D i=true) (hb:∀ j,j<i->his w ros k D j=false):yZ w ros k D=some i:=by
 rw [yGT hi hh];unfold onL;apply List.filter_eq_nil_iff.2;intro j hj h;rw [hb j (List.mem_range.1 hj)] at h;cases h
theorem yXP (hb:∀ j,j<w.duties.length->his w ros k D j=false):yZ w ros k D=none:=by
 unfold yZ onL;rw [List.filter_eq_nil_iff.2]
 ·rfl
 ·intro j hj h;rw [hb j (List.mem_range.1 hj)] at h;cases h
end
section
variable {Z:St} {w:Wk} {p q r t:Option Addr} {l m c d rc tc:Nat} {rs ts:List Int} {k D:Nat}
abbrev wkL (w:Wk) (p:Option Addr) (l c:Nat) (q:Option Addr) (m d:Nat):List Value:=wkc w.days p l c q m d w.rest w.run w.hours
theorem xKT (h:WkP Z 92 76 w p l q m) (hr:yD Z r l rs) (hl:l<=100000):zD Tryz.prog 61 [.agg ⟨wkL w p l c q m d⟩,.slice r l rc,iV (k:Int),iV (D:Int)] Z (iV (yXQ (yZ w (zY rs) k D))) Z:=by
 have hn:=h.len.1;have hk0:=xM Z.re (wkL w p l c q m d) 6;have h0:=(h.le (le0 Z)).le (Le.row _ (wkL w p l c q m d) 6);have hr0:=(hr.re).le (Le.row _ (wkL w p l c q m d) 6);have ldD:zB Tryz.prog (Z.re.row (wkL w p l c q m d) 6) 22 ⟨Z.re.y,1,none⟩=some (.slice p l c):=hk0.ld zCK rfl;refine (xEK (yIR (Inv:=fun k' i τ=>τ=Z.re.row (wkL w p l c q m d) 6/\∃ j:Nat,i=j/\j+k'=l/\∀ i,i<j->his w (zY rs) k D i=false) (Qr:=fun x τ=>τ=Z.re.row (wkL w p l c q m d) 6/\∃ j:Nat,x=j/\yZ w (zY rs) k D=some j)
  (Q0:=fun τ=>τ=Z.re.row (wkL w p l c q m d) 6/\yZ w (zY rs) k D=none) ?_ l 0 _ ⟨rfl,0,rfl,by omega,fun i h=>by omega⟩) ?_ ?_).pure
 ·rintro k' i τ ⟨rfl,j,rfl,hk,he⟩;by_cases hj:j<l
  ·obtain ⟨a,rfl,x,hx,l2⟩:=wS hr0 hj;obtain ⟨b,hb,l3⟩:=h0.dld (i:=j) (k:=0) (n:=(dty w j).day) hj (by omega) rfl;subst hb;have gx:zY rs j=x:=yL hx;by_cases e1:x=(k:Int)
   ·by_cases e2:(dty w j).day=(D:Int)
    ·exact yUG ldD l2 l3 ⟨rfl,j,rfl,yXO (by omega) (by unfold his;simp [gx,e1,e2]) he⟩
    ·refine yUF ldD l2 l3 ⟨k' - 1,by omega,rfl,j+1,by omega,by omega, ?_⟩;intro i hi;by_cases e3:i=j
     ·subst e3;unfold his;simp [e2]
     ·exact he i (by omega)
   ·refine yUE ldD l2 ⟨k' - 1,by omega,rfl,j+1,by omega,by omega, ?_⟩;intro i hi;by_cases e3:i=j
    ·subst e3;unfold his;simp [gx,e1]
    ·exact he i (by omega)
  ·exact yUD ldD ⟨rfl,yXP fun i hi=>he i (by omega)⟩
 ·rintro x τ ⟨rfl,j,rfl,e⟩;exact yIP ⟨by rw [e];rfl,Nat.le_refl _⟩
 ·rintro τ ⟨rfl,e⟩;exact yIQ ⟨by rw [e];rfl,Nat.le_refl _⟩
end
section
noncomputable section
variable (l:oAa) (l_l l_c BA:Nat) (q0:Int->St->Prop) (bF:Int) (q2:St->Prop) (eY:Bool) (q1:Bool->St->Prop) (Z:St) (Nx:Int->St->Prop) (Q:vPa) (Qr:Bool->St->Prop) (Q0:St->Prop)
def zPF:Code:=(Code.part [1,0,1,0,0] (qh 21))
def zAQ:lNa:=[(1,.slice l l_l l_c),(2,pt BA 0),(5,iV bF)]
def yCS:Alt:=⟨Int,.normal,fun t=>zAQ l l_l l_c BA t,fun t=>[],fun t Z=>q0 t Z⟩
def zJI (l:oAa) (l_l l_c BA:Nat) (eY:Bool):lNa:=[(4,.bool eY)]
def zDP:Alt:=⟨Bool,.ret,fun t=>zJI l l_l l_c BA t,fun t=>[],fun t Z=>q1 t Z⟩
def zJJ:lNa:=[(1,.slice l l_l l_c),(2,pt BA 0)]
def zDQ:Alt:=⟨Unit,(.exit 0),fun t=>zJJ l l_l l_c BA,fun t=>[],fun t Z=>q2 Z⟩
def zCW:Prop:=qi qj none zPF 28 (zAQ l l_l l_c BA bF) [] [yCS l l_l l_c BA Nx,zDP l l_l l_c BA Qr,zDQ l l_l l_c BA Q0] Z
def zPG:Prop:=qk qj none zPF 28 (zAQ l l_l l_c BA bF) [] [zDP l l_l l_c BA Qr,zDQ l l_l l_c BA Q0] Z
def zJK:Prop:=kZ qj (qh 21) [1,0,1,0] (ql 21 Q) .ret 28 (zJI l l_l l_c BA eY) Z
def zDR:Prop:=kZ qj (qh 21) [1,0,1,0] (ql 21 Q) (.exit 0) 28 (zJJ l l_l l_c BA) Z
end
variable {l qE af ae qK:oAa} {l_l l_c BA lG cF ac ad aa ab lN cL:Nat} {Inv:Nat->Int->St->Prop} {Qr Pr:Bool->St->Prop} {Q0 P0:St->Prop} {bF nF ak am au aj:Int} {l_a:Addr} {Z:St} {Nx:Int->St->Prop} {Q:vPa} {eY:Bool}
theorem zVX (hb:∀ k bF Z,Inv k bF Z->zCW l l_l l_c BA bF Z (NX1 Inv k) Qr Q0):∀ k bF Z,Inv k bF Z->zPG l l_l l_c BA bF Z Qr Q0 :=
 xC (ai uQ (ai (xY 0) trivial)) hb
theorem yCR (h1:lz Z 3 (zL l_a (Int.toNat bF*1)) (iV nF)) (h2:lz Z 23 (qe BA 2) (.slice qE lG cF)) (h3:qm 33 [iV nF,iV (-1),iV ((lG:Int)-1)] Z (.bool true) Z) (nx:Nx (bF+1) Z) (u1:bF<(l_l:Int):=by omega) (u2:Ix bF l_l:=by omega) (u3:I6 ((lG:Int)-1):=by omega) (u4:I6 (bF+1):=by omega):zCW (some l_a) l_l l_c BA bF Z Nx Qr Q0 :=
 kO 0 (bF+1) [.g,.g,.g,.b true,.g,.g,.i,.l (iV nF),.g,.l (.slice qE lG cF),.g,.n ((lG:Int)-1),.c (.bool true) Z,.g,.g,.n (bF+1),.g] (fun _ f=>ai (zR u1) (an6 u2 h1 h2 (w64 u3) h3 (w64 u4) f)) nx
theorem yCQ (h1:lz Z 3 (zL l_a (Int.toNat bF*1)) (iV nF)) (h2:lz Z 23 (qe BA 2) (.slice qE lG cF)) (h3:qm 33 [iV nF,iV (-1),iV ((lG:Int)-1)] Z (.bool false) Z) (nx:Qr false Z) (u1:bF<(l_l:Int):=by omega) (u2:Ix bF l_l:=by omega) (u3:I6 ((lG:Int)-1):=by omega):zCW (some l_a) l_l l_c BA bF Z Nx Qr Q0 :=
 kO 1 false [.g,.g,.g,.b true,.g,.g,.i,.l (iV nF),.g,.l (.slice qE lG cF),.g,.n ((lG:Int)-1),.c (.bool false) Z,.g,.g] (fun _ f=>an6 (zR u1) u2 h1 h2 (w64 u3) h3 f) nx
theorem yCP (nx:Q0 Z) (u1:¬ bF<(l_l:Int):=by omega):zCW l l_l l_c BA bF Z Nx Qr Q0 :=
 kO 2 () [.g,.g,.g,.b false] (fun _ f=>ai (zT u1) f) nx
theorem yIO:let y0:=wkc ak af ac ad ae aa ab am au aj;∀ (hL:zPG l l_l l_c Z.y 0 (Z.row y0 6) Pr P0) (kr:∀ t4_1' Z',Pr t4_1' Z'->zJK l l_l l_c Z.y t4_1' Z' Q) (k0:∀ Z',P0 Z'->zDR l l_l l_c Z.y Z' Q),qg 21 [qf y0,.slice l l_l l_c] Z Q :=
 fun hL kr k0=>zH [.g,.g,.g,.lf 28 (zAQ l l_l l_c Z.y 0) [zDP l l_l l_c Z.y Pr,zDQ l l_l l_c Z.y P0]] (kd (ai (ai tt (ai (arf (zAQ l l_l l_c Z.y 0)) hL)) (ai (kz1 kr) (ai (kz0 k0) trivial))))
theorem zVU (nx:Q (.bool eY) Z):zJK l l_l l_c BA eY Z Q :=
 sK [] nx
theorem zVW (h1:lz Z 22 (qe BA 1) (.slice qK lN cL)) (nx:Q (.bool true) Z) (u1:(l_l:Int)=(lN:Int):=by omega):zDR l l_l l_c BA Z Q :=
 sK [.g,.g,.g,.l (.slice qK lN cL),.g,.b true,.g] (an2 h1 (xL u1) nx)
theorem zVV (h1:lz Z 22 (qe BA 1) (.slice qK lN cL)) (nx:Q (.bool false) Z) (u1:¬ (l_l:Int)=(lN:Int):=by omega):zDR l l_l l_c BA Z Q :=
 sK [.g,.g,.g,.l (.slice qK lN cL),.g,.b false,.g] (an2 h1 (xK u1) nx)
end
structure Sane (w:Wk) (l m:Nat):Prop where
 l12:l<=12
 m6:m<=6
 duty:∀ i,i<l->0<=(dty w i).day/\(dty w i).day<=6/\0<=(dty w i).on/\(dty w i).on<=1439/\(dty w i).on<=(dty w i).lo/\(dty w i).lo<=(dty w i).hi/\(dty w i).hi<=(dty w i).on+1440
 dr:∀ k,k<m->-10080<=(drv w k).off/\(drv w k).off<=1440/\0<=(drv w k).row/\(drv w k).row<=14/\0<=(drv w k).used/\(drv w k).used<=20000
 kn:∀ k,k<m->(drv w k).knows.length<=1000/\(drv w k).leave.length<=1000/\(drv w k).wish.length<=1000
 rest:0<=w.rest/\w.rest<=3000
 run:1<=w.run/\w.run<=14
 hours:0<=w.hours/\w.hours<=20000
theorem yZO {n:Nat} {p q r:Option Addr} {l c m d j e:Nat} {x y z:Int} (h1:∀ a,p=some a->a.block<n) (h2:∀ a,q=some a->a.block<n) (h3:∀ a,r=some a->a.block<n):yU RD n (.agg ⟨zN p l c q m d r j e x y z⟩)=true:=by
 have e1:∀ a b:Nat,a<b->Nat.blt a b=true:=fun a b h=>by rw [Nat.blt_eq];exact h
 show List.all (zN p l c q m d r j e x y z) (yU (RD-1) n)=true;rcases p with _ | p <;> rcases q with _ | q <;> rcases r with _ | r <;> simp [yU,RD] <;> simp_all
theorem zAN {n:Nat} {p q:Option Addr} {l c m d:Nat} {a x y z:Int} (h1:∀ a,p=some a->a.block<n) (h2:∀ a,q=some a->a.block<n):yU RD n (.agg ⟨wkc a p l c q m d x y z⟩)=true:=by
 have e1:∀ a b:Nat,a<b->Nat.blt a b=true:=fun a b h=>by rw [Nat.blt_eq];exact h
 show List.all (wkc a p l c q m d x y z) (yU (RD-1) n)=true;rcases p with _ | p <;> rcases q with _ | q <;> simp [yU,RD] <;> simp_all
section
variable {Z:St} {w:Wk} {p q r t:Option Addr} {l m c d rc tc:Nat} {rs ts:List Int} {k i:Nat}
end
section
noncomputable section
variable (roster:oAa) (ax ay BA:Nat) (Q:(Option Addr)->Nat->Nat->Int->St->Prop) (q0:(Option Addr)->Nat->Nat->St->Prop) (dm:oAa) (dp dv:Nat) (dh eM eL:Int) (q2:Int->St->Prop) (q1:Int->Int->St->Prop) (Z:St) (q4:vPa) (Nx:(Option Addr)->Nat->Nat->Int->St->Prop) (q3:Int->Int->St->Prop) (Q0:(Option Addr)->Nat->Nat->St->Prop) (Q2:Int->St->Prop)
def zNQ:Code:=(Code.part [1,1,0,1,0,0] (qh 28))
def zDT:lNa:=[(1,.slice roster ax ay),(2,pt BA 0),(5,.slice dm dp dv),(6,iV dh)]
def zTX:Alt:=⟨(Option Addr) × Nat × Nat × Int,.normal,fun t=>zDT roster ax ay BA t.1 t.2.1 t.2.2.1 t.2.2.2,fun t=>[],fun t Z=>Q t.1 t.2.1 t.2.2.1 t.2.2.2 Z⟩
def zPJ (roster:oAa) (ax ay BA:Nat) (dm:oAa) (dp dv:Nat):lNa:=[(5,.slice dm dp dv)]
def zCX:Alt:=⟨(Option Addr) × Nat × Nat,(.exit 0),fun t=>zPJ roster ax ay BA t.1 t.2.1 t.2.2,fun t=>[],fun t Z=>q0 t.1 t.2.1 t.2.2 Z⟩
def zNS:Prop:=qi qj none zNQ 48 (zDT roster ax ay BA dm dp dv dh) [] [zTX roster ax ay BA Nx,zCX roster ax ay BA Q0] Z
def zNR:Prop:=qk qj none zNQ 48 (zDT roster ax ay BA dm dp dv dh) [] [zCX roster ax ay BA Q0] Z
def zYN:Code:=(Code.part [1,1,0,1,0,0,1,0,0,1,0,1,0,0] (qh 28))
def zDS:lNa:=[(1,.slice roster ax ay),(2,pt BA 0),(5,.slice dm dp dv),(6,iV dh),(7,iV eM),(8,iV eL)]
def yNN:Alt:=⟨Int × Int,.normal,fun t=>zDS roster ax ay BA dm dp dv dh t.1 t.2,fun t=>[],fun t Z=>q1 t.1 t.2 Z⟩
def zPI:lNa:=[(1,.slice roster ax ay),(2,pt BA 0),(5,.slice dm dp dv),(6,iV dh),(7,iV eM)]
def zGW:Alt:=⟨Int,(.exit 2),fun t=>zPI roster ax ay BA dm dp dv dh t,fun t=>[],fun t Z=>q2 t Z⟩
def zGX:Prop:=qi qj none zYN 48 (zDS roster ax ay BA dm dp dv dh eM eL) [] [yNN roster ax ay BA dm dp dv dh q3,zGW roster ax ay BA dm dp dv dh Q2] Z
def zYO:Prop:=qk qj none zYN 48 (zDS roster ax ay BA dm dp dv dh eM eL) [] [zGW roster ax ay BA dm dp dv dh Q2] Z
def zPK:Prop:=kZ qj zNQ [1,0,0,1,0,1,0] (zFK 48 [zTX roster ax ay BA Nx,zCX roster ax ay BA Q0]) (.exit 2) 48 (zPI roster ax ay BA dm dp dv dh eM) Z
def zPL:Prop:=kZ qj (qh 28) [1,1,0,1,0] (ql 28 q4) (.exit 0) 48 (zPJ roster ax ay BA dm dp dv) Z
end
variable {roster dm qC qP qA qD qZ af ae:oAa} {ax ay BA dp dv lI cH lA cA lF cD lS cQ lB cE lDB cAB ac ad aa ab:Nat} {Inv:Nat->(Option Addr)->Nat->Nat->Int->St->Prop} {Q0 P0:(Option Addr)->Nat->Nat->St->Prop} {dh eM eL nR nH nJ nBF nM nBG ak am au aj:Int} {Q2 P2:Int->St->Prop} {dR qA_a:Addr} {Z ZDB:St} {Nx:Int->Int->St->Prop} {Q:vPa}
theorem yCW (hb:∀ k dm dp dv dh Z,Inv k dm dp dv dh Z->zNS roster ax ay BA dm dp dv dh Z (NX4 Inv k) Q0):∀ k dm dp dv dh Z,Inv k dm dp dv dh Z->zNR roster ax ay BA dm dp dv dh Z Q0 :=
 yWM (ai (xY 0) trivial) hb
theorem yCV {Inv:Nat->Int->Int->St->Prop} (hb:∀ k eM eL Z,Inv k eM eL Z->zGX roster ax ay BA dm dp dv dh eM eL Z (NX2 Inv k) Q2):∀ k eM eL Z,Inv k eM eL Z->zYO roster ax ay BA dm dp dv dh eM eL Z Q2 :=
 zCP (ai (xY 2) trivial) hb
theorem yNK (h1:lz Z 23 (qe BA 2) (.slice (some dR) lI cH)) (h2:lz Z 26 (zL dR ((Int.toNat dh*6)+2)) (.slice (some qA_a) lA cA)) (h3:lz Z 25 (qe BA 0) (qf (wkc nR qC lF cD qP lS cQ nH nJ nBF))) (h4:lz Z 3 (zL qA_a (Int.toNat eL*1)) (iV nM)) (h5:qm 61 [qf (wkc nR qC lF cD qP lS cQ nH nJ nBF),.slice roster ax ay,iV dh,iV nM] Z (iV nBG) Z) (nx:Nx (eM+1) (eL+1) Z) (u1:Ix dh lI:=by omega) (u2:eL<(lA:Int):=by omega) (u3:Ix eL lA:=by omega) (u4:nBG<0:=by omega) (u5:I6 (eM+1):=by omega) (u6:I6 (eL+1):=by omega):zGX roster ax ay BA dm dp dv dh eM eL Z Nx Q2 :=
 kO 0 (eM+1,eL+1) [.g,.g,.l (.slice (some dR) lI cH),.g,.i,.g,.l (.slice (some qA_a) lA cA),.g,.b true,.l (qf (wkc nR qC lF cD qP lS cQ nH nJ nBF)),.g,.g,.g,.l (.slice (some dR) lI cH),.g,.i,.g,.l (.slice (some qA_a) lA cA),.g,.i,.l (iV nM),.c (iV nBG) Z,.b true,.g,.n (eM+1),.g,.g,.n (eL+1),.g] (fun _ f=>an2 h1 u1 (an6 h2 (zR u2) h3 h1 u1 h2 (an6 u3 h4 h5 (zR u4) (w64 u5) (w64 u6) f))) nx
theorem yNJ (h1:lz Z 23 (qe BA 2) (.slice (some dR) lI cH)) (h2:lz Z 26 (zL dR ((Int.toNat dh*6)+2)) (.slice (some qA_a) lA cA)) (h3:lz Z 25 (qe BA 0) (qf (wkc nR qC lF cD qP lS cQ nH nJ nBF))) (h4:lz Z 3 (zL qA_a (Int.toNat eL*1)) (iV nM)) (h5:qm 61 [qf (wkc nR qC lF cD qP lS cQ nH nJ nBF),.slice roster ax ay,iV dh,iV nM] Z (iV nBG) Z) (nx:Nx eM (eL+1) Z) (u1:Ix dh lI:=by omega) (u2:eL<(lA:Int):=by omega) (u3:Ix eL lA:=by omega) (u4:¬ nBG<0:=by omega) (u5:I6 (eL+1):=by omega):zGX roster ax ay BA dm dp dv dh eM eL Z Nx Q2 :=
 kO 0 (eM,eL+1) [.g,.g,.l (.slice (some dR) lI cH),.g,.i,.g,.l (.slice (some qA_a) lA cA),.g,.b true,.l (qf (wkc nR qC lF cD qP lS cQ nH nJ nBF)),.g,.g,.g,.l (.slice (some dR) lI cH),.g,.i,.g,.l (.slice (some qA_a) lA cA),.g,.i,.l (iV nM),.c (iV nBG) Z,.b false,.g,.n (eL+1),.g] (fun _ f=>ai h1 (an6 u1 h2 (zR u2) h3 h1 u1 (an6 h2 u3 h4 h5 (zT u4) (w64 u5) f))) nx
theorem yNI (h1:lz Z 23 (qe BA 2) (.slice (some dR) lI cH)) (h2:lz Z 26 (zL dR ((Int.toNat dh*6)+2)) (.slice qA lA cA)) (nx:Q2 eM Z) (u1:Ix dh lI:=by omega) (u2:¬ eL<(lA:Int):=by omega):zGX roster ax ay BA dm dp dv dh eM eL Z Nx Q2 :=
 kO 1 eM [.g,.g,.l (.slice (some dR) lI cH),.g,.i,.g,.l (.slice qA lA cA),.g,.b false] (fun _ f=>an4 h1 u1 h2 (zT u2) f) nx
theorem yNM {Nx:(Option Addr)->Nat->Nat->Int->St->Prop} (h1:lz Z 23 (qe BA 2) (.slice qD lB cE)) (hL:zYO roster ax ay BA dm dp dv dh 0 0 Z P2) (k2:∀ i7_2' Z',P2 i7_2' Z'->zPK roster ax ay BA dm dp dv dh i7_2' Z' Nx Q0) (u1:dh<(lB:Int):=by omega):zNS roster ax ay BA dm dp dv dh Z Nx Q0 :=
 zCC [.g,.g,.l (.slice qD lB cE),.g,.b true,.g,.g,.lf 48 (zDS roster ax ay BA dm dp dv dh 0 0) [zGW roster ax ay BA dm dp dv dh P2]] (fun g=>kd (an2 h1 (zR u1) (ai (ai tt (ai (arf (zDS roster ax ay BA dm dp dv dh 0 0)) hL)) (ai (kz1 k2) trivial))))
theorem yNL {Nx:(Option Addr)->Nat->Nat->Int->St->Prop} (h1:lz Z 23 (qe BA 2) (.slice qD lB cE)) (nx:Q0 dm dp dv Z) (u1:¬ dh<(lB:Int):=by omega):zNS roster ax ay BA dm dp dv dh Z Nx Q0 :=
 kO 1 (dm,dp,dv) [.g,.g,.l (.slice qD lB cE),.g,.b false] (fun _ f=>an2 h1 (zT u1) f) nx
theorem yCT {Nx:(Option Addr)->Nat->Nat->Int->St->Prop} (h1:yM Pg 26 26 (.slice dm dp dv) (.slice (some (qe Z.y 0)) 1 1) (Z.row [iV eM] 1)=some (.slice qZ lDB cAB,ZDB)) (nx:Nx qZ lDB cAB (dh+1) ZDB) (u1:I6 (dh+1):=by omega):zPK roster ax ay BA dm dp dv dh eM Z Nx Q0 :=
 sF 0 (qZ,lDB,cAB,dh+1) [.g,.g,.g,.e (.slice qZ lDB cAB) ZDB,.g,.g,.n (dh+1),.g] (fun _ f=>an2 h1 (w64 u1) f) nx
theorem yUC:let y0:=wkc ak af ac ad ae aa ab am au aj;∀ (hL:zNR roster ax ay Z.y none 0 0 0 (Z.row y0 6) P0) (k0:∀ p5_1' l5_1' c5_1' Z',P0 p5_1' l5_1' c5_1' Z'->zPL roster ax ay Z.y p5_1' l5_1' c5_1' Z' Q),qg 28 [qf y0,.slice roster ax ay] Z Q :=
 fun hL k0=>zH [.g,.g,.g,.g,.lf 48 (zDT roster ax ay Z.y none 0 0 0) [zCX roster ax ay Z.y P0]] (kd (ai (ai tt (ai (arf (zDT roster ax ay Z.y none 0 0 0)) hL)) (ai (kz3 k0) trivial)))
theorem yCU (nx:Q (.slice dm dp dv) Z):zPL roster ax ay BA dm dp dv Z Q :=
 sK [.g,.g] nx
end
abbrev yRU (b:Bch):Value:=.agg ⟨rcd b.kind b.drv b.dut⟩
section
variable {w:Wk} {ros tru:Nat->Int} {k q j:Nat}
end
section
variable {Z:St} {w:Wk} {p q r t:Option Addr} {l m c d rc tc:Nat} {rs ts:List Int} {k i:Nat}
end
def zEA (w:Wk) (rs:List Int):Bool:=rs.all (fun x=>inB x (-1) ((w.drivers.length:Int)-1)) && decide (rs.length=w.duties.length)
def zBA (w:Wk):List Int:=w.duties.map Dty.hi
section
variable {Z:St} {w:Wk} {p q r t:Option Addr} {l m c d rl rc tl tc:Nat} {rs ts:List Int} {td tv:Nat}
theorem yNH (h:WkP Z 92 76 w p l q m) (hr:yD Z r rl rs) (hl:rl<=1073741824) (hm:m<=1073741824):zD Tryz.prog 21 [.agg ⟨wkc w.days p l c q m d w.rest w.run w.hours⟩,.slice r rl rc] Z (.bool (zEA w rs)) Z:=by
 have hn:=h.len.1;have hmm:=h.len.2;have el:=hr.len;obtain ⟨Z1,hZ1⟩:∃ Z1,Z1=Z.re.row (wkc w.days p l c q m d w.rest w.run w.hours) 6:=⟨_,rfl⟩;have hk0:=xM Z.re (wkc w.days p l c q m d w.rest w.run w.hours) 6;rw [<- hZ1] at hk0;have hr0:yD Z1 r rl rs:=by rw [hZ1];exact SlV.le hr ((le0 Z).trans (Le.row _ _ _))
 have lD:zB Tryz.prog Z1 22 ⟨Z.re.y,1,none⟩=some (.slice p l c):=hk0.ld zCK rfl;have lV:zB Tryz.prog Z1 23 ⟨Z.re.y,2,none⟩=some (.slice q m d):=hk0.ld zEX rfl;have low1:Z.y<=Z1.low:=by rw [hZ1];exact Nat.le_refl _
 refine (yIO (zVX (Inv:=fun k i τ=>τ=Z1/\∃ j:Nat,i=j/\j+k=rl/\(rs.take j).all (fun x=>inB x (-1) ((w.drivers.length:Int)-1))=true) (Qr:=fun b τ=>τ=Z1/\b=false/\zEA w rs=false)
  (Q0:=fun τ=>τ=Z1/\rs.all (fun x=>inB x (-1) ((w.drivers.length:Int)-1))=true) ?_ rl 0 _ ⟨hZ1.symm,0,rfl,by omega,rfl⟩) ?_ ?_).pure
 ·rintro k i τ ⟨rfl,j,rfl,hk,ha⟩;by_cases hj:j<rl;rotate_left
  ·exact yCP ⟨rfl,by rwa [List.take_of_length_le (by omega)] at ha⟩ (by omega)
  obtain ⟨a,rfl,x,hx,lx⟩:=wS hr0 hj;have cin:=xKO (Z:=τ) (n:=x) (lo:=-1) (hi:=(m:Int)-1);cases hb:inB x (-1) ((m:Int)-1) with
  | true=>rw [hb] at cin;exact yCR lx lV cin ⟨k-1,by omega,rfl,j+1,by omega,by omega,zQY hx ha (by rw [hmm];exact hb)⟩ (by omega) (by omega) (by omega) (by omega)
  | false=>rw [hb] at cin;exact yCQ lx lV cin ⟨rfl,rfl,by unfold zEA;rw [yLA (f:=fun x=>inB x (-1) ((w.drivers.length:Int)-1)) (List.mem_of_getElem? hx) (by rw [hmm];exact hb)];rfl⟩ (by omega) (by omega) (by omega)
 ·rintro b τ ⟨rfl,rfl,e⟩;exact zVU ⟨by rw [e],low1⟩
 ·rintro τ ⟨rfl,e⟩;by_cases hh:rl=l
  ·exact zVW lD ⟨by unfold zEA;rw [e,decide_eq_true (by omega)];rfl,low1⟩ (by omega)
  ·exact zVV lD ⟨by unfold zEA;rw [e,decide_eq_false (by omega)];rfl,low1⟩ (by omega)
end
section
noncomputable section
variable (BA:Nat) (af vals ae:oAa) (f1:FuncId) (ac bN aa ad bS ab:Nat) (dU:lVa) (q0:(Option Addr)->Nat->Nat->Int->St->Prop) (q2:(Option Addr)->Nat->Nat->St->Prop) (ff:oAa) (aI:Int) (q6:St->Prop) (q5:Int->St->Prop) (ms:List Nat) (g:Nat->Value) (fh fm:Nat) (st:LoopState) (aG:Int) (pend:Option Code) (Z:St) (db:Nat) (Qn:St->Prop) (Nx Qr:Int->St->Prop) (Q:vPa) (q3:(Option Addr)->Nat->Nat->Int->St->Prop) (Q0:St->Prop) (q4:(Option Addr)->Nat->Nat->St->Prop)
def zHO:Code:=(Code.part [1,0,1,0,0] (qh 85))
def zHN:Code:=(Code.part [1,0,1,0,1] (qh 85))
def zGD:lNa:=[(4,pt BA 0),(8,.func (.func f1) ⟨[]⟩ ⟨dU⟩)]
def yGZ:Blk:=.loop (Fm 16 (ov (zGD BA f1 dU) g)) [9,10] zHO zHN st pend db
def xHK:Prop:=zTL Pg qj (.tmp 8) ⟨[9,10]⟩ zHO zHN 16 (zGD BA f1 dU) [(.normal,Qn)] Z
def zUX:Prop:=∀ g:Nat->Value,∃ an,Hid (kAt Pg qj none (qh 85) [1,0,1,0] (ql 85 Q) .normal ⟨Fm 16 (ov (zGD BA f1 dU) g),ms⟩ Z an)
def xCN:Code:=(Code.part [1,0,1,0,0] (qh 86))
def zQN:lNa:=[(2,.slice ff fh fm),(6,.slice af ac ad),(7,iV (ac:Int)),(8,iV aG)]
def xPJ:Alt:=⟨(Option Addr) × Nat × Nat × Int,.normal,fun t=>zQN af ac ad t.1 t.2.1 t.2.2.1 t.2.2.2,fun t=>[],fun t Z=>q0 t.1 t.2.1 t.2.2.1 t.2.2.2 Z⟩
def yGX (af:oAa) (ac ad:Nat) (ff:oAa) (fh fm:Nat):lNa:=[(2,.slice ff fh fm)]
def zSS:Alt:=⟨(Option Addr) × Nat × Nat,(.exit 0),fun t=>yGX af ac ad t.1 t.2.1 t.2.2,fun t=>[],fun t Z=>q2 t.1 t.2.1 t.2.2 Z⟩
def yKC:Prop:=qi qj none xCN 20 (zQN af ac ad ff fh fm aG) [] [xPJ af ac ad q3,zSS af ac ad q4] Z
def xCO:Prop:=qk qj none xCN 20 (zQN af ac ad ff fh fm aG) [] [zSS af ac ad q4] Z
def yGY:Prop:=kZ qj (qh 86) [1,0,1,0] (ql 86 Q) (.exit 0) 20 (yGX af ac ad ff fh fm) Z
def zXI:Code:=(Code.part [1,0,1,0,0] (qh 74))
def zGP:lNa:=[(2,pt BA 0),(6,.slice ae aa ab),(7,iV (aa:Int)),(8,iV aG)]
def yLW:Alt:=⟨Int,.normal,fun t=>zGP BA ae aa ab t,fun t=>[],fun t Z=>q5 t Z⟩
def zOU (BA:Nat) (ae:oAa) (aa ab:Nat):lNa:=[(2,pt BA 0)]
def zGQ:Alt:=⟨Unit,(.exit 0),fun t=>zOU BA ae aa ab,fun t=>[],fun t Z=>q6 Z⟩
def zNG:Prop:=qi qj none zXI 24 (zGP BA ae aa ab aG) [] [yLW BA ae aa ab Nx,zGQ BA ae aa ab Q0] Z
def zXJ:Prop:=qk qj none zXI 24 (zGP BA ae aa ab aG) [] [zGQ BA ae aa ab Q0] Z
def zOV:Prop:=kZ qj (qh 74) [1,0,1,0] (ql 74 Q) (.exit 0) 24 (zOU BA ae aa ab) Z
def yRI:Code:=(Code.part [1,1,0,1,0,0] (qh 80))
def zKQ:lNa:=[(3,iV 0),(6,.slice vals bN bS),(7,iV (bN:Int)),(8,iV aG)]
def xHV:Alt:=⟨Int,.normal,fun t=>zKQ vals bN bS t,fun t=>[],fun t Z=>q5 t Z⟩
def yBI (vals:oAa) (bN bS:Nat) (aI:Int):lNa:=[(2,iV aI)]
def zOL:Alt:=⟨Int,.ret,fun t=>yBI vals bN bS t,fun t=>[],fun t Z=>q5 t Z⟩
def yBJ (vals:oAa) (bN bS:Nat):lNa:=[(3,iV 0)]
def zOM:Alt:=⟨Unit,(.exit 0),fun t=>yBJ vals bN bS,fun t=>[],fun t Z=>q6 Z⟩
def zQS:Prop:=qi qj none yRI 18 (zKQ vals bN bS aG) [] [xHV vals bN bS Nx,zOL vals bN bS Qr,zOM vals bN bS Q0] Z
def yRJ:Prop:=qk qj none yRI 18 (zKQ vals bN bS aG) [] [zOL vals bN bS Qr,zOM vals bN bS Q0] Z
def yBK:Prop:=kZ qj (qh 80) [1,1,0,1,0] (ql 80 Q) .ret 18 (yBI vals bN bS aI) Z
def yBL:Prop:=kZ qj (qh 80) [1,1,0,1,0] (ql 80 Q) (.exit 0) 18 (yBJ vals bN bS) Z
end
variable {ak am au aj day y aC aN az aA aF aG nF nG nD nB nA nE bk dN eB dM eC x1 aT bx a9 a7 n1 n2 n3 n4 dX aI dT dw ee eP d9 eZ:Int} {af ae qCB qDB qM qW ff qH qD qE qF q1 vals:oAa} {ac ad aa ab BA lo lGB cDB lHB cEB db lK cN lBB cW fh fm lJ cI lB cE lG cF lH cG l1 c1 bN bS:Nat} {Z ZEB ZFB τ Z2 ZE fy ZR ZS:St} {Q:vPa} {f1:FuncId} {dU cs1838 cs1840:lVa} {g:Nat->Value} {Qn Pn Q0 P0:St->Prop} {ms:List Nat} {Inv:Nat->Int->St->Prop} {w_Duties_a bt vals_a:Addr} {Nx Qr Pr:Int->St->Prop} {b2:Bool}
theorem wAB:let y0:=wkc ak af ac ad ae aa ab am au aj;∀ (nx:Q (.func (.func 91) ⟨[]⟩ ⟨[pt Z.y 0,pt ((Z.y+1)) 0]⟩) ((Z.row y0 6).row [iV day] 1)),qg 75 [qf y0,iV day] Z Q :=
 fun nx=>zH [.g,.g,.g,.g,.g] (kd nx)
theorem yXY (hl:yH τ.heap lo=some (yGZ BA f1 dU g .ready none db)) (hZ:Z=τ.re.put lo (yGZ BA f1 dU g .busy none db)) (h1:lz Z 26 (qe BA 0) (.slice qCB lGB cDB)) (h2:yM Pg 26 26 (.slice qCB lGB cDB) (.slice (some (qe Z.y 0)) 1 1) (Z.row [iV y] 1)=some (.slice qDB lHB cEB,ZEB)) (h3:qn (evL [pt BA 0,.slice qDB lHB cEB]) ZEB (.store 26 (.tmp 0) (.tmp 1))=some (undef,ZFB)) (nx:Qn ZFB):zFJ Pg lo [iV y,qf (zF aC aN az aA aF)] τ (Fm 16 (ov (zGD BA f1 dU) g)) [9,10] zHO zHN db [⟨Unit,.normal,fun _=>[],fun _=>[],fun _ Z=>Qn Z⟩] :=
 xKB hl rfl hZ [.g,.l (.slice qCB lGB cDB),.g,.g,.e (.slice qDB lHB cEB) ZEB,.e undef ZFB,.fin ⟨Unit,.normal,fun _=>[],fun _=>[],fun _ Z=>Qn Z⟩ ()] (kc (by kernel_rfl) (ai (ai (rfl:Exit.normal=Exit.normal) (rfl:τ.re=τ.re)) (an3 h1 h2 h3 (xYU (alts:=[⟨Unit,.normal,fun _=>[],fun _=>[],fun _ Z=>Qn Z⟩]) ⟨Unit,.normal,fun _=>[],fun _=>[],fun _ Z=>Qn Z⟩ () nx in0))))
theorem xHJ:let y0:=wkc ak af ac ad ae aa ab am au aj;∀ (h1:qm 75 [qf y0,iV day] ((Z.row y0 6).row [.slice none 0 0] 1) (.func (.func f1) ⟨[]⟩ ⟨dU⟩) Z2) (hL:xHK (Z.y+1) f1 dU Z2 Pn) (kn:∀ Z',Pn Z'->zUX (Z.y+1) f1 dU [Z2.y] Z' Q),qg 85 [qf y0,iV day] Z Q :=
 let s1:=zGD (Z.y+1) f1 dU;let y0:=wkc ak af ac ad ae aa ab am au aj;fun h1 hL kn=>zH [.g,.g,.l (qf y0),.g,.c (.func (.func f1) ⟨[]⟩ ⟨dU⟩) Z2,.rf 16 s1 [(.normal,Pn)]] (kd (an2 ((zC _ _ _).row.rw.ldN xV xB (k:=0) rfl rfl (nle rfl):lz ((Z.row y0 6).row [.slice none 0 0] 1) 34 (qe Z.y 0) (qf y0)) h1 (ai (ai tt (ai (arf s1) hL)) (ai (kz kn) trivial))))
theorem yKE (h1:lz Z 26 (qe BA 0) (.slice qM lK cN)) (h2:qn (evL [pt BA 0,.slice qM lK cN]) Z (.store 26 (.tmp 0) (.tmp 1))=some (undef,ZE)) (h3:xDA ms ZE fy) (h4:lz fy 26 (qe BA 0) (.slice qW lBB cW)) (nx:Q (.slice qW lBB cW) fy):zUX BA f1 dU ms Z Q :=
 sK [.l (.slice qM lK cN),.e undef ZE,.l (.slice qW lBB cW)] (an2 h1 h2 (zNF (K:=(fun fy=>lz fy 26 (qe BA 0) (.slice qW lBB cW)/\Q (.slice qW lBB cW) fy)) h3 (ai h4 nx)))
theorem yXU {Inv:Nat->(Option Addr)->Nat->Nat->Int->St->Prop} {Q0:(Option Addr)->Nat->Nat->St->Prop} (hb:∀ k ff fh fm aG Z,Inv k ff fh fm aG Z->yKC af ac ad ff fh fm aG Z (NX4 Inv k) Q0):∀ k ff fh fm aG Z,Inv k ff fh fm aG Z->xCO af ac ad ff fh fm aG Z Q0 :=
 yWM (ai (xY 0) trivial) hb
theorem xPI {Nx:(Option Addr)->Nat->Nat->Int->St->Prop} {Q0:(Option Addr)->Nat->Nat->St->Prop}:let y0:=zF nF nG nD nB nA;∀ (h1:lz Z 85 (zL w_Duties_a (Int.toNat aG*5)) (qf y0)) (h2:yM Pg 26 26 (.slice ff fh fm) (.slice (some ⟨(Z.y+1),0,none⟩) 1 1) (((Z.row (zF 0 0 0 0 0) 5).own Z.y y0 5).row [iV nB] 1)=some (.slice qH lJ cI,ZR)) (nx:Nx qH lJ cI (aG+1) ZR) (u1:aG<(ac:Int):=by omega) (u2:Ix aG ac:=by omega) (u3:I6 (aG+1):=by omega),yKC (some w_Duties_a) ac ad ff fh fm aG Z Nx Q0 :=
 let s1:=Z.row (zF 0 0 0 0 0) 5;let s2:=s1.own Z.y (zF nF nG nD nB nA) 5;let y0:=zF nF nG nD nB nA;fun h1 h2 nx u1 u2 u3=>kO 0 (qH,lJ,cI,aG+1) [.b true,.i,.l (qf y0),.g,.e undef s2,.g,.g,.g,.l (iV nB),.g,.e (.slice qH lJ cI) ZR,.g,.n (aG+1),.g] (fun _ f=>ai (zR u1) (an6 u2 h1 ((zC _ _ _).store (vs:=y0) rfl vY rfl (nle rfl) rfl:qn (evL [pt Z.y 0,qf y0]) s1 (.store 85 (.tmp 0) (.tmp 1))=some (undef,s2)) ((zC _ _ _).put.rw.ld zU (k:=3) rfl:lz s2 3 (qe Z.y 3) (iV nB)) h2 (w64 u3) f)) nx
theorem xPH {Nx:(Option Addr)->Nat->Nat->Int->St->Prop} {Q0:(Option Addr)->Nat->Nat->St->Prop} (nx:Q0 ff fh fm Z) (u1:¬ aG<(ac:Int):=by omega):yKC af ac ad ff fh fm aG Z Nx Q0 :=
 kO 1 (ff,fh,fm) [.b false] (fun _ f=>ai (zT u1) f) nx
theorem xUS {P0:(Option Addr)->Nat->Nat->St->Prop} (hL:xCO af ac ad none 0 0 0 (Z.row (wkc ak af ac ad ae aa ab am au aj) 6) P0) (k0:∀ p2_1' l2_1' c2_1' Z',P0 p2_1' l2_1' c2_1' Z'->yGY af ac ad p2_1' l2_1' c2_1' Z' Q):qg 86 [qf (wkc ak af ac ad ae aa ab am au aj)] Z Q :=
 zH [.g,.g,.g,.l (.slice af ac ad),.g,.g,.lf 20 (zQN af ac ad none 0 0 0) [zSS af ac ad P0]] (kd (ai ((zC _ _ _).rw.ld zAV (k:=1) rfl:lz (Z.row (wkc ak af ac ad ae aa ab am au aj) 6) 31 (qe Z.y 1) (.slice af ac ad)) (ai (ai tt (ai (arf (zQN af ac ad none 0 0 0)) hL)) (ai (kz3 k0) trivial))))
theorem yXT (nx:Q (.slice ff fh fm) Z):yGY af ac ad ff fh fm Z Q :=
 sK [.g,.g] nx
theorem yCJ (hb:∀ k aG Z,Inv k aG Z->zNG BA ae aa ab aG Z (NX1 Inv k) Q0):∀ k aG Z,Inv k aG Z->zXJ BA ae aa ab aG Z Q0 :=
 xC (ai (xY 0) trivial) hb
theorem yLV:let y0:=zN qD lB cE qE lG cF qF lH cG nB nA nE;∀ (h1:lz Z 88 (zL bt (Int.toNat aG*6)) (qf y0)) (h2:qn (evL [pt BA (0+Int.toNat aG*4),qf (zK nB nA nE (-1))]) ((Z.row (zN none 0 0 none 0 0 none 0 0 0 0 0) 6).own Z.y y0 6) (.store 107 (.tmp 0) (.tmp 1))=some (undef,ZS)) (nx:Nx (aG+1) ZS) (u1:aG<(aa:Int):=by omega) (u2:Ix aG aa:=by omega) (u3:Ix aG 6:=by omega) (u4:I6 (aG+1):=by omega),zNG BA (some bt) aa ab aG Z Nx Q0 :=
 let s1:=Z.row (zN none 0 0 none 0 0 none 0 0 0 0 0) 6;let s2:=s1.own Z.y (zN qD lB cE qE lG cF qF lH cG nB nA nE) 6;let y0:=zN qD lB cE qE lG cF qF lH cG nB nA nE;fun h1 h2 nx u1 u2 u3 u4=>kO 0 (aG+1) [.b true,.g,.i,.l (qf y0),.g,.g,.e undef s2,.g,.g,.l (iV nB),.g,.l (iV nA),.g,.l (iV nE),.g,.i,.e undef ZS,.n (aG+1),.g] (fun _ f=>an4 (zR u1) u2 h1 ((zC _ _ _).store (vs:=y0) rfl zFD rfl (nle rfl) rfl:qn (evL [pt Z.y 0,qf y0]) s1 (.store 88 (.tmp 0) (.tmp 1))=some (undef,s2)) (an6 ((zC _ _ _).put.rw.ld zU (k:=3) rfl:lz s2 3 (qe Z.y 3) (iV nB)) ((zC _ _ _).put.rw.ld zU (k:=4) rfl:lz s2 3 (qe Z.y 4) (iV nA)) ((zC _ _ _).put.rw.ld zU (k:=5) rfl:lz s2 3 (qe Z.y 5) (iV nE)) u3 h2 (w64 u4) f)) nx
theorem yLU (nx:Q0 Z) (u1:¬ aG<(aa:Int):=by omega):zNG BA ae aa ab aG Z Nx Q0 :=
 kO 1 () [.b false] (fun _ f=>ai (zT u1) f) nx
theorem ySV (hL:zXJ (Z.y+1) ae aa ab 0 ((Z.row (wkc ak af ac ad ae aa ab am au aj) 6).row [iV 0,iV 0,iV 0,iV 0,iV 0,iV 0,iV 0,iV 0,iV 0,iV 0,iV 0,iV 0,iV 0,iV 0,iV 0,iV 0,iV 0,iV 0,iV 0,iV 0,iV 0,iV 0,iV 0,iV 0] 4) P0) (k0:∀ Z',P0 Z'->zOV (Z.y+1) ae aa ab Z' Q):qg 74 [qf (wkc ak af ac ad ae aa ab am au aj)] Z Q :=
 let s1:=zGP (Z.y+1) ae aa ab 0;zH [.g,.g,.g,.l (.slice ae aa ab),.g,.g,.lf 24 s1 [zGQ (Z.y+1) ae aa ab P0]] (kd (ai ((zC _ _ _).row.rw.ld uV (k:=2) rfl:lz ((Z.row (wkc ak af ac ad ae aa ab am au aj) 6).row [iV 0,iV 0,iV 0,iV 0,iV 0,iV 0,iV 0,iV 0,iV 0,iV 0,iV 0,iV 0,iV 0,iV 0,iV 0,iV 0,iV 0,iV 0,iV 0,iV 0,iV 0,iV 0,iV 0,iV 0] 4) 32 (qe Z.y 2) (.slice ae aa ab)) (ai (ai tt (ai (arf s1) hL)) (ai (kz0 k0) trivial))))
theorem yCI (h1:lz Z 109 (qe BA 0) (qf cs1838)) (h2:qn (evL [pt BA 0,qf cs1838]) Z (.store 109 (.tmp 0) (.tmp 1))=some (undef,ZE)) (h3:lz ZE 109 (qe BA 0) (qf cs1840)) (nx:Q (qf cs1840) ZE):zOV BA ae aa ab Z Q :=
 sK [.l (qf cs1838),.e undef ZE,.l (qf cs1840)] (an3 h1 h2 h3 nx)
theorem yIY (nx:Q (.slice (some (qe Z.y 0)) 5 5) (Z.row [.int .u8 0,.func (.func 92) ⟨[]⟩ ⟨[]⟩,.int .u8 1,.func (.func 93) ⟨[]⟩ ⟨[]⟩,.int .u8 2,.func (.func 94) ⟨[]⟩ ⟨[]⟩,.int .u8 3,.func (.func 95) ⟨[]⟩ ⟨[]⟩,.int .u8 4,.func (.func 96) ⟨[]⟩ ⟨[]⟩] 2)):qg 76 [] Z Q :=
 zH [.g,.g,.g,.g,.g,.g,.g,.g] (kd nx)
theorem xES:let s1:=Z.row (wkc ak af ac ad (some bt) aa ab am au aj) 6;let s2:=s1.row (zF aC aN az aA aF) 5;let s3:=s2.row (zK dN eB dM eC) 4;∀ (h1:lz s3 26 (zL bt ((Int.toNat bk*6)+0)) (.slice q1 l1 c1)) (h2:qm 58 [.slice q1 l1 c1,iV aF] s3 (.bool b2) s3) (nx:Q (.bool b2) s3) (u1:Ix bk aa:=by omega),qg 92 [qf (wkc ak af ac ad (some bt) aa ab am au aj),iV bk,qf (zF aC aN az aA aF),qf (zK dN eB dM eC)] Z Q:=
 let s1:=Z.row (wkc ak af ac ad (some bt) aa ab am au aj) 6;let s2:=s1.row (zF aC aN az aA aF) 5;let s3:=s2.row (zK dN eB dM eC) 4;fun h1 h2 nx u1=>zH [.g,.g,.g,.g,.g,.l (.slice (some bt) aa ab),.g,.i,.g,.l (.slice q1 l1 c1),.g,.l (iV aF),.c (.bool b2) s3,.g] (kd (an5 ((zC _ _ _).row.row.rw.ld uV (k:=2) rfl:lz s3 32 (qe Z.y 2) (.slice (some bt) aa ab)) u1 h1 ((zC _ _ _).row.rw.ld zU (k:=4) rfl:lz s3 3 ⟨(Z.y+1),4,none⟩ (iV aF)) h2 nx))
theorem xKW:let s1:=Z.row (wkc ak af ac ad (some bt) aa ab am au aj) 6;let s2:=s1.row (zF aC aN az aA aF) 5;let s3:=s2.row (zK dN eB dM eC) 4;∀ (h1:lz s3 26 (zL bt ((Int.toNat bk*6)+1)) (.slice q1 l1 c1)) (h2:qm 58 [.slice q1 l1 c1,iV aC] s3 (.bool true) s3) (nx:Q (.bool false) s3) (u1:Ix bk aa:=by omega),qg 93 [qf (wkc ak af ac ad (some bt) aa ab am au aj),iV bk,qf (zF aC aN az aA aF),qf (zK dN eB dM eC)] Z Q:=
 let s1:=Z.row (wkc ak af ac ad (some bt) aa ab am au aj) 6;let s2:=s1.row (zF aC aN az aA aF) 5;let s3:=s2.row (zK dN eB dM eC) 4;fun h1 h2 nx u1=>zH [.g,.g,.g,.g,.g,.l (.slice (some bt) aa ab),.g,.i,.g,.l (.slice q1 l1 c1),.g,.l (iV aC),.c (.bool true) s3,.g,.g] (kd (an5 ((zC _ _ _).row.row.rw.ld uV (k:=2) rfl:lz s3 32 (qe Z.y 2) (.slice (some bt) aa ab)) u1 h1 ((zC _ _ _).row.rw.ld zU (k:=0) rfl:lz s3 3 ⟨(Z.y+1),0,none⟩ (iV aC)) h2 nx))
theorem xKV:let s1:=Z.row (wkc ak af ac ad (some bt) aa ab am au aj) 6;let s2:=s1.row (zF aC aN az aA aF) 5;let s3:=s2.row (zK dN eB dM eC) 4;∀ (h1:lz s3 26 (zL bt ((Int.toNat bk*6)+1)) (.slice q1 l1 c1)) (h2:qm 58 [.slice q1 l1 c1,iV aC] s3 (.bool false) s3) (nx:Q (.bool true) s3) (u1:Ix bk aa:=by omega),qg 93 [qf (wkc ak af ac ad (some bt) aa ab am au aj),iV bk,qf (zF aC aN az aA aF),qf (zK dN eB dM eC)] Z Q:=
 let s1:=Z.row (wkc ak af ac ad (some bt) aa ab am au aj) 6;let s2:=s1.row (zF aC aN az aA aF) 5;let s3:=s2.row (zK dN eB dM eC) 4;fun h1 h2 nx u1=>zH [.g,.g,.g,.g,.g,.l (.slice (some bt) aa ab),.g,.i,.g,.l (.slice q1 l1 c1),.g,.l (iV aC),.c (.bool false) s3,.g,.g] (kd (an5 ((zC _ _ _).row.row.rw.ld uV (k:=2) rfl:lz s3 32 (qe Z.y 2) (.slice (some bt) aa ab)) u1 h1 ((zC _ _ _).row.rw.ld zU (k:=0) rfl:lz s3 3 ⟨(Z.y+1),0,none⟩ (iV aC)) h2 nx))
theorem yVB:let y0:=wkc ak af ac ad ae aa ab am au aj;let y1:=zF aC aN az aA aF;∀ (nx:Q (.bool true) (((Z.row y0 6).row y1 5).row (zK aT bx a9 a7) 4)) (u1:¬ a7=aC:=by omega),qg 94 [qf y0,iV x1,qf y1,qf (zK aT bx a9 a7)] Z Q :=
 let s1:=Z.row (wkc ak af ac ad ae aa ab am au aj) 6;let s2:=s1.row (zF aC aN az aA aF) 5;let s3:=s2.row (zK aT bx a9 a7) 4;fun nx u1=>zH [.g,.g,.g,.g,.g,.l (iV a7),.g,.l (iV aC),.b true,.g] (kd (an3 ((zC _ _ _).rw.ld zU (k:=3) rfl:lz s3 3 ⟨(Z.y+2),3,none⟩ (iV a7)) ((zC _ _ _).row.rw.ld zU (k:=0) rfl:lz s3 3 ⟨(Z.y+1),0,none⟩ (iV aC)) (uW u1) nx))
theorem yVA:let y0:=wkc ak af ac ad ae aa ab am au aj;let y1:=zF aC aN az aA aF;∀ (nx:Q (.bool false) (((Z.row y0 6).row y1 5).row (zK aT bx a9 a7) 4)) (u1:a7=aC:=by omega),qg 94 [qf y0,iV x1,qf y1,qf (zK aT bx a9 a7)] Z Q :=
 let s1:=Z.row (wkc ak af ac ad ae aa ab am au aj) 6;let s2:=s1.row (zF aC aN az aA aF) 5;let s3:=s2.row (zK aT bx a9 a7) 4;fun nx u1=>zH [.g,.g,.g,.g,.g,.l (iV a7),.g,.l (iV aC),.b false,.g] (kd (an3 ((zC _ _ _).rw.ld zU (k:=3) rfl:lz s3 3 ⟨(Z.y+2),3,none⟩ (iV a7)) ((zC _ _ _).row.rw.ld zU (k:=0) rfl:lz s3 3 ⟨(Z.y+1),0,none⟩ (iV aC)) (uB u1) nx))
theorem yVE:let y0:=wkc ak af ac ad ae aa ab am au aj;let y1:=zF aC aN az aA aF;∀ (nx:Q (.bool true) (((Z.row y0 6).row y1 5).row (zK aT bx a9 a7) 4)) (u1:a7=aC:=by omega),qg 95 [qf y0,iV x1,qf y1,qf (zK aT bx a9 a7)] Z Q :=
 let s1:=Z.row (wkc ak af ac ad ae aa ab am au aj) 6;let s2:=s1.row (zF aC aN az aA aF) 5;let s3:=s2.row (zK aT bx a9 a7) 4;fun nx u1=>zH [.g,.g,.g,.g,.g,.l (iV a7),.g,.l (iV aC),.b true,.g,.g,.g] (kd (an3 ((zC _ _ _).rw.ld zU (k:=3) rfl:lz s3 3 ⟨(Z.y+2),3,none⟩ (iV a7)) ((zC _ _ _).row.rw.ld zU (k:=0) rfl:lz s3 3 ⟨(Z.y+1),0,none⟩ (iV aC)) (xL u1) nx))
theorem yVD:let y0:=wkc ak af ac ad ae aa ab am au aj;let y1:=(aC*1440)+aN;let y2:=zF aC aN az aA aF;∀ (nx:Q (.bool true) (((Z.row y0 6).row y2 5).row (zK aT bx a9 a7) 4)) (u1:¬ a7=aC:=by omega) (u2:I6 (aC*1440):=by omega) (u3:I6 y1:=by omega) (u4:I6 (y1-aT):=by omega) (u5:am<=(y1-aT):=by omega),qg 95 [qf y0,iV x1,qf y2,qf (zK aT bx a9 a7)] Z Q :=
 let s1:=Z.row (wkc ak af ac ad ae aa ab am au aj) 6;let s2:=s1.row (zF aC aN az aA aF) 5;let s3:=s2.row (zK aT bx a9 a7) 4;let s4:=aC*1440;let s5:=Z.y+1;fun nx u1 u2 u3 u4 u5=>zH [.g,.g,.g,.g,.g,.l (iV a7),.g,.l (iV aC),.b false,.g,.g,.l (iV aC),.n s4,.g,.l (iV aN),.n (s4+aN),.g,.l (iV aT),.n ((s4+aN)-aT),.g,.l (iV am),.b true,.g,.g] (kd (an5 ((zC _ _ _).rw.ld zU (k:=3) rfl:lz s3 3 ⟨(Z.y+2),3,none⟩ (iV a7)) ((zC _ _ _).row.rw.ld zU (k:=0) rfl:lz s3 3 (qe s5 0) (iV aC)) (xK u1) ((zC _ _ _).row.rw.ld zU (k:=0) rfl:lz s3 3 (qe s5 0) (iV aC)) (w64 u2) (an6 ((zC _ _ _).row.rw.ld zU (k:=1) rfl:lz s3 3 (qe s5 1) (iV aN)) (w64 u3) ((zC _ _ _).rw.ld zU (k:=0) rfl:lz s3 3 ⟨(Z.y+2),0,none⟩ (iV aT)) (w64 u4) ((zC _ _ _).row.row.rw.ld zU (k:=3) rfl:lz s3 3 (qe Z.y 3) (iV am)) (yE u5) nx)))
theorem yVC:let y0:=wkc ak af ac ad ae aa ab am au aj;let y1:=(aC*1440)+aN;let y2:=zF aC aN az aA aF;∀ (nx:Q (.bool false) (((Z.row y0 6).row y2 5).row (zK aT bx a9 a7) 4)) (u1:¬ a7=aC:=by omega) (u2:I6 (aC*1440):=by omega) (u3:I6 y1:=by omega) (u4:I6 (y1-aT):=by omega) (u5:¬ am<=(y1-aT):=by omega),qg 95 [qf y0,iV x1,qf y2,qf (zK aT bx a9 a7)] Z Q :=
 let s1:=Z.row (wkc ak af ac ad ae aa ab am au aj) 6;let s2:=s1.row (zF aC aN az aA aF) 5;let s3:=s2.row (zK aT bx a9 a7) 4;let s4:=aC*1440;let s5:=Z.y+1;fun nx u1 u2 u3 u4 u5=>zH [.g,.g,.g,.g,.g,.l (iV a7),.g,.l (iV aC),.b false,.g,.g,.l (iV aC),.n s4,.g,.l (iV aN),.n (s4+aN),.g,.l (iV aT),.n ((s4+aN)-aT),.g,.l (iV am),.b false,.g,.g] (kd (an5 ((zC _ _ _).rw.ld zU (k:=3) rfl:lz s3 3 ⟨(Z.y+2),3,none⟩ (iV a7)) ((zC _ _ _).row.rw.ld zU (k:=0) rfl:lz s3 3 (qe s5 0) (iV aC)) (xK u1) ((zC _ _ _).row.rw.ld zU (k:=0) rfl:lz s3 3 (qe s5 0) (iV aC)) (w64 u2) (an6 ((zC _ _ _).row.rw.ld zU (k:=1) rfl:lz s3 3 (qe s5 1) (iV aN)) (w64 u3) ((zC _ _ _).rw.ld zU (k:=0) rfl:lz s3 3 ⟨(Z.y+2),0,none⟩ (iV aT)) (w64 u4) ((zC _ _ _).row.row.rw.ld zU (k:=3) rfl:lz s3 3 (qe Z.y 3) (iV am)) (yG u5) nx)))
theorem xEV:let y0:=wkc ak af ac ad ae aa ab am au aj;let y1:=zF aC aN az aA aF;∀ (nx:Q (.bool true) (((Z.row y0 6).row y1 5).row (zK aT bx a9 a7) 4)) (u1:a7=aC:=by omega),qg 96 [qf y0,iV x1,qf y1,qf (zK aT bx a9 a7)] Z Q :=
 let s1:=Z.row (wkc ak af ac ad ae aa ab am au aj) 6;let s2:=s1.row (zF aC aN az aA aF) 5;let s3:=s2.row (zK aT bx a9 a7) 4;fun nx u1=>zH [.g,.g,.g,.g,.g,.l (iV a7),.g,.l (iV aC),.b true,.g,.g,.g] (kd (an5 ((zC _ _ _).rw.ld zU (k:=3) rfl:lz s3 3 ⟨(Z.y+2),3,none⟩ (iV a7)) ((zC _ _ _).row.rw.ld zU (k:=0) rfl:lz s3 3 ⟨(Z.y+1),0,none⟩ (iV aC)) (xL u1) ((zE (zP (nlt Z.y 2 3 rfl)) zI):zG s3.y [pt ((Z.y+2)) 3]) ((zE (zP (nlt Z.y 1 3 rfl)) zI):zG s3.y [pt ((Z.y+1)) 0]) nx))
theorem xEU:let s1:=Z.row (wkc ak af ac ad ae aa ab am au aj) 6;let s2:=s1.row (zF aC aN az aA aF) 5;let s3:=s2.row (zK aT bx a9 a7) 4;∀ (h1:qm 77 [qf (zK aT bx a9 a7),qf (zF aC aN az aA aF),iV aN] s3 (qf (zK n1 n2 n3 n4)) s3) (nx:Q (.bool true) s3) (u1:¬ a7=aC:=by omega) (u2:n2<=au:=by omega),qg 96 [qf (wkc ak af ac ad ae aa ab am au aj),iV x1,qf (zF aC aN az aA aF),qf (zK aT bx a9 a7)] Z Q:=
 let s1:=Z.row (wkc ak af ac ad ae aa ab am au aj) 6;let s2:=s1.row (zF aC aN az aA aF) 5;let s3:=s2.row (zK aT bx a9 a7) 4;let s4:=Z.y+1;let s5:=Z.y+2;fun h1 nx u1 u2=>zH [.g,.g,.g,.g,.g,.l (iV a7),.g,.l (iV aC),.b false,.g,.l (qf (zK aT bx a9 a7)),.l (qf (zF aC aN az aA aF)),.g,.l (iV aN),.c (qf (zK n1 n2 n3 n4)) s3,.g,.g,.l (iV au),.b true,.g,.g] (kd (an6 ((zC _ _ _).rw.ld zU (k:=3) rfl:lz s3 3 (qe s5 3) (iV a7)) ((zC _ _ _).row.rw.ld zU (k:=0) rfl:lz s3 3 (qe s4 0) (iV aC)) (xK u1) ((zC _ _ _).rw.ldN vM xD (k:=0) rfl rfl (nle rfl):lz s3 107 (qe s5 0) (qf (zK aT bx a9 a7))) ((zC _ _ _).row.rw.ldN zNA vY (k:=0) rfl rfl (nle rfl):lz s3 85 (qe s4 0) (qf (zF aC aN az aA aF))) ((zC _ _ _).row.rw.ld zU (k:=1) rfl:lz s3 3 (qe s4 1) (iV aN)) (an6 h1 ((zC _ _ _).row.row.rw.ld zU (k:=4) rfl:lz s3 3 (qe Z.y 4) (iV au)) (yE u2) ((zE (zP (nlt Z.y 2 3 rfl)) zI):zG s3.y [pt s5 3]) ((zE (zP (nlt Z.y 1 3 rfl)) zI):zG s3.y [pt s4 0]) ((zE (zP (nlt Z.y 2 3 rfl)) zI):zG s3.y [pt s5 0]) (an6 ((zE (zP (nlt Z.y 1 3 rfl)) zI):zG s3.y [pt s4 0]) ((zE (zP (nlt Z.y 1 3 rfl)) zI):zG s3.y [pt s4 1]) ((zE (yI rfl) (zE (yI rfl) (zE (yI rfl) zI))):zG s3.y [qf (zK aT bx a9 a7),qf (zF aC aN az aA aF),iV aN]) ((zE (zP (nlt Z.y 0 3 rfl)) zI):zG s3.y [pt Z.y 4]) (⟨⟨(nlt Z.y 0 3 rfl),rfl⟩,((zC _ _ _).row.row.rw.ld zU (k:=4) rfl)⟩:(zLq s3 3 (qe Z.y 4) (iV au))) (⟨⟨(nlt Z.y 0 3 rfl),rfl⟩,((zC _ _ _).row.row.rw.ld zU (k:=4) rfl)⟩:(zLq s3 3 (qe Z.y 4) (iV au))) nx))))
theorem xET:let s1:=Z.row (wkc ak af ac ad ae aa ab am au aj) 6;let s2:=s1.row (zF aC aN az aA aF) 5;let s3:=s2.row (zK aT bx a9 a7) 4;∀ (h1:qm 77 [qf (zK aT bx a9 a7),qf (zF aC aN az aA aF),iV aN] s3 (qf (zK n1 n2 n3 n4)) s3) (nx:Q (.bool false) s3) (u1:¬ a7=aC:=by omega) (u2:¬ n2<=au:=by omega),qg 96 [qf (wkc ak af ac ad ae aa ab am au aj),iV x1,qf (zF aC aN az aA aF),qf (zK aT bx a9 a7)] Z Q:=
 let s1:=Z.row (wkc ak af ac ad ae aa ab am au aj) 6;let s2:=s1.row (zF aC aN az aA aF) 5;let s3:=s2.row (zK aT bx a9 a7) 4;let s4:=Z.y+1;let s5:=Z.y+2;fun h1 nx u1 u2=>zH [.g,.g,.g,.g,.g,.l (iV a7),.g,.l (iV aC),.b false,.g,.l (qf (zK aT bx a9 a7)),.l (qf (zF aC aN az aA aF)),.g,.l (iV aN),.c (qf (zK n1 n2 n3 n4)) s3,.g,.g,.l (iV au),.b false,.g,.g] (kd (an6 ((zC _ _ _).rw.ld zU (k:=3) rfl:lz s3 3 (qe s5 3) (iV a7)) ((zC _ _ _).row.rw.ld zU (k:=0) rfl:lz s3 3 (qe s4 0) (iV aC)) (xK u1) ((zC _ _ _).rw.ldN vM xD (k:=0) rfl rfl (nle rfl):lz s3 107 (qe s5 0) (qf (zK aT bx a9 a7))) ((zC _ _ _).row.rw.ldN zNA vY (k:=0) rfl rfl (nle rfl):lz s3 85 (qe s4 0) (qf (zF aC aN az aA aF))) ((zC _ _ _).row.rw.ld zU (k:=1) rfl:lz s3 3 (qe s4 1) (iV aN)) (an6 h1 ((zC _ _ _).row.row.rw.ld zU (k:=4) rfl:lz s3 3 (qe Z.y 4) (iV au)) (yG u2) ((zE (zP (nlt Z.y 2 3 rfl)) zI):zG s3.y [pt s5 3]) ((zE (zP (nlt Z.y 1 3 rfl)) zI):zG s3.y [pt s4 0]) ((zE (zP (nlt Z.y 2 3 rfl)) zI):zG s3.y [pt s5 0]) (an6 ((zE (zP (nlt Z.y 1 3 rfl)) zI):zG s3.y [pt s4 0]) ((zE (zP (nlt Z.y 1 3 rfl)) zI):zG s3.y [pt s4 1]) ((zE (yI rfl) (zE (yI rfl) (zE (yI rfl) zI))):zG s3.y [qf (zK aT bx a9 a7),qf (zF aC aN az aA aF),iV aN]) ((zE (zP (nlt Z.y 0 3 rfl)) zI):zG s3.y [pt Z.y 4]) (⟨⟨(nlt Z.y 0 3 rfl),rfl⟩,((zC _ _ _).row.row.rw.ld zU (k:=4) rfl)⟩:(zLq s3 3 (qe Z.y 4) (iV au))) (⟨⟨(nlt Z.y 0 3 rfl),rfl⟩,((zC _ _ _).row.row.rw.ld zU (k:=4) rfl)⟩:(zLq s3 3 (qe Z.y 4) (iV au))) nx))))
theorem xJN:let y0:=zK aT bx (a9+(dX-aN)) a7;let y1:=zF aC aN az aA aF;∀ (nx:Q (qf y0) (((((Z.row (zK aT bx a9 a7) 4).row y1 5).row (zK 0 0 0 0) 4).own Z.y y0 4).own (Z.y+2) y0 4)) (u1:I6 (dX-aN):=by omega) (u2:I6 (a9+(dX-aN)):=by omega) (u3:a7=aC:=by omega),qg 77 [qf (zK aT bx a9 a7),qf y1,iV dX] Z Q :=
 let s1:=Z.row (zK aT bx a9 a7) 4;let s2:=s1.row (zF aC aN az aA aF) 5;let s3:=s2.row (zK 0 0 0 0) 4;let s6:=a9+(dX-aN);let s4:=s3.own Z.y (zK aT bx s6 a7) 4;let s5:=s4.own (Z.y+2) (zK aT bx s6 a7) 4;fun nx u1 u2 u3=>zH [.g,.g,.g,.g,.l (iV a9),.g,.g,.l (iV aN),.n (dX-aN),.n s6,.g,.e undef s4,.g,.l (iV a7),.g,.l (iV aC),.b true,.l (qf (zK aT bx s6 a7)),.e undef s5,.l (qf (zK aT bx s6 a7))] (kd (an5 ((zC _ _ _).row.row.rw.ld zU (k:=2) rfl:lz s3 3 (qe Z.y 2) (iV a9)) ((zC _ _ _).row.rw.ld zU (k:=1) rfl:lz s3 3 ⟨(Z.y+1),1,none⟩ (iV aN)) (w64 u1) (w64 u2) ((zC _ _ _).row.row.store (vs:=[iV s6]) rfl vF rfl (nle rfl) rfl:qn (evL [pt Z.y 2,iV s6]) s3 (.store 3 (.tmp 0) (.tmp 1))=some (undef,s4)) (an6 ((zC _ _ _).row.row.put.rw.ld zU (k:=3) rfl:lz s4 3 (qe Z.y 3) (iV a7)) (((zC _ _ _).row.own (nne Z.y 1 0 rfl)).rw.ld zU (k:=0) rfl:lz s4 3 ⟨(Z.y+1),0,none⟩ (iV aC)) (xL u3) ((zC _ _ _).row.row.put.rw.ldN vM xD (k:=0) rfl rfl (nle rfl):lz s4 107 (qe Z.y 0) (qf (zK aT bx s6 a7))) (((zC _ _ _).own (nne Z.y 2 0 rfl)).store (vs:=(zK aT bx s6 a7)) rfl xD rfl (nle rfl) rfl:qn (evL [pt ((Z.y+2)) 0,qf (zK aT bx s6 a7)]) s4 (.store 107 (.tmp 0) (.tmp 1))=some (undef,s5)) (((zC _ _ _).own (nne Z.y 2 0 rfl)).put.rw.ldN vM xD (k:=0) rfl rfl (nle rfl):lz s5 107 ⟨(Z.y+2),0,none⟩ (qf (zK aT bx s6 a7))) nx)))
theorem xJM:let y1:=a9+(dX-aN);let y0:=zK ((aC*1440)+dX) 1 y1 aC;let y2:=zF aC aN az aA aF;∀ (nx:Q (qf y0) (((((((((Z.row (zK aT bx a9 a7) 4).row y2 5).row (zK 0 0 0 0) 4).own Z.y (zK aT bx y1 a7) 4).own Z.y (zK aT 0 y1 a7) 4).own Z.y (zK aT 1 y1 a7) 4).own Z.y (zK aT 1 y1 aC) 4).own Z.y y0 4).own (Z.y+2) y0 4)) (u1:I6 (dX-aN):=by omega) (u2:I6 y1:=by omega) (u3:¬ a7=aC:=by omega) (u4:I6 (aC-1):=by omega) (u5:¬ a7=(aC-1):=by omega) (u6:I6 (aC*1440):=by omega) (u7:I6 ((aC*1440)+dX):=by omega),qg 77 [qf (zK aT bx a9 a7),qf y2,iV dX] Z Q :=
 let s1:=Z.row (zK aT bx a9 a7) 4;let s2:=s1.row (zF aC aN az aA aF) 5;let s3:=s2.row (zK 0 0 0 0) 4;let s10:=a9+(dX-aN);let s4:=s3.own Z.y (zK aT bx s10 a7) 4;let s5:=s4.own Z.y (zK aT 0 s10 a7) 4;let s6:=s5.own Z.y (zK aT 1 s10 a7) 4;let s7:=s6.own Z.y (zK aT 1 s10 aC) 4;let s11:=(aC*1440)+dX;let s8:=s7.own Z.y (zK s11 1 s10 aC) 4;let s9:=s8.own (Z.y+2) (zK s11 1 s10 aC) 4;let s12:=Z.y+1;fun nx u1 u2 u3 u4 u5 u6 u7=>zH [.g,.g,.g,.g,.l (iV a9),.g,.g,.l (iV aN),.n (dX-aN),.n s10,.g,.e undef s4,.g,.l (iV a7),.g,.l (iV aC),.b false,.g,.l (iV a7),.g,.l (iV aC),.n (aC-1),.b true,.g,.e undef s5,.g,.l (iV 0),.g,.g,.e undef s6,.g,.l (iV aC),.g,.e undef s7,.g,.l (iV aC),.n (aC*1440),.g,.n s11,.g,.e undef s8,.l (qf (zK s11 1 s10 aC)),.e undef s9,.l (qf (zK s11 1 s10 aC))] (kd (an6 ((zC _ _ _).row.row.rw.ld zU (k:=2) rfl:lz s3 3 (qe Z.y 2) (iV a9)) ((zC _ _ _).row.rw.ld zU (k:=1) rfl:lz s3 3 (qe s12 1) (iV aN)) (w64 u1) (w64 u2) ((zC _ _ _).row.row.store (vs:=[iV s10]) rfl vF rfl (nle rfl) rfl:qn (evL [pt Z.y 2,iV s10]) s3 (.store 3 (.tmp 0) (.tmp 1))=some (undef,s4)) ((zC _ _ _).row.row.put.rw.ld zU (k:=3) rfl:lz s4 3 (qe Z.y 3) (iV a7)) (an6 (((zC _ _ _).row.own (nne Z.y 1 0 rfl)).rw.ld zU (k:=0) rfl:lz s4 3 (qe s12 0) (iV aC)) (xK u3) ((zC _ _ _).row.row.put.rw.ld zU (k:=3) rfl:lz s4 3 (qe Z.y 3) (iV a7)) (((zC _ _ _).row.own (nne Z.y 1 0 rfl)).rw.ld zU (k:=0) rfl:lz s4 3 (qe s12 0) (iV aC)) (w64 u4) (uW u5) (an6 ((zC _ _ _).row.row.put.store (vs:=[iV 0]) rfl vF rfl (nle rfl) rfl:qn (evL [pt Z.y 1,iV 0]) s4 (.store 3 (.tmp 0) (.tmp 1))=some (undef,s5)) ((zC _ _ _).row.row.put.put.rw.ld zU (k:=1) rfl:lz s5 3 (qe Z.y 1) (iV 0)) ((zC _ _ _).row.row.put.put.store (vs:=[iV 1]) rfl vF rfl (nle rfl) rfl:qn (evL [pt Z.y 1,iV 1]) s5 (.store 3 (.tmp 0) (.tmp 1))=some (undef,s6)) (((((zC _ _ _).row.own (nne Z.y 1 0 rfl)).own (nne Z.y 1 0 rfl)).own (nne Z.y 1 0 rfl)).rw.ld zU (k:=0) rfl:lz s6 3 (qe s12 0) (iV aC)) ((zC _ _ _).row.row.put.put.put.store (vs:=[iV aC]) rfl vF rfl (nle rfl) rfl:qn (evL [pt Z.y 3,iV aC]) s6 (.store 3 (.tmp 0) (.tmp 1))=some (undef,s7)) ((((((zC _ _ _).row.own (nne Z.y 1 0 rfl)).own (nne Z.y 1 0 rfl)).own (nne Z.y 1 0 rfl)).own (nne Z.y 1 0 rfl)).rw.ld zU (k:=0) rfl:lz s7 3 (qe s12 0) (iV aC)) (an6 (w64 u6) (w64 u7) ((zC _ _ _).row.row.put.put.put.put.store (vs:=[iV s11]) rfl vF rfl (nle rfl) rfl:qn (evL [pt Z.y 0,iV s11]) s7 (.store 3 (.tmp 0) (.tmp 1))=some (undef,s8)) ((zC _ _ _).row.row.put.put.put.put.put.rw.ldN vM xD (k:=0) rfl rfl (nle rfl):lz s8 107 (qe Z.y 0) (qf (zK s11 1 s10 aC))) (((((((zC _ _ _).own (nne Z.y 2 0 rfl)).own (nne Z.y 2 0 rfl)).own (nne Z.y 2 0 rfl)).own (nne Z.y 2 0 rfl)).own (nne Z.y 2 0 rfl)).store (vs:=(zK s11 1 s10 aC)) rfl xD rfl (nle rfl) rfl:qn (evL [pt ((Z.y+2)) 0,qf (zK s11 1 s10 aC)]) s8 (.store 107 (.tmp 0) (.tmp 1))=some (undef,s9)) (((((((zC _ _ _).own (nne Z.y 2 0 rfl)).own (nne Z.y 2 0 rfl)).own (nne Z.y 2 0 rfl)).own (nne Z.y 2 0 rfl)).own (nne Z.y 2 0 rfl)).put.rw.ldN vM xD (k:=0) rfl rfl (nle rfl):lz s9 107 ⟨(Z.y+2),0,none⟩ (qf (zK s11 1 s10 aC))) nx)))))
theorem xJL:let y1:=a9+(dX-aN);let y0:=zK ((aC*1440)+dX) (bx+1) y1 aC;let y2:=zF aC aN az aA aF;∀ (nx:Q (qf y0) ((((((((Z.row (zK aT bx a9 a7) 4).row y2 5).row (zK 0 0 0 0) 4).own Z.y (zK aT bx y1 a7) 4).own Z.y (zK aT (bx+1) y1 a7) 4).own Z.y (zK aT (bx+1) y1 aC) 4).own Z.y y0 4).own (Z.y+2) y0 4)) (u1:I6 (dX-aN):=by omega) (u2:I6 y1:=by omega) (u3:¬ a7=aC:=by omega) (u4:I6 (aC-1):=by omega) (u5:a7=(aC-1):=by omega) (u6:I6 (bx+1):=by omega) (u7:I6 (aC*1440):=by omega) (u8:I6 ((aC*1440)+dX):=by omega),qg 77 [qf (zK aT bx a9 a7),qf y2,iV dX] Z Q :=
 let s1:=Z.row (zK aT bx a9 a7) 4;let s2:=s1.row (zF aC aN az aA aF) 5;let s3:=s2.row (zK 0 0 0 0) 4;let s9:=a9+(dX-aN);let s4:=s3.own Z.y (zK aT bx s9 a7) 4;let s10:=(aC*1440)+dX;let s11:=bx+1;let s5:=s4.own Z.y (zK aT s11 s9 a7) 4;let s6:=s5.own Z.y (zK aT s11 s9 aC) 4;let s7:=s6.own Z.y (zK s10 s11 s9 aC) 4;let s8:=s7.own (Z.y+2) (zK s10 s11 s9 aC) 4;let s12:=Z.y+1;fun nx u1 u2 u3 u4 u5 u6 u7 u8=>zH [.g,.g,.g,.g,.l (iV a9),.g,.g,.l (iV aN),.n (dX-aN),.n s9,.g,.e undef s4,.g,.l (iV a7),.g,.l (iV aC),.b false,.g,.l (iV a7),.g,.l (iV aC),.n (aC-1),.b false,.g,.l (iV bx),.n s11,.g,.e undef s5,.g,.l (iV aC),.g,.e undef s6,.g,.l (iV aC),.n (aC*1440),.g,.n s10,.g,.e undef s7,.l (qf (zK s10 s11 s9 aC)),.e undef s8,.l (qf (zK s10 s11 s9 aC))] (kd (an6 ((zC _ _ _).row.row.rw.ld zU (k:=2) rfl:lz s3 3 (qe Z.y 2) (iV a9)) ((zC _ _ _).row.rw.ld zU (k:=1) rfl:lz s3 3 (qe s12 1) (iV aN)) (w64 u1) (w64 u2) ((zC _ _ _).row.row.store (vs:=[iV s9]) rfl vF rfl (nle rfl) rfl:qn (evL [pt Z.y 2,iV s9]) s3 (.store 3 (.tmp 0) (.tmp 1))=some (undef,s4)) ((zC _ _ _).row.row.put.rw.ld zU (k:=3) rfl:lz s4 3 (qe Z.y 3) (iV a7)) (an6 (((zC _ _ _).row.own (nne Z.y 1 0 rfl)).rw.ld zU (k:=0) rfl:lz s4 3 (qe s12 0) (iV aC)) (xK u3) ((zC _ _ _).row.row.put.rw.ld zU (k:=3) rfl:lz s4 3 (qe Z.y 3) (iV a7)) (((zC _ _ _).row.own (nne Z.y 1 0 rfl)).rw.ld zU (k:=0) rfl:lz s4 3 (qe s12 0) (iV aC)) (w64 u4) (uB u5) (an6 ((zC _ _ _).row.row.put.rw.ld zU (k:=1) rfl:lz s4 3 (qe Z.y 1) (iV bx)) (w64 u6) ((zC _ _ _).row.row.put.store (vs:=[iV s11]) rfl vF rfl (nle rfl) rfl:qn (evL [pt Z.y 1,iV s11]) s4 (.store 3 (.tmp 0) (.tmp 1))=some (undef,s5)) ((((zC _ _ _).row.own (nne Z.y 1 0 rfl)).own (nne Z.y 1 0 rfl)).rw.ld zU (k:=0) rfl:lz s5 3 (qe s12 0) (iV aC)) ((zC _ _ _).row.row.put.put.store (vs:=[iV aC]) rfl vF rfl (nle rfl) rfl:qn (evL [pt Z.y 3,iV aC]) s5 (.store 3 (.tmp 0) (.tmp 1))=some (undef,s6)) (((((zC _ _ _).row.own (nne Z.y 1 0 rfl)).own (nne Z.y 1 0 rfl)).own (nne Z.y 1 0 rfl)).rw.ld zU (k:=0) rfl:lz s6 3 (qe s12 0) (iV aC)) (an6 (w64 u7) (w64 u8) ((zC _ _ _).row.row.put.put.put.store (vs:=[iV s10]) rfl vF rfl (nle rfl) rfl:qn (evL [pt Z.y 0,iV s10]) s6 (.store 3 (.tmp 0) (.tmp 1))=some (undef,s7)) ((zC _ _ _).row.row.put.put.put.put.rw.ldN vM xD (k:=0) rfl rfl (nle rfl):lz s7 107 (qe Z.y 0) (qf (zK s10 s11 s9 aC))) ((((((zC _ _ _).own (nne Z.y 2 0 rfl)).own (nne Z.y 2 0 rfl)).own (nne Z.y 2 0 rfl)).own (nne Z.y 2 0 rfl)).store (vs:=(zK s10 s11 s9 aC)) rfl xD rfl (nle rfl) rfl:qn (evL [pt ((Z.y+2)) 0,qf (zK s10 s11 s9 aC)]) s7 (.store 107 (.tmp 0) (.tmp 1))=some (undef,s8)) ((((((zC _ _ _).own (nne Z.y 2 0 rfl)).own (nne Z.y 2 0 rfl)).own (nne Z.y 2 0 rfl)).own (nne Z.y 2 0 rfl)).put.rw.ldN vM xD (k:=0) rfl rfl (nle rfl):lz s8 107 ⟨(Z.y+2),0,none⟩ (qf (zK s10 s11 s9 aC))) nx)))))
theorem yRH (hb:∀ k aG Z,Inv k aG Z->zQS vals bN bS aG Z (NX1 Inv k) Qr Q0):∀ k aG Z,Inv k aG Z->yRJ vals bN bS aG Z Qr Q0 :=
 xC (ai uQ (ai (xY 0) trivial)) hb
theorem zSX (h1:lz Z 3 (zL vals_a (Int.toNat aG*1)) (iV nF)) (nx:Qr nF Z) (u1:aG<(bN:Int):=by omega) (u2:Ix aG bN:=by omega) (u3:¬ nF=0:=by omega):zQS (some vals_a) bN bS aG Z Nx Qr Q0 :=
 kO 1 nF [.b true,.i,.l (iV nF),.g,.g,.g,.b true,.g,.g] (fun _ f=>an4 (zR u1) u2 h1 (uW u3) f) nx
theorem zSW (h1:lz Z 3 (zL vals_a (Int.toNat aG*1)) (iV nF)) (nx:Nx (aG+1) Z) (u1:aG<(bN:Int):=by omega) (u2:Ix aG bN:=by omega) (u3:nF=0:=by omega) (u4:I6 (aG+1):=by omega):zQS (some vals_a) bN bS aG Z Nx Qr Q0 :=
 kO 0 (aG+1) [.b true,.i,.l (iV nF),.g,.g,.g,.b false,.n (aG+1),.g] (fun _ f=>an5 (zR u1) u2 h1 (uB u3) (w64 u4) f) nx
theorem xHU (nx:Q0 Z) (u1:¬ aG<(bN:Int):=by omega):zQS vals bN bS aG Z Nx Qr Q0 :=
 kO 2 () [.b false] (fun _ f=>ai (zT u1) f) nx
theorem xPU (hL:yRJ vals bN bS 0 Z Pr P0) (kr:∀ i2_1' Z',Pr i2_1' Z'->yBK vals bN bS i2_1' Z' Q) (k0:∀ Z',P0 Z'->yBL vals bN bS Z' Q):qg 80 [.slice vals bN bS] Z Q :=
 zH [.g,.g,.g,.g,.g,.lf 18 (zKQ vals bN bS 0) [zOL vals bN bS Pr,zOM vals bN bS P0]] (kd (ai (ai tt (ai (arf (zKQ vals bN bS 0)) hL)) (ai (kz1 kr) (ai (kz0 k0) trivial))))
theorem yRF (nx:Q (iV aI) Z):yBK vals bN bS aI Z Q :=
 sK [] nx
theorem yRG (nx:Q (iV 0) Z):yBL vals bN bS Z Q :=
 sK [.g,.g] nx
theorem xVK:let s1:=Z.row (rcd dT dw ee) 3;let s2:=s1.row (rcd eP d9 eZ) 3;let s3:=dw-d9;let s5:=dT-eP;let s6:=ee-eZ;let Y1:=s2.row [iV s3,iV s5,iV s6] 1;∀ (h1:qm 80 [.slice (some ⟨(Z.y+2),0,none⟩) 3 3] Y1 (iV n1) Y1) (nx:Q (iV n1) Y1) (u1:I6 s3:=by omega) (u2:I6 dT:=by omega) (u3:I6 eP:=by omega) (u4:I6 s5:=by omega) (u5:I6 s6:=by omega),qg 79 [qf (rcd dT dw ee),qf (rcd eP d9 eZ)] Z Q:=
 let s1:=Z.row (rcd dT dw ee) 3;let s2:=s1.row (rcd eP d9 eZ) 3;let s3:=dw-d9;let s4:=Z.y+1;let s5:=dT-eP;let s6:=ee-eZ;fun h1 nx u1 u2 u3 u4 u5=>zH [.g,.g,.g,.g,.l (iV dw),.g,.l (iV d9),.n s3,.g,.l (.int .u8 dT),.n dT,.g,.l (.int .u8 eP),.n eP,.n s5,.g,.l (iV ee),.g,.l (iV eZ),.n s6,.g,.c (iV n1) (s2.row [iV s3,iV s5,iV s6] 1),.g] (kd (an6 ((zC _ _ _).row.rw.ld zU (k:=1) rfl:lz s2 3 (qe Z.y 1) (iV dw)) ((zC _ _ _).rw.ld zU (k:=1) rfl:lz s2 3 (qe s4 1) (iV d9)) (w64 u1) ((zC _ _ _).row.rw.ld xZI (k:=0) rfl:lz s2 5 (qe Z.y 0) (.int .u8 dT)) (w64 u2) ((zC _ _ _).rw.ld xZI (k:=0) rfl:lz s2 5 (qe s4 0) (.int .u8 eP)) (an6 (w64 u3) (w64 u4) ((zC _ _ _).row.rw.ld zU (k:=2) rfl:lz s2 3 (qe Z.y 2) (iV ee)) ((zC _ _ _).rw.ld zU (k:=2) rfl:lz s2 3 (qe s4 2) (iV eZ)) (w64 u5) h1 nx)))
end
theorem zBO (xs:List Int):∀ (_:IntKind),wV (xs.map yA)=xs.map yA:=by
 intro _;induction xs with
 | nil=>rfl
 | cons x xs ih=>simp only [wV,List.map_cons,List.flatMap_cons] at ih ⊢;rw [ih];rfl
section
variable {Z:St}
theorem xYM {p q:Option Addr} {l c m d:Nat} {xs ys:List Int} (h1:yD Z p l xs) (h2:yD Z q m ys) (hl:l<=1073741824):zD Pg 30 [.slice p l c,.slice q m d] Z (.bool (decide (xs=ys))) Z:=by
 have e1:=h1.len;have e2:=h2.len;by_cases hlm:l=m
 ·subst hlm;have h1:=h1.re;have h2:=h2.re;refine (xUH (yWV (Inv:=fun k i5 τ=>τ=Z.re/\∃ i:Nat,i5=i/\i+k=l/\xs.take i=ys.take i) (Qr:=fun x τ=>τ=Z.re/\x=false/\xs≠ys) (Q0:=fun τ=>τ=Z.re/\xs=ys) ?_ l 0 Z.re ⟨rfl,0,rfl,by omega,rfl⟩) ?_ ?_).pure
  ·rintro k i5 τ ⟨rfl,i,rfl,hk,he⟩;by_cases hi:i<l
   ·obtain ⟨a,rfl,x,hx,l1⟩:=wS h1 hi;obtain ⟨b,rfl,y,hy,l2⟩:=wS h2 hi;by_cases hxy:x=y
    ·exact xNL l1 l2 ⟨k-1,by omega,rfl,i+1,by omega,by omega,by rw [xZ hx,xZ hy,he,hxy]⟩
    ·exact xNM l1 l2 ⟨rfl,rfl,fun e=>hxy (by rw [e,hy] at hx;exact (Option.some.inj hx).symm)⟩
   ·rw [List.take_of_length_le (by omega),List.take_of_length_le (by omega)] at he;exact xNK ⟨rfl,he⟩
  ·rintro x τ ⟨rfl,rfl,hne⟩;exact yWT ⟨by simp [hne],Nat.le_refl _⟩
  ·rintro τ ⟨rfl,rfl⟩;exact yWU ⟨by simp,Nat.le_refl _⟩
 ·rw [show decide (xs=ys)=false by simp;intro e;apply hlm;rw [<- e1,<- e2,e]];exact (xUI ⟨rfl,Nat.le_refl _⟩).pure
theorem zZU {p:Option Addr} {l c:Nat} {xs:List Int} (h:yD Z p l xs) (hl:l<=1073741824) :
  ∃ p' c' Z',zD Pg 19 [.slice p l c] Z (.slice p' l c') Z'/\New Z Z'/\yD Z' p' l xs/\∀ b,AtP p' b->Z.y<=b:=by
 have hc:(wV (xs.map yA)).all cellB=true:=by rw [zBO xs .i64];simp [List.all_eq_true];intro a _;rfl
 have N1:New Z.re (Z.re.row [] 1):=New.row _ _ _;obtain ⟨p6,c6,s5,ap1,A6,O6,b6⟩:=Ax.append (P:=Pg) (k:=c) (n0:=Z.re.y) zDH (Ax.lit (len:=0) (zC Z.re [] 1) rfl ((xE 0).2 vV) (Nat.le_refl _)) (SlV.le h ((le0 Z).trans N1.le)).1 (by omega) hc N1.nx;rw [Nat.zero_add] at ap1 A6;have N5:New Z.re s5:=N1.of_only O6 (by rintro b ⟨a,e,rfl⟩;cases e;exact Nat.le_refl _);exact zO.newSl (xUC ap1 ⟨N5,p6,c6,rfl,Ax.slv (by simpa using A6) (by simpa using h.2.1) h.2.2,fun b hb=>(A6.bd b hb).1⟩)
theorem xZU {p:Option Addr} {l c:Nat} {xs:List Int} (h:yD Z p l xs) (hl:l<=1073741824):zD Pg 27 [.slice p l c] Z (iV ((xs.filter fun x=>decide (0<=x)).length:Nat)) Z:=by
 have h1:=h.re;have e1:=h.len;refine (yUZ (yCY (Inv:=fun k i3 i4 τ=>τ=Z.re/\∃ j:Nat,i4=j/\j+k=l/\i3=(((xs.take j).filter fun x=>decide (0<=x)).length:Nat)/\((xs.take j).filter fun x=>decide (0<=x)).length<=j) (Q0:=fun i3 τ=>τ=Z.re/\i3=((xs.filter fun x=>decide (0<=x)).length:Nat)) ?_ l 0 0 Z.re ⟨rfl,0,rfl,by omega,rfl,Nat.le_refl _⟩) ?_).pure
 ·rintro k i3 i4 τ ⟨rfl,j,rfl,hk,rfl,hle⟩;by_cases hj:j<l
  ·obtain ⟨a,rfl,x,hx,l1⟩:=wS h1 hj;have es:(xs.take (j+1)).filter (fun x=>decide (0<=x))=(xs.take j).filter (fun x=>decide (0<=x))++if 0<=x then [x] else []:=by
    rw [xZ hx,List.filter_append];by_cases e:0<=x <;> simp [e]
   by_cases e:0<=x
   ·rw [if_pos e] at es;exact yNQ l1 ⟨k-1,by omega,rfl,j+1,by omega,by omega,by rw [es,List.length_append];simp,by rw [es,List.length_append];show _+1<=_;omega⟩ (by omega) (by omega) e (by omega) (by omega)
   ·rw [if_neg e,List.append_nil] at es;exact yNP l1 ⟨k-1,by omega,rfl,j+1,by omega,by omega,by rw [es],by rw [es];omega⟩ (by omega) (by omega) e (by omega)
  ·rw [List.take_of_length_le (by omega)];exact yNO ⟨rfl,rfl⟩ (by omega)
 ·rintro i3 τ ⟨rfl,rfl⟩;exact yCX ⟨rfl,Nat.le_refl _⟩
theorem xPQ {p:Option Addr} {l c:Nat} {xs:List Int} (h:yD Z p l xs) (hl:l<=1073741824):zD Pg 63 [.slice p l c] Z (iV ((xs.filter fun x=>decide (x≠-1)).length:Nat)) Z:=by
 have h1:=h.re;have e1:=h.len;refine (xHM (yKJ (Inv:=fun k i3 i4 τ=>τ=Z.re/\∃ j:Nat,i4=j/\j+k=l/\i3=(((xs.take j).filter fun x=>decide (x≠-1)).length:Nat)/\((xs.take j).filter fun x=>decide (x≠-1)).length<=j) (Q0:=fun i3 τ=>τ=Z.re/\i3=((xs.filter fun x=>decide (x≠-1)).length:Nat)) ?_ l 0 0 Z.re ⟨rfl,0,rfl,by omega,rfl,Nat.le_refl _⟩) ?_).pure
 ·rintro k i3 i4 τ ⟨rfl,j,rfl,hk,rfl,hle⟩;by_cases hj:j<l
  ·obtain ⟨a,rfl,x,hx,l1⟩:=wS h1 hj;have es:(xs.take (j+1)).filter (fun x=>decide (x≠-1))=(xs.take j).filter (fun x=>decide (x≠-1))++if x≠-1 then [x] else []:=by
    rw [xZ hx,List.filter_append];by_cases e:x≠-1 <;> simp [e]
   by_cases e:x≠-1
   ·rw [if_pos e] at es;exact yYD l1 ⟨k-1,by omega,rfl,j+1,by omega,by omega,by rw [es,List.length_append];simp,by rw [es,List.length_append];show _+1<=_;omega⟩ (by omega) (by omega) e (by omega) (by omega)
   ·rw [if_neg e,List.append_nil] at es;exact yYC l1 ⟨k-1,by omega,rfl,j+1,by omega,by omega,by rw [es],by rw [es];omega⟩ (by omega) (by omega) (Decidable.not_not.1 e) (by omega)
  ·rw [List.take_of_length_le (by omega)];exact yYB ⟨rfl,rfl⟩ (by omega)
 ·rintro i3 τ ⟨rfl,rfl⟩;exact yKI ⟨rfl,Nat.le_refl _⟩
section
variable {w:Wk} {p q r t:Option Addr} {l m c d rl rc tl tc:Nat} {rs ts:List Int}
theorem xYW (h:WkP Z 85 88 w p l q m) (hl:l<=1000):∃ p' c' Z',zD Pg 86 [.agg ⟨wkc w.days p l c q m d w.rest w.run w.hours⟩] Z (.slice p' l c') Z'/\New Z Z'/\yD Z' p' l (zBA w)/\∀ b,AtP p' b->Z.y<=b:=by
 have hn:=h.len.1;obtain ⟨Z1,hZ1⟩:∃ Z1,Z1=Z.re.row (wkc w.days p l c q m d w.rest w.run w.hours) 6:=⟨_,rfl⟩;have N1:New Z.re Z1:=by rw [hZ1];exact New.row _ _ _
 have L1:Le Z Z1:=(le0 Z).trans N1.le;refine zO.newSl (xUS (yXU (Inv:=fun k p' l' c' i τ=>New Z1 τ/\∃ j:Nat,i=j/\j+k=l/\l'=j/\Gr Pg τ Z1.y 3 1 p' l' c' (((zBA w).take j).map yA))
  (Q0:=fun p' l' c' τ=>New Z1 τ/\l'=l/\Gr Pg τ Z1.y 3 1 p' l' c' ((zBA w).map yA)) ?_ l none 0 0 0 _ ⟨by rw [<- hZ1];exact New.refl _,0,rfl,by omega,rfl,Gr.nil⟩) ?_)
 ·rintro k p' l' c' i τ ⟨hN,j,rfl,hk,rfl,hg⟩;by_cases hj:l' < l
  ·obtain ⟨a,rfl,x,hx,lx⟩:=wS (SlV.le h.dty (L1.trans hN.le)) hj;have hN2:New τ ((τ.row (zF 0 0 0 0 0) 5).own τ.y (zF x.day x.on x.lo x.hi x.route) 5):=(New.row _ _ _).own (Nat.le_refl _);obtain ⟨q7,d7,τ',g1,g2,g3,_,_⟩:=wBU (yA x.hi) zDH hg hN hN2 (uS _) (by omega);have hx2:(zBA w)[l']?=some x.hi:=by unfold zBA;rw [List.getElem?_map,hx];rfl
   refine xPI lx g1 ⟨k-1,by omega,g3,l'+1,by omega,by omega,rfl, ?_⟩ (by omega) (by omega) (by omega);rw [xZ hx2,List.map_append];exact g2
  ·have:l'=l:=by omega
   subst this;refine xPH ⟨hN,rfl, ?_⟩ (by omega);rwa [List.take_of_length_le (by unfold zBA;rw [List.length_map];omega)] at hg
 ·rintro p' l' c' τ ⟨hN,rfl,hg⟩;refine yXT ⟨N1.trans hN,p',c',rfl,hg.slv,fun b hb=>?_⟩;have:=(hg.bd hb).1;have:=N1.nx;show Z.re.y<=b;omega
theorem xDB (h:WkP Z 85 88 w p l q m) (hr:yD Z r rl rs) (hl:rl<=1073741824) (hm:m<=1073741824):zD Pg 52 [.agg ⟨wkc w.days p l c q m d w.rest w.run w.hours⟩,.slice r rl rc] Z (.bool (zEA w rs)) Z:=by
 have hn:=h.len.1;have hmm:=h.len.2;have el:=hr.len;by_cases hh:rl=l;rotate_left
 ·have:zEA w rs=false:=by unfold zEA;rw [decide_eq_false (by omega),Bool.and_false]
  rw [this];exact (ySM ⟨rfl,Nat.le_refl _⟩ (by omega)).pure
 have L1:Le Z (Z.re.row (wkc w.days p l c q m d w.rest w.run w.hours) 6):=(le0 Z).trans (Le.row _ _ _);have hk0:=xM Z.re (wkc w.days p l c q m d w.rest w.run w.hours) 6;have ca:=xZG (cap:=rc) (g:=73) (gc:=[.pointer (some ⟨Z.re.y,0,none⟩)]) (f:=fun x=>inB x (-1) ((w.drivers.length:Int)-1)) (SlV.le hr L1) hl (fun x _ τ hτ=>by
  have ld:zB Pg τ.re 32 (zL ⟨Z.re.y,0,none⟩ 2)=some (.slice q m d):=((hk0.le hτ).re).load1 uV rfl;rw [hmm];exact (yTM ld zIQ ⟨rfl,Nat.le_refl _⟩ (by omega)).pure)
 have:zEA w rs=rs.all (fun x=>inB x (-1) ((w.drivers.length:Int)-1)):=by unfold zEA;rw [decide_eq_true (by omega),Bool.and_true]
 rw [this];exact (ySN ca ⟨rfl,Nat.le_refl _⟩ (by omega)).pure
end
end
section
open Go.Sort (swp)
def zAS (d:Array Rec):List Value:=d.toList.flatMap zAY
theorem zRK:∀ l:List Rec,(l.flatMap zAY).length=l.length*3
 | []=>rfl
 | x::l=>by rw [List.flatMap_cons,List.length_append,zRK l];simp;omega
theorem yBN (d:Array Rec):(zAS d).length=d.size*3:=by unfold zAS;rw [zRK];simp
def Dt (Z:St) (b:Nat) (s:Option Nat) (d:Array Rec):Prop:=b<Z.y/\∃ log nx,yH Z.heap b=some (.cells (zAS d) 3 ((s.getD 0,d.size*3)::log) nx false)
section
variable {Z τ:St} {b:Nat} {s:Option Nat} {d d0:Array Rec}
theorem Dt.le (h:Dt Z b s d) (k:Le Z τ):Dt τ b s d:=by
 obtain ⟨h1,log,nx,h2⟩:=h;exact ⟨Nat.lt_of_lt_of_le h1 k.y,log,nx,by rw [k.get b h1];exact h2⟩
theorem Dt.only {S:Nat->Prop} (h:Dt Z b s d) (k:Only S Z τ) (hs:¬ S b):Dt τ b s d:=by
 obtain ⟨h1,log,nx,h2⟩:=h;exact ⟨Nat.lt_of_lt_of_le h1 k.y,log,nx,by rw [k.get b h1 hs];exact h2⟩
theorem yDX:∀ (l:List Rec) (i:Nat) (x:Rec),l[i]?=some x->((l.flatMap zAY).drop (i*3)).take 3=zAY x
 | [],i,x,h=>by simp at h
 | y::l,0,x,h=>by
  cases h
  rw [List.flatMap_cons,Nat.zero_mul,List.drop_zero];exact List.take_left' rfl
 | y::l,i+1,x,h=>by
  rw [List.flatMap_cons,Nat.add_mul,Nat.one_mul,Nat.add_comm (i*3),<- List.drop_drop,show List.drop 3 (zAY y++l.flatMap zAY)=l.flatMap zAY from rfl];exact yDX l i x (by simpa using h)
theorem yNB:∀ (l:List Rec) (i:Nat) (x:Rec),i<l.length->(l.flatMap zAY).take (i*3)++(zAY x++(l.flatMap zAY).drop (i*3+3))=(l.set i x).flatMap zAY
 | [],i,x,h=>by simp at h
 | y::l,0,x,h=>by
  rw [List.set_cons_zero,List.flatMap_cons,List.flatMap_cons,Nat.zero_mul,List.take_zero,List.nil_append,Nat.zero_add,show List.drop 3 (zAY y++l.flatMap zAY)=l.flatMap zAY from rfl]
 | y::l,i+1,x,h=>by
  rw [List.set_cons_succ,List.flatMap_cons,List.flatMap_cons,<- yNB l i x (by simpa using h),show (i+1)*3=3+i*3 by omega,List.take_append,List.drop_append,show 3+i*3+3-(zAY y).length=i*3+3 by simp;omega,show 3+i*3-(zAY y).length=i*3 by simp];rw [List.take_of_length_le (by simp),List.drop_of_length_le (by simp),List.nil_append,List.append_assoc]
theorem xUO {i:Nat} (h:i<d.size):d.toList[i]?=some d[i]! := by
 rw [Array.getElem?_toList,getElem!_pos d i h,Array.getElem?_eq_getElem h]
theorem Dt.ld (h:Dt Z b s d) {i:Int} (h0:0<=i) (hi:i<(d.size:Int)):zB Tryz.prog Z 45 (zL ⟨b,0,s⟩ (Int.toNat i*3))=some (zEO d[i.toNat]!):=by
 obtain ⟨h1,log,nx,h2⟩:=h;have hlt:i.toNat<d.size:=by omega
 have hr:yP Z ⟨b,0+i.toNat*3,s⟩ 3=some (zAY d[i.toNat]!):=by
  have hle:Nat.ble (0+i.toNat*3+3) (d.size*3)=true:=(zX _ _).2 (by omega);unfold yP;simp only [h2,yC,wW,Nat.beq_refl,cond_true,hle];rw [Nat.zero_add];unfold zAS;rw [yDX _ _ _ (xUO hlt)]
 have hR:Row Z ⟨b,0+i.toNat*3,s⟩ (zAY d[i.toNat]!):=⟨hr,h1⟩;exact hR.loadN (P:=Tryz.prog) (t:=45) (k:=0) xQV yID rfl rfl (by simp)
theorem Dt.st (h:Dt Z b s d) {i:Int} (x:Rec) (h0:0<=i) (hi:i<(d.size:Int)) :
  ∃ Z',zQ Tryz.prog (evL [.pointer (some (zL ⟨b,0,s⟩ (Int.toNat i*3))),zEO x]) Z (.store 45 (.tmp 0) (.tmp 1))=some (undef,Z')/\Dt Z' b s (d.setIfInBounds i.toNat x)/\Only (·=b) Z Z'/\Z'.low<=b:=by
 obtain ⟨h1,log,nx,h2⟩:=h;have hlt:i.toNat<d.size:=by omega
 have hw:wG Z ⟨b,0+i.toNat*3,s⟩ (zAY x)=some (Z.put b (.cells (zAS (d.setIfInBounds i.toNat x)) 3 [(s.getD 0,d.size*3)] nx false)):=by
  have e6:(zAY x).length=3:=rfl;have hc:(Nat.beq (s.getD 0) (s.getD 0) && Nat.ble (0+i.toNat*3+3) (d.size*3) && !false && (zAY x).all cellB)=true:=by
   rw [Nat.beq_refl,(zX _ _).2 (show 0+i.toNat*3+3<=d.size*3 by omega)];rfl
  unfold wG;simp only [h2,yC,e6,hc,cond_true,zEC,St.write_eq];have e:(zAS d).take (0+i.toNat*3)++(zAY x++(zAS d).drop (0+i.toNat*3+3))=zAS (d.setIfInBounds i.toNat x):=by
   rw [Nat.zero_add];unfold zAS;rw [Array.toList_setIfInBounds];exact yNB d.toList i.toNat x (by simpa using hlt)
  rw [e]
 refine ⟨Z.put b (.cells (zAS (d.setIfInBounds i.toNat x)) 3 [(s.getD 0,d.size*3)] nx false), ?_,⟨h1,[],nx, ?_⟩,Only.put (.inr rfl),by simp;omega⟩
 ·have e0:zQ Tryz.prog (evL [.pointer (some (zL ⟨b,0,s⟩ (Int.toNat i*3))),zEO x]) Z (.store 45 (.tmp 0) (.tmp 1))=(wG Z ⟨b,0+i.toNat*3,s⟩ (zAY x)).map fun Z'=>(undef,Z'):=by
   have e1:∀ l:List Value,evL l (.tmp 0)=l.getD 0 undef:=fun _=>rfl
   have e2:∀ l:List Value,evL l (.tmp 1)=l.getD 1 undef:=fun _=>rfl
   have e3:yV Tryz.prog 45=some 3:=yID;unfold zQ;simp only [e1,e2,List.getD_cons_zero,List.getD_cons_succ,zGS,e3];rfl
  rw [e0,hw];rfl
 ·rw [St.put_get,if_pos rfl,Array.size_setIfInBounds]
end
end
end Go.Proofs.YtgfiniccfpfplaaGreat
