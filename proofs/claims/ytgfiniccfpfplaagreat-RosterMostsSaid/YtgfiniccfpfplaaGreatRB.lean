
import Derived.Test.YtgfiniccfpfplaaGreatRA
import Derived.Test.YtgfiniccfpfplaaGreatXA
import Derived.Test.YtgfiniccfpfplaaGreatPF
namespace Go.Proofs.YtgfiniccfpfplaaGreat
open Go Go.Lay
open Tryz renaming prog → Pg
set_option linter.unusedVariables false
set_option linter.unusedSimpArgs false
set_option maxRecDepth 20000
theorem zDS:AppT Pg 26 26 3 1:=zJT (by kernel_rfl)
theorem zBQ (x:Int):zGY Pg 3 1 (yC x):=.inl ⟨zR,rfl,rfl⟩
abbrev yI (σ:St) (p:Option Addr) (l:Nat) (xs:List Int):Prop:=SlV Pg σ 3 1 p l (xs.map yC)
theorem yI.len {σ:St} {p:Option Addr} {l:Nat} {xs:List Int} (h:yI σ p l xs):xs.length=l:=by have:=h.2.1;simpa using this
theorem vR {σ:St} {α:Type} {t n len i:Nat} {p:Option Addr} {xs:List α} {f:α→Value} (h:SlV Pg σ t n p len (xs.map f)) (hi:i<len):∃ a,p=some a∧∃ x,xs[i]?=some x∧zB Pg σ t (zP a (Int.toNat (i:Int)*n))=some (f x):=by
 obtain ⟨a,rfl,_⟩:=h.some hi
 have hl:i<xs.length:=by have:=h.2.1;simp at this;omega
 exact ⟨a,rfl,xs[i],by simp,h.at rfl (by simp [hl])⟩
abbrev zEU (d:Dty):Value:=.agg ⟨zF d.day d.on d.lo d.hi d.route⟩
abbrev yBT (σ:St) (t:Nat) (p:Option Addr) (l:Nat) (xs:List Dty):Prop:=SlV Pg σ t 5 p l (xs.map zEU)
def zTQ (σ:St) (v:Value) (x:Drv):Prop:=∃ p l c q m d r n e,v=.agg ⟨zK p l c q m d r n e x.off x.row x.used⟩∧yI σ p l x.knows∧yI σ q m x.leave∧yI σ r n x.wish
def zTI (σ:St) (t:Nat) (p:Option Addr) (l:Nat) (xs:List Drv):Prop:=∃ vs:List Value,SlV Pg σ t 6 p l vs∧xs.length=l∧∀ (i:Nat) (x:Drv),xs[i]?=some x→∃ v,vs[i]?=some v∧zTQ σ v x
section
variable {σ σ':St} {td tv:Nat} {p q:Option Addr} {l m c d:Nat} {w:Wk}
theorem zTQ.le {v:Value} {x:Drv} (h:zTQ σ v x) (k:Le σ σ'):zTQ σ' v x:=by
 obtain ⟨p,l,c,q,m,d,r,n,e,h1,h2,h3,h4⟩:=h
 exact ⟨p,l,c,q,m,d,r,n,e,h1,h2.le k,h3.le k,h4.le k⟩
theorem zTI.le {xs:List Drv} (h:zTI σ tv p l xs) (k:Le σ σ'):zTI σ' tv p l xs:=by
 obtain ⟨vs,h1,h2,h3⟩:=h
 exact ⟨vs,h1.le k,h2,fun i x hi=>by obtain ⟨v,g1,g2⟩:=h3 i x hi;exact ⟨v,g1,g2.le k⟩⟩
structure WkP (σ:St) (td tv:Nat) (w:Wk) (p:Option Addr) (l:Nat) (q:Option Addr) (m:Nat):Prop where
 dty:yBT σ td p l w.duties
 drv:zTI σ tv q m w.drivers
theorem WkP.le (h:WkP σ td tv w p l q m) (k:Le σ σ'):WkP σ' td tv w p l q m:=⟨h.dty.le k,h.drv.le k⟩
theorem WkP.len (h:WkP σ td tv w p l q m):w.duties.length=l∧w.drivers.length=m:=by
 have h1:=h.dty.2.1
 exact ⟨by simpa using h1,h.drv.choose_spec.2.1⟩
theorem yIR {α:Type} {F:α→Value} {n k:Nat} {x:α} {v:Value} (hn:∀ y,(F y).cells.toList.length=n) (hk:k<n) (hv:(F x).cells.toList[k]?=some v):∀ {xs:List α} {i:Nat},xs[i]?=some x→(vJ (xs.map F))[i*n+k]?=some v
 | [],i,h=>by simp at h
 | y::ys,0,h=>by
  have:y=x:=by simpa using h
  subst this
  have hl:=hn y
  simp only [vJ,List.map_cons,List.flatMap_cons,Nat.zero_mul,Nat.zero_add]
  rw [List.getElem?_append_left (by omega)];exact hv
 | y::ys,i+1,h=>by
  have ih:=yIR hn hk hv (xs:=ys) (i:=i) (by simpa using h)
  have hl:=hn y
  have e:(i+1)*n+k=(F y).cells.toList.length+(i*n+k):=by rw [hl,Nat.add_mul,Nat.one_mul];omega
  simp only [vJ,List.map_cons,List.flatMap_cons] at ih ⊢
  rw [e,List.getElem?_append_right (by omega),Nat.add_sub_cancel_left]
  exact ih
theorem yAQ {n k:Nat} {x v:Value} (hk:k<n) (hv:x.cells.toList[k]?=some v):∀ {vs:List Value} {i:Nat},(∀ y∈vs,y.cells.toList.length=n)→vs[i]?=some x→(vJ vs)[i*n+k]?=some v
 | [],i,_,h=>by simp at h
 | y::ys,0,hn,h=>by
  have:y=x:=by simpa using h
  subst this
  have hl:=hn y List.mem_cons_self
  simp only [vJ,List.flatMap_cons,Nat.zero_mul,Nat.zero_add]
  rw [List.getElem?_append_left (by omega)];exact hv
 | y::ys,i+1,hn,h=>by
  have ih:=yAQ hk hv (vs:=ys) (i:=i) (fun z hz=>hn z (List.mem_cons_of_mem _ hz)) (by simpa using h)
  have hl:=hn y List.mem_cons_self
  have e:(i+1)*n+k=y.cells.toList.length+(i*n+k):=by rw [hl,Nat.add_mul,Nat.one_mul];omega
  simp only [vJ,List.flatMap_cons] at ih ⊢
  rw [e,List.getElem?_append_right (by omega),Nat.add_sub_cancel_left]
  exact ih
theorem WkP.dld (h:WkP σ td tv w p l q m) {i k:Nat} {n:Int} (hi:i<l) (hk:k<5) (hv:[(Go.Proofs.YtgfiniccfpfplaaGreat.dty w i).day,(Go.Proofs.YtgfiniccfpfplaaGreat.dty w i).on,(Go.Proofs.YtgfiniccfpfplaaGreat.dty w i).lo,(Go.Proofs.YtgfiniccfpfplaaGreat.dty w i).hi,(Go.Proofs.YtgfiniccfpfplaaGreat.dty w i).route][k]?=some n):∃ a,p=some a∧zB Pg σ 3 (zP a (Int.toNat (i:Int)*5+k))=some (yC n):=by
 obtain ⟨a,rfl,hr⟩:=h.dty.some hi
 have hl:=h.len.1
 have hx:w.duties[i]?=some (Go.Proofs.YtgfiniccfpfplaaGreat.dty w i):=by
  unfold Go.Proofs.YtgfiniccfpfplaaGreat.dty
  rw [List.getD_eq_getElem?_getD,List.getElem?_eq_getElem (by omega)];rfl
 refine ⟨a,rfl, ?_⟩
 rw [Int.toNat_natCast]
 refine hr.load1 zR ?_
 refine yIR (F:=zEU) (fun _=>rfl) hk ?_ hx
 match k,hk with
 | 0,_=>exact congrArg (Option.map yC) hv
 | 1,_=>exact congrArg (Option.map yC) hv
 | 2,_=>exact congrArg (Option.map yC) hv
 | 3,_=>exact congrArg (Option.map yC) hv
 | 4,_=>exact congrArg (Option.map yC) hv
theorem WkP.vld (h:WkP σ td tv w p l q m) (ht:vK Pg tv=some true) (hs:yX Pg tv=some 6) {i:Nat} (hi:i<m):∃ a,q=some a∧∃ p l c r n d s j e,zB Pg σ tv (zP a (Int.toNat (i:Int)*6))=some (.agg ⟨zK p l c r n d s j e (Go.Proofs.YtgfiniccfpfplaaGreat.drv w i).off (Go.Proofs.YtgfiniccfpfplaaGreat.drv w i).row (Go.Proofs.YtgfiniccfpfplaaGreat.drv w i).used⟩) ∧
  yI σ p l (Go.Proofs.YtgfiniccfpfplaaGreat.drv w i).knows∧yI σ r n (Go.Proofs.YtgfiniccfpfplaaGreat.drv w i).leave∧yI σ s j (Go.Proofs.YtgfiniccfpfplaaGreat.drv w i).wish ∧
  ∀ (k:Nat) (v:Value),(zK p l c r n d s j e (Go.Proofs.YtgfiniccfpfplaaGreat.drv w i).off (Go.Proofs.YtgfiniccfpfplaaGreat.drv w i).row (Go.Proofs.YtgfiniccfpfplaaGreat.drv w i).used)[k]?=some v→∀ t,vK Pg t=some false→zB Pg σ t (zP a (Int.toNat (i:Int)*6+k))=some v:=by
 obtain ⟨vs,h1,h2,h3⟩:=h.drv
 obtain ⟨a,rfl,hr⟩:=h1.some hi
 have hx:w.drivers[i]?=some (Go.Proofs.YtgfiniccfpfplaaGreat.drv w i):=by
  unfold Go.Proofs.YtgfiniccfpfplaaGreat.drv
  rw [List.getD_eq_getElem?_getD,List.getElem?_eq_getElem (by omega)];rfl
 obtain ⟨v,g1,p,l,c,r,n,d,s,j,e,rfl,g2,g3,g4⟩:=h3 i _ hx
 refine ⟨a,rfl,p,l,c,r,n,d,s,j,e,h1.at rfl g1,g2,g3,g4, ?_⟩
 intro k v hk t htt
 rw [Int.toNat_natCast]
 refine hr.load1 htt ?_
 have hk6:k<6:=by
  rcases Nat.lt_or_ge k 6 with h | h
  ·exact h
  ·rw [List.getElem?_eq_none (by simpa using h)] at hk;cases hk
 exact yAQ hk6 (by exact hk) (fun y hy=>(h1.2.2 y hy).len) g1
theorem zOX {n lo hi:Int}:zE Pg 47 [iV n,iV lo,iV hi] σ (.bool (inB n lo hi)) σ:=by
 by_cases h1:lo≤n <;> by_cases h2:n≤hi
 ·exact (yRH ⟨by simp [inB,h1,h2],Nat.le_refl _⟩).pure
 ·exact (yRG ⟨by simp [inB,h1,h2],Nat.le_refl _⟩).pure
 ·exact (zYV ⟨by simp [inB,h1],Nat.le_refl _⟩).pure
 ·exact (zYV ⟨by simp [inB,h1],Nat.le_refl _⟩).pure
theorem yVZ {n lo hi:Int}:zE Pg 33 [iV n,iV lo,iV hi] σ (.bool (inB n lo hi)) σ:=by
 by_cases h1:lo≤n <;> by_cases h2:n≤hi
 ·exact (rIn_ra ⟨by simp [inB,h1,h2],Nat.le_refl _⟩).pure
 ·exact (rIn_rb ⟨by simp [inB,h1,h2],Nat.le_refl _⟩).pure
 ·exact (yVY ⟨by simp [inB,h1],Nat.le_refl _⟩).pure
 ·exact (yVY ⟨by simp [inB,h1],Nat.le_refl _⟩).pure
theorem yWE {xs:List Int} {n:Int} (h:yI σ p l xs) (hl:l≤1073741824):zE Pg 43 [.slice p l c,iV n] σ (.bool (xs.contains n)) σ:=by
 have h1:=h.re
 have e1:=h.len
 refine (rHas_ra (yLQ (Inv:=fun k i τ=>τ=σ.re∧∃ j:Nat,i=j∧j+k=l∧n ∉ xs.take j) (Qr:=fun b τ=>τ=σ.re∧b=true∧n∈xs) (Q0:=fun τ=>τ=σ.re∧n ∉ xs) ?_ l 0 σ.re ⟨rfl,0,rfl,by omega,by simp⟩) ?_ ?_).pure
 ·rintro k i τ ⟨rfl,j,rfl,hk,he⟩
  by_cases hi:j<l
  ·obtain ⟨a,rfl,x,hx,l1⟩:=vR h1 hi
   by_cases hxy:x=n
   ·exact yWD l1 ⟨rfl,rfl,hxy ▸ List.mem_of_getElem? hx⟩
   ·exact yWC l1 ⟨k-1,by omega,rfl,j+1,by omega,by omega,by rw [vS hx,List.mem_append];simp;exact ⟨he,fun e=>hxy e.symm⟩⟩
  ·rw [List.take_of_length_le (by omega)] at he
   exact yWB ⟨rfl,he⟩
 ·rintro b τ ⟨rfl,rfl,hn⟩
  exact yLO ⟨by simp [hn],Nat.le_refl _⟩
 ·rintro τ ⟨rfl,hn⟩
  exact yLP ⟨by simp [hn],Nat.le_refl _⟩
def wT (xs:List Int) (lo hi:Int):Bool:=(List.range xs.length).all fun i=>inB (xs.getD i 0) lo hi && (i == 0 || decide (xs.getD (i-1) 0<xs.getD i 0))
theorem yL {xs:List Int} {i:Nat} {x:Int} (h:xs[i]?=some x):xs.getD i 0=x:=by rw [List.getD_eq_getElem?_getD,h];rfl
theorem zDD {f:Nat→Bool} {n:Nat}:(List.range n).all f=true↔∀ i,i<n→f i=true:=by simp
theorem zUZ {xs:List Int} {lo hi:Int} (h:yI σ p l xs) (hl:l≤1073741824):zE Pg 42 [.slice p l c,iV lo,iV hi] σ (.bool (wT xs lo hi)) σ:=by
 have h1:=h.re
 have e1:=h.len
 have no:∀ j,j<l→(inB (xs.getD j 0) lo hi && (j == 0 || decide (xs.getD (j-1) 0<xs.getD j 0)))=false→wT xs lo hi=false:=by
  intro j hj hf
  cases hr:wT xs lo hi with
  | false=>rfl
  | true=>rw [zDD.1 hr j (by omega)] at hf;cases hf
 refine (yRX (yCK (Inv:=fun k i τ=>τ=σ.re∧∃ j:Nat,i=j∧j+k=l∧∀ i,i<j→(inB (xs.getD i 0) lo hi && (i == 0 || decide (xs.getD (i-1) 0<xs.getD i 0)))=true) (Qr:=fun b τ=>τ=σ.re∧b=false∧wT xs lo hi=false) (Q0:=fun τ=>τ=σ.re∧wT xs lo hi=true) ?_ l 0 σ.re ⟨rfl,0,rfl,by omega,fun i h=>by omega⟩) ?_ ?_).pure
 ·rintro k i τ ⟨rfl,j,rfl,hk,he⟩
  by_cases hj:j<l
  ·obtain ⟨a,rfl,x,hx,l1⟩:=vR h1 hj
   have cin:=yVZ (σ:=σ.re) (n:=x) (lo:=lo) (hi:=hi)
   have gx:=yL hx
   cases hb:inB x lo hi with
   | false =>
    rw [hb] at cin
    exact yLG l1 cin ⟨rfl,rfl,no j hj (by rw [gx,hb];rfl)⟩
   | true =>
    rw [hb] at cin
    by_cases h0:0<j
    ·obtain ⟨a',ea,y,hy,l2⟩:=vR h1 (show j-1<l by omega)
     cases ea
     have gy:=yL hy
     have e:((j:Int)-1)=((j-1:Nat):Int):=by omega
     rw [← e] at l2
     by_cases hxy:x≤y
     ·exact yLJ l1 cin l2 ⟨rfl,rfl,no j hj (by rw [gx,gy,hb];simp;omega)⟩
     ·refine yLI l1 cin l2 ⟨k-1,by omega,rfl,j+1,by omega,by omega, ?_⟩
      intro i hi2
      by_cases e2:i=j
      ·subst e2;rw [gx,gy,hb];simp;omega
      ·exact he i (by omega)
    ·refine yLH l1 cin ⟨k-1,by omega,rfl,j+1,by omega,by omega, ?_⟩
     intro i hi2
     have e2:i=j:=by omega
     subst e2
     have:i=0:=by omega
     rw [gx,hb,this];rfl
  ·exact yLF ⟨rfl,zDD.2 fun i hi2=>he i (by omega)⟩
 ·rintro b τ ⟨rfl,rfl,hn⟩
  exact yCI ⟨by rw [hn],Nat.le_refl _⟩
 ·rintro τ ⟨rfl,hn⟩
  exact yCJ ⟨by rw [hn],Nat.le_refl _⟩
theorem yCD {xs:List Int} {lo hi:Int} (h:yI σ p l xs) (hl:l≤1073741824):zE Pg 71 [.slice p l c,iV lo,iV hi] σ (.bool (wT xs lo hi)) σ:=by
 have h1:=h.re
 have e1:=h.len
 have no:∀ j,j<l→(inB (xs.getD j 0) lo hi && (j == 0 || decide (xs.getD (j-1) 0<xs.getD j 0)))=false→wT xs lo hi=false:=by
  intro j hj hf
  cases hr:wT xs lo hi with
  | false=>rfl
  | true=>rw [zDD.1 hr j (by omega)] at hf;cases hf
 refine (yVS (yFT (Inv:=fun k i τ=>τ=σ.re∧∃ j:Nat,i=j∧j+k=l∧∀ i,i<j→(inB (xs.getD i 0) lo hi && (i == 0 || decide (xs.getD (i-1) 0<xs.getD i 0)))=true) (Qr:=fun b τ=>τ=σ.re∧b=false∧wT xs lo hi=false) (Q0:=fun τ=>τ=σ.re∧wT xs lo hi=true) ?_ l 0 σ.re ⟨rfl,0,rfl,by omega,fun i h=>by omega⟩) ?_ ?_).pure
 ·rintro k i τ ⟨rfl,j,rfl,hk,he⟩
  by_cases hj:j<l
  ·obtain ⟨a,rfl,x,hx,l1⟩:=vR h1 hj
   have cin:=zOX (σ:=σ.re) (n:=x) (lo:=lo) (hi:=hi)
   have gx:=yL hx
   cases hb:inB x lo hi with
   | false =>
    rw [hb] at cin
    exact yRS l1 cin ⟨rfl,rfl,no j hj (by rw [gx,hb];rfl)⟩
   | true =>
    rw [hb] at cin
    by_cases h0:0<j
    ·obtain ⟨a',ea,y,hy,l2⟩:=vR h1 (show j-1<l by omega)
     cases ea
     have gy:=yL hy
     have e:((j:Int)-1)=((j-1:Nat):Int):=by omega
     rw [← e] at l2
     by_cases hxy:x≤y
     ·exact yRV l1 cin l2 ⟨rfl,rfl,no j hj (by rw [gx,gy,hb];simp;omega)⟩
     ·refine yRU l1 cin l2 ⟨k-1,by omega,rfl,j+1,by omega,by omega, ?_⟩
      intro i hi2
      by_cases e2:i=j
      ·subst e2;rw [gx,gy,hb];simp;omega
      ·exact he i (by omega)
    ·refine yRT l1 cin ⟨k-1,by omega,rfl,j+1,by omega,by omega, ?_⟩
     intro i hi2
     have e2:i=j:=by omega
     subst e2
     have:i=0:=by omega
     rw [gx,hb,this];rfl
  ·exact yRR ⟨rfl,zDD.2 fun i hi2=>he i (by omega)⟩
 ·rintro b τ ⟨rfl,rfl,hn⟩
  exact yFR ⟨by rw [hn],Nat.le_refl _⟩
 ·rintro τ ⟨rfl,hn⟩
  exact yFS ⟨by rw [hn],Nat.le_refl _⟩
end
end Go.Proofs.YtgfiniccfpfplaaGreat
