import Derived.Test.YtflfajphjmajpaaGreatXA
import Derived.Test.YtflfajphjmajpaaGreatPF
import Derived.Test.YtflfajphjmajpaaGreatTy
import Derived.Test.YtflfajphjmajpaaGreatLayD
set_option linter.unusedVariables false
set_option linter.unusedSimpArgs false
set_option maxRecDepth 20000
namespace Go.Proofs.YtflfajphjmajpaaGreat
open Go Go.Lay
section
variable{E:St}{p:Option Addr}{xs:List Int}{n i:Nat}{lo hi:Int}
theorem uH:AppT tP 48 48 3 1:=zAW (by kernel_rfl)
theorem vU(x:Int):zDV tP 3 1 (yK x):=.inl ⟨zU,rfl,rfl⟩
abbrev yM(E:St)(p:Option Addr)(l:Nat)(xs:List Int):Prop:=SlV tP E 3 1 p l (xs.map yK)
theorem yM.len{l:Nat}(h:yM E p l xs):xs.length=l:=by have:=h.2.1;simpa using this
theorem xA{U:Type}{t len:Nat}{xs:List U}{f:U->Value}(h:SlV tP E t n p len (xs.map f))(hi:i<len):∃a,p=some a/\∃x,xs[i]?=some x/\zJ tP E t (zO a (Int.toNat (i:Int)*n))=some (f x):=by
 obtain⟨a,rfl,_⟩:=h.some hi;have hl:i<xs.length:=by have:=h.2.1;simp at this;omega
 exact⟨a,rfl,xs[i],by simp,h.at rfl (by simp[hl])⟩
abbrev zBB(d:Dty):Value:=.agg ⟨zP d.day d.on d.lo d.hi d.route⟩
abbrev yQD(E:St)(t:Nat)(p:Option Addr)(l:Nat)(xs:List Dty):Prop:=SlV tP E t 5 p l (xs.map zBB)
def xEX(E:St)(v:Value)(x:Drv):Prop:=∃p l c q m d r n e,v=.agg ⟨yH p l c q m d r n e x.off x.row x.used⟩/\yM E p l x.qa/\yM E q m x.qb/\yM E r n x.qc
def yJR(E:St)(t:Nat)(p:Option Addr)(l:Nat)(xs:List Drv):Prop:=∃vs:List Value,SlV tP E t 6 p l vs/\xs.length=l/\∀(i:Nat) (x:Drv),xs[i]?=some x->∃v,vs[i]?=some v/\xEX E v x
section
variable{E E':St}{td tv:Nat}{p q:Option Addr}{l m c d:Nat}{w:Wk}
theorem xEX.le{v:Value}{x:Drv}(h:xEX E v x)(k:Le E E'):xEX E' v x:=by
 obtain⟨p,l,c,q,m,d,r,n,e,h1,h2,h3,h4⟩:=h;exact⟨p,l,c,q,m,d,r,n,e,h1,h2.le k,h3.le k,h4.le k⟩
theorem yJR.le{xs:List Drv}(h:yJR E tv p l xs)(k:Le E E'):yJR E' tv p l xs:=by
 obtain⟨vs,h1,h2,h3⟩:=h;exact⟨vs,h1.le k,h2,λi x hi=>by obtain⟨v,g1,g2⟩:=h3 i x hi;exact⟨v,g1,g2.le k⟩⟩
structure WkP(E:St)(td tv:Nat)(w:Wk)(p:Option Addr)(l:Nat)(q:Option Addr)(m:Nat):Prop where
 dty:yQD E td p l w.L
 drv:yJR E tv q m w.M
theorem WkP.le(h:WkP E td tv w p l q m)(k:Le E E'):WkP E' td tv w p l q m:=⟨h.dty.le k,h.drv.le k⟩
theorem WkP.len(h:WkP E td tv w p l q m):w.L.length=l/\w.M.length=m:=by
 have h1:=h.dty.2.1;exact⟨by simpa using h1,h.drv.choose_spec.2.1⟩
theorem yOW{n k:Nat}{x v:Value}(hk:k<n)(hv:x.cells.toList[k]?=some v):∀{vs:List Value} {i:Nat},(∀y∈vs,y.cells.toList.length=n)->vs[i]?=some x->(wD vs)[i*n+k]?=some v
 |[],i,_,h=>by simp at h
 |y::ys,0,hn,h=>by
  have:y=x:=by simpa using h
  subst this;have hl:=hn y List.mem_cons_self;simp only[wD,List.flatMap_cons,Nat.zero_mul,Nat.zero_add];rw[List.getElem?_append_left (by omega)];exact hv
 |y::ys,i+1,hn,h=>by
  have ih:=yOW hk hv (vs:=ys) (i:=i) (λz hz=>hn z (List.mem_cons_of_mem _ hz)) (by simpa using h);have hl:=hn y List.mem_cons_self;have e:(i+1)*n+k=y.cells.toList.length+(i*n+k):=by rw[hl,Nat.add_mul,Nat.one_mul];omega
  simp only[wD,List.flatMap_cons]at ih ⊢;rw[e,List.getElem?_append_right (by omega),Nat.add_sub_cancel_left];exact ih
theorem WkP.vld(h:WkP E td tv w p l q m)(ht:xI tP tv=some true)(hs:yR tP tv=some 6){i:Nat}(hi:i<m):∃a,q=some a/\∃p l c r n d s j e,zJ tP E tv (zO a (Int.toNat (i:Int)*6))=some (.agg ⟨yH p l c r n d s j e (drQ w i).off (drQ w i).row (drQ w i).used⟩) /\
  yM E p l (drQ w i).qa/\yM E r n (drQ w i).qb/\yM E s j (drQ w i).qc /\
  ∀(k:Nat) (v:Value),(yH p l c r n d s j e (drQ w i).off (drQ w i).row (drQ w i).used)[k]?=some v->∀t,xI tP t=some false->zJ tP E t (zO a (Int.toNat (i:Int)*6+k))=some v:=by
 obtain⟨vs,h1,h2,h3⟩:=h.drv;obtain⟨a,rfl,hr⟩:=h1.some hi;have hx:w.M[i]?=some (drQ w i):=by
  unfold drQ;rw[List.getD_eq_getElem?_getD,List.getElem?_eq_getElem (by omega)];rfl
 obtain⟨v,g1,p,l,c,r,n,d,s,j,e,rfl,g2,g3,g4⟩:=h3 i _ hx;refine⟨a,rfl,p,l,c,r,n,d,s,j,e,h1.at rfl g1,g2,g3,g4, ?_⟩
 intro k v hk t htt;rw[Int.toNat_natCast];refine hr.load1 htt ?_
 have hk6:k<6:=by
  rcases Nat.lt_or_ge k 6 with h|h
  .exact h
  .rw[List.getElem?_eq_none (by simpa using h)]at hk;cases hk
 exact yOW hk6 (by exact hk) (λy hy=>(h1.2.2 y hy).len) g1
theorem yGK{n:Int}:zW tP 68 [iV n,iV lo,iV hi] E (.bool (inB n lo hi)) E:=by
 by_cases h1:lo<=n <;> by_cases h2:n<=hi
 .exact(xSJ ⟨by simp[inB,h1,h2],Nat.le_refl _⟩).pure
 .exact(xSI ⟨by simp[inB,h1,h2],Nat.le_refl _⟩).pure
 .exact(yNG ⟨by simp[inB,h1],Nat.le_refl _⟩).pure
 .exact(yNG ⟨by simp[inB,h1],Nat.le_refl _⟩).pure
theorem wKQ{n:Int}:zW tP 23 [iV n,iV lo,iV hi] E (.bool (inB n lo hi)) E:=by
 by_cases h1:lo<=n <;> by_cases h2:n<=hi
 .exact(wMM ⟨by simp[inB,h1,h2],Nat.le_refl _⟩).pure
 .exact(wML ⟨by simp[inB,h1,h2],Nat.le_refl _⟩).pure
 .exact(xZF ⟨by simp[inB,h1],Nat.le_refl _⟩).pure
 .exact(xZF ⟨by simp[inB,h1],Nat.le_refl _⟩).pure
def zAZ(xs:List Int)(lo hi:Int):Bool:=(List.range xs.length).all λi=>inB (xs.getD i 0) lo hi&&(i == 0||decide (xs.getD (i-1) 0<xs.getD i 0))
theorem xB{x:Int}(h:xs[i]?=some x):xs.getD i 0=x:=by rw[List.getD_eq_getElem?_getD,h];rfl
theorem zHV{f:Nat->Bool}:(List.range n).all f=true↔∀i,i<n->f i=true:=by simp
theorem yHK(h:yM E p l xs)(hl:l<=1073741824):zW tP 24 [.slice p l c,iV lo,iV hi] E (.bool (zAZ xs lo hi)) E:=by
 have h1:=h.re;have e1:=h.len;have no:∀j,j<l->(inB (xs.getD j 0) lo hi&&(j == 0||decide (xs.getD (j-1) 0<xs.getD j 0)))=false->zAZ xs lo hi=false:=by
  intro j hj hf;cases hr:zAZ xs lo hi with
  |false=>rfl
  |true=>rw[zHV.1 hr j (by omega)]at hf;cases hf
 refine(xSX (yTD (Inv:=λk i O=>O=E.re/\∃j:Nat,i=j/\j+k=l/\∀i,i<j->(inB (xs.getD i 0) lo hi&&(i == 0||decide (xs.getD (i-1) 0<xs.getD i 0)))=true) (Qr:=λb O=>O=E.re/\b=false/\zAZ xs lo hi=false) (Q0:=λO=>O=E.re/\zAZ xs lo hi=true) ?_ l 0 E.re ⟨rfl,0,rfl,by omega,λi h=>by omega⟩) ?_ ?_).pure
 .rintro k i O ⟨rfl,j,rfl,hk,he⟩;by_cases hj:j<l
  .obtain⟨a,rfl,x,hx,l1⟩:=xA h1 hj;have cin:=wKQ (E:=E.re) (n:=x) (lo:=lo) (hi:=hi);have gx:=xB hx;cases hb:inB x lo hi with
   |false =>
    rw[hb]at cin
    exact xIQ l1 cin ⟨rfl,rfl,no j hj (by rw[gx,hb];rfl)⟩
   |true =>
    rw[hb]at cin
    by_cases h0:0<j
    .obtain⟨a',ea,y,hy,l2⟩:=xA h1 (show j-1<l by omega);cases ea
     have gy:=xB hy;have e:((j:Int)-1)=((j-1:Nat):Int):=by omega
     rw[<- e]at l2;by_cases hxy:x<=y
     .exact xIT l1 cin l2 ⟨rfl,rfl,no j hj (by rw[gx,gy,hb];simp;omega)⟩
     .refine xIS l1 cin l2 ⟨k-1,by omega,rfl,j+1,by omega,by omega, ?_⟩;intro i hi2;by_cases e2:i=j
      .subst e2;rw[gx,gy,hb];simp;omega
      .exact he i (by omega)
    .refine xIR l1 cin ⟨k-1,by omega,rfl,j+1,by omega,by omega, ?_⟩
     intro i hi2;have e2:i=j:=by omega
     subst e2;have:i=0:=by omega
     rw[gx,hb,this];rfl
  .exact xIP ⟨rfl,zHV.2 λi hi2=>he i (by omega)⟩
 .rintro b O ⟨rfl,rfl,hn⟩;exact yTB ⟨by rw[hn],Nat.le_refl _⟩
 .rintro O ⟨rfl,hn⟩;exact yTC ⟨by rw[hn],Nat.le_refl _⟩
theorem ySY(h:yM E p l xs)(hl:l<=1073741824)(hr:zAZ xs lo hi=true):zW tP 107 [.slice p l c,iV lo,iV hi] E (.bool true) E:=by
 have h1:=h.re;have e1:=h.len;refine(xZD (xBG (Inv:=λk i O=>O=E.re/\∃j:Nat,i=j/\j+k=l) (Qr:=λ_ _=>False) (Q0:=λO=>O=E.re) ?_ l 0 E.re ⟨rfl,0,rfl,by omega⟩) (λ_ _ h=>h.elim) λO h=>xBF ⟨rfl,by rw[h];exact Nat.le_refl _⟩).pure;rintro k i O ⟨rfl,j,rfl,hk⟩;by_cases hj:j<l
 .obtain⟨a,rfl,x,hx,l1⟩:=xA h1 hj;have gx:=xB hx;have hb:=zHV.1 hr j (by omega);rw[Bool.and_eq_true,gx]at hb;have cin:zW tP 68 [iV x,iV lo,iV hi] E.re (.bool true) E.re:=hb.1 ▸ yGK;by_cases h0:0<j
  .obtain⟨a',ea,y,hy,l2⟩:=xA h1 (show j-1<l by omega);cases ea
   have gy:=xB hy;rw[<- show((j:Int)-1)=((j-1:Nat):Int) by omega]at l2;have hxy:y<x:=by
    have:=hb.2;rw[gy,Bool.or_eq_true]at this;rcases this with e|e
    .have:j=0:=by simpa using e
     omega
    .exact of_decide_eq_true e
   exact xSV l1 cin l2 ⟨k-1,by omega,rfl,j+1,by omega,by omega⟩
  .exact xSU l1 cin ⟨k-1,by omega,rfl,j+1,by omega,by omega⟩
 .exact xST rfl
end
end
section
noncomputable section
variable(BA:Nat)(dS aP i2_2 bk:Int)(Q:Int->St->Prop)(q0:St->Prop)(E:St)(Nx Qr:Int->St->Prop)(q1:vPa)(Q0 Q2:St->Prop)
def yNS:Code:=(Code.part [1,1,1,0,1,0,0] (zV tP 8))
def zHY:lNa:=[(1,pq BA 0),(3,iV aP)]
def xJL:Alt:=⟨Int,.normal,λt=>zHY BA t,λt=>[],λt E=>Q t E⟩
def yBO(BA:Nat)(bk:Int):lNa:=[(2,iV bk)]
def zNY:Alt:=⟨Int,.ret,λt=>yBO BA t,λt=>[],λt E=>Q t E⟩
def yBP:lNa:=[(1,pq BA 0)]
def zNZ:Alt:=⟨Unit,(.exit 0),λt=>yBP BA,λt=>[],λt E=>q0 E⟩
def zBI:Prop:=yT tP (zZ tP) none yNS 145 (zHY BA aP) [] [xJL BA Nx,zNY BA Qr,zNZ BA Q0] E
def yNU:Prop:=yW tP (zZ tP) none yNS 145 (zHY BA aP) [] [zNY BA Qr,zNZ BA Q0] E
def yBS:Prop:=kZ (zZ tP) (zV tP 8) [1,1,1,0,1,0] (kFn tP 8 q1) .ret 145 (yBO BA bk) E
def yBT:Prop:=kZ (zZ tP) (zV tP 8) [1,1,1,0,1,0] (kFn tP 8 q1) (.exit 0) 145 (yBP BA) E
def yNR:Code:=(Code.part [1,1,1,1,0,1,0,0] (zV tP 8))
def zHX:lNa:=[(1,pq BA 0),(5,iV dS)]
def xJK:Alt:=⟨Int,.normal,λt=>zHX BA t,λt=>[],λt E=>Q t E⟩
def yBM(BA:Nat)(i2_2:Int):lNa:=[(2,iV i2_2)]
def zNW:Alt:=⟨Int,.ret,λt=>yBM BA t,λt=>[],λt E=>Q t E⟩
def yBN(BA:Nat):lNa:=[]
def zNX:Alt:=⟨Unit,(.exit 2),λt=>yBN BA,λt=>[],λt E=>q0 E⟩
def zAI:Prop:=yT tP (zZ tP) none yNR 145 (zHX BA dS) [] [xJK BA Nx,zNW BA Qr,zNX BA Q2] E
def yNT:Prop:=yW tP (zZ tP) none yNR 145 (zHX BA dS) [] [zNW BA Qr,zNX BA Q2] E
def yBQ:Prop:=kZ (zZ tP) (zV tP 8) [1,1,1,1,0,1,0] (kFn tP 8 q1) .ret 145 (yBM BA i2_2) E
def yBR:Prop:=kZ (zZ tP) (zV tP 8) [1,1,1,1,0,1,0] (kFn tP 8 q1) (.exit 2) 145 (yBN BA) E
end
variable{ak ao au aj aP nJ nD nE nF nB nC bk dS nK nL nM nU nBD i2_2:Int}{ah ag qA qB qD qE qH:oAa}{ae af aa ac BA lA cA lI cI lB cB lG cC lH cE:Nat}{E:St}{Q:vPa}{Inv:Nat->Int->St->Prop}{Qr Nx Pr:Int->St->Prop}{Q0 P0 Q2 P2:St->Prop}{dU eS:Addr}
theorem xTE(nx:Q (iV 3) (E.row (wkc ak ah ae af ag aa ac ao au aj) 6))(u1:12<(ae:Int):=by omega):zQ tP 8 [qf (wkc ak ah ae af ag aa ac ao au aj)] E Q :=
 let ch1:List Bs:=[.r (wkc ak ah ae af ag aa ac ao au aj) 6];eQ [.g3,.f E ch1 0 1 zGB,.g,.b (zT u1),.g3] nx
theorem xTD(nx:Q (iV 3) (E.row (wkc ak ah ae af ag aa ac ao au aj) 6))(u1:¬12<(ae:Int):=by omega)(u2:6<(aa:Int):=by omega):zQ tP 8 [qf (wkc ak ah ae af ag aa ac ao au aj)] E Q :=
 let ch1:List Bs:=[.r (wkc ak ah ae af ag aa ac ao au aj) 6];eQ [.g3,.f E ch1 0 1 zGB,.g,.b (zY u1),.g2,.f E ch1 0 2 zGA,.g,.b (zT u2),.g2] nx
theorem yTJ(hb:∀k aP E,Inv k aP E->zBI BA aP E (NX1 Inv k) Qr Q0):∀k aP E,Inv k aP E->yNU BA aP E Qr Q0 :=
 xE (ai wX (ai (wF 0) trivial)) hb
@[reducible] def Ha2(E:St)(BA lA cA:Nat)(dU:Addr)(aP nJ nD nE nF nB nC:Int):Prop:=LDz E 28 ⟨BA,1,none⟩ (.slice (some dU) lA cA)/\LDz E 62 (zO dU (Int.toNat aP*5)) (.agg ⟨zP nJ nD nE nF nB⟩)/\LDz ((E.row (zP 0 0 0 0 0) 5).own E.j (zP nJ nD nE nF nB) 5) 3 ⟨BA,0,none⟩ (iV nC)/\(CPz 23 [iV nJ,iV 0,iV (nC-1)] ((E.row (zP 0 0 0 0 0) 5).own E.j (zP nJ nD nE nF nB) 5) (.bool true))/\CPz 23 [iV nD,iV 0,iV 1439] ((E.row (zP 0 0 0 0 0) 5).own E.j (zP nJ nD nE nF nB) 5) (.bool true)
theorem xJJ:let y0:=(E.row (zP 0 0 0 0 0) 5).own E.j (zP nJ nD nE nF nB) 5;∀(H:Ha2 E BA lA cA dU aP nJ nD nE nF nB nC) (h6:CPz 23 [iV nE,iV nD,iV nF] y0 (.bool true)) (nx:Qr (1:Int) y0) (u1:aP<(lA:Int):=by omega) (u2:Ix aP lA:=by omega) (u3:I6 (nC-1):=by omega) (u4:I6 (nD+1440):=by omega) (u5:(nD+1440)<nF:=by omega),zBI BA aP E Nx Qr Q0 :=
 λH h6 nx u1 u2 u3 u4 u5=>match H with|⟨h1,h2,h3,h4,h5⟩=>let ch1:List Bs:=[.r (zP 0 0 0 0 0) 5];let ch2:List Bs:=.o 0 (zP nJ nD nE nF nB) 5::ch1;eO 1 (1:Int) [.g2,.l h1,.g,.b (zT u1),.g,.l h1,.g,.i u2,.l h2,.g,.s E ch1 0 0 zSQ (qf (zP nJ nD nE nF nB)),.g,.f E ch2 0 0 zU,.g,.l h3,.w u3,.c h4,.g3,.f E ch2 0 1 zU,.c h5,.g5,.f E ch2 0 2 zU,.g,.f E ch2 0 1 zU,.g2,.f E ch2 0 3 zU,.c h6,.g5,.f E ch2 0 3 zU,.g,.f E ch2 0 1 zU,.w u4,.b (zT u5),.g4] nx
theorem xJI:let Y1:=E.row (zP 0 0 0 0 0) 5;let Y2:=Y1.own E.j (zP nJ nD nE nF nB) 5;∀(H:Ha2 E BA lA cA dU aP nJ nD nE nF nB nC) (h6:CPz 23 [iV nE,iV nD,iV nF] Y2 (.bool true)) (h7:CPz 23 [iV nB,iV 0,iV 15] Y2 (.bool true)) (nx:Nx (aP+1) Y2) (u1:aP<(lA:Int):=by omega) (u2:Ix aP lA:=by omega) (u3:I6 (nC-1):=by omega) (u4:I6 (nD+1440):=by omega) (u5:¬(nD+1440)<nF:=by omega) (u6:I6 (aP+1):=by omega),zBI BA aP E Nx Qr Q0:=
 λH h6 h7 nx u1 u2 u3 u4 u5 u6=>match H with|⟨h1,h2,h3,h4,h5⟩=>let ch1:List Bs:=[.r (zP 0 0 0 0 0) 5];let ch2:List Bs:=.o 0 (zP nJ nD nE nF nB) 5::ch1;eO 0 (aP+1) [.g2,.l h1,.g,.b (zT u1),.g,.l h1,.g,.i u2,.l h2,.g,.s E ch1 0 0 zSQ (qf (zP nJ nD nE nF nB)),.g,.f E ch2 0 0 zU,.g,.l h3,.w u3,.c h4,.g3,.f E ch2 0 1 zU,.c h5,.g5,.f E ch2 0 2 zU,.g,.f E ch2 0 1 zU,.g2,.f E ch2 0 3 zU,.c h6,.g5,.f E ch2 0 3 zU,.g,.f E ch2 0 1 zU,.w u4,.b (zY u5),.g3,.f E ch2 0 4 zU,.c h7,.g3,.w u6,.g] nx
theorem xJH:let Y1:=E.row (zP 0 0 0 0 0) 5;let Y2:=Y1.own E.j (zP nJ nD nE nF nB) 5;∀(H:Ha2 E BA lA cA dU aP nJ nD nE nF nB nC) (h6:CPz 23 [iV nE,iV nD,iV nF] Y2 (.bool true)) (h7:CPz 23 [iV nB,iV 0,iV 15] Y2 (.bool false)) (nx:Qr (1:Int) Y2) (u1:aP<(lA:Int):=by omega) (u2:Ix aP lA:=by omega) (u3:I6 (nC-1):=by omega) (u4:I6 (nD+1440):=by omega) (u5:¬(nD+1440)<nF:=by omega),zBI BA aP E Nx Qr Q0:=
 λH h6 h7 nx u1 u2 u3 u4 u5=>match H with|⟨h1,h2,h3,h4,h5⟩=>let ch1:List Bs:=[.r (zP 0 0 0 0 0) 5];let ch2:List Bs:=.o 0 (zP nJ nD nE nF nB) 5::ch1;eO 1 (1:Int) [.g2,.l h1,.g,.b (zT u1),.g,.l h1,.g,.i u2,.l h2,.g,.s E ch1 0 0 zSQ (qf (zP nJ nD nE nF nB)),.g,.f E ch2 0 0 zU,.g,.l h3,.w u3,.c h4,.g3,.f E ch2 0 1 zU,.c h5,.g5,.f E ch2 0 2 zU,.g,.f E ch2 0 1 zU,.g2,.f E ch2 0 3 zU,.c h6,.g5,.f E ch2 0 3 zU,.g,.f E ch2 0 1 zU,.w u4,.b (zY u5),.g3,.f E ch2 0 4 zU,.c h7,.g3] nx
theorem xJG:let y0:=(E.row (zP 0 0 0 0 0) 5).own E.j (zP nJ nD nE nF nB) 5;∀(H:Ha2 E BA lA cA dU aP nJ nD nE nF nB nC) (h6:CPz 23 [iV nE,iV nD,iV nF] y0 (.bool false)) (nx:Qr (1:Int) y0) (u1:aP<(lA:Int):=by omega) (u2:Ix aP lA:=by omega) (u3:I6 (nC-1):=by omega),zBI BA aP E Nx Qr Q0 :=
 λH h6 nx u1 u2 u3=>match H with|⟨h1,h2,h3,h4,h5⟩=>let ch1:List Bs:=[.r (zP 0 0 0 0 0) 5];let ch2:List Bs:=.o 0 (zP nJ nD nE nF nB) 5::ch1;eO 1 (1:Int) [.g2,.l h1,.g,.b (zT u1),.g,.l h1,.g,.i u2,.l h2,.g,.s E ch1 0 0 zSQ (qf (zP nJ nD nE nF nB)),.g,.f E ch2 0 0 zU,.g,.l h3,.w u3,.c h4,.g3,.f E ch2 0 1 zU,.c h5,.g5,.f E ch2 0 2 zU,.g,.f E ch2 0 1 zU,.g2,.f E ch2 0 3 zU,.c h6,.g7] nx
theorem xJF:let Y1:=E.row (zP 0 0 0 0 0) 5;let Y2:=Y1.own E.j (zP nJ nD nE nF nB) 5;∀(h1:LDz E 28 (qe BA 1) (.slice (some dU) lA cA)) (h2:LDz E 62 (zO dU (Int.toNat aP*5)) (qf (zP nJ nD nE nF nB))) (h3:LDz Y2 3 (qe BA 0) (iV nC)) (h4:CPz 23 [iV nJ,iV 0,iV (nC-1)] Y2 (.bool true)) (h5:CPz 23 [iV nD,iV 0,iV 1439] Y2 (.bool false)) (nx:Qr (1:Int) Y2) (u1:aP<(lA:Int):=by omega) (u2:Ix aP lA:=by omega) (u3:I6 (nC-1):=by omega),zBI BA aP E Nx Qr Q0:=
 λh1 h2 h3 h4 h5 nx u1 u2 u3=>let ch1:List Bs:=[.r (zP 0 0 0 0 0) 5];let ch2:List Bs:=.o 0 (zP nJ nD nE nF nB) 5::ch1;eO 1 (1:Int) [.g2,.l h1,.g,.b (zT u1),.g,.l h1,.g,.i u2,.l h2,.g,.s E ch1 0 0 zSQ (qf (zP nJ nD nE nF nB)),.g,.f E ch2 0 0 zU,.g,.l h3,.w u3,.c h4,.g3,.f E ch2 0 1 zU,.c h5,.g7,.g2] nx
theorem xJE:let Y1:=E.row (zP 0 0 0 0 0) 5;let Y2:=Y1.own E.j (zP nJ nD nE nF nB) 5;∀(h1:LDz E 28 (qe BA 1) (.slice (some dU) lA cA)) (h2:LDz E 62 (zO dU (Int.toNat aP*5)) (qf (zP nJ nD nE nF nB))) (h3:LDz Y2 3 (qe BA 0) (iV nC)) (h4:CPz 23 [iV nJ,iV 0,iV (nC-1)] Y2 (.bool false)) (nx:Qr (1:Int) Y2) (u1:aP<(lA:Int):=by omega) (u2:Ix aP lA:=by omega) (u3:I6 (nC-1):=by omega),zBI BA aP E Nx Qr Q0:=
 λh1 h2 h3 h4 nx u1 u2 u3=>let ch1:List Bs:=[.r (zP 0 0 0 0 0) 5];let ch2:List Bs:=.o 0 (zP nJ nD nE nF nB) 5::ch1;eO 1 (1:Int) [.g2,.l h1,.g,.b (zT u1),.g,.l h1,.g,.i u2,.l h2,.g,.s E ch1 0 0 zSQ (qf (zP nJ nD nE nF nB)),.g,.f E ch2 0 0 zU,.g,.l h3,.w u3,.c h4,.g7,.g3] nx
theorem xJD(h1:LDz E 28 (qe BA 1) (.slice qA lA cA))(nx:Q0 E)(u1:¬aP<(lA:Int):=by omega):zBI BA aP E Nx Qr Q0 :=
 eO 2 () [.g2,.l h1,.g,.b (zY u1)] nx
theorem xTC:let Y1:=E.row (wkc ak ah ae af ag aa ac ao au aj) 6;∀(h1:CPz 23 [iV ak,iV 1,iV 7] Y1 (.bool true)) (h2:CPz 23 [iV ao,iV 0,iV 3000] Y1 (.bool true)) (h3:CPz 23 [iV au,iV 1,iV 14] Y1 (.bool true)) (h4:CPz 23 [iV aj,iV 0,iV 20000] Y1 (.bool true)) (hL:yNU E.j 0 Y1 Pr P0) (kr:∀i2_1' E',Pr i2_1' E'->yBS E.j i2_1' E' Q) (k0:∀E',P0 E'->yBT E.j E' Q) (u1:¬12<(ae:Int):=by omega) (u2:¬6<(aa:Int):=by omega),zQ tP 8 [qf (wkc ak ah ae af ag aa ac ao au aj)] E Q:=
 λh1 h2 h3 h4 hL kr k0 u1 u2=>let ch1:List Bs:=[.r (wkc ak ah ae af ag aa ac ao au aj) 6];eQ [.g3,.f E ch1 0 1 zGB,.g,.b (zY u1),.g2,.f E ch1 0 2 zGA,.g,.b (zY u2),.g2,.f E ch1 0 0 zU,.c h1,.g3,.f E ch1 0 3 zU,.c h2,.g4,.f E ch1 0 4 zU,.c h3,.g4,.f E ch1 0 5 zU,.c h4,.g3,.k (.lf 145 (zHY E.j 0) [zNY E.j Pr,zNZ E.j P0])] (ai (ai tt (ai (arf (zHY E.j 0)) hL)) (ai (kz1 kr) (ai (kz0 k0) trivial)))
theorem xTB:let Y1:=E.row (wkc ak ah ae af ag aa ac ao au aj) 6;∀(h1:CPz 23 [iV ak,iV 1,iV 7] Y1 (.bool true)) (h2:CPz 23 [iV ao,iV 0,iV 3000] Y1 (.bool true)) (h3:CPz 23 [iV au,iV 1,iV 14] Y1 (.bool true)) (h4:CPz 23 [iV aj,iV 0,iV 20000] Y1 (.bool false)) (nx:Q (iV 1) Y1) (u1:¬12<(ae:Int):=by omega) (u2:¬6<(aa:Int):=by omega),zQ tP 8 [qf (wkc ak ah ae af ag aa ac ao au aj)] E Q:=
 λh1 h2 h3 h4 nx u1 u2=>let ch1:List Bs:=[.r (wkc ak ah ae af ag aa ac ao au aj) 6];eQ [.g3,.f E ch1 0 1 zGB,.g,.b (zY u1),.g2,.f E ch1 0 2 zGA,.g,.b (zY u2),.g2,.f E ch1 0 0 zU,.c h1,.g3,.f E ch1 0 3 zU,.c h2,.g4,.f E ch1 0 4 zU,.c h3,.g4,.f E ch1 0 5 zU,.c h4,.g3] nx
theorem xTA:let Y1:=E.row (wkc ak ah ae af ag aa ac ao au aj) 6;∀(h1:CPz 23 [iV ak,iV 1,iV 7] Y1 (.bool true)) (h2:CPz 23 [iV ao,iV 0,iV 3000] Y1 (.bool true)) (h3:CPz 23 [iV au,iV 1,iV 14] Y1 (.bool false)) (nx:Q (iV 1) Y1) (u1:¬12<(ae:Int):=by omega) (u2:¬6<(aa:Int):=by omega),zQ tP 8 [qf (wkc ak ah ae af ag aa ac ao au aj)] E Q:=
 λh1 h2 h3 nx u1 u2=>let ch1:List Bs:=[.r (wkc ak ah ae af ag aa ac ao au aj) 6];eQ [.g3,.f E ch1 0 1 zGB,.g,.b (zY u1),.g2,.f E ch1 0 2 zGA,.g,.b (zY u2),.g2,.f E ch1 0 0 zU,.c h1,.g3,.f E ch1 0 3 zU,.c h2,.g4,.f E ch1 0 4 zU,.c h3,.g5] nx
theorem xSZ:let Y1:=E.row (wkc ak ah ae af ag aa ac ao au aj) 6;∀(h1:CPz 23 [iV ak,iV 1,iV 7] Y1 (.bool true)) (h2:CPz 23 [iV ao,iV 0,iV 3000] Y1 (.bool false)) (nx:Q (iV 1) Y1) (u1:¬12<(ae:Int):=by omega) (u2:¬6<(aa:Int):=by omega),zQ tP 8 [qf (wkc ak ah ae af ag aa ac ao au aj)] E Q:=
 λh1 h2 nx u1 u2=>let ch1:List Bs:=[.r (wkc ak ah ae af ag aa ac ao au aj) 6];eQ [.g3,.f E ch1 0 1 zGB,.g,.b (zY u1),.g2,.f E ch1 0 2 zGA,.g,.b (zY u2),.g2,.f E ch1 0 0 zU,.c h1,.g3,.f E ch1 0 3 zU,.c h2,.g7] nx
theorem xSY:let y0:=wkc ak ah ae af ag aa ac ao au aj;∀(h1:CPz 23 [iV ak,iV 1,iV 7] (E.row y0 6) (.bool false)) (nx:Q (iV 1) (E.row y0 6)) (u1:¬12<(ae:Int):=by omega) (u2:¬6<(aa:Int):=by omega),zQ tP 8 [qf y0] E Q :=
 let y0:=wkc ak ah ae af ag aa ac ao au aj;λh1 nx u1 u2=>let ch1:List Bs:=[.r y0 6];eQ [.g3,.f E ch1 0 1 zGB,.g,.b (zY u1),.g2,.f E ch1 0 2 zGA,.g,.b (zY u2),.g2,.f E ch1 0 0 zU,.c h1,.g7,.g] nx
theorem yTG(nx:Q (iV bk) E):yBS BA bk E Q :=
 eK [] nx
theorem yTI(hb:∀k dS E,Inv k dS E->zAI BA dS E (NX1 Inv k) Qr Q2):∀k dS E,Inv k dS E->yNT BA dS E Qr Q2 :=
 xE (ai wX (ai (wF 2) trivial)) hb
@[reducible] def Ha3(E:St)(BA lI cI lB cB lG cC lH cE:Nat)(eS:Addr)(dS nK nL nM nU:Int)(qB qD qE:oAa):Prop:=LDz E 29 ⟨BA,2,none⟩ (.slice (some eS) lI cI)/\LDz E 83 (zO eS (Int.toNat dS*6)) (.agg ⟨yH qB lB cB qD lG cC qE lH cE nK nL nM⟩)/\CPz 24 [.slice qB lB cB,iV 0,iV 15] ((E.row (yH none 0 0 none 0 0 none 0 0 0 0 0) 6).own E.j (yH qB lB cB qD lG cC qE lH cE nK nL nM) 6) (.bool true)/\LDz ((E.row (yH none 0 0 none 0 0 none 0 0 0 0 0) 6).own E.j (yH qB lB cB qD lG cC qE lH cE nK nL nM) 6) 3 ⟨BA,0,none⟩ (iV nU)/\(CPz 24 [.slice qD lG cC,iV 0,iV (nU-1)] ((E.row (yH none 0 0 none 0 0 none 0 0 0 0 0) 6).own E.j (yH qB lB cB qD lG cC qE lH cE nK nL nM) 6) (.bool true))
theorem xJC:let Y1:=E.row (yH none 0 0 none 0 0 none 0 0 0 0 0) 6;let Y2:=Y1.own E.j (yH qB lB cB qD lG cC qE lH cE nK nL nM) 6;∀(H:Ha3 E BA lI cI lB cB lG cC lH cE eS dS nK nL nM nU qB qD qE) (h6:CPz 24 [.slice qE lH cE,iV 0,iV (nU-1)] Y2 (.bool true)) (h7:CPz 23 [iV nK,iV (-10080),iV 1440] Y2 (.bool true)) (h8:CPz 23 [iV nL,iV 0,iV 14] Y2 (.bool true)) (h9:LDz Y2 3 (qe BA 5) (iV nBD)) (h10:CPz 23 [iV nM,iV 0,iV nBD] Y2 (.bool true)) (nx:Nx (dS+1) Y2) (u1:dS<(lI:Int):=by omega) (u2:Ix dS lI:=by omega) (u3:I6 (nU-1):=by omega) (u4:I6 (dS+1):=by omega),zAI BA dS E Nx Qr Q2:=
 λH h6 h7 h8 h9 h10 nx u1 u2 u3 u4=>match H with|⟨h1,h2,h3,h4,h5⟩=>let ch1:List Bs:=[.r (yH none 0 0 none 0 0 none 0 0 0 0 0) 6];let ch2:List Bs:=.o 0 (yH qB lB cB qD lG cC qE lH cE nK nL nM) 6::ch1;eO 0 (dS+1) [.g2,.l h1,.g,.b (zT u1),.g,.l h1,.g,.i u2,.l h2,.g,.s E ch1 0 0 zBW (qf (yH qB lB cB qD lG cC qE lH cE nK nL nM)),.g,.f E ch2 0 0 xF,.c h3,.g3,.f E ch2 0 1 xF,.g,.l h4,.w u3,.c h5,.g4,.f E ch2 0 2 xF,.g,.l h4,.w u3,.c h6,.g4,.f E ch2 0 3 zU,.c h7,.g4,.f E ch2 0 4 zU,.c h8,.g4,.f E ch2 0 5 zU,.g,.l h9,.c h10,.g3,.w u4,.g] nx
theorem xJB:let Y1:=E.row (yH none 0 0 none 0 0 none 0 0 0 0 0) 6;let Y2:=Y1.own E.j (yH qB lB cB qD lG cC qE lH cE nK nL nM) 6;∀(H:Ha3 E BA lI cI lB cB lG cC lH cE eS dS nK nL nM nU qB qD qE) (h6:CPz 24 [.slice qE lH cE,iV 0,iV (nU-1)] Y2 (.bool true)) (h7:CPz 23 [iV nK,iV (-10080),iV 1440] Y2 (.bool true)) (h8:CPz 23 [iV nL,iV 0,iV 14] Y2 (.bool true)) (h9:LDz Y2 3 (qe BA 5) (iV nBD)) (h10:CPz 23 [iV nM,iV 0,iV nBD] Y2 (.bool false)) (nx:Qr (1:Int) Y2) (u1:dS<(lI:Int):=by omega) (u2:Ix dS lI:=by omega) (u3:I6 (nU-1):=by omega),zAI BA dS E Nx Qr Q2:=
 λH h6 h7 h8 h9 h10 nx u1 u2 u3=>match H with|⟨h1,h2,h3,h4,h5⟩=>let ch1:List Bs:=[.r (yH none 0 0 none 0 0 none 0 0 0 0 0) 6];let ch2:List Bs:=.o 0 (yH qB lB cB qD lG cC qE lH cE nK nL nM) 6::ch1;eO 1 (1:Int) [.g2,.l h1,.g,.b (zT u1),.g,.l h1,.g,.i u2,.l h2,.g,.s E ch1 0 0 zBW (qf (yH qB lB cB qD lG cC qE lH cE nK nL nM)),.g,.f E ch2 0 0 xF,.c h3,.g3,.f E ch2 0 1 xF,.g,.l h4,.w u3,.c h5,.g4,.f E ch2 0 2 xF,.g,.l h4,.w u3,.c h6,.g4,.f E ch2 0 3 zU,.c h7,.g4,.f E ch2 0 4 zU,.c h8,.g4,.f E ch2 0 5 zU,.g,.l h9,.c h10,.g3] nx
theorem xJA:let Y1:=E.row (yH none 0 0 none 0 0 none 0 0 0 0 0) 6;let Y2:=Y1.own E.j (yH qB lB cB qD lG cC qE lH cE nK nL nM) 6;∀(H:Ha3 E BA lI cI lB cB lG cC lH cE eS dS nK nL nM nU qB qD qE) (h6:CPz 24 [.slice qE lH cE,iV 0,iV (nU-1)] Y2 (.bool true)) (h7:CPz 23 [iV nK,iV (-10080),iV 1440] Y2 (.bool true)) (h8:CPz 23 [iV nL,iV 0,iV 14] Y2 (.bool false)) (nx:Qr (1:Int) Y2) (u1:dS<(lI:Int):=by omega) (u2:Ix dS lI:=by omega) (u3:I6 (nU-1):=by omega),zAI BA dS E Nx Qr Q2:=
 λH h6 h7 h8 nx u1 u2 u3=>match H with|⟨h1,h2,h3,h4,h5⟩=>let ch1:List Bs:=[.r (yH none 0 0 none 0 0 none 0 0 0 0 0) 6];let ch2:List Bs:=.o 0 (yH qB lB cB qD lG cC qE lH cE nK nL nM) 6::ch1;eO 1 (1:Int) [.g2,.l h1,.g,.b (zT u1),.g,.l h1,.g,.i u2,.l h2,.g,.s E ch1 0 0 zBW (qf (yH qB lB cB qD lG cC qE lH cE nK nL nM)),.g,.f E ch2 0 0 xF,.c h3,.g3,.f E ch2 0 1 xF,.g,.l h4,.w u3,.c h5,.g4,.f E ch2 0 2 xF,.g,.l h4,.w u3,.c h6,.g4,.f E ch2 0 3 zU,.c h7,.g4,.f E ch2 0 4 zU,.c h8,.g5] nx
theorem xIZ:let Y1:=E.row (yH none 0 0 none 0 0 none 0 0 0 0 0) 6;let Y2:=Y1.own E.j (yH qB lB cB qD lG cC qE lH cE nK nL nM) 6;∀(H:Ha3 E BA lI cI lB cB lG cC lH cE eS dS nK nL nM nU qB qD qE) (h6:CPz 24 [.slice qE lH cE,iV 0,iV (nU-1)] Y2 (.bool true)) (h7:CPz 23 [iV nK,iV (-10080),iV 1440] Y2 (.bool false)) (nx:Qr (1:Int) Y2) (u1:dS<(lI:Int):=by omega) (u2:Ix dS lI:=by omega) (u3:I6 (nU-1):=by omega),zAI BA dS E Nx Qr Q2:=
 λH h6 h7 nx u1 u2 u3=>match H with|⟨h1,h2,h3,h4,h5⟩=>let ch1:List Bs:=[.r (yH none 0 0 none 0 0 none 0 0 0 0 0) 6];let ch2:List Bs:=.o 0 (yH qB lB cB qD lG cC qE lH cE nK nL nM) 6::ch1;eO 1 (1:Int) [.g2,.l h1,.g,.b (zT u1),.g,.l h1,.g,.i u2,.l h2,.g,.s E ch1 0 0 zBW (qf (yH qB lB cB qD lG cC qE lH cE nK nL nM)),.g,.f E ch2 0 0 xF,.c h3,.g3,.f E ch2 0 1 xF,.g,.l h4,.w u3,.c h5,.g4,.f E ch2 0 2 xF,.g,.l h4,.w u3,.c h6,.g4,.f E ch2 0 3 zU,.c h7,.g7] nx
theorem xIY:let y0:=(E.row (yH none 0 0 none 0 0 none 0 0 0 0 0) 6).own E.j (yH qB lB cB qD lG cC qE lH cE nK nL nM) 6;∀(H:Ha3 E BA lI cI lB cB lG cC lH cE eS dS nK nL nM nU qB qD qE) (h6:CPz 24 [.slice qE lH cE,iV 0,iV (nU-1)] y0 (.bool false)) (nx:Qr (1:Int) y0) (u1:dS<(lI:Int):=by omega) (u2:Ix dS lI:=by omega) (u3:I6 (nU-1):=by omega),zAI BA dS E Nx Qr Q2 :=
 λH h6 nx u1 u2 u3=>match H with|⟨h1,h2,h3,h4,h5⟩=>let ch1:List Bs:=[.r (yH none 0 0 none 0 0 none 0 0 0 0 0) 6];let ch2:List Bs:=.o 0 (yH qB lB cB qD lG cC qE lH cE nK nL nM) 6::ch1;eO 1 (1:Int) [.g2,.l h1,.g,.b (zT u1),.g,.l h1,.g,.i u2,.l h2,.g,.s E ch1 0 0 zBW (qf (yH qB lB cB qD lG cC qE lH cE nK nL nM)),.g,.f E ch2 0 0 xF,.c h3,.g3,.f E ch2 0 1 xF,.g,.l h4,.w u3,.c h5,.g4,.f E ch2 0 2 xF,.g,.l h4,.w u3,.c h6,.g7,.g2] nx
theorem xIX:let Y1:=E.row (yH none 0 0 none 0 0 none 0 0 0 0 0) 6;let Y2:=Y1.own E.j (yH qB lB cB qD lG cC qE lH cE nK nL nM) 6;∀(h1:LDz E 29 (qe BA 2) (.slice (some eS) lI cI)) (h2:LDz E 83 (zO eS (Int.toNat dS*6)) (qf (yH qB lB cB qD lG cC qE lH cE nK nL nM))) (h3:CPz 24 [.slice qB lB cB,iV 0,iV 15] Y2 (.bool true)) (h4:LDz Y2 3 (qe BA 0) (iV nU)) (h5:CPz 24 [.slice qD lG cC,iV 0,iV (nU-1)] Y2 (.bool false)) (nx:Qr (1:Int) Y2) (u1:dS<(lI:Int):=by omega) (u2:Ix dS lI:=by omega) (u3:I6 (nU-1):=by omega),zAI BA dS E Nx Qr Q2:=
 λh1 h2 h3 h4 h5 nx u1 u2 u3=>let ch1:List Bs:=[.r (yH none 0 0 none 0 0 none 0 0 0 0 0) 6];let ch2:List Bs:=.o 0 (yH qB lB cB qD lG cC qE lH cE nK nL nM) 6::ch1;eO 1 (1:Int) [.g2,.l h1,.g,.b (zT u1),.g,.l h1,.g,.i u2,.l h2,.g,.s E ch1 0 0 zBW (qf (yH qB lB cB qD lG cC qE lH cE nK nL nM)),.g,.f E ch2 0 0 xF,.c h3,.g3,.f E ch2 0 1 xF,.g,.l h4,.w u3,.c h5,.g7,.g4] nx
theorem xIW:let y0:=yH qB lB cB qD lG cC qE lH cE nK nL nM;let y1:=(E.row (yH none 0 0 none 0 0 none 0 0 0 0 0) 6).own E.j y0 6;∀(h1:LDz E 29 (qe BA 2) (.slice (some eS) lI cI)) (h2:LDz E 83 (zO eS (Int.toNat dS*6)) (qf y0)) (h3:CPz 24 [.slice qB lB cB,iV 0,iV 15] y1 (.bool false)) (nx:Qr (1:Int) y1) (u1:dS<(lI:Int):=by omega) (u2:Ix dS lI:=by omega),zAI BA dS E Nx Qr Q2 :=
 let y0:=yH qB lB cB qD lG cC qE lH cE nK nL nM;λh1 h2 h3 nx u1 u2=>let ch1:List Bs:=[.r (yH none 0 0 none 0 0 none 0 0 0 0 0) 6];let ch2:List Bs:=.o 0 y0 6::ch1;eO 1 (1:Int) [.g2,.l h1,.g,.b (zT u1),.g,.l h1,.g,.i u2,.l h2,.g,.s E ch1 0 0 zBW (qf y0),.g,.f E ch2 0 0 xF,.c h3,.g7,.g5] nx
theorem xIV(h1:LDz E 29 (qe BA 2) (.slice qH lI cI))(nx:Q2 E)(u1:¬dS<(lI:Int):=by omega):zAI BA dS E Nx Qr Q2 :=
 eO 2 () [.g2,.l h1,.g,.b (zY u1)] nx
theorem yTH(hL:yNT BA 0 E Pr P2)(kr:∀i2_2' E',Pr i2_2' E'->yBQ BA i2_2' E' Q)(k2:∀E',P2 E'->yBR BA E' Q):yBT BA E Q :=
 eK [.g,.k (.lf 145 (zHX BA 0) [zNW BA Pr,zNX BA P2])] (ai (ai tt (ai (arf (zHX BA 0)) hL)) (ai (kz1 kr) (ai (kz0 k2) trivial)))
theorem yTE(nx:Q (iV i2_2) E):yBQ BA i2_2 E Q :=
 eK [] nx
theorem yTF(nx:Q (iV 0) E):yBR BA E Q :=
 eK [.g] nx
end
section
variable{U:Type}{xs:List U}{f:U->Bool}{x:U}
def zAP(w:Wk)(d:Dty):Bool:=inB d.day 0 (w.J-1)&&(inB d.on 0 1439&&(inB d.lo d.on d.hi&&(!decide (d.on+1440<d.hi)&&inB d.route 0 15)))
def zDP(w:Wk)(x:Drv):Bool:=zAZ x.qa 0 15&&(zAZ x.qb 0 (w.J-1)&&(zAZ x.qc 0 (w.J-1)&&(inB x.off (-10080) 1440&&(inB x.row 0 14&&inB x.used 0 w.N))))
def zCU(w:Wk):Bool:=inB w.J 1 7&&(inB w.rest 0 3000&&(inB w.run 1 14&&inB w.N 0 20000))
def vR(w:Wk):Int:=if 12<w.L.length\/6<w.M.length then 3 else if zCU w&&(w.L.all (zAP w)&&w.M.all (zDP w))then 0 else 1
theorem zPC{i:Nat}(h:xs[i]?=some x)(ha:(xs.take i).all f=true)(hf:f x=true):(xs.take (i+1)).all f=true:=by
 rw[wE h,List.all_append,ha];simp[hf]
theorem yVH(h:x∈xs)(hf:f x=false):xs.all f=false:=by
 cases ha:xs.all f with
 |false=>rfl
 |true=>rw[List.all_eq_true.1 ha x h]at hf;cases hf
def zCE(w:Wk):Prop:=∀x∈w.M,x.qa.length<=1000/\x.qb.length<=1000/\x.qc.length<=1000
section
variable{E:St}{w:Wk}{p q:Option Addr}{l m c d:Nat}
theorem xBP(h:WkP E 62 83 w p l q m)(hsh:zCE w):zW tP 8 [.agg ⟨wkc w.J p l c q m d w.rest w.run w.N⟩] E (iV (vR w)) E:=by
 have hwp:=h;have hn:=h.len.1;have hm:=h.len.2;by_cases h12:12<l
 .have:vR w=3:=by unfold vR;rw[if_pos (.inl (by omega))]
  rw[this];exact(xTE ⟨rfl,Nat.le_refl _⟩).pure
 by_cases h6:6<m
 .have:vR w=3:=by unfold vR;rw[if_pos (.inr (by omega))]
  rw[this];exact(xTD ⟨rfl,Nat.le_refl _⟩).pure
 have hf0:vR w=if zCU w&&(w.L.all (zAP w)&&w.M.all (zDP w))then 0 else 1:=by unfold vR;rw[if_neg (by omega)]
 obtain⟨E1,hE1⟩:∃E1,E1=E.re.row (wkc w.J p l c q m d w.rest w.run w.N) 6:=⟨_,rfl⟩;have cin:∀{O:St} {n lo hi:Int} {b:Bool},inB n lo hi=b->zW tP 23 [iV n,iV lo,iV hi] O (.bool b) O:=λe=>e ▸ wKQ
 have no:zCU w=false->vR w=1:=λe=>by rw[hf0,e];rfl
 cases b1:inB w.J 1 7 with
 |false=>rw[no (by unfold zCU;rw[b1];rfl)];exact(xSY (cin b1) ⟨rfl,Nat.le_refl _⟩ (by omega) (by omega)).pure
 |true =>
 cases b2:inB w.rest 0 3000 with
 |false=>rw[no (by unfold zCU;rw[b1,b2];rfl)];exact(xSZ (cin b1) (cin b2) ⟨rfl,Nat.le_refl _⟩ (by omega) (by omega)).pure
 |true =>
 cases b3:inB w.run 1 14 with
 |false=>rw[no (by unfold zCU;rw[b1,b2,b3];rfl)];exact(xTA (cin b1) (cin b2) (cin b3) ⟨rfl,Nat.le_refl _⟩ (by omega) (by omega)).pure
 |true =>
 cases b4:inB w.N 0 20000 with
 |false=>rw[no (by unfold zCU;rw[b1,b2,b3,b4];rfl)];exact(xTB (cin b1) (cin b2) (cin b3) (cin b4) ⟨rfl,Nat.le_refl _⟩ (by omega) (by omega)).pure
 |true =>
 have hh:zCU w=true:=by unfold zCU;rw[b1,b2,b3,b4];rfl
 have hd:=uB.1 b1;have N1:New E.re E1:=by rw[hE1];exact New.row _ _ _
 have L1:Le E E1:=(le0 E).trans N1.le;have hW:∀{O},Le E1 O->Row O ⟨E.re.j,0,none⟩ (wkc w.J p l c q m d w.rest w.run w.N):=λ{O} hN=>by
  have:=wB E.re (wkc w.J p l c q m d w.rest w.run w.N) 6;rw[<- hE1]at this;exact this.le hN
 have nod:∀x∈w.L,zAP w x=false->vR w=1:=λx hx e=>by rw[hf0,yVH hx e];simp
 have nov:∀x∈w.M,zDP w x=false->vR w=1:=λx hx e=>by rw[hf0,yVH hx e];simp
 have lw1:∀{O:St},New E1 O->E.j<=O.low:=λhN=>(N1.trans hN).lw
 refine zQ.pure (xTC (Pr:=λn O=>New E1 O/\n=vR w) (P0:=λO=>New E1 O/\w.L.all (zAP w)=true) (cin b1) (cin b2) (cin b3) (cin b4)
  (yTJ (Inv:=λk i O=>New E1 O/\∃j:Nat,i=j/\j+k=l/\(w.L.take j).all (zAP w)=true) ?_ l 0 _ ⟨by rw[<- hE1];exact New.refl _,0,rfl,by omega,rfl⟩)
  (λn O h=>yTG ⟨by rw[h.2],lw1 h.1⟩) (λO h=>?_) (by omega) (by omega))
 .rintro k i O ⟨hN,j,rfl,hk,ha⟩;have ldD:zJ tP O 28 ⟨E.re.j,1,none⟩=some (.slice p l c):=(hW hN.le).ld zGB rfl;by_cases hj:j<l;rotate_left
  .exact xJD ldD ⟨hN,by rwa [List.take_of_length_le (by omega)]at ha⟩
  obtain⟨a,rfl,x,hx,lx⟩:=xA (SlV.le h.dty (L1.trans hN.le)) hj;have hmem:=List.mem_of_getElem? hx;have hN2:New E1 ((O.row (zP 0 0 0 0 0) 5).own O.j (zP x.day x.on x.lo x.hi x.route) 5):=hN.row'.own hN.le.j;have ld0:zJ tP ((O.row (zP 0 0 0 0 0) 5).own O.j (zP x.day x.on x.lo x.hi x.route) 5) 3 ⟨E.re.j,0,none⟩=some (iV w.J):=(hW hN2.le).ld zU rfl;cases c1:inB x.day 0 (w.J-1)with
  |false=>exact xJE ldD lx ld0 (cin c1) ⟨hN2,(nod x hmem (by unfold zAP;rw[c1];rfl)).symm⟩ (by omega) (by omega) (by omega)
  |true =>
  cases c2:inB x.on 0 1439 with
  |false=>exact xJF ldD lx ld0 (cin c1) (cin c2) ⟨hN2,(nod x hmem (by unfold zAP;rw[c1,c2];rfl)).symm⟩ (by omega) (by omega) (by omega)
  |true =>
  have hon:=uB.1 c2;cases c3:inB x.lo x.on x.hi with
  |false=>exact xJG ⟨ldD,lx,ld0,(cin c1),(cin c2)⟩ (cin c3) ⟨hN2,(nod x hmem (by unfold zAP;rw[c1,c2,c3];rfl)).symm⟩ (by omega) (by omega) (by omega)
  |true =>
  by_cases c4:x.on+1440<x.hi
  .exact xJJ ⟨ldD,lx,ld0,(cin c1),(cin c2)⟩ (cin c3) ⟨hN2,(nod x hmem (by unfold zAP;rw[c1,c2,c3,decide_eq_true c4];rfl)).symm⟩ (by omega) (by omega) (by omega) (by omega) c4
  cases c5:inB x.route 0 15 with
  |false=>exact xJH ⟨ldD,lx,ld0,(cin c1),(cin c2)⟩ (cin c3) (cin c5) ⟨hN2,(nod x hmem (by unfold zAP;rw[c1,c2,c3,decide_eq_false c4,c5];rfl)).symm⟩ (by omega) (by omega) (by omega) (by omega) c4
  |true=>exact xJI ⟨ldD,lx,ld0,(cin c1),(cin c2)⟩ (cin c3) (cin c5) ⟨k-1,by omega,hN2,j+1,by omega,by omega,zPC hx ha (by unfold zAP;rw[c1,c2,c3,decide_eq_false c4,c5];rfl)⟩ (by omega) (by omega) (by omega) (by omega) c4 (by omega)
 .obtain⟨hN1,hdu⟩:=h;refine yTH (Pr:=λn O=>New E1 O/\n=vR w) (P2:=λO=>New E1 O/\w.M.all (zDP w)=true)
   (yTI (Inv:=λk i O=>New E1 O/\∃j:Nat,i=j/\j+k=m/\(w.M.take j).all (zDP w)=true) ?_ m 0 _ ⟨hN1,0,rfl,by omega,rfl⟩)
   (λn O h=>yTE ⟨by rw[h.2],lw1 h.1⟩) (λO h=>yTF ⟨by rw[hf0,hh,hdu,h.2];rfl,lw1 h.1⟩)
  rintro k i O ⟨hN,j,rfl,hk,ha⟩;have ldV:zJ tP O 29 ⟨E.re.j,2,none⟩=some (.slice q m d):=(hW hN.le).ld zGA rfl;by_cases hj:j<m;rotate_left
  .exact xIV ldV ⟨hN,by rwa [List.take_of_length_le (by omega)]at ha⟩
  have LL:=L1.trans hN.le;obtain⟨vs,hv1,hv2,hv3⟩:=hwp.drv;obtain⟨qa,rfl,_⟩:=hv1.some hj;have hx:w.M[j]?=some w.M[j]:=by simp
  obtain⟨x,hxe⟩:∃x,x=w.M[j]:=⟨_,rfl⟩;rw[<- hxe]at hx;obtain⟨v,g1,p',l',c',r',n',d',s',j',e',rfl,hkn,hlv,hws⟩:=hv3 j _ hx;have lx:zJ tP O 83 (zO qa (Int.toNat (j:Int)*6))=some (.agg ⟨yH p' l' c' r' n' d' s' j' e' x.off x.row x.used⟩):=(hv1.le LL).at rfl g1;have hmem:=List.mem_of_getElem? hx;have hsx:=hsh x hmem;have hN2:New E1 ((O.row (yH none 0 0 none 0 0 none 0 0 0 0 0) 6).own O.j (yH p' l' c' r' n' d' s' j' e' x.off x.row x.used) 6):=hN.row'.own hN.le.j;have L2:=L1.trans hN2.le;have ld0:zJ tP ((O.row (yH none 0 0 none 0 0 none 0 0 0 0 0) 6).own O.j (yH p' l' c' r' n' d' s' j' e' x.off x.row x.used) 6) 3 ⟨E.re.j,0,none⟩=some (iV w.J):=(hW hN2.le).ld zU rfl;have ld5:zJ tP ((O.row (yH none 0 0 none 0 0 none 0 0 0 0 0) 6).own O.j (yH p' l' c' r' n' d' s' j' e' x.off x.row x.used) 6) 3 ⟨E.re.j,5,none⟩=some (iV w.N):=(hW hN2.le).ld zU rfl;have k1:=yHK (c:=c') (lo:=0) (hi:=15) (SlV.le hkn L2) (by have:=hkn.len;omega);have k2:=yHK (c:=d') (lo:=0) (hi:=w.J-1) (SlV.le hlv L2) (by have:=hlv.len;omega);have k3:=yHK (c:=e') (lo:=0) (hi:=w.J-1) (SlV.le hws L2) (by have:=hws.len;omega);cases c1:zAZ x.qa 0 15 with
  |false=>rw[c1]at k1;exact xIW ldV lx k1 ⟨hN2,(nov x hmem (by unfold zDP;rw[c1];rfl)).symm⟩ (by omega) (by omega)
  |true =>
  cases c2:zAZ x.qb 0 (w.J-1)with
  |false=>rw[c1]at k1;rw[c2]at k2;exact xIX ldV lx k1 ld0 k2 ⟨hN2,(nov x hmem (by unfold zDP;rw[c1,c2];rfl)).symm⟩ (by omega) (by omega) (by omega)
  |true =>
  cases c3:zAZ x.qc 0 (w.J-1)with
  |false=>rw[c1]at k1;rw[c2]at k2;rw[c3]at k3;exact xIY ⟨ldV,lx,k1,ld0,k2⟩ k3 ⟨hN2,(nov x hmem (by unfold zDP;rw[c1,c2,c3];rfl)).symm⟩ (by omega) (by omega) (by omega)
  |true =>
  rw[c1]at k1;rw[c2]at k2;rw[c3]at k3;cases c4:inB x.off (-10080) 1440 with
  |false=>exact xIZ ⟨ldV,lx,k1,ld0,k2⟩ k3 (cin c4) ⟨hN2,(nov x hmem (by unfold zDP;rw[c1,c2,c3,c4];rfl)).symm⟩ (by omega) (by omega) (by omega)
  |true =>
  cases c5:inB x.row 0 14 with
  |false=>exact xJA ⟨ldV,lx,k1,ld0,k2⟩ k3 (cin c4) (cin c5) ⟨hN2,(nov x hmem (by unfold zDP;rw[c1,c2,c3,c4,c5];rfl)).symm⟩ (by omega) (by omega) (by omega)
  |true =>
  cases c6:inB x.used 0 w.N with
  |false=>exact xJB ⟨ldV,lx,k1,ld0,k2⟩ k3 (cin c4) (cin c5) ld5 (cin c6) ⟨hN2,(nov x hmem (by unfold zDP;rw[c1,c2,c3,c4,c5,c6];rfl)).symm⟩ (by omega) (by omega) (by omega)
  |true=>exact xJC ⟨ldV,lx,k1,ld0,k2⟩ k3 (cin c4) (cin c5) ld5 (cin c6) ⟨k-1,by omega,hN2,j+1,by omega,by omega,zPC hx ha (by unfold zDP;rw[c1,c2,c3,c4,c5,c6];rfl)⟩ (by omega) (by omega) (by omega) (by omega)
end
end
def yU(rs:List Int)(i:Nat):Int:=rs.getD i 0
section
variable{w:Wk}{ros tru:Nat->Int}{k D i:Nat}
end
section
variable{E:St}{w:Wk}{p q r t:Option Addr}{l m c d rc tc:Nat}{rs ts:List Int}{k D:Nat}
end
section
variable{n l c m d:Nat}{p q:Option Addr}{x y z:Int}
structure Sane(w:Wk)(l m:Nat):Prop where
 l12:l<=12
 m6:m<=6
 duty:∀i,i<l->0<=(dty w i).day/\(dty w i).day<=6/\0<=(dty w i).on/\(dty w i).on<=1439/\(dty w i).on<=(dty w i).lo/\(dty w i).lo<=(dty w i).hi/\(dty w i).hi<=(dty w i).on+1440
 dr:∀k,k<m->-10080<=(drQ w k).off/\(drQ w k).off<=1440/\0<=(drQ w k).row/\(drQ w k).row<=14/\0<=(drQ w k).used/\(drQ w k).used<=20000
 kn:∀k,k<m->(drQ w k).qa.length<=1000/\(drQ w k).qb.length<=1000/\(drQ w k).qc.length<=1000
 rest:0<=w.rest/\w.rest<=3000
 run:1<=w.run/\w.run<=14
 N:0<=w.N/\w.N<=20000
theorem xMA{r:Option Addr}{j e:Nat}(h1:∀a,p=some a->a.block<n)(h2:∀a,q=some a->a.block<n)(h3:∀a,r=some a->a.block<n):yQ RD n (.agg ⟨yH p l c q m d r j e x y z⟩)=true:=by
 have e1:∀a b:Nat,a<b->Nat.blt a b=true:=λa b h=>by rw[Nat.blt_eq];exact h
 show List.all (yH p l c q m d r j e x y z) (yQ (RD-1) n)=true;rcases p with _|p <;> rcases q with _|q <;> rcases r with _|r <;> simp[yQ,RD] <;> simp_all
theorem xVZ{a:Int}(h1:∀a,p=some a->a.block<n)(h2:∀a,q=some a->a.block<n):yQ RD n (.agg ⟨wkc a p l c q m d x y z⟩)=true:=by
 have e1:∀a b:Nat,a<b->Nat.blt a b=true:=λa b h=>by rw[Nat.blt_eq];exact h
 show List.all (wkc a p l c q m d x y z) (yQ (RD-1) n)=true;rcases p with _|p <;> rcases q with _|q <;> simp[yQ,RD] <;> simp_all
section
variable{E:St}{w:Wk}{p q r t:Option Addr}{l m c d rc tc:Nat}{rs ts:List Int}{k i:Nat}
end
end
end Go.Proofs.YtflfajphjmajpaaGreat
