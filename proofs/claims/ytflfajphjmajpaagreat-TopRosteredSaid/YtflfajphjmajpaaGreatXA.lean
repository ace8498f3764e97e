import Derived.Test.YtflfajphjmajpaaGreatTy
import Derived.Test.YtflfajphjmajpaaGreatLayD
set_option maxRecDepth 20000
namespace Go.Proofs.YtflfajphjmajpaaGreat
open Go Go.Lay
section
variable{E:St}{f:FuncId}{args:List Value}{v:Value}
theorem wAS{s:St}(h:∃N0,∀N,N0<=N->zZ tP N (.func f) args E.re=some (v,s))(h1:E.j<=s.j)(h2:s.low<E.j):zW tP f args E v ⟨s.heap,s.j,min E.low s.low⟩:=by
 obtain⟨N0,hN⟩:=h;refine⟨N0,λN hl=>?_⟩
 unfold uT;rw[show(⟨E.heap,E.j,E.j⟩:St)=E.re from rfl,hN N hl];show zAB E v s=_;unfold zAB;have e1:(Nat.ble E.j s.low&&yI RD v)=false:=by
  rw[Bool.and_eq_false_iff];left;rw[Bool.eq_false_iff];intro e;have:=(yJ _ _).1 e;omega
 have e2:Nat.ble E.j s.j=true:=(yJ _ _).2 h1;rw[e1,cond_false,e2,cond_true,vC,zBZ]
theorem zLI{E':St}(h:zW tP f args E v E'):E'.low<=E.low:=by
 obtain⟨N0,hN0⟩:=h;have hc:=hN0 N0 (Nat.le_refl _);unfold uT at hc;split at hc
 .cases hc
 .rename_i v1 s1 h1;unfold zAB at hc;rcases Bool.eq_false_or_eq_true (Nat.ble E.j s1.low&&yI RD v1)with e|e
  .rw[e,cond_true]at hc;simp at hc;rw[<- hc.2];exact Nat.le_refl _
  .rw[e,cond_false]at hc;rcases Bool.eq_false_or_eq_true (Nat.ble E.j s1.j)with e2|e2
   .rw[e2,cond_true,vC,zBZ]at hc;simp at hc;rw[<- hc.2];show min _ _<=_;omega
   .rw[e2,cond_false]at hc;cases hc
theorem zWH{a b:Int}:wA tP (evL [iV a,iV b]) E (.call { callee:=.builtin .max,args:=⟨wT 2⟩,argTypes:=⟨[3,3]⟩ })=some (iV (max a b)):=by
 have e:yL tP (Builtin.max_ ⟨[3,3]⟩ 0 ⟨[iV a,iV b]⟩)=some (iV (max a b)):=by
  rw[show max a b=if a<b then b else a by split <;> omega];simp only[Builtin.max_,List.foldlM,Builtin.max2];rfl
 have e2:wA tP (evL [iV a,iV b]) E (.call { callee:=.builtin .max,args:=⟨wT 2⟩,argTypes:=⟨[3,3]⟩ }) =
   match ((yL tP (Builtin.max_ ⟨[3,3]⟩ 0 ⟨[iV a,iV b]⟩)).filter (yI RD))with|some v=>some v|none=>xJ tP (evL [iV a,iV b]) E (.call { callee:=.builtin .max,args:=⟨wT 2⟩,argTypes:=⟨[3,3]⟩ }):=rfl
 rw[e2,e];rfl
theorem wHS{S:Nat->Prop}{Q:Value->St->Prop}(h:zQ tP f args E.re λv s=>Only S E.re s/\(s.low<E.j\/yI RD v=false\/Q v E)/\Q v s)(hQ:∀v s m,m<=s.low->Q v s->Q v ⟨s.heap,s.j,m⟩):∃v E',zW tP f args E v E'/\Only S E E'/\Q v E':=by
 obtain⟨v,s,hN,h1,h2,h3⟩:=h;by_cases hr:yI RD v=true/\¬s.low<E.j
 .rcases h2 with h2|h2|h2
  .exact absurd h2 hr.2
  .rw[hr.1]at h2;cases h2
  .exact⟨v,E,zQ.pure ⟨v,s,hN,rfl,by omega⟩ hr.1,Only.refl _ _,h2⟩
 .obtain⟨N0,hN⟩:=hN;refine⟨v,⟨s.heap,s.j,min E.low s.low⟩,⟨N0,λN hl=>?_⟩,h1.lower (m:=0),hQ _ _ _ (Nat.min_le_right _ _) h3⟩
  unfold uT;rw[show(⟨E.heap,E.j,E.j⟩:St)=E.re from rfl,hN N hl];show zAB E v s=_;unfold zAB;have e1:(Nat.ble E.j s.low&&yI RD v)=false:=by
   rw[Bool.and_eq_false_iff];by_cases hlow:s.low<E.j
   .left;rw[Bool.eq_false_iff];intro e;have:=(yJ _ _).1 e;omega
   .right;rw[<- Bool.not_eq_true];exact λe=>hr ⟨e,hlow⟩
  have e2:Nat.ble E.j s.j=true:=(yJ _ _).2 h1.j;rw[e1,cond_false,e2,cond_true,vC,zBZ]
end
structure Rec where
 k:Int
 a:Int
 b:Int
 deriving DecidableEq,Inhabited
abbrev yK(n:Int):Value:=iV n
def inB(n lo hi:Int):Bool:=decide (lo<=n)&&decide (n<=hi)
theorem uB{n lo hi:Int}:inB n lo hi=true↔lo<=n/\n<=hi:=by simp[inB]
theorem wE{U:Type}{xs:List U}{i:Nat}{x:U}(h:xs[i]?=some x):xs.take (i+1)=xs.take i++[x]:=by
 rw[List.take_add_one,h];rfl
theorem le0(E:St):Le E E.re:=Le.re' (Le.refl _)
section
noncomputable section
variable(l:oAa)(l_l l_c:Nat)(low high aH bO:Int)(q3:St->Prop)(q1:Bool->St->Prop)(q0:Int->St->Prop)(t6_1:Bool)(E:St)(Nx:Int->St->Prop)(Q:vPa)(Qr:Bool->St->Prop)(Q0:St->Prop)
def yNP:Code:=(Code.part [1,0,1,0,0] (zV tP 24))
def zHW:lNa:=[(0,.slice l l_l l_c),(1,iV low),(2,iV high),(7,iV bO)]
def xIU:Alt:=⟨Int,.normal,λt=>zHW l l_l l_c low high t,λt=>[],λt E=>q0 t E⟩
def yBI(l:oAa)(l_l l_c:Nat)(low high:Int)(t6_1:Bool):lNa:=[(6,.bool t6_1)]
def zNU:Alt:=⟨Bool,.ret,λt=>yBI l l_l l_c low high t,λt=>[],λt E=>q1 t E⟩
def yBJ(l:oAa)(l_l l_c:Nat)(low high:Int):lNa:=[]
def zNV:Alt:=⟨Unit,(.exit 0),λt=>yBJ l l_l l_c low high,λt=>[],λt E=>q3 E⟩
def zEG:Prop:=yT tP (zZ tP) none yNP 38 (zHW l l_l l_c low high bO) [] [xIU l l_l l_c low high Nx,zNU l l_l l_c low high Qr,zNV l l_l l_c low high Q0] E
def yNQ:Prop:=yW tP (zZ tP) none yNP 38 (zHW l l_l l_c low high bO) [] [zNU l l_l l_c low high Qr,zNV l l_l l_c low high Q0] E
def yBK:Prop:=kZ (zZ tP) (zV tP 24) [1,0,1,0] (kFn tP 24 Q) .ret 38 (yBI l l_l l_c low high t6_1) E
def yBL:Prop:=kZ (zZ tP) (zV tP 24) [1,0,1,0] (kFn tP 24 Q) (.exit 0) 38 (yBJ l l_l l_c low high) E
def xBH:Code:=(Code.part [1,0,1,0,0] (zV tP 107))
def zNR:lNa:=[(0,.slice l l_l l_c),(1,iV low),(2,iV high),(9,.slice l l_l l_c),(10,iV (l_l:Int)),(11,iV aH)]
def xSW:Alt:=⟨Int,.normal,λt=>zNR l l_l l_c low high t,λt=>[],λt E=>q0 t E⟩
def yHE(l:oAa)(l_l l_c:Nat)(low high:Int)(t6_1:Bool):lNa:=[(6,.bool t6_1)]
def zST:Alt:=⟨Bool,.ret,λt=>yHE l l_l l_c low high t,λt=>[],λt E=>q1 t E⟩
def yHF(l:oAa)(l_l l_c:Nat)(low high:Int):lNa:=[]
def zSU:Alt:=⟨Unit,(.exit 0),λt=>yHF l l_l l_c low high,λt=>[],λt E=>q3 E⟩
def zVY:Prop:=yT tP (zZ tP) none xBH 35 (zNR l l_l l_c low high aH) [] [xSW l l_l l_c low high Nx,zST l l_l l_c low high Qr,zSU l l_l l_c low high Q0] E
def xBI:Prop:=yW tP (zZ tP) none xBH 35 (zNR l l_l l_c low high aH) [] [zST l l_l l_c low high Qr,zSU l l_l l_c low high Q0] E
def xIL:Prop:=kZ (zZ tP) (zV tP 107) [1,0,1,0] (kFn tP 107 Q) .ret 35 (yHE l l_l l_c low high t6_1) E
def yHG:Prop:=kZ (zZ tP) (zV tP 107) [1,0,1,0] (kFn tP 107 Q) (.exit 0) 35 (yHF l l_l l_c low high) E
end
variable{n low high bO nH nD aH:Int}{E E1:St}{Q:vPa}{l q2:oAa}{l_l l_c l2 c2:Nat}{Inv:Nat->Int->St->Prop}{Qr Pr:Bool->St->Prop}{Q0 P0:St->Prop}{l_a:Addr}{Nx:Int->St->Prop}{t6_1:Bool}
theorem xSJ(nx:Q (.bool true) E)(u1:low<=n:=by omega)(u2:n<=high:=by omega):zQ tP 68 [iV n,iV low,iV high] E Q :=
 eQ [.g3,.b (xV u1),.g3,.b (xV u2),.g2] nx
theorem xSI(nx:Q (.bool false) E)(u1:low<=n:=by omega)(u2:¬n<=high:=by omega):zQ tP 68 [iV n,iV low,iV high] E Q :=
 eQ [.g3,.b (xV u1),.g3,.b (xX u2),.g2] nx
theorem yNG(nx:Q (.bool false) E)(u1:¬low<=n:=by omega):zQ tP 68 [iV n,iV low,iV high] E Q :=
 eQ [.g3,.b (xX u1),.g3] nx
theorem wMM(nx:Q (.bool true) E)(u1:low<=n:=by omega)(u2:n<=high:=by omega):zQ tP 23 [iV n,iV low,iV high] E Q :=
 eQ [.g3,.b (xV u1),.g3,.b (xV u2),.g2] nx
theorem wML(nx:Q (.bool false) E)(u1:low<=n:=by omega)(u2:¬n<=high:=by omega):zQ tP 23 [iV n,iV low,iV high] E Q :=
 eQ [.g3,.b (xV u1),.g3,.b (xX u2),.g2] nx
theorem xZF(nx:Q (.bool false) E)(u1:¬low<=n:=by omega):zQ tP 23 [iV n,iV low,iV high] E Q :=
 eQ [.g3,.b (xX u1),.g3] nx
theorem yTD(hb:∀k bO E,Inv k bO E->zEG l l_l l_c low high bO E (NX1 Inv k) Qr Q0):∀k bO E,Inv k bO E->yNQ l l_l l_c low high bO E Qr Q0 :=
 xE (ai wX (ai (wF 0) trivial)) hb
theorem xIT(h1:LDz E 3 (zO l_a (Int.toNat bO*1)) (iV nH))(h2:CPz 23 [iV nH,iV low,iV high] E (.bool true))(h3:LDz E 3 (zO l_a (Int.toNat (bO-1)*1)) (iV nD))(nx:Qr false E)(u1:bO<(l_l:Int):=by omega)(u2:Ix bO l_l:=by omega)(u3:0<bO:=by omega)(u4:I6 (bO-1):=by omega)(u5:Ix (bO-1) l_l:=by omega)(u6:nH<=nD:=by omega):zEG (some l_a) l_l l_c low high bO E Nx Qr Q0 :=
 eO 1 false [.g3,.b (zT u1),.g2,.i u2,.l h1,.g2,.c h2,.g3,.b (zT u3),.g3,.i u2,.l h1,.g2,.w u4,.i u5,.l h3,.b (xV u6),.g3] nx
theorem xIS(h1:LDz E 3 (zO l_a (Int.toNat bO*1)) (iV nH))(h2:CPz 23 [iV nH,iV low,iV high] E (.bool true))(h3:LDz E 3 (zO l_a (Int.toNat (bO-1)*1)) (iV nD))(nx:Nx (bO+1) E)(u1:bO<(l_l:Int):=by omega)(u2:Ix bO l_l:=by omega)(u3:0<bO:=by omega)(u4:I6 (bO-1):=by omega)(u5:Ix (bO-1) l_l:=by omega)(u6:¬nH<=nD:=by omega)(u7:I6 (bO+1):=by omega):zEG (some l_a) l_l l_c low high bO E Nx Qr Q0 :=
 eO 0 (bO+1) [.g3,.b (zT u1),.g2,.i u2,.l h1,.g2,.c h2,.g3,.b (zT u3),.g3,.i u2,.l h1,.g2,.w u4,.i u5,.l h3,.b (xX u6),.g3,.w u7,.g] nx
theorem xIR(h1:LDz E 3 (zO l_a (Int.toNat bO*1)) (iV nH))(h2:CPz 23 [iV nH,iV low,iV high] E (.bool true))(nx:Nx (bO+1) E)(u1:bO<(l_l:Int):=by omega)(u2:Ix bO l_l:=by omega)(u3:¬0<bO:=by omega)(u4:I6 (bO+1):=by omega):zEG (some l_a) l_l l_c low high bO E Nx Qr Q0 :=
 eO 0 (bO+1) [.g3,.b (zT u1),.g2,.i u2,.l h1,.g2,.c h2,.g3,.b (zY u3),.g4,.w u4,.g] nx
theorem xIQ(h1:LDz E 3 (zO l_a (Int.toNat bO*1)) (iV nH))(h2:CPz 23 [iV nH,iV low,iV high] E (.bool false))(nx:Qr false E)(u1:bO<(l_l:Int):=by omega)(u2:Ix bO l_l:=by omega):zEG (some l_a) l_l l_c low high bO E Nx Qr Q0 :=
 eO 1 false [.g3,.b (zT u1),.g2,.i u2,.l h1,.g2,.c h2,.g4] nx
theorem xIP(nx:Q0 E)(u1:¬bO<(l_l:Int):=by omega):zEG l l_l l_c low high bO E Nx Qr Q0 :=
 eO 2 () [.g3,.b (zY u1)] nx
theorem xSX(hL:yNQ l l_l l_c low high 0 E Pr P0)(kr:∀t6_1' E',Pr t6_1' E'->yBK l l_l l_c low high t6_1' E' Q)(k0:∀E',P0 E'->yBL l l_l l_c low high E' Q):zQ tP 24 [.slice l l_l l_c,iV low,iV high] E Q :=
 eQ [.g2,.k (.lf 38 (zHW l l_l l_c low high 0) [zNU l l_l l_c low high Pr,zNV l l_l l_c low high P0])] (ai (ai tt (ai (arf (zHW l l_l l_c low high 0)) hL)) (ai (kz1 kr) (ai (kz0 k0) trivial)))
theorem yTB(nx:Q (.bool t6_1) E):yBK l l_l l_c low high t6_1 E Q :=
 eK [] nx
theorem yTC(nx:Q (.bool true) E):yBL l l_l l_c low high E Q :=
 eK [.g] nx
theorem xBG(hb:∀k aH E,Inv k aH E->zVY l l_l l_c low high aH E (NX1 Inv k) Qr Q0):∀k aH E,Inv k aH E->xBI l l_l l_c low high aH E Qr Q0 :=
 xE (ai wX (ai (wF 0) trivial)) hb
theorem xSV(h1:LDz E 3 (zO l_a (Int.toNat aH*1)) (iV nH))(h2:CPz 68 [iV nH,iV low,iV high] E (.bool true))(h3:LDz E 3 (zO l_a (Int.toNat (aH-1)*1)) (iV nD))(nx:Nx (aH+1) E)(u1:aH<(l_l:Int):=by omega)(u2:Ix aH l_l:=by omega)(u3:0<aH:=by omega)(u4:I6 (aH-1):=by omega)(u5:Ix (aH-1) l_l:=by omega)(u6:¬nH<=nD:=by omega)(u7:I6 (aH+1):=by omega):zVY (some l_a) l_l l_c low high aH E Nx Qr Q0 :=
 eO 0 (aH+1) [.b (zT u1),.g,.i u2,.l h1,.g5,.c h2,.g3,.b (zT u3),.g4,.w u4,.i u5,.l h3,.b (xX u6),.g2,.w u7,.g] nx
theorem xSU(h1:LDz E 3 (zO l_a (Int.toNat aH*1)) (iV nH))(h2:CPz 68 [iV nH,iV low,iV high] E (.bool true))(nx:Nx (aH+1) E)(u1:aH<(l_l:Int):=by omega)(u2:Ix aH l_l:=by omega)(u3:¬0<aH:=by omega)(u4:I6 (aH+1):=by omega):zVY (some l_a) l_l l_c low high aH E Nx Qr Q0 :=
 eO 0 (aH+1) [.b (zT u1),.g,.i u2,.l h1,.g5,.c h2,.g3,.b (zY u3),.g3,.w u4,.g] nx
theorem xST(nx:Q0 E)(u1:¬aH<(l_l:Int):=by omega):zVY l l_l l_c low high aH E Nx Qr Q0 :=
 eO 2 () [.b (zY u1)] nx
theorem xZD(hL:xBI l l_l l_c low high 0 E Pr P0)(kr:∀t6_1' E',Pr t6_1' E'->xIL l l_l l_c low high t6_1' E' Q)(k0:∀E',P0 E'->yHG l l_l l_c low high E' Q):zQ tP 107 [.slice l l_l l_c,iV low,iV high] E Q :=
 eQ [.g4,.k (.lf 35 (zNR l l_l l_c low high 0) [zST l l_l l_c low high Pr,zSU l l_l l_c low high P0])] (ai (ai tt (ai (arf (zNR l l_l l_c low high 0)) hL)) (ai (kz1 kr) (ai (kz0 k0) trivial)))
theorem xBF(nx:Q (.bool true) E):yHG l l_l l_c low high E Q :=
 eK [.g] nx
theorem wHX(h1:APz 48 48 (.slice (some (qe E.j 0)) 0 0) (.slice l l_l l_c) (E.row [] 1) (.slice q2 l2 c2) E1)(nx:Q (.slice q2 l2 c2) E1):zQ tP 45 [.slice l l_l l_c] E Q :=
 eQ [.g3,.e h1,.g] nx
end
end Go.Proofs.YtflfajphjmajpaaGreat
