import Derived.Test.YtflfajphjmajpaaGreatTy
import Derived.Test.YtflfajphjmajpaaGreatLayD
import Derived.Test.YtflfajphjmajpaaGreatRD
import Derived.Test.YtflfajphjmajpaaGreatRY
import Derived.Test.YtflfajphjmajpaaGreatXA
import Derived.Sort.AssemblyPlain
set_option linter.unusedVariables false
set_option maxRecDepth 20000
set_option linter.unusedSimpArgs false
namespace Go.Proofs.YtflfajphjmajpaaGreat
open Go Go.Lay
section
noncomputable section
variable(s:oAa)(BA s_l s_c:Nat)(l:oAa)(f:FuncId)(v:Int)(l_l l_c:Nat)(f_a f_c:lVa)(q3:Bool->St->Prop)(cf bf ar:Int)(hH:Bool)(q2:St->Prop)(q0:Int->St->Prop)(E:St)(Nx Qr:Int->St->Prop)(Q:vPa)(q4:Bool->St->Prop)(Q0:St->Prop)
def xOO:Code:=(Code.part [1,0,1,0,0] (zV tP 135))
def zWO:lNa:=[(0,.slice s s_l s_c),(1,.func (.func f) ⟨f_a⟩ ⟨f_c⟩),(7,iV (s_l:Int)),(8,iV ar)]
def wBU:Alt:=⟨Int,.normal,λt=>zWO s s_l s_c f f_a f_c t,λt=>[],λt E=>q0 t E⟩
def yOQ(s:oAa)(s_l s_c:Nat)(f:FuncId)(f_a f_c:lVa)(bf:Int):lNa:=[(4,iV bf)]
def zYR:Alt:=⟨Int,.ret,λt=>yOQ s s_l s_c f f_a f_c t,λt=>[],λt E=>q0 t E⟩
def yOR(s:oAa)(s_l s_c:Nat)(f:FuncId)(f_a f_c:lVa):lNa:=[]
def zYS:Alt:=⟨Unit,(.exit 0),λt=>yOR s s_l s_c f f_a f_c,λt=>[],λt E=>q2 E⟩
def yUC:Prop:=yT tP (zZ tP) none xOO 19 (zWO s s_l s_c f f_a f_c ar) [] [wBU s s_l s_c f f_a f_c Nx,zYR s s_l s_c f f_a f_c Qr,zYS s s_l s_c f f_a f_c Q0] E
def xOP:Prop:=yW tP (zZ tP) none xOO 19 (zWO s s_l s_c f f_a f_c ar) [] [zYR s s_l s_c f f_a f_c Qr,zYS s s_l s_c f f_a f_c Q0] E
def xUJ:Prop:=kZ (zZ tP) (zV tP 135) [1,0,1,0] (kFn tP 135 Q) .ret 19 (yOQ s s_l s_c f f_a f_c bf) E
def yOS:Prop:=kZ (zZ tP) (zV tP 135) [1,0,1,0] (kFn tP 135 Q) (.exit 0) 19 (yOR s s_l s_c f f_a f_c) E
def xOH:Code:=(Code.part [1,0,1,0,0] (zV tP 136))
def zWL:lNa:=[(0,.slice s s_l s_c),(1,.func (.func f) ⟨f_a⟩ ⟨f_c⟩),(7,iV (s_l:Int)),(8,iV ar)]
def wBK:Alt:=⟨Int,.normal,λt=>zWL s s_l s_c f f_a f_c t,λt=>[],λt E=>q0 t E⟩
def yOF(s:oAa)(s_l s_c:Nat)(f:FuncId)(f_a f_c:lVa)(bf:Int):lNa:=[(4,iV bf)]
def zYK:Alt:=⟨Int,.ret,λt=>yOF s s_l s_c f f_a f_c t,λt=>[],λt E=>q0 t E⟩
def yOG(s:oAa)(s_l s_c:Nat)(f:FuncId)(f_a f_c:lVa):lNa:=[]
def zYL:Alt:=⟨Unit,(.exit 0),λt=>yOG s s_l s_c f f_a f_c,λt=>[],λt E=>q2 E⟩
def yUB:Prop:=yT tP (zZ tP) none xOH 19 (zWL s s_l s_c f f_a f_c ar) [] [wBK s s_l s_c f f_a f_c Nx,zYK s s_l s_c f f_a f_c Qr,zYL s s_l s_c f f_a f_c Q0] E
def xOI:Prop:=yW tP (zZ tP) none xOH 19 (zWL s s_l s_c f f_a f_c ar) [] [zYK s s_l s_c f f_a f_c Qr,zYL s s_l s_c f f_a f_c Q0] E
def xUI:Prop:=kZ (zZ tP) (zV tP 136) [1,0,1,0] (kFn tP 136 Q) .ret 19 (yOF s s_l s_c f f_a f_c bf) E
def yOH:Prop:=kZ (zZ tP) (zV tP 136) [1,0,1,0] (kFn tP 136 Q) (.exit 0) 19 (yOG s s_l s_c f f_a f_c) E
def xOM:Code:=(Code.part [1,0,1,0,0] (zV tP 142))
def zWN:lNa:=[(0,.slice s s_l s_c),(1,.func (.func f) ⟨[]⟩ ⟨f_c⟩),(7,iV (s_l:Int)),(8,iV ar)]
def wBR:Alt:=⟨Int,.normal,λt=>zWN s s_l s_c f f_c t,λt=>[],λt E=>q0 t E⟩
def yOM(s:oAa)(s_l s_c:Nat)(f:FuncId)(f_c:lVa)(bf:Int):lNa:=[(4,iV bf)]
def zYP:Alt:=⟨Int,.ret,λt=>yOM s s_l s_c f f_c t,λt=>[],λt E=>q0 t E⟩
def yON(s:oAa)(s_l s_c:Nat)(f:FuncId)(f_c:lVa):lNa:=[]
def zYQ:Alt:=⟨Unit,(.exit 0),λt=>yON s s_l s_c f f_c,λt=>[],λt E=>q2 E⟩
def yDF:Prop:=yT tP (zZ tP) none xOM 19 (zWN s s_l s_c f f_c ar) [] [wBR s s_l s_c f f_c Nx,zYP s s_l s_c f f_c Qr,zYQ s s_l s_c f f_c Q0] E
def xON:Prop:=yW tP (zZ tP) none xOM 19 (zWN s s_l s_c f f_c ar) [] [zYP s s_l s_c f f_c Qr,zYQ s s_l s_c f f_c Q0] E
def yOO:Prop:=kZ (zZ tP) (zV tP 142) [1,0,1,0] (kFn tP 142 Q) .ret 19 (yOM s s_l s_c f f_c bf) E
def yOP:Prop:=kZ (zZ tP) (zV tP 142) [1,0,1,0] (kFn tP 142 Q) (.exit 0) 19 (yON s s_l s_c f f_c) E
def yNC:Code:=(Code.part [1,1,0,1,0,0] (zV tP 49))
def zHR:lNa:=[(2,pq BA 0),(14,.slice l l_l l_c),(15,iV (l_l:Int)),(16,iV cf)]
def xHR:Alt:=⟨Int,.normal,λt=>zHR BA l l_l l_c t,λt=>[],λt E=>q0 t E⟩
def yBA(BA:Nat)(l:oAa)(l_l l_c:Nat)(hH:Bool):lNa:=[(4,.bool hH)]
def zNG:Alt:=⟨Bool,.ret,λt=>yBA BA l l_l l_c t,λt=>[],λt E=>q3 t E⟩
def yBB(BA:Nat)(l:oAa)(l_l l_c:Nat):lNa:=[]
def zNH:Alt:=⟨Unit,(.exit 0),λt=>yBB BA l l_l l_c,λt=>[],λt E=>q2 E⟩
def zXY:Prop:=yT tP (zZ tP) none yNC 35 (zHR BA l l_l l_c cf) [] [xHR BA l l_l l_c Nx,zNG BA l l_l l_c q4,zNH BA l l_l l_c Q0] E
def yND:Prop:=yW tP (zZ tP) none yNC 35 (zHR BA l l_l l_c cf) [] [zNG BA l l_l l_c q4,zNH BA l l_l l_c Q0] E
def xAG:Prop:=kZ (zZ tP) (zV tP 49) [1,1,0,1,0] (kFn tP 49 Q) .ret 35 (yBA BA l l_l l_c hH) E
def yBC:Prop:=kZ (zZ tP) (zV tP 49) [1,1,0,1,0] (kFn tP 49 Q) (.exit 0) 35 (yBB BA l l_l l_c) E
def xCN:Code:=(Code.part [1,0,1,0,0] (zV tP 73))
def zOF:lNa:=[(0,.slice s s_l s_c),(1,iV v),(7,iV (s_l:Int)),(8,iV ar)]
def xUH:Alt:=⟨Int,.normal,λt=>zOF s s_l s_c v t,λt=>[],λt E=>q0 t E⟩
def yHW(s:oAa)(s_l s_c:Nat)(v bf:Int):lNa:=[(4,iV bf)]
def zSZ:Alt:=⟨Int,.ret,λt=>yHW s s_l s_c v t,λt=>[],λt E=>q0 t E⟩
def yHX(s:oAa)(s_l s_c:Nat)(v:Int):lNa:=[]
def zTA:Alt:=⟨Unit,(.exit 0),λt=>yHX s s_l s_c v,λt=>[],λt E=>q2 E⟩
def zWK:Prop:=yT tP (zZ tP) none xCN 19 (zOF s s_l s_c v ar) [] [xUH s s_l s_c v Nx,zSZ s s_l s_c v Qr,zTA s s_l s_c v Q0] E
def xCO:Prop:=yW tP (zZ tP) none xCN 19 (zOF s s_l s_c v ar) [] [zSZ s s_l s_c v Qr,zTA s s_l s_c v Q0] E
def yHY:Prop:=kZ (zZ tP) (zV tP 73) [1,0,1,0] (kFn tP 73 Q) .ret 19 (yHW s s_l s_c v bf) E
def yHZ:Prop:=kZ (zZ tP) (zV tP 73) [1,0,1,0] (kFn tP 73 Q) (.exit 0) 19 (yHX s s_l s_c v) E
end
variable{s gR gQ x_Wish l qA qC qG ah ag fR fy gu q1:oAa}{s_l s_c fX fY fU fW gz gA l_l l_c lA cA lE cD lK cF ae af aa ac eM eN eI eJ eZ ff l1 c1 BA:Nat}{f f1 right:FuncId}{f_c f_a dw f1_a bS eV:lVa}{n1 x_Day x_On gB gC gP x_Off x_Row x_Used ar nH nJ nD nE nF nB ak ao au aj aQ bt aM aN aS gX gV gv x bf n cf v:Int}{E:St}{Q:vPa}{v0 s_a l_a fo:Addr}{Inv:Nat->Int->St->Prop}{Qr Nx Pr:Int->St->Prop}{Q0 P0:St->Prop}{b3 b6 b2 b1:Bool}
theorem wJB(h1:CPz 135 [.slice s s_l s_c,.func (.func f) ⟨f_a⟩ ⟨f_c⟩] E (iV n1))(nx:Q (.bool false) E)(u1:¬0<=n1:=by omega):zQ tP 103 [.slice s s_l s_c,.func (.func f) ⟨f_a⟩ ⟨f_c⟩] E Q :=
 eQ [.g3,.c h1,.b (xX u1),.g] nx
theorem wEO:let Y1:=E.row (zP x_Day x_On gB gC gP) 5;∀(h1:LDz Y1 163 v0 (.func (.func f1) ⟨f1_a⟩ ⟨dw⟩)) (h2:CPz f1 (f1_a++(qf (zP x_Day x_On gB gC gP)::dw)) Y1 (.bool true)) (nx:Q (.bool false) Y1),zQ tP 104 [qf (zP x_Day x_On gB gC gP),pz v0] E Q:=
 λh1 h2 nx=>let ch1:List Bs:=[.r (zP x_Day x_On gB gC gP) 5];eQ [.g2,.l h1,.F E ch1 0 0 zXF zAN,.c h2,.g2] nx
theorem wIU(h1:CPz 136 [.slice s s_l s_c,.func (.func f) ⟨f_a⟩ ⟨f_c⟩] E (iV n1))(nx:Q (.bool false) E)(u1:¬0<=n1:=by omega):zQ tP 105 [.slice s s_l s_c,.func (.func f) ⟨f_a⟩ ⟨f_c⟩] E Q :=
 eQ [.g3,.c h1,.b (xX u1),.g] nx
theorem wEI:let Y1:=E.row (yH gR fX fY gQ fU fW x_Wish gz gA x_Off x_Row x_Used) 6;∀(h1:LDz Y1 165 v0 (.func (.func f1) ⟨f1_a⟩ ⟨dw⟩)) (h2:CPz f1 (f1_a++(qf (yH gR fX fY gQ fU fW x_Wish gz gA x_Off x_Row x_Used)::dw)) Y1 (.bool true)) (nx:Q (.bool false) Y1),zQ tP 106 [qf (yH gR fX fY gQ fU fW x_Wish gz gA x_Off x_Row x_Used),pz v0] E Q:=
 λh1 h2 nx=>let ch1:List Bs:=[.r (yH gR fX fY gQ fU fW x_Wish gz gA x_Off x_Row x_Used) 6];eQ [.g2,.l h1,.F E ch1 0 0 xEL zKH,.c h2,.g2] nx
theorem wJZ:let y0:=E.row [.func (.func right) ⟨eV⟩ ⟨bS⟩] 1;∀(h1:CPz 103 [.slice l l_l l_c,.func (.func 104) ⟨[]⟩ ⟨[pq E.j 0]⟩] y0 (.bool false)) (nx:Q (.bool true) y0),zQ tP 69 [.slice l l_l l_c,.func (.func right) ⟨eV⟩ ⟨bS⟩] E Q :=
 λh1 nx=>eQ [.g4,.c h1,.g2] nx
theorem wJU:let y0:=E.row [.func (.func right) ⟨eV⟩ ⟨bS⟩] 1;∀(h1:CPz 105 [.slice l l_l l_c,.func (.func 106) ⟨[]⟩ ⟨[pq E.j 0]⟩] y0 (.bool false)) (nx:Q (.bool true) y0),zQ tP 71 [.slice l l_l l_c,.func (.func right) ⟨eV⟩ ⟨bS⟩] E Q :=
 λh1 nx=>eQ [.g4,.c h1,.g2] nx
theorem xKS(hb:∀k ar E,Inv k ar E->yUC s s_l s_c f f_a f_c ar E (NX1 Inv k) Qr Q0):∀k ar E,Inv k ar E->xOP s s_l s_c f f_a f_c ar E Qr Q0 :=
 xE (ai wX (ai (wF 0) trivial)) hb
theorem wBT(h1:LDz E 93 (zO s_a (Int.toNat ar*5)) (qf (zP nH nJ nD nE nF)))(h2:CPz f (f_a++(qf (zP nH nJ nD nE nF)::f_c)) E (.bool false))(nx:Nx (ar+1) E)(u1:ar<(s_l:Int):=by omega)(u2:Ix ar s_l:=by omega)(u3:I6 (ar+1):=by omega):yUC (some s_a) s_l s_c f f_a f_c ar E Nx Qr Q0 :=
 eO 0 (ar+1) [.b (zT u1),.g5,.i u2,.l h1,.c h2,.w u3,.g] nx
theorem wBS(nx:Q0 E)(u1:¬ar<(s_l:Int):=by omega):yUC s s_l s_c f f_a f_c ar E Nx Qr Q0 :=
 eO 2 () [.b (zY u1)] nx
theorem wID(hL:xOP s s_l s_c f f_a f_c 0 E Pr P0)(kr:∀i4_1' E',Pr i4_1' E'->xUJ s s_l s_c f f_a f_c i4_1' E' Q)(k0:∀E',P0 E'->yOS s s_l s_c f f_a f_c E' Q):zQ tP 135 [.slice s s_l s_c,.func (.func f) ⟨f_a⟩ ⟨f_c⟩] E Q :=
 eQ [.g4,.k (.lf 19 (zWO s s_l s_c f f_a f_c 0) [zYR s s_l s_c f f_a f_c Pr,zYS s s_l s_c f f_a f_c P0])] (ai (ai tt (ai (arf (zWO s s_l s_c f f_a f_c 0)) hL)) (ai (kz1 kr) (ai (kz0 k0) trivial)))
theorem xKR(nx:Q (iV (-1)) E):yOS s s_l s_c f f_a f_c E Q :=
 eK [.g] nx
theorem xKL(hb:∀k ar E,Inv k ar E->yUB s s_l s_c f f_a f_c ar E (NX1 Inv k) Qr Q0):∀k ar E,Inv k ar E->xOI s s_l s_c f f_a f_c ar E Qr Q0 :=
 xE (ai wX (ai (wF 0) trivial)) hb
theorem wBJ(h1:LDz E 94 (zO s_a (Int.toNat ar*6)) (qf (yH qA lA cA qC lE cD qG lK cF nE nF nB)))(h2:CPz f (f_a++(qf (yH qA lA cA qC lE cD qG lK cF nE nF nB)::f_c)) E (.bool false))(nx:Nx (ar+1) E)(u1:ar<(s_l:Int):=by omega)(u2:Ix ar s_l:=by omega)(u3:I6 (ar+1):=by omega):yUB (some s_a) s_l s_c f f_a f_c ar E Nx Qr Q0 :=
 eO 0 (ar+1) [.b (zT u1),.g5,.i u2,.l h1,.c h2,.w u3,.g] nx
theorem wBI(nx:Q0 E)(u1:¬ar<(s_l:Int):=by omega):yUB s s_l s_c f f_a f_c ar E Nx Qr Q0 :=
 eO 2 () [.b (zY u1)] nx
theorem wIB(hL:xOI s s_l s_c f f_a f_c 0 E Pr P0)(kr:∀i4_1' E',Pr i4_1' E'->xUI s s_l s_c f f_a f_c i4_1' E' Q)(k0:∀E',P0 E'->yOH s s_l s_c f f_a f_c E' Q):zQ tP 136 [.slice s s_l s_c,.func (.func f) ⟨f_a⟩ ⟨f_c⟩] E Q :=
 eQ [.g4,.k (.lf 19 (zWL s s_l s_c f f_a f_c 0) [zYK s s_l s_c f f_a f_c Pr,zYL s s_l s_c f f_a f_c P0])] (ai (ai tt (ai (arf (zWL s s_l s_c f f_a f_c 0)) hL)) (ai (kz1 kr) (ai (kz0 k0) trivial)))
theorem xKK(nx:Q (iV (-1)) E):yOH s s_l s_c f f_a f_c E Q :=
 eK [.g] nx
theorem xXU:let Y1:=E.row (wkc ak ah ae af ag aa ac ao au aj) 6;let Y2:=Y1.row (zP aQ bt aM aN aS) 5;∀(h1:CPz 68 [iV aQ,iV 0,iV (ak-1)] Y2 (.bool true)) (h2:CPz 68 [iV bt,iV 0,iV 1439] Y2 (.bool true)) (h3:CPz 68 [iV aS,iV 0,iV 15] Y2 (.bool b3)) (nx:Q (.bool b3) Y2) (u1:I6 (ak-1):=by omega) (u2:bt<=aM:=by omega) (u3:aM<=aN:=by omega) (u4:I6 (bt+1440):=by omega) (u5:aN<=(bt+1440):=by omega),zQ tP 70 [qf (wkc ak ah ae af ag aa ac ao au aj),qf (zP aQ bt aM aN aS)] E Q:=
 λh1 h2 h3 nx u1 u2 u3 u4 u5=>let ch1:List Bs:=[.r (zP aQ bt aM aN aS) 5,.r (wkc ak ah ae af ag aa ac ao au aj) 6];eQ [.g4,.f E ch1 1 0 zU,.g,.f E ch1 0 0 zU,.w u1,.c h1,.g2,.f E ch1 1 1 zU,.c h2,.g3,.f E ch1 1 1 zU,.g2,.f E ch1 1 2 zU,.b (xV u2),.g4,.f E ch1 1 2 zU,.g2,.f E ch1 1 3 zU,.b (xV u3),.g4,.f E ch1 1 3 zU,.g,.f E ch1 1 1 zU,.w u4,.b (xV u5),.g3,.f E ch1 1 4 zU,.c h3,.g2] nx
theorem xHW:let Y1:=E.row (wkc ak ah ae af ag aa ac ao au aj) 6;let Y2:=Y1.row (yH fR eM eN fy eI eJ gu eZ ff gX gV gv) 6;∀(h1:CPz 107 [.slice fR eM eN,iV 0,iV 15] Y2 (.bool true)) (h2:CPz 107 [.slice fy eI eJ,iV 0,iV (ak-1)] Y2 (.bool true)) (h3:CPz 107 [.slice gu eZ ff,iV 0,iV (ak-1)] Y2 (.bool true)) (h4:CPz 68 [iV gX,iV (-10080),iV 1440] Y2 (.bool true)) (h5:CPz 68 [iV gV,iV 0,iV 14] Y2 (.bool true)) (h6:CPz 68 [iV gv,iV 0,iV aj] Y2 (.bool b6)) (nx:Q (.bool b6) Y2) (u1:I6 (ak-1):=by omega),zQ tP 72 [qf (wkc ak ah ae af ag aa ac ao au aj),qf (yH fR eM eN fy eI eJ gu eZ ff gX gV gv)] E Q:=
 λh1 h2 h3 h4 h5 h6 nx u1=>let ch1:List Bs:=[.r (yH fR eM eN fy eI eJ gu eZ ff gX gV gv) 6,.r (wkc ak ah ae af ag aa ac ao au aj) 6];eQ [.g4,.f E ch1 1 0 xF,.c h1,.g2,.f E ch1 1 1 xF,.g,.f E ch1 0 0 zU,.w u1,.c h2,.g3,.f E ch1 1 2 xF,.g,.f E ch1 0 0 zU,.w u1,.c h3,.g3,.f E ch1 1 3 zU,.c h4,.g3,.f E ch1 1 4 zU,.c h5,.g3,.f E ch1 1 5 zU,.g,.f E ch1 0 5 zU,.c h6,.g2] nx
theorem wJY:let y0:=E.row [.func (.func right) ⟨[]⟩ ⟨bS⟩] 1;∀(h1:CPz 114 [.slice l l_l l_c,.func (.func 115) ⟨[]⟩ ⟨[pq E.j 0]⟩] y0 (.bool false)) (nx:Q (.bool true) y0),zQ tP 77 [.slice l l_l l_c,.func (.func right) ⟨[]⟩ ⟨bS⟩] E Q :=
 λh1 nx=>eQ [.g4,.c h1,.g2] nx
theorem wIY(h1:CPz 142 [.slice s s_l s_c,.func (.func f) ⟨[]⟩ ⟨f_c⟩] E (iV n1))(nx:Q (.bool true) E)(u1:0<=n1:=by omega):zQ tP 114 [.slice s s_l s_c,.func (.func f) ⟨[]⟩ ⟨f_c⟩] E Q :=
 eQ [.g3,.c h1,.b (xV u1),.g] nx
theorem wIX(h1:CPz 142 [.slice s s_l s_c,.func (.func f) ⟨[]⟩ ⟨f_c⟩] E (iV n1))(nx:Q (.bool false) E)(u1:¬0<=n1:=by omega):zQ tP 114 [.slice s s_l s_c,.func (.func f) ⟨[]⟩ ⟨f_c⟩] E Q :=
 eQ [.g3,.c h1,.b (xX u1),.g] nx
theorem wEN(h1:LDz E 149 v0 (.func (.func f1) ⟨[]⟩ ⟨dw⟩))(h2:CPz f1 (iV x::dw) E (.bool true))(nx:Q (.bool false) E):zQ tP 115 [iV x,pz v0] E Q :=
 eQ [.g,.l h1,.g,.c h2,.g2] nx
theorem xKQ(hb:∀k ar E,Inv k ar E->yDF s s_l s_c f f_c ar E (NX1 Inv k) Qr Q0):∀k ar E,Inv k ar E->xON s s_l s_c f f_c ar E Qr Q0 :=
 xE (ai wX (ai (wF 0) trivial)) hb
theorem wBQ(h1:LDz E 3 (zO s_a (Int.toNat ar*1)) (iV nH))(h2:CPz f (iV nH::f_c) E (.bool true))(nx:Qr ar E)(u1:ar<(s_l:Int):=by omega)(u2:Ix ar s_l:=by omega):yDF (some s_a) s_l s_c f f_c ar E Nx Qr Q0 :=
 eO 1 ar [.b (zT u1),.g5,.i u2,.l h1,.c h2,.g2] nx
theorem wBP(h1:LDz E 3 (zO s_a (Int.toNat ar*1)) (iV nH))(h2:CPz f (iV nH::f_c) E (.bool false))(nx:Nx (ar+1) E)(u1:ar<(s_l:Int):=by omega)(u2:Ix ar s_l:=by omega)(u3:I6 (ar+1):=by omega):yDF (some s_a) s_l s_c f f_c ar E Nx Qr Q0 :=
 eO 0 (ar+1) [.b (zT u1),.g5,.i u2,.l h1,.c h2,.w u3,.g] nx
theorem wBO(nx:Q0 E)(u1:¬ar<(s_l:Int):=by omega):yDF s s_l s_c f f_c ar E Nx Qr Q0 :=
 eO 2 () [.b (zY u1)] nx
theorem wIC(hL:xON s s_l s_c f f_c 0 E Pr P0)(kr:∀i4_1' E',Pr i4_1' E'->yOO s s_l s_c f f_c i4_1' E' Q)(k0:∀E',P0 E'->yOP s s_l s_c f f_c E' Q):zQ tP 142 [.slice s s_l s_c,.func (.func f) ⟨[]⟩ ⟨f_c⟩] E Q :=
 eQ [.g4,.k (.lf 19 (zWN s s_l s_c f f_c 0) [zYP s s_l s_c f f_c Pr,zYQ s s_l s_c f f_c P0])] (ai (ai tt (ai (arf (zWN s s_l s_c f f_c 0)) hL)) (ai (kz1 kr) (ai (kz0 k0) trivial)))
theorem xKO(nx:Q (iV bf) E):yOO s s_l s_c f f_c bf E Q :=
 eK [] nx
theorem xKP(nx:Q (iV (-1)) E):yOP s s_l s_c f f_c E Q :=
 eK [.g] nx
theorem xIK(h1:LDz E 70 (zO v0 2) (.slice q1 l1 c1))(h2:CPz 68 [iV n,iV (-1),iV ((l1:Int)-1)] E (.bool b2))(nx:Q (.bool b2) E)(u1:I6 ((l1:Int)-1):=by omega):zQ tP 78 [iV n,pz v0] E Q :=
 eQ [.g3,.l h1,.g,.w u1,.c h2,.g] nx
theorem xHS:let y0:=wkc ak ah ae af ag aa ac ao au aj;∀(h1:CPz 77 [.slice l l_l l_c,.func (.func 78) ⟨[]⟩ ⟨[pq E.j 0]⟩] (E.row y0 6) (.bool b1)) (nx:Q (.bool b1) (E.row y0 6)) (u1:(l_l:Int)=(ae:Int):=by omega),zQ tP 48 [qf y0,.slice l l_l l_c] E Q :=
 let y0:=wkc ak ah ae af ag aa ac ao au aj;λh1 nx u1=>let ch1:List Bs:=[.r y0 6];eQ [.g5,.f E ch1 0 1 zXG,.g,.b (wU u1),.g3,.c h1,.g2] nx
theorem ySH{Qr:Bool->St->Prop}(hb:∀k cf E,Inv k cf E->zXY BA l l_l l_c cf E (NX1 Inv k) Qr Q0):∀k cf E,Inv k cf E->yND BA l l_l l_c cf E Qr Q0 :=
 xE (ai wX (ai (wF 0) trivial)) hb
theorem xHQ{Qr:Bool->St->Prop}:let y0:=(E.row [iV 0,iV 0] 2).own E.j [iV nD,iV nE] 2;∀(h1:LDz E 3 (zO l_a (Int.toNat cf*1)) (iV nH)) (h2:LDz E 69 (qe BA 1) (.slice (some fo) lE cD)) (h3:LDz E 91 (zO fo ((Int.toNat cf*5)+2)) (qf [iV nD,iV nE])) (h4:CPz 68 [iV nH,iV nD,iV nE] y0 (.bool true)) (nx:Nx (cf+1) y0) (u1:cf<(l_l:Int):=by omega) (u2:Ix cf l_l:=by omega) (u3:Ix cf lE:=by omega) (u4:I6 (cf+1):=by omega),zXY BA (some l_a) l_l l_c cf E Nx Qr Q0 :=
 λh1 h2 h3 h4 nx u1 u2 u3 u4=>let ch1:List Bs:=[.r [iV 0,iV 0] 2];let ch2:List Bs:=.o 0 [iV nD,iV nE] 2::ch1;eO 0 (cf+1) [.b (zT u1),.g,.i u2,.l h1,.g3,.l h2,.g,.i u3,.g,.l h3,.g,.s E ch1 0 0 xYP (qf [iV nD,iV nE]),.g2,.f E ch2 0 0 zU,.g,.f E ch2 0 1 zU,.c h4,.g,.w u4,.g] nx
theorem xHP{Qr:Bool->St->Prop}(nx:Q0 E)(u1:¬cf<(l_l:Int):=by omega):zXY BA l l_l l_c cf E Nx Qr Q0 :=
 eO 2 () [.b (zY u1)] nx
theorem xSG{Pr:Bool->St->Prop}(hL:yND E.j l l_l l_c 0 (E.row (wkc ak ah ae af ag aa ac ao au aj) 6) Pr P0)(kr:∀t4_1' E',Pr t4_1' E'->xAG E.j l l_l l_c t4_1' E' Q)(k0:∀E',P0 E'->yBC E.j l l_l l_c E' Q)(u1:(l_l:Int)=(ae:Int):=by omega):zQ tP 49 [qf (wkc ak ah ae af ag aa ac ao au aj),.slice l l_l l_c] E Q :=
 let ch1:List Bs:=[.r (wkc ak ah ae af ag aa ac ao au aj) 6];eQ [.g5,.f E ch1 0 1 zXG,.g,.b (yY u1),.g3,.k (.lf 35 (zHR E.j l l_l l_c 0) [zNG E.j l l_l l_c Pr,zNH E.j l l_l l_c P0])] (ai (ai tt (ai (arf (zHR E.j l l_l l_c 0)) hL)) (ai (kz1 kr) (ai (kz0 k0) trivial)))
theorem ySG(nx:Q (.bool true) E):yBC BA l l_l l_c E Q :=
 eK [.g] nx
theorem xCM(hb:∀k ar E,Inv k ar E->zWK s s_l s_c v ar E (NX1 Inv k) Qr Q0):∀k ar E,Inv k ar E->xCO s s_l s_c v ar E Qr Q0 :=
 xE (ai wX (ai (wF 0) trivial)) hb
theorem xUG(h1:LDz E 3 (zO s_a (Int.toNat ar*1)) (iV nH))(nx:Qr ar E)(u1:ar<(s_l:Int):=by omega)(u2:Ix ar s_l:=by omega)(u3:v=nH:=by omega):zWK (some s_a) s_l s_c v ar E Nx Qr Q0 :=
 eO 1 ar [.b (zT u1),.g5,.i u2,.l h1,.b (wU u3),.g2] nx
theorem xUF(h1:LDz E 3 (zO s_a (Int.toNat ar*1)) (iV nH))(nx:Nx (ar+1) E)(u1:ar<(s_l:Int):=by omega)(u2:Ix ar s_l:=by omega)(u3:¬v=nH:=by omega)(u4:I6 (ar+1):=by omega):zWK (some s_a) s_l s_c v ar E Nx Qr Q0 :=
 eO 0 (ar+1) [.b (zT u1),.g5,.i u2,.l h1,.b (wG u3),.w u4,.g] nx
theorem xUE(nx:Q0 E)(u1:¬ar<(s_l:Int):=by omega):zWK s s_l s_c v ar E Nx Qr Q0 :=
 eO 2 () [.b (zY u1)] nx
theorem wBH(hL:xCO s s_l s_c v 0 E Pr P0)(kr:∀i4_1' E',Pr i4_1' E'->yHY s s_l s_c v i4_1' E' Q)(k0:∀E',P0 E'->yHZ s s_l s_c v E' Q):zQ tP 73 [.slice s s_l s_c,iV v] E Q :=
 eQ [.g4,.k (.lf 19 (zOF s s_l s_c v 0) [zSZ s s_l s_c v Pr,zTA s s_l s_c v P0])] (ai (ai tt (ai (arf (zOF s s_l s_c v 0)) hL)) (ai (kz1 kr) (ai (kz0 k0) trivial)))
theorem xCK(nx:Q (iV bf) E):yHY s s_l s_c v bf E Q :=
 eK [] nx
theorem xCL(nx:Q (iV (-1)) E):yHZ s s_l s_c v E Q :=
 eK [.g] nx
theorem wJA(h1:CPz 73 [.slice s s_l s_c,iV v] E (iV n1))(nx:Q (.bool true) E)(u1:0<=n1:=by omega):zQ tP 42 [.slice s s_l s_c,iV v] E Q :=
 eQ [.g3,.c h1,.b (xV u1),.g] nx
theorem wIZ(h1:CPz 73 [.slice s s_l s_c,iV v] E (iV n1))(nx:Q (.bool false) E)(u1:¬0<=n1:=by omega):zQ tP 42 [.slice s s_l s_c,iV v] E Q :=
 eQ [.g3,.c h1,.b (xX u1),.g] nx
end
section
noncomputable section
variable(dp:oAa)(bn bL:Nat)(q0:Int->St->Prop)(Q:Int->Int->St->Prop)(bk bO:Int)(E:St)(Nx:Int->Int->St->Prop)(q1:vPa)(Q0:Int->St->Prop)
def yPH:Code:=(Code.part [1,0,1,0,0] (zV tP 47))
def zIJ:lNa:=[(2,iV bk),(5,.slice dp bn bL),(6,iV (bn:Int)),(7,iV bO)]
def xLF:Alt:=⟨Int×Int,.normal,λt=>zIJ dp bn bL t.1 t.2,λt=>[],λt E=>Q t.1 t.2 E⟩
def yCD(dp:oAa)(bn bL:Nat)(bk:Int):lNa:=[(2,iV bk)]
def zOQ:Alt:=⟨Int,(.exit 0),λt=>yCD dp bn bL t,λt=>[],λt E=>q0 t E⟩
def zQI:Prop:=yT tP (zZ tP) none yPH 17 (zIJ dp bn bL bk bO) [] [xLF dp bn bL Nx,zOQ dp bn bL Q0] E
def yPI:Prop:=yW tP (zZ tP) none yPH 17 (zIJ dp bn bL bk bO) [] [zOQ dp bn bL Q0] E
def yCE:Prop:=kZ (zZ tP) (zV tP 47) [1,0,1,0] (kFn tP 47 q1) (.exit 0) 17 (yCD dp bn bL bk) E
end
variable{ak ao au aj n1 bk bO nH:Int}{ah ag dp gH q4 s q2:oAa}{ae af aa ac bn bL fg fh l4 c4 s_l s_c l2 c2:Nat}{E Y5 E1:St}{Q:vPa}{Inv:Nat->Int->Int->St->Prop}{Q0 P0:Int->St->Prop}{ia:Addr}{Nx:Int->Int->St->Prop}
theorem yVQ:let Y1:=E.row (wkc ak ah ae af ag aa ac ao au aj) 6;∀(h1:CPz 68 [iV ak,iV 1,iV 7] Y1 (.bool true)) (h2:CPz 68 [iV ao,iV 0,iV 3000] Y1 (.bool true)) (h3:CPz 68 [iV au,iV 1,iV 14] Y1 (.bool true)) (h4:CPz 68 [iV aj,iV 0,iV 20000] Y1 (.bool true)) (h5:CPz 69 [.slice ah ae af,.func (.func 70) ⟨[qf (wkc ak ah ae af ag aa ac ao au aj)]⟩ ⟨[]⟩] Y1 (.bool true)) (h6:CPz 71 [.slice ag aa ac,.func (.func 72) ⟨[qf (wkc ak ah ae af ag aa ac ao au aj)]⟩ ⟨[]⟩] Y1 (.bool true)) (nx:Q (iV 0) Y1) (u1:¬12<(ae:Int):=by omega) (u2:¬6<(aa:Int):=by omega),zQ tP 40 [qf (wkc ak ah ae af ag aa ac ao au aj)] E Q:=
 λh1 h2 h3 h4 h5 h6 nx u1 u2=>let ch1:List Bs:=[.r (wkc ak ah ae af ag aa ac ao au aj) 6];eQ [.g3,.f E ch1 0 1 zXG,.g,.b (zY u1),.g2,.f E ch1 0 2 zLW,.g,.b (zY u2),.g3,.f E ch1 0 0 zU,.c h1,.g3,.f E ch1 0 3 zU,.c h2,.g4,.f E ch1 0 4 zU,.c h3,.g4,.f E ch1 0 5 zU,.c h4,.g4,.f E ch1 0 1 zXG,.F E ch1 0 0 zAD vB,.g,.c h5,.g3,.f E ch1 0 2 zLW,.F E ch1 0 0 zAD vB,.g,.c h6,.g4] nx
theorem xWI:let Y1:=E.row (wkc ak ah ae af ag aa ac ao au aj) 6;∀(h1:CPz 40 [qf (wkc ak ah ae af ag aa ac ao au aj)] Y1 (iV n1)) (h2:CPz 48 [qf (wkc ak ah ae af ag aa ac ao au aj),.slice dp bn bL] Y1 (.bool true)) (h3:CPz 49 [qf (wkc ak ah ae af ag aa ac ao au aj),.slice gH fg fh] Y1 (.bool true)) (h4:CAz 50 [qf (wkc ak ah ae af ag aa ac ao au aj),.slice dp bn bL,.slice gH fg fh] Y1 (.slice q4 l4 c4) Y5) (nx:Q (.tuple ⟨[.slice q4 l4 c4,iV 0]⟩) Y5) (u1:n1=0:=by omega),zQ tP 20 [qf (wkc ak ah ae af ag aa ac ao au aj),.slice dp bn bL,.slice gH fg fh] E Q:=
 λh1 h2 h3 h4 nx u1=>let ch1:List Bs:=[.r (wkc ak ah ae af ag aa ac ao au aj) 6];eQ [.g3,.F E ch1 0 0 zAD vB,.c h1,.g2,.b (yY u1),.F E ch1 0 0 zAD vB,.g,.c h2,.g2,.F E ch1 0 0 zAD vB,.g,.c h3,.g2,.F E ch1 0 0 zAD vB,.g2,.c h4,.g2] nx
theorem yUR(hb:∀k bk bO E,Inv k bk bO E->zQI dp bn bL bk bO E (NX2 Inv k) Q0):∀k bk bO E,Inv k bk bO E->yPI dp bn bL bk bO E Q0 :=
 zFM (ai (wF 0) trivial) hb
theorem xLE(h1:LDz E 3 (zO ia (Int.toNat bO*1)) (iV nH))(nx:Nx (bk+1) (bO+1) E)(u1:bO<(bn:Int):=by omega)(u2:Ix bO bn:=by omega)(u3:¬nH=(-1):=by omega)(u4:I6 (bk+1):=by omega)(u5:I6 (bO+1):=by omega):zQI (some ia) bn bL bk bO E Nx Q0 :=
 eO 0 (bk+1,bO+1) [.b (zT u1),.i u2,.l h1,.g2,.b (uA u3),.g,.w u4,.g,.w u5,.g] nx
theorem xLD(h1:LDz E 3 (zO ia (Int.toNat bO*1)) (iV nH))(nx:Nx bk (bO+1) E)(u1:bO<(bn:Int):=by omega)(u2:Ix bO bn:=by omega)(u3:nH=(-1):=by omega)(u4:I6 (bO+1):=by omega):zQI (some ia) bn bL bk bO E Nx Q0 :=
 eO 0 (bk,bO+1) [.b (zT u1),.i u2,.l h1,.g2,.b (yY u3),.w u4,.g] nx
theorem xLC(nx:Q0 bk E)(u1:¬bO<(bn:Int):=by omega):zQI dp bn bL bk bO E Nx Q0 :=
 eO 1 bk [.b (zY u1)] nx
theorem xVA(hL:yPI dp bn bL 0 0 E P0)(k0:∀i2_1' E',P0 i2_1' E'->yCE dp bn bL i2_1' E' Q):zQ tP 47 [.slice dp bn bL] E Q :=
 eQ [.g4,.k (.lf 17 (zIJ dp bn bL 0 0) [zOQ dp bn bL P0])] (ai (ai tt (ai (arf (zIJ dp bn bL 0 0)) hL)) (ai (kz1 k0) trivial))
theorem yUQ(nx:Q (iV bk) E):yCE dp bn bL bk E Q :=
 eK [.g2] nx
theorem wDL(h1:wW tP .eql 48 (.tmp 3) (.const (.slice none 0 0)) (.slice s s_l s_c) (.slice none 0 0)=some (.bool false))(h2:APz 48 48 (.slice (some (qe E.j 0)) 0 0) (.slice s s_l s_c) (E.row [] 1) (.slice q2 l2 c2) E1)(nx:Q (.slice q2 l2 c2) E1):zQ tP 44 [.slice s s_l s_c] E Q :=
 eQ [.g2,.v h1,.g2,.e h2,.g] nx
end
section
variable{p:Option Addr}{len cap:Nat}{g:FuncId}{ga gc:List Value}{xs:List Int}{f:Int->Bool}
section
variable{E:St}
theorem wNJ{xs:List Dty}(hs:SlV tP E 93 5 p len (xs.map zBB))(hlen:len<=1073741824)
  (hc:∀x∈xs,∀O,Le E O->zW tP g (ga++(zBB x::gc)) O (.bool false) O):zW tP 103 [.slice p len cap,.func (.func g) ⟨ga⟩ ⟨gc⟩] E (.bool false) E:=by
 have key:zQ tP 135 [.slice p len cap,.func (.func g) ⟨ga⟩ ⟨gc⟩] E.re.re λv s=>v=iV (-1)/\E.j<=s.low:=by
  refine wID (xKS (Inv:=λk i O=>O=E.re.re/\∃j:Nat,i=j/\j+k=len) (Qr:=λ_ _=>False) (Q0:=λO=>O=E.re.re) ?_ len 0 E.re.re ⟨rfl,0,rfl,by omega⟩) (λ_ _ h=>h.elim) λO h=>xKR ⟨rfl,by rw[h];exact Nat.le_refl _⟩
  rintro k i O ⟨rfl,j,rfl,hk⟩;by_cases hj:j<len
  .obtain⟨a,rfl,x,hx,ld⟩:=xA hs.re.re hj;exact wBT ld (hc x (List.mem_of_getElem? hx) E.re.re ((le0 E).trans (le0 _))) ⟨k-1,by omega,rfl,j+1,by omega,by omega⟩
  .exact wBS rfl
 exact(wJB key.pure ⟨rfl,Nat.le_refl _⟩).pure
theorem wNZ{xs:List Dty}(hs:SlV tP E 93 5 p len (xs.map zBB))(hlen:len<=1073741824)
  (hc:∀x∈xs,∀O,Le E O->zW tP g (ga++(zBB x::gc)) O (.bool true) O):zW tP 69 [.slice p len cap,.func (.func g) ⟨ga⟩ ⟨gc⟩] E (.bool true) E :=
 (wJZ (wNJ (E:=E.re.row [.func (.func g) ⟨ga⟩ ⟨gc⟩] 1) (g:=104) (ga:=[]) (gc:=[.pointer (some ⟨E.re.j,0,none⟩)]) (cap:=cap) hs.re.row hlen
  (λx hx O iq=>(wEO ((((wB _ _ _).le iq)).re.row.ld1 wOI) (hc x hx _ (((((le0 E).trans (Le.row _ _ _)).trans iq).trans (le0 O)).trans (Le.row _ _ _))) ⟨rfl,Nat.le_refl _⟩).pure)) ⟨rfl,Nat.le_refl _⟩).pure
theorem wNI(hs:SlV tP E 3 1 p len (xs.map yK))(hlen:len<=1073741824)
  (hc:∀x∈xs,∀O,Le E O->zW tP g (yK x::gc) O (.bool (f x)) O):∃r:Int,zW tP 142 [.slice p len cap,.func (.func g) ⟨[]⟩ ⟨gc⟩] E (iV r) E/\(0<=r↔xs.any f=true):=by
 have hl:xs.length=len:=by have:=hs.2.1;simpa using this
 have key:zQ tP 142 [.slice p len cap,.func (.func g) ⟨[]⟩ ⟨gc⟩] E.re λv s=>(∃r:Int,v=iV r/\(0<=r↔xs.any f=true))/\s=E.re:=by
  refine wIC (xKQ (Inv:=λk i O=>O=E.re/\∃j:Nat,i=j/\j+k=len/\(xs.take j).any f=false) (Qr:=λi O=>O=E.re/\0<=i/\xs.any f=true) (Q0:=λO=>O=E.re/\xs.any f=false) ?_ len 0 E.re ⟨rfl,0,rfl,by omega,by simp⟩) ?_ ?_
  .rintro k i O ⟨rfl,j,rfl,hk,ha⟩;by_cases hj:j<len
   .obtain⟨a,rfl,x,hx,ld⟩:=xA hs.re hj;have c:=hc x (List.mem_of_getElem? hx) E.re (le0 E);cases hf:f x with
    |true =>
     rw[hf]at c;exact wBQ ld c ⟨rfl,by omega,List.any_eq_true.2 ⟨x,List.mem_of_getElem? hx,hf⟩⟩
    |false =>
     rw[hf]at c;exact wBP ld c ⟨k-1,by omega,rfl,j+1,by omega,by omega,by rw[wE hx,List.any_append,ha];simp[hf]⟩
   .exact wBO ⟨rfl,by rwa [List.take_of_length_le (by omega)]at ha⟩
  .rintro i O ⟨rfl,h1,h2⟩;exact xKO ⟨⟨i,rfl,by simp[h1,h2]⟩,rfl⟩
  .rintro O ⟨rfl,h⟩;exact xKP ⟨⟨-1,rfl,by simp[h]⟩,rfl⟩
 obtain⟨v,s,h1,⟨r,rfl,h2⟩,rfl⟩:=key;exact⟨r,zYC h1 (Nat.le_refl _) rfl,h2⟩
theorem wDI(hs:SlV tP E 3 1 p len (xs.map yK))(hlen:len<=1073741824)
  (hc:∀x∈xs,∀O,Le E O->zW tP g (yK x::gc) O (.bool (f x)) O):zW tP 114 [.slice p len cap,.func (.func g) ⟨[]⟩ ⟨gc⟩] E (.bool (xs.any f)) E:=by
 obtain⟨r,h1,h2⟩:=wNI (E:=E.re) (cap:=cap) hs.re hlen (λx hx O iq=>hc x hx O ((le0 E).trans iq));cases ha:xs.any f with
 |true=>exact(wIY h1 ⟨rfl,Nat.le_refl _⟩ (h2.2 ha)).pure
 |false=>exact(wIX h1 ⟨rfl,Nat.le_refl _⟩ (λh=>by rw[h2.1 h]at ha;cases ha)).pure
theorem wNY(hs:SlV tP E 3 1 p len (xs.map yK))(hlen:len<=1073741824)
  (hc:∀x∈xs,∀O,Le E O->zW tP g (yK x::gc) O (.bool true) O):zW tP 77 [.slice p len cap,.func (.func g) ⟨[]⟩ ⟨gc⟩] E (.bool true) E :=
 (wJY (by
  have c:=wDI (E:=E.re.row [.func (.func g) ⟨[]⟩ ⟨gc⟩] 1) (g:=115) (gc:=[.pointer (some ⟨E.re.j,0,none⟩)]) (f:=λ_=>false) (cap:=cap) hs.re.row hlen
   (λx hx O iq=>(wEN ((((wB _ _ _).le iq)).re.ld1 wPU) (hc x hx _ ((((le0 E).trans (Le.row _ _ _)).trans iq).trans (le0 O))) ⟨rfl,Nat.le_refl _⟩).pure)
  rwa [show xs.any (λ_=>false)=false by simp]at c) ⟨rfl,Nat.le_refl _⟩).pure
theorem wNF{xs:List Drv}(hs:yJR E 94 p len xs)(hlen:len<=1073741824)
  (hc:∀x∈xs,∀v O,Le E O->xEX O v x->zW tP g (ga++(v::gc)) O (.bool false) O):zW tP 105 [.slice p len cap,.func (.func g) ⟨ga⟩ ⟨gc⟩] E (.bool false) E:=by
 obtain⟨vs,hv1,hl,hv3⟩:=hs.le ((le0 E).trans (le0 _));have key:zQ tP 136 [.slice p len cap,.func (.func g) ⟨ga⟩ ⟨gc⟩] E.re.re λv s=>v=iV (-1)/\E.j<=s.low:=by
  refine wIB (xKL (Inv:=λk i O=>O=E.re.re/\∃j:Nat,i=j/\j+k=len) (Qr:=λ_ _=>False) (Q0:=λO=>O=E.re.re) ?_ len 0 E.re.re ⟨rfl,0,rfl,by omega⟩) (λ_ _ h=>h.elim) λO h=>xKK ⟨rfl,by rw[h];exact Nat.le_refl _⟩
  rintro k i O ⟨rfl,j,rfl,hk⟩;by_cases hj:j<len
  .obtain⟨a,rfl,_⟩:=hv1.some hj;have hx:xs[j]?=some (xs[j]'(by omega)):=by simp
   obtain⟨v,g1,hv⟩:=hv3 j _ hx;have c:=hc _ (List.mem_of_getElem? hx) v E.re.re ((le0 E).trans (le0 _)) hv;obtain⟨p',l',c',r',n',d',s',j',e',rfl,_⟩:=hv;exact wBJ (hv1.at rfl g1) c ⟨k-1,by omega,rfl,j+1,by omega,by omega⟩
  .exact wBI rfl
 exact(wIU key.pure ⟨rfl,Nat.le_refl _⟩).pure
theorem wNV{xs:List Drv}(hs:yJR E 94 p len xs)(hlen:len<=1073741824)
  (hc:∀x∈xs,∀v O,Le E O->xEX O v x->zW tP g (ga++(v::gc)) O (.bool true) O):zW tP 71 [.slice p len cap,.func (.func g) ⟨ga⟩ ⟨gc⟩] E (.bool true) E :=
 (wJU (wNF (E:=E.re.row [.func (.func g) ⟨ga⟩ ⟨gc⟩] 1) (g:=106) (ga:=[]) (gc:=[.pointer (some ⟨E.re.j,0,none⟩)]) (cap:=cap) (hs.le ((le0 E).trans (Le.row _ _ _))) hlen
  (λx hx v O iq hv=>by
   have hc2:=λO' (k:Le O O')=>hc x hx v O' ((((le0 E).trans (Le.row _ _ _)).trans iq).trans k) (hv.le k)
   obtain⟨p',l',c',r',n',d',s',j',e',rfl,_⟩:=hv;exact(wEI ((((wB _ _ _).le iq)).re.row.ld1 wOH) (hc2 _ ((le0 O).trans (Le.row _ _ _))) ⟨rfl,Nat.le_refl _⟩).pure)) ⟨rfl,Nat.le_refl _⟩).pure
theorem uV{n lo hi:Int}(h:inB n lo hi=true):zW tP 68 [iV n,iV lo,iV hi] E (.bool true) E:=h ▸ yGK
section
variable{w:Wk}{p q:Option Addr}{l m c d:Nat}
theorem wGC{x:Dty}(hd:1<=w.J/\w.J<=7)(h:zAP w x=true):zW tP 70 [.agg ⟨wkc w.J p l c q m d w.rest w.run w.N⟩,zBB x] E (.bool true) E:=by
 unfold zAP at h;simp only[Bool.and_eq_true,Bool.not_eq_true',decide_eq_false_iff_not]at h;obtain⟨h1,h2,h3,h4,h5⟩:=h;have:=uB.1 h2;have:=uB.1 h3;exact(xXU (uV h1) (uV h2) (uV h5) ⟨rfl,Nat.le_refl _⟩ (by omega) (by omega) (by omega) (by omega) (by omega)).pure
theorem xSK{x:Drv}{v:Value}(hv:xEX E v x)(hl:x.qa.length<=1000/\x.qb.length<=1000/\x.qc.length<=1000)(hd:1<=w.J/\w.J<=7)(h:zDP w x=true):zW tP 72 [.agg ⟨wkc w.J p l c q m d w.rest w.run w.N⟩,v] E (.bool true) E:=by
 obtain⟨p',l',c',r',n',d',s',j',e',rfl,hkn,hlv,hws⟩:=hv;have L2:Le E ((E.re.row (wkc w.J p l c q m d w.rest w.run w.N) 6).row (yH p' l' c' r' n' d' s' j' e' x.off x.row x.used) 6):=((le0 E).trans (Le.row _ _ _)).trans (Le.row _ _ _);unfold zDP at h;simp only[Bool.and_eq_true]at h;obtain⟨h1,h2,h3,h4,h5,h6⟩:=h;exact(xHW (ySY (c:=c') (SlV.le hkn L2) (by have:=hkn.len;omega) h1) (ySY (c:=d') (SlV.le hlv L2) (by have:=hlv.len;omega) h2) (ySY (c:=e') (SlV.le hws L2) (by have:=hws.len;omega) h3) (uV h4) (uV h5) (uV h6) ⟨rfl,Nat.le_refl _⟩ (by omega)).pure
theorem zPJ(h:WkP E 93 94 w p l q m)(hsh:zCE w)(hf:vR w=0):zW tP 40 [.agg ⟨wkc w.J p l c q m d w.rest w.run w.N⟩] E (iV 0) E:=by
 have hn:=h.len.1;have hm:=h.len.2;obtain⟨f1,f2,hh,f4,f5⟩:=zOM hf;unfold zCU at hh;simp only[Bool.and_eq_true]at hh;obtain⟨b1,b2,b3,b4⟩:=hh;have hd:=uB.1 b1;have L1:Le E (E.re.row (wkc w.J p l c q m d w.rest w.run w.N) 6):=(le0 E).trans (Le.row _ _ _);have cd:=wNZ (cap:=c) (g:=70) (ga:=[.agg ⟨wkc w.J p l c q m d w.rest w.run w.N⟩]) (gc:=[]) (SlV.le h.dty L1) (by omega) (λx hx O _=>wGC hd (f4 x hx));have cv:=wNV (cap:=d) (g:=72) (ga:=[.agg ⟨wkc w.J p l c q m d w.rest w.run w.N⟩]) (gc:=[]) (h.drv.le L1) (by omega) (λx hx v O _ hv=>xSK hv (hsh x hx) hd (f5 x hx));exact(yVQ (uV b1) (uV b2) (uV b3) (uV b4) cd cv ⟨rfl,Nat.le_refl _⟩ (by omega) (by omega)).pure
end
end
end
abbrev wDZ(b:Bch):Value:=.agg ⟨rcd b.kind b.drv b.dut⟩
section
variable{w:Wk}{ros tru:Nat->Int}{k q j:Nat}
end
section
variable{E:St}{w:Wk}{p q r t:Option Addr}{l m c d rc tc:Nat}{rs ts:List Int}{k i:Nat}
end
section
noncomputable section
variable(BA:Nat)(vals ag:oAa)(f1:FuncId)(bW aa dc ac:Nat)(dw:lVa)(bk ar:Int)(q2:St->Prop)(q0:Int->St->Prop)(g:Nat->Value)(ms:List Nat)(st:LoopState)(E:St)(pend:Option Code)(Nx Qr:Int->St->Prop)(Q:vPa)(Qn Q0:St->Prop)(db:Nat)
def zLC:Code:=(Code.part [1,0,1,0,0] (zV tP 76))
def zLB:Code:=(Code.part [1,0,1,0,1] (zV tP 76))
def zII:lNa:=[(4,pq BA 0),(8,.func (.func f1) ⟨[]⟩ ⟨dw⟩)]
def yPC:Blk:=.loop (Fm 16 (ov (zII BA f1 dw) g)) [9,10] zLC zLB st pend db
def xUW:Prop:=zPI tP (zZ tP) (.tmp 8) ⟨[9,10]⟩ zLC zLB 16 (zII BA f1 dw) [(.normal,Qn)] E
def yCB:Prop:=∀g:Nat->Value,∃an,Hid (kAt tP (zZ tP) none (zV tP 76) [1,0,1,0] (kFn tP 76 Q) .normal ⟨Fm 16 (ov (zII BA f1 dw) g),ms⟩ E an)
def yGL:Code:=(Code.part [1,0,1,0,0] (zV tP 75))
def zKD:lNa:=[(2,pq BA 0),(6,.slice ag aa ac),(7,iV (aa:Int)),(8,iV ar)]
def xAO:Alt:=⟨Int,.normal,λt=>zKD BA ag aa ac t,λt=>[],λt E=>q0 t E⟩
def zVO(BA:Nat)(ag:oAa)(aa ac:Nat):lNa:=[(2,pq BA 0)]
def zKE:Alt:=⟨Unit,(.exit 0),λt=>zVO BA ag aa ac,λt=>[],λt E=>q2 E⟩
def zSN:Prop:=yT tP (zZ tP) none yGL 24 (zKD BA ag aa ac ar) [] [xAO BA ag aa ac Nx,zKE BA ag aa ac Q0] E
def yGM:Prop:=yW tP (zZ tP) none yGL 24 (zKD BA ag aa ac ar) [] [zKE BA ag aa ac Q0] E
def zVP:Prop:=kZ (zZ tP) (zV tP 75) [1,0,1,0] (kFn tP 75 Q) (.exit 0) 24 (zVO BA ag aa ac) E
def xDV:Code:=(Code.part [1,1,0,1,0,0] (zV tP 84))
def zOU:lNa:=[(3,iV 0),(6,.slice vals bW dc),(7,iV (bW:Int)),(8,iV ar)]
def xVK:Alt:=⟨Int,.normal,λt=>zOU vals bW dc t,λt=>[],λt E=>q0 t E⟩
def yIZ(vals:oAa)(bW dc:Nat)(bk:Int):lNa:=[(2,iV bk)]
def zTI:Alt:=⟨Int,.ret,λt=>yIZ vals bW dc t,λt=>[],λt E=>q0 t E⟩
def yJA(vals:oAa)(bW dc:Nat):lNa:=[(3,iV 0)]
def zTJ:Alt:=⟨Unit,(.exit 0),λt=>yJA vals bW dc,λt=>[],λt E=>q2 E⟩
def zWZ:Prop:=yT tP (zZ tP) none xDV 18 (zOU vals bW dc ar) [] [xVK vals bW dc Nx,zTI vals bW dc Qr,zTJ vals bW dc Q0] E
def xDW:Prop:=yW tP (zZ tP) none xDV 18 (zOU vals bW dc ar) [] [zTI vals bW dc Qr,zTJ vals bW dc Q0] E
def yJB:Prop:=kZ (zZ tP) (zV tP 84) [1,1,0,1,0] (kFn tP 84 Q) .ret 18 (yIZ vals bW dc bk) E
def yJC:Prop:=kZ (zZ tP) (zV tP 84) [1,1,0,1,0] (kFn tP 84 Q) (.exit 0) 18 (yJA vals bW dc) E
end
variable{ak ao au aj day y aQ bt aM aN aS ar nE nF nB dH ez fi ew fj x1 aY bu bb bi n1 n2 n3 n4 eG nH bk:Int}{ah ag qAC qBC qY qMB qA qC qG q1 vals:oAa}{ae af aa ac BA lo lHC cZB lIC cAC db lP cW lRB cFB lA cA lE cD lK cF l1 c1 bW dc:Nat}{E ELB EMB O ik EG fm EO:St}{Q:vPa}{f1:FuncId}{dw cs1838 cs1840:lVa}{g:Nat->Value}{Qn Pn Q0 P0:St->Prop}{ms:List Nat}{Inv:Nat->Int->St->Prop}{bQ vals_a:Addr}{Nx Qr Pr:Int->St->Prop}{b2:Bool}
theorem wOZ:let y0:=wkc ak ah ae af ag aa ac ao au aj;∀(nx:Q (.func (.func 116) ⟨[]⟩ ⟨[pq E.j 0,pq ((E.j+1)) 0]⟩) ((E.row y0 6).row [iV day] 1)),zQ tP 79 [qf y0,iV day] E Q :=
 λnx=>eQ [.g5] nx
theorem xKZ(hl:yP O.heap lo=some (yPC BA f1 dw g .ready none db))(iw:E=O.re.put lo (yPC BA f1 dw g .busy none db))(h1:LDz E 48 (qe BA 0) (.slice qAC lHC cZB))(h2:APz 48 48 (.slice qAC lHC cZB) (.slice (some (qe E.j 0)) 1 1) (E.row [iV y] 1) (.slice qBC lIC cAC) ELB)(h3:SOz ELB 48 (qe BA 0) (.slice qBC lIC cAC) EMB)(nx:Qn EMB):zCG tP lo [iV y,qf (zP aQ bt aM aN aS)] O (Fm 16 (ov (zII BA f1 dw) g)) [9,10] zLC zLB db [⟨Unit,.normal,λ_=>[],λ_=>[],λ_ E=>Qn E⟩] :=
 xZA hl rfl iw [.g,.l (.slice qAC lHC cZB),.g,.g,.e (.slice qBC lIC cAC) ELB,.e undef EMB,.fin ⟨Unit,.normal,λ_=>[],λ_=>[],λ_ E=>Qn E⟩ ()] (kc (by kernel_rfl) (ai (ai (rfl:Exit.normal=Exit.normal) (rfl:O.re=O.re)) (an3 h1 h2 h3 (wCL (alts:=[⟨Unit,.normal,λ_=>[],λ_=>[],λ_ E=>Qn E⟩]) ⟨Unit,.normal,λ_=>[],λ_=>[],λ_ E=>Qn E⟩ () nx in0))))
theorem xUV:let y0:=wkc ak ah ae af ag aa ac ao au aj;∀(h1:CAz 79 [qf y0,iV day] ((E.row y0 6).row [.slice none 0 0] 1) (.func (.func f1) ⟨[]⟩ ⟨dw⟩) ik) (hL:xUW (E.j+1) f1 dw ik Pn) (kn:∀E',Pn E'->yCB (E.j+1) f1 dw [ik.j] E' Q),zQ tP 76 [qf y0,iV day] E Q :=
 let s1:=zII (E.j+1) f1 dw;let y0:=wkc ak ah ae af ag aa ac ao au aj;λh1 hL kn=>let ch1:List Bs:=[.r [.slice none 0 0] 1,.r y0 6];eQ [.g2,.F E ch1 0 0 zAD vB,.g,.c h1,.k (.rf 16 s1 [(.normal,Pn)])] (ai (ai tt (ai (arf s1) hL)) (ai (kz kn) trivial))
theorem yUL(h1:LDz E 48 (qe BA 0) (.slice qY lP cW))(h2:SOz E 48 (qe BA 0) (.slice qY lP cW) EG)(h3:xEN ms EG fm)(h4:LDz fm 48 (qe BA 0) (.slice qMB lRB cFB))(nx:Q (.slice qMB lRB cFB) fm):yCB BA f1 dw ms E Q :=
 eK [.l h1,.e h2,.k (.l (.slice qMB lRB cFB))] (zKC (K:=(λfm=>zJ tP fm 48 (qe BA 0)=some (.slice qMB lRB cFB)/\Q (.slice qMB lRB cFB) fm)) h3 (ai h4 nx))
theorem yLM(hb:∀k ar E,Inv k ar E->zSN BA ag aa ac ar E (NX1 Inv k) Q0):∀k ar E,Inv k ar E->yGM BA ag aa ac ar E Q0 :=
 xE (ai (wF 0) trivial) hb
theorem xAN:let y0:=yH qA lA cA qC lE cD qG lK cF nE nF nB;∀(h1:LDz E 94 (zO bQ (Int.toNat ar*6)) (qf y0)) (h2:SOz ((E.row (yH none 0 0 none 0 0 none 0 0 0 0 0) 6).own E.j y0 6) 175 ⟨BA,0+Int.toNat ar*4,none⟩ (qf (zK nE nF nB (-1))) EO) (nx:Nx (ar+1) EO) (u1:ar<(aa:Int):=by omega) (u2:Ix ar aa:=by omega) (u3:Ix ar 6:=by omega) (u4:I6 (ar+1):=by omega),zSN BA (some bQ) aa ac ar E Nx Q0 :=
 let y0:=yH qA lA cA qC lE cD qG lK cF nE nF nB;λh1 h2 nx u1 u2 u3 u4=>let ch1:List Bs:=[.r (yH none 0 0 none 0 0 none 0 0 0 0 0) 6];let ch2:List Bs:=.o 0 y0 6::ch1;eO 0 (ar+1) [.b (zT u1),.g,.i u2,.l h1,.g2,.s E ch1 0 0 zKH (qf y0),.g2,.f E ch2 0 3 zU,.g,.f E ch2 0 4 zU,.g,.f E ch2 0 5 zU,.g,.i u3,.e h2,.w u4,.g] nx
theorem xAM(nx:Q0 E)(u1:¬ar<(aa:Int):=by omega):zSN BA ag aa ac ar E Nx Q0 :=
 eO 1 () [.b (zY u1)] nx
theorem xHX(hL:yGM (E.j+1) ag aa ac 0 ((E.row (wkc ak ah ae af ag aa ac ao au aj) 6).row [iV 0,iV 0,iV 0,iV 0,iV 0,iV 0,iV 0,iV 0,iV 0,iV 0,iV 0,iV 0,iV 0,iV 0,iV 0,iV 0,iV 0,iV 0,iV 0,iV 0,iV 0,iV 0,iV 0,iV 0] 4) P0)(k0:∀E',P0 E'->zVP (E.j+1) ag aa ac E' Q):zQ tP 75 [qf (wkc ak ah ae af ag aa ac ao au aj)] E Q :=
 let s1:=zKD (E.j+1) ag aa ac 0;let ch1:List Bs:=[.r [iV 0,iV 0,iV 0,iV 0,iV 0,iV 0,iV 0,iV 0,iV 0,iV 0,iV 0,iV 0,iV 0,iV 0,iV 0,iV 0,iV 0,iV 0,iV 0,iV 0,iV 0,iV 0,iV 0,iV 0] 4,.r (wkc ak ah ae af ag aa ac ao au aj) 6];eQ [.g3,.f E ch1 0 2 zLW,.g2,.k (.lf 24 s1 [zKE (E.j+1) ag aa ac P0])] (ai (ai tt (ai (arf s1) hL)) (ai (kz0 k0) trivial))
theorem yLL(h1:LDz E 177 (qe BA 0) (qf cs1838))(h2:SOz E 177 (qe BA 0) (qf cs1838) EG)(h3:LDz EG 177 (qe BA 0) (qf cs1840))(nx:Q (qf cs1840) EG):zVP BA ag aa ac E Q :=
 eK [.l h1,.e h2,.l h3] nx
theorem yTK(nx:Q (.slice (some (qe E.j 0)) 5 5) (E.row [.int .u8 0,.func (.func 117) ⟨[]⟩ ⟨[]⟩,.int .u8 1,.func (.func 118) ⟨[]⟩ ⟨[]⟩,.int .u8 2,.func (.func 119) ⟨[]⟩ ⟨[]⟩,.int .u8 3,.func (.func 120) ⟨[]⟩ ⟨[]⟩,.int .u8 4,.func (.func 121) ⟨[]⟩ ⟨[]⟩] 2)):zQ tP 80 [] E Q :=
 eQ [.g7,.g] nx
theorem xTF:let Y1:=E.row (wkc ak ah ae af (some bQ) aa ac ao au aj) 6;let Y2:=Y1.row (zP aQ bt aM aN aS) 5;let Y3:=Y2.row (zK ez fi ew fj) 4;∀(h1:LDz Y3 48 (zO bQ ((Int.toNat dH*6)+0)) (.slice q1 l1 c1)) (h2:CPz 42 [.slice q1 l1 c1,iV aS] Y3 (.bool b2)) (nx:Q (.bool b2) Y3) (u1:Ix dH aa:=by omega),zQ tP 117 [qf (wkc ak ah ae af (some bQ) aa ac ao au aj),iV dH,qf (zP aQ bt aM aN aS),qf (zK ez fi ew fj)] E Q:=
 λh1 h2 nx u1=>let ch1:List Bs:=[.r (zK ez fi ew fj) 4,.r (zP aQ bt aM aN aS) 5,.r (wkc ak ah ae af (some bQ) aa ac ao au aj) 6];eQ [.g5,.f E ch1 0 2 zLW,.g,.i u1,.g,.l h1,.g,.f E ch1 1 4 zU,.c h2,.g] nx
theorem xZH:let Y1:=E.row (wkc ak ah ae af (some bQ) aa ac ao au aj) 6;let Y2:=Y1.row (zP aQ bt aM aN aS) 5;let Y3:=Y2.row (zK ez fi ew fj) 4;∀(h1:LDz Y3 48 (zO bQ ((Int.toNat dH*6)+1)) (.slice q1 l1 c1)) (h2:CPz 42 [.slice q1 l1 c1,iV aQ] Y3 (.bool true)) (nx:Q (.bool false) Y3) (u1:Ix dH aa:=by omega),zQ tP 118 [qf (wkc ak ah ae af (some bQ) aa ac ao au aj),iV dH,qf (zP aQ bt aM aN aS),qf (zK ez fi ew fj)] E Q:=
 λh1 h2 nx u1=>let ch1:List Bs:=[.r (zK ez fi ew fj) 4,.r (zP aQ bt aM aN aS) 5,.r (wkc ak ah ae af (some bQ) aa ac ao au aj) 6];eQ [.g5,.f E ch1 0 2 zLW,.g,.i u1,.g,.l h1,.g,.f E ch1 1 0 zU,.c h2,.g2] nx
theorem xZG:let Y1:=E.row (wkc ak ah ae af (some bQ) aa ac ao au aj) 6;let Y2:=Y1.row (zP aQ bt aM aN aS) 5;let Y3:=Y2.row (zK ez fi ew fj) 4;∀(h1:LDz Y3 48 (zO bQ ((Int.toNat dH*6)+1)) (.slice q1 l1 c1)) (h2:CPz 42 [.slice q1 l1 c1,iV aQ] Y3 (.bool false)) (nx:Q (.bool true) Y3) (u1:Ix dH aa:=by omega),zQ tP 118 [qf (wkc ak ah ae af (some bQ) aa ac ao au aj),iV dH,qf (zP aQ bt aM aN aS),qf (zK ez fi ew fj)] E Q:=
 λh1 h2 nx u1=>let ch1:List Bs:=[.r (zK ez fi ew fj) 4,.r (zP aQ bt aM aN aS) 5,.r (wkc ak ah ae af (some bQ) aa ac ao au aj) 6];eQ [.g5,.f E ch1 0 2 zLW,.g,.i u1,.g,.l h1,.g,.f E ch1 1 0 zU,.c h2,.g2] nx
theorem xJN(nx:Q (.bool true) (((E.row (wkc ak ah ae af ag aa ac ao au aj) 6).row (zP aQ bt aM aN aS) 5).row (zK aY bu bb bi) 4))(u1:¬bi=aQ:=by omega):zQ tP 119 [qf (wkc ak ah ae af ag aa ac ao au aj),iV x1,qf (zP aQ bt aM aN aS),qf (zK aY bu bb bi)] E Q :=
 let ch1:List Bs:=[.r (zK aY bu bb bi) 4,.r (zP aQ bt aM aN aS) 5,.r (wkc ak ah ae af ag aa ac ao au aj) 6];eQ [.g5,.f E ch1 2 3 zU,.g,.f E ch1 1 0 zU,.b (uA u1),.g] nx
theorem xJM(nx:Q (.bool false) (((E.row (wkc ak ah ae af ag aa ac ao au aj) 6).row (zP aQ bt aM aN aS) 5).row (zK aY bu bb bi) 4))(u1:bi=aQ:=by omega):zQ tP 119 [qf (wkc ak ah ae af ag aa ac ao au aj),iV x1,qf (zP aQ bt aM aN aS),qf (zK aY bu bb bi)] E Q :=
 let ch1:List Bs:=[.r (zK aY bu bb bi) 4,.r (zP aQ bt aM aN aS) 5,.r (wkc ak ah ae af ag aa ac ao au aj) 6];eQ [.g5,.f E ch1 2 3 zU,.g,.f E ch1 1 0 zU,.b (yY u1),.g] nx
theorem xJQ(nx:Q (.bool true) (((E.row (wkc ak ah ae af ag aa ac ao au aj) 6).row (zP aQ bt aM aN aS) 5).row (zK aY bu bb bi) 4))(u1:bi=aQ:=by omega):zQ tP 120 [qf (wkc ak ah ae af ag aa ac ao au aj),iV x1,qf (zP aQ bt aM aN aS),qf (zK aY bu bb bi)] E Q :=
 let ch1:List Bs:=[.r (zK aY bu bb bi) 4,.r (zP aQ bt aM aN aS) 5,.r (wkc ak ah ae af ag aa ac ao au aj) 6];eQ [.g5,.f E ch1 2 3 zU,.g,.f E ch1 1 0 zU,.b (wU u1),.g3] nx
theorem xJP(nx:Q (.bool true) (((E.row (wkc ak ah ae af ag aa ac ao au aj) 6).row (zP aQ bt aM aN aS) 5).row (zK aY bu bb bi) 4))(u1:¬bi=aQ:=by omega)(u2:I6 (aQ*1440):=by omega)(u3:I6 ((aQ*1440)+bt):=by omega)(u4:I6 (((aQ*1440)+bt)-aY):=by omega)(u5:ao<=(((aQ*1440)+bt)-aY):=by omega):zQ tP 120 [qf (wkc ak ah ae af ag aa ac ao au aj),iV x1,qf (zP aQ bt aM aN aS),qf (zK aY bu bb bi)] E Q :=
 let ch1:List Bs:=[.r (zK aY bu bb bi) 4,.r (zP aQ bt aM aN aS) 5,.r (wkc ak ah ae af ag aa ac ao au aj) 6];eQ [.g5,.f E ch1 2 3 zU,.g,.f E ch1 1 0 zU,.b (wG u1),.g2,.f E ch1 1 0 zU,.w u2,.g,.f E ch1 1 1 zU,.w u3,.g,.f E ch1 2 0 zU,.w u4,.g,.f E ch1 0 3 zU,.b (xV u5),.g2] nx
theorem xJO(nx:Q (.bool false) (((E.row (wkc ak ah ae af ag aa ac ao au aj) 6).row (zP aQ bt aM aN aS) 5).row (zK aY bu bb bi) 4))(u1:¬bi=aQ:=by omega)(u2:I6 (aQ*1440):=by omega)(u3:I6 ((aQ*1440)+bt):=by omega)(u4:I6 (((aQ*1440)+bt)-aY):=by omega)(u5:¬ao<=(((aQ*1440)+bt)-aY):=by omega):zQ tP 120 [qf (wkc ak ah ae af ag aa ac ao au aj),iV x1,qf (zP aQ bt aM aN aS),qf (zK aY bu bb bi)] E Q :=
 let ch1:List Bs:=[.r (zK aY bu bb bi) 4,.r (zP aQ bt aM aN aS) 5,.r (wkc ak ah ae af ag aa ac ao au aj) 6];eQ [.g5,.f E ch1 2 3 zU,.g,.f E ch1 1 0 zU,.b (wG u1),.g2,.f E ch1 1 0 zU,.w u2,.g,.f E ch1 1 1 zU,.w u3,.g,.f E ch1 2 0 zU,.w u4,.g,.f E ch1 0 3 zU,.b (xX u5),.g2] nx
theorem xTI(nx:Q (.bool true) (((E.row (wkc ak ah ae af ag aa ac ao au aj) 6).row (zP aQ bt aM aN aS) 5).row (zK aY bu bb bi) 4))(u1:bi=aQ:=by omega):zQ tP 121 [qf (wkc ak ah ae af ag aa ac ao au aj),iV x1,qf (zP aQ bt aM aN aS),qf (zK aY bu bb bi)] E Q :=
 let ch1:List Bs:=[.r (zK aY bu bb bi) 4,.r (zP aQ bt aM aN aS) 5,.r (wkc ak ah ae af ag aa ac ao au aj) 6];eQ [.g5,.f E ch1 2 3 zU,.g,.f E ch1 1 0 zU,.b (wU u1),.g3,.q E ch1 2 3,.q E ch1 1 0] nx
theorem xTH:let y0:=wkc ak ah ae af ag aa ac ao au aj;let y1:=zP aQ bt aM aN aS;let y2:=zK aY bu bb bi;let y3:=((E.row y0 6).row y1 5).row y2 4;∀(h1:CPz 81 [qf y2,qf y1,iV bt] y3 (qf (zK n1 n2 n3 n4))) (nx:Q (.bool true) y3) (u1:¬bi=aQ:=by omega) (u2:n2<=au:=by omega),zQ tP 121 [qf y0,iV x1,qf y1,qf y2] E Q :=
 let y0:=wkc ak ah ae af ag aa ac ao au aj;let y1:=zP aQ bt aM aN aS;let y2:=zK aY bu bb bi;let y3:=((E.row y0 6).row y1 5).row y2 4;λh1 nx u1 u2=>let ch1:List Bs:=[.r y2 4,.r y1 5,.r y0 6];eQ [.g5,.f E ch1 2 3 zU,.g,.f E ch1 1 0 zU,.b (wG u1),.g,.F E ch1 2 0 uI xS,.F E ch1 1 0 zXF zAN,.g,.f E ch1 1 1 zU,.c h1,.g2,.f E ch1 0 4 zU,.b (xV u2),.g2,.q E ch1 2 3,.q E ch1 1 0,.q E ch1 2 0,.q E ch1 1 0,.q E ch1 1 1,.p ((zI (yX rfl) (zI (yX rfl) (zI (yX rfl) zM))):zL y3.j [qf y2,qf y1,iV bt]),.q E ch1 0 4,.u E ch1 0 4 zU,.u E ch1 0 4 zU] nx
theorem xTG:let y0:=wkc ak ah ae af ag aa ac ao au aj;let y1:=zP aQ bt aM aN aS;let y2:=zK aY bu bb bi;let y3:=((E.row y0 6).row y1 5).row y2 4;∀(h1:CPz 81 [qf y2,qf y1,iV bt] y3 (qf (zK n1 n2 n3 n4))) (nx:Q (.bool false) y3) (u1:¬bi=aQ:=by omega) (u2:¬n2<=au:=by omega),zQ tP 121 [qf y0,iV x1,qf y1,qf y2] E Q :=
 let y0:=wkc ak ah ae af ag aa ac ao au aj;let y1:=zP aQ bt aM aN aS;let y2:=zK aY bu bb bi;let y3:=((E.row y0 6).row y1 5).row y2 4;λh1 nx u1 u2=>let ch1:List Bs:=[.r y2 4,.r y1 5,.r y0 6];eQ [.g5,.f E ch1 2 3 zU,.g,.f E ch1 1 0 zU,.b (wG u1),.g,.F E ch1 2 0 uI xS,.F E ch1 1 0 zXF zAN,.g,.f E ch1 1 1 zU,.c h1,.g2,.f E ch1 0 4 zU,.b (xX u2),.g2,.q E ch1 2 3,.q E ch1 1 0,.q E ch1 2 0,.q E ch1 1 0,.q E ch1 1 1,.p ((zI (yX rfl) (zI (yX rfl) (zI (yX rfl) zM))):zL y3.j [qf y2,qf y1,iV bt]),.q E ch1 0 4,.u E ch1 0 4 zU,.u E ch1 0 4 zU] nx
theorem xYF:let y0:=zK aY bu (bb+(eG-bt)) bi;∀(nx:Q (qf y0) (((((E.row (zK aY bu bb bi) 4).row (zP aQ bt aM aN aS) 5).row (zK 0 0 0 0) 4).own E.j y0 4).own (E.j+2) y0 4)) (u1:I6 (eG-bt):=by omega) (u2:I6 (bb+(eG-bt)):=by omega) (u3:bi=aQ:=by omega),zQ tP 81 [qf (zK aY bu bb bi),qf (zP aQ bt aM aN aS),iV eG] E Q :=
 let s1:=E.row (zK aY bu bb bi) 4;let s2:=s1.row (zP aQ bt aM aN aS) 5;let s3:=s2.row (zK 0 0 0 0) 4;let s6:=bb+(eG-bt);let s4:=s3.own E.j (zK aY bu s6 bi) 4;let s5:=s4.own (E.j+2) (zK aY bu s6 bi) 4;λnx u1 u2 u3=>let ch1:List Bs:=[.r (zK 0 0 0 0) 4,.r (zP aQ bt aM aN aS) 5,.r (zK aY bu bb bi) 4];let ch2:List Bs:=.o 0 (zK aY bu s6 bi) 4::ch1;eQ [.g4,.f E ch1 0 2 zU,.g2,.f E ch1 1 1 zU,.w u1,.w u2,.g,.s E ch1 0 2 vL (iV s6),.g,.f E ch2 0 3 zU,.g,.l (((zX _ _ _).row.own (nne E.j 1 0 rfl)).rw.ld zU (k:=0) rfl:zJ tP s4 3 ⟨(E.j+1),0,none⟩=some (iV aQ)),.b (wU u3),.F E ch2 0 0 uI xS,.e (((zX _ _ _).own (nne E.j 2 0 rfl)).store (vs:=(zK aY bu s6 bi)) rfl xS rfl (nle rfl) rfl:yN tP (evL [pq ((E.j+2)) 0,qf (zK aY bu s6 bi)]) s4 (.store 175 (.tmp 0) (.tmp 1))=some (undef,s5)),.l (((zX _ _ _).own (nne E.j 2 0 rfl)).put.rw.ldN uI xS (k:=0) rfl rfl (nle rfl):zJ tP s5 175 ⟨(E.j+2),0,none⟩=some (qf (zK aY bu s6 bi)))] nx
theorem xYE:let y1:=bb+(eG-bt);let y0:=zK ((aQ*1440)+eG) 1 y1 aQ;∀(nx:Q (qf y0) (((((((((E.row (zK aY bu bb bi) 4).row (zP aQ bt aM aN aS) 5).row (zK 0 0 0 0) 4).own E.j (zK aY bu y1 bi) 4).own E.j (zK aY 0 y1 bi) 4).own E.j (zK aY 1 y1 bi) 4).own E.j (zK aY 1 y1 aQ) 4).own E.j y0 4).own (E.j+2) y0 4)) (u1:I6 (eG-bt):=by omega) (u2:I6 y1:=by omega) (u3:¬bi=aQ:=by omega) (u4:I6 (aQ-1):=by omega) (u5:¬bi=(aQ-1):=by omega) (u6:I6 (aQ*1440):=by omega) (u7:I6 ((aQ*1440)+eG):=by omega),zQ tP 81 [qf (zK aY bu bb bi),qf (zP aQ bt aM aN aS),iV eG] E Q :=
 let s1:=E.row (zK aY bu bb bi) 4;let s2:=s1.row (zP aQ bt aM aN aS) 5;let s3:=s2.row (zK 0 0 0 0) 4;let s10:=bb+(eG-bt);let s4:=s3.own E.j (zK aY bu s10 bi) 4;let s5:=s4.own E.j (zK aY 0 s10 bi) 4;let s6:=s5.own E.j (zK aY 1 s10 bi) 4;let s7:=s6.own E.j (zK aY 1 s10 aQ) 4;let s11:=(aQ*1440)+eG;let s8:=s7.own E.j (zK s11 1 s10 aQ) 4;let s9:=s8.own (E.j+2) (zK s11 1 s10 aQ) 4;let s12:=E.j+1;λnx u1 u2 u3 u4 u5 u6 u7=>let ch1:List Bs:=[.r (zK 0 0 0 0) 4,.r (zP aQ bt aM aN aS) 5,.r (zK aY bu bb bi) 4];let ch2:List Bs:=.o 0 (zK aY bu s10 bi) 4::ch1;let ch3:List Bs:=.o 0 (zK aY 0 s10 bi) 4::ch2;let ch4:List Bs:=.o 0 (zK aY 1 s10 bi) 4::ch3;let ch5:List Bs:=.o 0 (zK aY 1 s10 aQ) 4::ch4;let ch6:List Bs:=.o 0 (zK s11 1 s10 aQ) 4::ch5;eQ [.g4,.f E ch1 0 2 zU,.g2,.f E ch1 1 1 zU,.w u1,.w u2,.g,.s E ch1 0 2 vL (iV s10),.g,.f E ch2 0 3 zU,.g,.l (((zX _ _ _).row.own (nne E.j 1 0 rfl)).rw.ld zU (k:=0) rfl:zJ tP s4 3 (qe s12 0)=some (iV aQ)),.b (wG u3),.g,.f E ch2 0 3 zU,.g,.l (((zX _ _ _).row.own (nne E.j 1 0 rfl)).rw.ld zU (k:=0) rfl:zJ tP s4 3 (qe s12 0)=some (iV aQ)),.w u4,.b (uA u5),.g,.s E ch2 0 1 vL (iV 0),.g,.f E ch3 0 1 zU,.g2,.s E ch3 0 1 vL (iV 1),.g,.l (((((zX _ _ _).row.own (nne E.j 1 0 rfl)).own (nne E.j 1 0 rfl)).own (nne E.j 1 0 rfl)).rw.ld zU (k:=0) rfl:zJ tP s6 3 (qe s12 0)=some (iV aQ)),.g,.s E ch4 0 3 vL (iV aQ),.g,.l ((((((zX _ _ _).row.own (nne E.j 1 0 rfl)).own (nne E.j 1 0 rfl)).own (nne E.j 1 0 rfl)).own (nne E.j 1 0 rfl)).rw.ld zU (k:=0) rfl:zJ tP s7 3 (qe s12 0)=some (iV aQ)),.w u6,.g,.w u7,.g,.s E ch5 0 0 vL (iV s11),.F E ch6 0 0 uI xS,.e (((((((zX _ _ _).own (nne E.j 2 0 rfl)).own (nne E.j 2 0 rfl)).own (nne E.j 2 0 rfl)).own (nne E.j 2 0 rfl)).own (nne E.j 2 0 rfl)).store (vs:=(zK s11 1 s10 aQ)) rfl xS rfl (nle rfl) rfl:yN tP (evL [pq ((E.j+2)) 0,qf (zK s11 1 s10 aQ)]) s8 (.store 175 (.tmp 0) (.tmp 1))=some (undef,s9)),.l (((((((zX _ _ _).own (nne E.j 2 0 rfl)).own (nne E.j 2 0 rfl)).own (nne E.j 2 0 rfl)).own (nne E.j 2 0 rfl)).own (nne E.j 2 0 rfl)).put.rw.ldN uI xS (k:=0) rfl rfl (nle rfl):zJ tP s9 175 ⟨(E.j+2),0,none⟩=some (qf (zK s11 1 s10 aQ)))] nx
theorem xYD:let y1:=bb+(eG-bt);let y0:=zK ((aQ*1440)+eG) (bu+1) y1 aQ;∀(nx:Q (qf y0) ((((((((E.row (zK aY bu bb bi) 4).row (zP aQ bt aM aN aS) 5).row (zK 0 0 0 0) 4).own E.j (zK aY bu y1 bi) 4).own E.j (zK aY (bu+1) y1 bi) 4).own E.j (zK aY (bu+1) y1 aQ) 4).own E.j y0 4).own (E.j+2) y0 4)) (u1:I6 (eG-bt):=by omega) (u2:I6 y1:=by omega) (u3:¬bi=aQ:=by omega) (u4:I6 (aQ-1):=by omega) (u5:bi=(aQ-1):=by omega) (u6:I6 (bu+1):=by omega) (u7:I6 (aQ*1440):=by omega) (u8:I6 ((aQ*1440)+eG):=by omega),zQ tP 81 [qf (zK aY bu bb bi),qf (zP aQ bt aM aN aS),iV eG] E Q :=
 let s1:=E.row (zK aY bu bb bi) 4;let s2:=s1.row (zP aQ bt aM aN aS) 5;let s3:=s2.row (zK 0 0 0 0) 4;let s9:=bb+(eG-bt);let s4:=s3.own E.j (zK aY bu s9 bi) 4;let s10:=(aQ*1440)+eG;let s11:=bu+1;let s5:=s4.own E.j (zK aY s11 s9 bi) 4;let s6:=s5.own E.j (zK aY s11 s9 aQ) 4;let s7:=s6.own E.j (zK s10 s11 s9 aQ) 4;let s8:=s7.own (E.j+2) (zK s10 s11 s9 aQ) 4;let s12:=E.j+1;λnx u1 u2 u3 u4 u5 u6 u7 u8=>let ch1:List Bs:=[.r (zK 0 0 0 0) 4,.r (zP aQ bt aM aN aS) 5,.r (zK aY bu bb bi) 4];let ch2:List Bs:=.o 0 (zK aY bu s9 bi) 4::ch1;let ch3:List Bs:=.o 0 (zK aY s11 s9 bi) 4::ch2;let ch4:List Bs:=.o 0 (zK aY s11 s9 aQ) 4::ch3;let ch5:List Bs:=.o 0 (zK s10 s11 s9 aQ) 4::ch4;eQ [.g4,.f E ch1 0 2 zU,.g2,.f E ch1 1 1 zU,.w u1,.w u2,.g,.s E ch1 0 2 vL (iV s9),.g,.f E ch2 0 3 zU,.g,.l (((zX _ _ _).row.own (nne E.j 1 0 rfl)).rw.ld zU (k:=0) rfl:zJ tP s4 3 (qe s12 0)=some (iV aQ)),.b (wG u3),.g,.f E ch2 0 3 zU,.g,.l (((zX _ _ _).row.own (nne E.j 1 0 rfl)).rw.ld zU (k:=0) rfl:zJ tP s4 3 (qe s12 0)=some (iV aQ)),.w u4,.b (yY u5),.g,.f E ch2 0 1 zU,.w u6,.g,.s E ch2 0 1 vL (iV s11),.g,.l ((((zX _ _ _).row.own (nne E.j 1 0 rfl)).own (nne E.j 1 0 rfl)).rw.ld zU (k:=0) rfl:zJ tP s5 3 (qe s12 0)=some (iV aQ)),.g,.s E ch3 0 3 vL (iV aQ),.g,.l (((((zX _ _ _).row.own (nne E.j 1 0 rfl)).own (nne E.j 1 0 rfl)).own (nne E.j 1 0 rfl)).rw.ld zU (k:=0) rfl:zJ tP s6 3 (qe s12 0)=some (iV aQ)),.w u7,.g,.w u8,.g,.s E ch4 0 0 vL (iV s10),.F E ch5 0 0 uI xS,.e ((((((zX _ _ _).own (nne E.j 2 0 rfl)).own (nne E.j 2 0 rfl)).own (nne E.j 2 0 rfl)).own (nne E.j 2 0 rfl)).store (vs:=(zK s10 s11 s9 aQ)) rfl xS rfl (nle rfl) rfl:yN tP (evL [pq ((E.j+2)) 0,qf (zK s10 s11 s9 aQ)]) s7 (.store 175 (.tmp 0) (.tmp 1))=some (undef,s8)),.l ((((((zX _ _ _).own (nne E.j 2 0 rfl)).own (nne E.j 2 0 rfl)).own (nne E.j 2 0 rfl)).own (nne E.j 2 0 rfl)).put.rw.ldN uI xS (k:=0) rfl rfl (nle rfl):zJ tP s8 175 ⟨(E.j+2),0,none⟩=some (qf (zK s10 s11 s9 aQ)))] nx
theorem xDU(hb:∀k ar E,Inv k ar E->zWZ vals bW dc ar E (NX1 Inv k) Qr Q0):∀k ar E,Inv k ar E->xDW vals bW dc ar E Qr Q0 :=
 xE (ai wX (ai (wF 0) trivial)) hb
theorem yPL(h1:LDz E 3 (zO vals_a (Int.toNat ar*1)) (iV nH))(nx:Qr nH E)(u1:ar<(bW:Int):=by omega)(u2:Ix ar bW:=by omega)(u3:¬nH=0:=by omega):zWZ (some vals_a) bW dc ar E Nx Qr Q0 :=
 eO 1 nH [.b (zT u1),.i u2,.l h1,.g3,.b (uA u3),.g2] nx
theorem yPK(h1:LDz E 3 (zO vals_a (Int.toNat ar*1)) (iV nH))(nx:Nx (ar+1) E)(u1:ar<(bW:Int):=by omega)(u2:Ix ar bW:=by omega)(u3:nH=0:=by omega)(u4:I6 (ar+1):=by omega):zWZ (some vals_a) bW dc ar E Nx Qr Q0 :=
 eO 0 (ar+1) [.b (zT u1),.i u2,.l h1,.g3,.b (yY u3),.w u4,.g] nx
theorem xVJ(nx:Q0 E)(u1:¬ar<(bW:Int):=by omega):zWZ vals bW dc ar E Nx Qr Q0 :=
 eO 2 () [.b (zY u1)] nx
theorem wDJ(hL:xDW vals bW dc 0 E Pr P0)(kr:∀i2_1' E',Pr i2_1' E'->yJB vals bW dc i2_1' E' Q)(k0:∀E',P0 E'->yJC vals bW dc E' Q):zQ tP 84 [.slice vals bW dc] E Q :=
 eQ [.g5,.k (.lf 18 (zOU vals bW dc 0) [zTI vals bW dc Pr,zTJ vals bW dc P0])] (ai (ai tt (ai (arf (zOU vals bW dc 0)) hL)) (ai (kz1 kr) (ai (kz0 k0) trivial)))
theorem xDS(nx:Q (iV bk) E):yJB vals bW dc bk E Q :=
 eK [] nx
theorem xDT(nx:Q (iV 0) E):yJC vals bW dc E Q :=
 eK [.g2] nx
end
section
variable{p:Option Addr}{l c:Nat}{xs:List Int}
theorem zAJ(xs:List Int):∀(_:IntKind),wD (xs.map yK)=xs.map yK:=by
 intro _;induction xs with
 |nil=>rfl
 |cons x xs ih=>simp only[wD,List.map_cons,List.flatMap_cons]at ih ⊢;rw[ih];rfl
section
variable{E:St}
theorem xKB(h:yM E p l xs)(hl:l<=1073741824) :
  ∃p' c' E',zW tP 45 [.slice p l c] E (.slice p' l c') E'/\New E E'/\yM E' p' l xs/\∀b,AtP p' b->E.j<=b:=by
 have hc:(wD (xs.map yK)).all cellB=true:=by rw[zAJ xs .i64];simp[List.all_eq_true];intro a _;rfl
 have N1:New E.re (E.re.row [] 1):=New.row _ _ _;obtain⟨p6,c6,s5,ap1,A6,O6,b6⟩:=Ax.append (P:=tP) (k:=c) (n0:=E.re.j) uH (Ax.lit (len:=0) (zX E.re [] 1) rfl ((xN 0).2 uF) (Nat.le_refl _)) (SlV.le h ((le0 E).trans N1.le)).1 (by omega) hc N1.nx;rw[Nat.zero_add]at ap1 A6;have N5:New E.re s5:=N1.of_only O6 (by rintro b ⟨a,e,rfl⟩;cases e;exact Nat.le_refl _);exact zQ.newSl (wHX ap1 ⟨N5,p6,c6,rfl,Ax.slv (by simpa using A6) (by simpa using h.2.1) h.2.2,λb hb=>(A6.bd b hb).1⟩)
theorem wDF(h:yM E p l xs)(hl:l<=1073741824):zW tP 47 [.slice p l c] E (iV ((xs.filter λx=>decide (x≠-1)).length:Nat)) E:=by
 have h1:=h.re;have e1:=h.len;refine(xVA (yUR (Inv:=λk i3 i4 O=>O=E.re/\∃j:Nat,i4=j/\j+k=l/\i3=(((xs.take j).filter λx=>decide (x≠-1)).length:Nat)/\((xs.take j).filter λx=>decide (x≠-1)).length<=j) (Q0:=λi3 O=>O=E.re/\i3=((xs.filter λx=>decide (x≠-1)).length:Nat)) ?_ l 0 0 E.re ⟨rfl,0,rfl,by omega,rfl,Nat.le_refl _⟩) ?_).pure
 .rintro k i3 i4 O ⟨rfl,j,rfl,hk,rfl,hle⟩;by_cases hj:j<l
  .obtain⟨a,rfl,x,hx,l1⟩:=xA h1 hj;have es:(xs.take (j+1)).filter (λx=>decide (x≠-1))=(xs.take j).filter (λx=>decide (x≠-1))++if x≠-1 then[x]else[]:=by
    rw[wE hx,List.filter_append];by_cases e:x≠-1 <;> simp[e]
   by_cases e:x≠-1
   .rw[if_pos e]at es;exact xLE l1 ⟨k-1,by omega,rfl,j+1,by omega,by omega,by rw[es,List.length_append];simp,by rw[es,List.length_append];show _+1<=_;omega⟩
   .rw[if_neg e,List.append_nil]at es;exact xLD l1 ⟨k-1,by omega,rfl,j+1,by omega,by omega,by rw[es],by rw[es];omega⟩ (by omega) (by omega) (Decidable.not_not.1 e)
  .rw[List.take_of_length_le (by omega)];exact xLC ⟨rfl,rfl⟩
 .rintro i3 O ⟨rfl,rfl⟩;exact yUQ ⟨rfl,Nat.le_refl _⟩
section
variable{w:Wk}{p q r t:Option Addr}{l m c d rl rc tl tc:Nat}{rs ts:List Int}
theorem xSH(h:WkP E 93 94 w p l q m)(hr:yM E r l rs)(hl:l<=1073741824)(hm:m<=1073741824)(ho:∀x∈rs, -1<=x/\x<(m:Int)):zW tP 48 [.agg ⟨wkc w.J p l c q m d w.rest w.run w.N⟩,.slice r l rc] E (.bool true) E:=by
 have L1:Le E (E.re.row (wkc w.J p l c q m d w.rest w.run w.N) 6):=(le0 E).trans (Le.row _ _ _);have hk0:=wB E.re (wkc w.J p l c q m d w.rest w.run w.N) 6;have ca:=wNY (cap:=rc) (g:=78) (gc:=[.pointer (some ⟨E.re.j,0,none⟩)]) (SlV.le hr L1) hl (λx hx O iq=>by
  have ld:zJ tP O.re 70 (zO ⟨E.re.j,0,none⟩ 2)=some (.slice q m d):=((hk0.le iq).re).load1 zLW rfl;have hb:=ho x hx;exact(xIK ld (uV (uB.2 ⟨by omega,by omega⟩)) ⟨rfl,Nat.le_refl _⟩).pure)
 exact(xHS ca ⟨rfl,Nat.le_refl _⟩ (by omega)).pure
end
end
end
section
noncomputable section
variable(l:oAa)(l_l l_c BA:Nat)(f8:oAa)(q8:(Option Addr)->Nat->Nat->Int->St->Prop)(q9:(Option Addr)->Nat->Nat->St->Prop)(dB aP bJ aT:Int)(q6:St->Prop)(q1:Int->St->Prop)(hH fZ:Bool)(q5:Bool->St->Prop)(q0:Int->Int->St->Prop)(f9 gi:Nat)(bf:Int)(E:St)(Nx:Int->St->Prop)(Q:vPa)(q3 q7:Int->Int->St->Prop)(qB:(Option Addr)->Nat->Nat->Int->St->Prop)(Qr:Bool->St->Prop)(q4:Int->St->Prop)(qD:(Option Addr)->Nat->Nat->St->Prop)(Q0:St->Prop)
def yMT:Code:=(Code.part [1,1,0,1,0,0] (zV tP 6))
def zHO:lNa:=[(1,pq BA 0),(3,iV aP),(4,iV bf)]
def xGV:Alt:=⟨Int×Int,.normal,λt=>zHO BA t.1 t.2,λt=>[],λt E=>q0 t.1 t.2 E⟩
def yAK(BA:Nat)(aP:Int):lNa:=[(3,iV aP)]
def zMV:Alt:=⟨Int,(.exit 0),λt=>yAK BA t,λt=>[],λt E=>q1 t E⟩
def zXV:Prop:=yT tP (zZ tP) none yMT 23 (zHO BA aP bf) [] [xGV BA q3,zMV BA q4] E
def yMU:Prop:=yW tP (zZ tP) none yMT 23 (zHO BA aP bf) [] [zMV BA q4] E
def yAL:Prop:=kZ (zZ tP) (zV tP 6) [1,1,0,1,0] (kFn tP 6 Q) (.exit 0) 23 (yAK BA aP) E
def yEZ:Code:=(Code.part [1,0,1,0,0] (zV tP 21))
def zEP:lNa:=[(0,.slice l l_l l_c),(3,iV aP)]
def yYE:Alt:=⟨Int,.normal,λt=>zEP l l_l l_c t,λt=>[],λt E=>q1 t E⟩
def zUF(l:oAa)(l_l l_c:Nat)(fZ:Bool):lNa:=[(2,.bool fZ)]
def zIY:Alt:=⟨Bool,.ret,λt=>zUF l l_l l_c t,λt=>[],λt E=>q5 t E⟩
def zUG:lNa:=[(0,.slice l l_l l_c)]
def zIZ:Alt:=⟨Unit,(.exit 0),λt=>zUG l l_l l_c,λt=>[],λt E=>q6 E⟩
def zEQ:Prop:=yT tP (zZ tP) none yEZ 23 (zEP l l_l l_c aP) [] [yYE l l_l l_c Nx,zIY l l_l l_c Qr,zIZ l l_l l_c Q0] E
def yFA:Prop:=yW tP (zZ tP) none yEZ 23 (zEP l l_l l_c aP) [] [zIY l l_l l_c Qr,zIZ l l_l l_c Q0] E
def zUH:Prop:=kZ (zZ tP) (zV tP 21) [1,0,1,0] (kFn tP 21 Q) .ret 23 (zUF l l_l l_c fZ) E
def zJA:Prop:=kZ (zZ tP) (zV tP 21) [1,0,1,0] (kFn tP 21 Q) (.exit 0) 23 (zUG l l_l l_c) E
def yMR:Code:=(Code.part [1,0,1,0,0] (zV tP 4))
def zHM:lNa:=[(1,pq BA 0),(3,iV aP)]
def xGS:Alt:=⟨Int,.normal,λt=>zHM BA t,λt=>[],λt E=>q1 t E⟩
def yAH(BA:Nat)(fZ:Bool):lNa:=[(2,.bool fZ)]
def zMT:Alt:=⟨Bool,.ret,λt=>yAH BA t,λt=>[],λt E=>q5 t E⟩
def yAI:lNa:=[(1,pq BA 0)]
def zMU:Alt:=⟨Unit,(.exit 0),λt=>yAI BA,λt=>[],λt E=>q6 E⟩
def zHN:Prop:=yT tP (zZ tP) none yMR 37 (zHM BA aP) [] [xGS BA Nx,zMT BA Qr,zMU BA Q0] E
def yMS:Prop:=yW tP (zZ tP) none yMR 37 (zHM BA aP) [] [zMT BA Qr,zMU BA Q0] E
def yAJ:Prop:=kZ (zZ tP) (zV tP 4) [1,0,1,0] (kFn tP 4 Q) .ret 37 (yAH BA fZ) E
def zGD:Prop:=kZ (zZ tP) (zV tP 4) [1,0,1,0] (kFn tP 4 Q) (.exit 0) 37 (yAI BA) E
def yAR:Code:=(Code.part [1,0,1,0,0] (zV tP 13))
def zDL:lNa:=[(1,.slice l l_l l_c),(2,pq BA 0),(5,iV bJ)]
def yRY:Alt:=⟨Int,.normal,λt=>zDL l l_l l_c BA t,λt=>[],λt E=>q1 t E⟩
def zQZ(l:oAa)(l_l l_c BA:Nat)(hH:Bool):lNa:=[(4,.bool hH)]
def zGU:Alt:=⟨Bool,.ret,λt=>zQZ l l_l l_c BA t,λt=>[],λt E=>q5 t E⟩
def zRA(l:oAa)(l_l l_c BA:Nat):lNa:=[(1,.slice l l_l l_c)]
def zGV:Alt:=⟨Unit,(.exit 0),λt=>zRA l l_l l_c BA,λt=>[],λt E=>q6 E⟩
def zGF:Prop:=yT tP (zZ tP) none yAR 40 (zDL l l_l l_c BA bJ) [] [yRY l l_l l_c BA Nx,zGU l l_l l_c BA Qr,zGV l l_l l_c BA Q0] E
def yAS:Prop:=yW tP (zZ tP) none yAR 40 (zDL l l_l l_c BA bJ) [] [zGU l l_l l_c BA Qr,zGV l l_l l_c BA Q0] E
def yKS:Prop:=kZ (zZ tP) (zV tP 13) [1,0,1,0] (kFn tP 13 Q) .ret 40 (zQZ l l_l l_c BA hH) E
def zRB:Prop:=kZ (zZ tP) (zV tP 13) [1,0,1,0] (kFn tP 13 Q) (.exit 0) 40 (zRA l l_l l_c BA) E
def xAE:Code:=(Code.part [1,1,0,0,0] (zV tP 32))
def zNF:lNa:=[(1,iV dB),(2,pq BA 0),(6,iV aT)]
def xSF:Alt:=⟨Int×Int,.normal,λt=>zNF BA t.1 t.2,λt=>[],λt E=>q0 t.1 t.2 E⟩
def yGD(BA:Nat)(dB aT:Int):lNa:=[(1,iV dB),(6,iV aT)]
def zSM:Alt:=⟨Int×Int,(.exit 0),λt=>yGD BA t.1 t.2,λt=>[],λt E=>q0 t.1 t.2 E⟩
def yGF:Prop:=yT tP (zZ tP) none xAE 29 (zNF BA dB aT) [] [xSF BA q3,zSM BA q7] E
def xAF:Prop:=yW tP (zZ tP) none xAE 29 (zNF BA dB aT) [] [zSM BA q7] E
def yGE:Prop:=kZ (zZ tP) (zV tP 32) [1,1,0,0] (kFn tP 32 Q) (.exit 0) 29 (yGD BA dB aT) E
def yMK:Code:=(Code.part [1,1,0,1,0,0] (zV tP 31))
def zHJ:lNa:=[(0,.slice l l_l l_c),(3,.slice f8 f9 gi),(4,iV bf)]
def xGA:Alt:=⟨(Option Addr)×Nat×Nat×Int,.normal,λt=>zHJ l l_l l_c t.1 t.2.1 t.2.2.1 t.2.2.2,λt=>[],λt E=>q8 t.1 t.2.1 t.2.2.1 t.2.2.2 E⟩
def yAA(l:oAa)(l_l l_c:Nat)(f8:oAa)(f9 gi:Nat):lNa:=[(3,.slice f8 f9 gi)]
def zMP:Alt:=⟨(Option Addr)×Nat×Nat,(.exit 0),λt=>yAA l l_l l_c t.1 t.2.1 t.2.2,λt=>[],λt E=>q9 t.1 t.2.1 t.2.2 E⟩
def zXT:Prop:=yT tP (zZ tP) none yMK 20 (zHJ l l_l l_c f8 f9 gi bf) [] [xGA l l_l l_c qB,zMP l l_l l_c qD] E
def yML:Prop:=yW tP (zZ tP) none yMK 20 (zHJ l l_l l_c f8 f9 gi bf) [] [zMP l l_l l_c qD] E
def yAB:Prop:=kZ (zZ tP) (zV tP 31) [1,1,0,1,0] (kFn tP 31 Q) (.exit 0) 20 (yAA l l_l l_c f8 f9 gi) E
end
variable{n low high block at_ n2 aP bf nD bJ nH nE nB dB aT segment n1:Int}{E EL EYB E1:St}{Q:vPa}{d_L L1502:Lw}{ax az aI aK l1 c1 BA lA cA lE cD l_l l_c lW cP lT cL dB_bl dB_bc dB_kl dB_kc f9 gi lR cO l2 c2:Nat}{d_k qC qA d_b l qO qM dB_b dB_k f8 qL q2:oAa}{dA eR dU l_a:Addr}{Inv:Nat->Int->St->Prop}{Q0 P0:St->Prop}{Nx:Int->St->Prop}{Qr Pr:Bool->St->Prop}{fZ bC:Bool}{a_1 b:Pd}
theorem wFX(nx:Q (.bool true) E)(u1:low<=n:=by omega)(u2:n<=high:=by omega):zQ tP 22 [iV n,iV low,iV high] E Q :=
 eQ [.g3,.b (xV u1),.g3,.b (xV u2),.g2] nx
theorem wFW(nx:Q (.bool false) E)(u1:low<=n:=by omega)(u2:¬n<=high:=by omega):zQ tP 22 [iV n,iV low,iV high] E Q :=
 eQ [.g3,.b (xV u1),.g3,.b (xX u2),.g2] nx
theorem xMV(nx:Q (.bool false) E)(u1:¬low<=n:=by omega):zQ tP 22 [iV n,iV low,iV high] E Q :=
 eQ [.g3,.b (xX u1),.g3] nx
theorem wFV:let Y1:=E.row (dnc d_L (some dA) ax az d_k aI aK) 10;∀(h1:LDz Y1 59 (zO dA (Int.toNat block*1)) (.slice (some eR) l1 c1)) (h2:LDz Y1 3 (zO eR (((Int.toNat at_*3)+1)+0)) (iV n2)) (nx:Q (iV n2) Y1) (u1:Ix block ax:=by omega) (u2:Ix at_ l1:=by omega),zQ tP 15 [qf (dnc d_L (some dA) ax az d_k aI aK),iV block,iV at_] E Q:=
 λh1 h2 nx u1 u2=>let ch1:List Bs:=[.r (dnc d_L (some dA) ax az d_k aI aK) 10];eQ [.g3,.f E ch1 0 8 yJM,.g,.i u1,.l h1,.g,.i u2,.g2,.l h2,.g] nx
theorem yRI{Inv:Nat->Int->Int->St->Prop}{Q0:Int->St->Prop}(hb:∀k aP bf E,Inv k aP bf E->zXV BA aP bf E (NX2 Inv k) Q0):∀k aP bf E,Inv k aP bf E->yMU BA aP bf E Q0 :=
 zFM (ai (wF 0) trivial) hb
theorem xGU{Nx:Int->Int->St->Prop}{Q0:Int->St->Prop}(h1:LDz E 24 (qe BA 8) (.slice (some dU) lA cA))(h2:LDz E 59 (zO dU (Int.toNat bf*1)) (.slice qC lE cD))(h3:wA tP (evL [iV 0,iV ((lE:Int)-1)]) E (.call { callee:=.builtin .max,args:=⟨wT 2⟩,argTypes:=⟨[3,3]⟩ })=some (iV nD))(nx:Nx (aP+nD) (bf+1) E)(u1:bf<(lA:Int):=by omega)(u2:Ix bf lA:=by omega)(u3:I6 ((lE:Int)-1):=by omega)(u4:I6 (aP+nD):=by omega)(u5:I6 (bf+1):=by omega):zXV BA aP bf E Nx Q0 :=
 eO 0 (aP+nD,bf+1) [.g2,.l h1,.g,.b (zT u1),.g2,.l h1,.g,.i u2,.l h2,.g,.w u3,.v h3,.w u4,.g2,.w u5,.g] nx
theorem xGT{Nx:Int->Int->St->Prop}{Q0:Int->St->Prop}(h1:LDz E 24 (qe BA 8) (.slice qA lA cA))(nx:Q0 aP E)(u1:¬bf<(lA:Int):=by omega):zXV BA aP bf E Nx Q0 :=
 eO 1 aP [.g2,.l h1,.g,.b (zY u1)] nx
theorem xRJ{P0:Int->St->Prop}(hL:yMU E.j 0 0 (E.row (dnc d_L d_b ax az d_k aI aK) 10) P0)(k0:∀i3_1' E',P0 i3_1' E'->yAL E.j i3_1' E' Q):zQ tP 6 [qf (dnc d_L d_b ax az d_k aI aK)] E Q :=
 eQ [.g4,.k (.lf 23 (zHO E.j 0 0) [zMV E.j P0])] (ai (ai tt (ai (arf (zHO E.j 0 0)) hL)) (ai (kz1 k0) trivial))
theorem yRH(nx:Q (iV aP) E):yAL BA aP E Q :=
 eK [.g2] nx
theorem yKI(hb:∀k aP E,Inv k aP E->zEQ l l_l l_c aP E (NX1 Inv k) Qr Q0):∀k aP E,Inv k aP E->yFA l l_l l_c aP E Qr Q0 :=
 xE (ai wX (ai (wF 0) trivial)) hb
theorem yYD(nx:Qr false E)(u1:aP<(l_l:Int):=by omega)(u2:12<aP:=by omega):zEQ l l_l l_c aP E Nx Qr Q0 :=
 eO 1 false [.g3,.b (zT u1),.g,.b (zT u2),.g3] nx
theorem yYC(h1:LDz E 48 (zO l_a (Int.toNat aP*1)) (.slice qA lA cA))(nx:Qr false E)(u1:aP<(l_l:Int):=by omega)(u2:¬12<aP:=by omega)(u3:Ix aP l_l:=by omega)(u4:14<(lA:Int):=by omega):zEQ (some l_a) l_l l_c aP E Nx Qr Q0 :=
 eO 1 false [.g3,.b (zT u1),.g,.b (zY u2),.g3,.i u3,.l h1,.g,.b (zT u4),.g2] nx
theorem yYB(h1:LDz E 48 (zO l_a (Int.toNat aP*1)) (.slice qA lA cA))(nx:Nx (aP+1) E)(u1:aP<(l_l:Int):=by omega)(u2:¬12<aP:=by omega)(u3:Ix aP l_l:=by omega)(u4:¬14<(lA:Int):=by omega)(u5:I6 (aP+1):=by omega):zEQ (some l_a) l_l l_c aP E Nx Qr Q0 :=
 eO 0 (aP+1) [.g3,.b (zT u1),.g,.b (zY u2),.g3,.i u3,.l h1,.g,.b (zY u4),.g2,.w u5,.g] nx
theorem yYA(nx:Q0 E)(u1:¬aP<(l_l:Int):=by omega):zEQ l l_l l_c aP E Nx Qr Q0 :=
 eO 2 () [.g3,.b (zY u1)] nx
theorem xFX(hL:yFA l l_l l_c 0 E Pr P0)(kr:∀t2_1' E',Pr t2_1' E'->zUH l l_l l_c t2_1' E' Q)(k0:∀E',P0 E'->zJA l l_l l_c E' Q):zQ tP 21 [.slice l l_l l_c] E Q :=
 eQ [.g2,.k (.lf 23 (zEP l l_l l_c 0) [zIY l l_l l_c Pr,zIZ l l_l l_c P0])] (ai (ai tt (ai (arf (zEP l l_l l_c 0)) hL)) (ai (kz1 kr) (ai (kz0 k0) trivial)))
theorem yKF(nx:Q (.bool fZ) E):zUH l l_l l_c fZ E Q :=
 eK [] nx
theorem yKH(nx:Q (.bool true) E)(u1:(l_l:Int)<=12:=by omega):zJA l l_l l_c E Q :=
 eK [.g2,.b (xV u1),.g] nx
theorem yKG(nx:Q (.bool false) E)(u1:¬(l_l:Int)<=12:=by omega):zJA l l_l l_c E Q :=
 eK [.g2,.b (xX u1),.g] nx
theorem yRG(hb:∀k aP E,Inv k aP E->zHN BA aP E (NX1 Inv k) Qr Q0):∀k aP E,Inv k aP E->yMS BA aP E Qr Q0 :=
 xE (ai wX (ai (wF 0) trivial)) hb
theorem xGR(h1:LDz E 24 (qe BA 8) (.slice qA lA cA))(nx:Qr false E)(u1:aP<(lA:Int):=by omega)(u2:10<aP:=by omega):zHN BA aP E Nx Qr Q0 :=
 eO 1 false [.g2,.l h1,.g,.b (zT u1),.g,.b (zT u2),.g3] nx
theorem xGQ(h1:LDz E 24 (qe BA 8) (.slice (some dU) lA cA))(h2:LDz E 59 (zO dU (Int.toNat aP*1)) (.slice qC lE cD))(nx:Qr false E)(u1:aP<(lA:Int):=by omega)(u2:¬10<aP:=by omega)(u3:Ix aP lA:=by omega)(u4:14<(lE:Int):=by omega):zHN BA aP E Nx Qr Q0 :=
 eO 1 false [.g2,.l h1,.g,.b (zT u1),.g,.b (zY u2),.g2,.l h1,.g,.i u3,.l h2,.g,.b (zT u4),.g2] nx
theorem xGP(h1:LDz E 24 (qe BA 8) (.slice (some dU) lA cA))(h2:LDz E 59 (zO dU (Int.toNat aP*1)) (.slice qC lE cD))(nx:Nx (aP+1) E)(u1:aP<(lA:Int):=by omega)(u2:¬10<aP:=by omega)(u3:Ix aP lA:=by omega)(u4:¬14<(lE:Int):=by omega)(u5:I6 (aP+1):=by omega):zHN BA aP E Nx Qr Q0 :=
 eO 0 (aP+1) [.g2,.l h1,.g,.b (zT u1),.g,.b (zY u2),.g2,.l h1,.g,.i u3,.l h2,.g,.b (zY u4),.g2,.w u5,.g] nx
theorem xGO(h1:LDz E 24 (qe BA 8) (.slice qA lA cA))(nx:Q0 E)(u1:¬aP<(lA:Int):=by omega):zHN BA aP E Nx Qr Q0 :=
 eO 2 () [.g2,.l h1,.g,.b (zY u1)] nx
theorem xRI(hL:yMS E.j 0 (E.row (dnc d_L d_b ax az d_k aI aK) 10) Pr P0)(kr:∀t2_1' E',Pr t2_1' E'->yAJ E.j t2_1' E' Q)(k0:∀E',P0 E'->zGD E.j E' Q):zQ tP 4 [qf (dnc d_L d_b ax az d_k aI aK)] E Q :=
 eQ [.g3,.k (.lf 37 (zHM E.j 0) [zMT E.j Pr,zMU E.j P0])] (ai (ai tt (ai (arf (zHM E.j 0)) hL)) (ai (kz1 kr) (ai (kz0 k0) trivial)))
theorem yRC(nx:Q (.bool fZ) E):yAJ BA fZ E Q :=
 eK [] nx
theorem yRF(h1:LDz E 24 (qe BA 8) (.slice qO lW cP))(h2:LDz E 25 (qe BA 9) (.slice qM lT cL))(h3:CPz 21 [.slice qM lT cL] E (.bool bC))(nx:Q (.bool bC) E)(u1:(lW:Int)<=10:=by omega)(u2:(lT:Int)<=8:=by omega):zGD BA E Q :=
 eK [.g,.l h1,.g,.b (xV u1),.g2,.l h2,.g,.b (xV u2),.g3,.l h2,.c h3,.g2] nx
theorem yRE(h1:LDz E 24 (qe BA 8) (.slice qO lW cP))(h2:LDz E 25 (qe BA 9) (.slice qM lT cL))(nx:Q (.bool false) E)(u1:(lW:Int)<=10:=by omega)(u2:¬(lT:Int)<=8:=by omega):zGD BA E Q :=
 eK [.g,.l h1,.g,.b (xV u1),.g2,.l h2,.g,.b (xX u2),.g4] nx
theorem yRD(h1:LDz E 24 (qe BA 8) (.slice qO lW cP))(nx:Q (.bool false) E)(u1:¬(lW:Int)<=10:=by omega):zGD BA E Q :=
 eK [.g,.l h1,.g,.b (xX u1),.g5] nx
theorem yFN(hb:∀k bJ E,Inv k bJ E->zGF l l_l l_c BA bJ E (NX1 Inv k) Qr Q0):∀k bJ E,Inv k bJ E->yAS l l_l l_c BA bJ E Qr Q0 :=
 xE (ai wX (ai (wF 0) trivial)) hb
theorem yRX:let y0:=dnc L1502 dB_b dB_bl dB_bc dB_k dB_kl dB_kc;∀(h1:LDz E 3 (zO l_a (Int.toNat bJ*1)) (iV nH)) (h2:LDz E 27 (qe BA 0) (qf y0)) (h3:CPz 6 [qf y0] E (iV nE)) (h4:CPz 22 [iV nH,iV 0,iV (nE-1)] E (.bool true)) (h5:LDz E 3 (zO l_a (Int.toNat (bJ-1)*1)) (iV nB)) (h6:zL E.j [qf y0]) (nx:Nx (bJ+1) E) (u1:bJ<(l_l:Int):=by omega) (u2:Ix bJ l_l:=by omega) (u3:I6 (nE-1):=by omega) (u4:0<bJ:=by omega) (u5:I6 (bJ-1):=by omega) (u6:Ix (bJ-1) l_l:=by omega) (u7:¬nH<=nB:=by omega) (u8:I6 (bJ+1):=by omega) (dX:l_a.block<E.j:=by omega) (b_BA:BA<E.j:=by omega),zGF (some l_a) l_l l_c BA bJ E Nx Qr Q0 :=
 let s1:=zO l_a (Int.toNat bJ*1);λh1 h2 h3 h4 h5 h6 nx u1 u2 u3 u4 u5 u6 u7 u8 dX b_BA=>eO 0 (bJ+1) [.g3,.b (zT u1),.g2,.i u2,.l h1,.l h2,.c h3,.w u3,.c h4,.g3,.b (zT u4),.g3,.i u2,.l h1,.g2,.w u5,.i u6,.l h5,.b (xX u7),.g3,.p ((zI (zR dX) zM):zL E.j [pz s1]),.p ((zI (zR b_BA) zM):zL E.j [pq BA 0]),.p h6,.p ((zI (zR dX) zM):zL E.j [pz s1]),.p ((zI (zR dX) zM):zL E.j [pz (zO l_a (Int.toNat (bJ-1)*1))]),.p (⟨⟨dX,rfl⟩,h1⟩:(zLq E 3 s1 (iV nH))),.p (⟨⟨dX,rfl⟩,h1⟩:(zLq E 3 s1 (iV nH))),.w u8,.g] nx
theorem yRW:let y0:=dnc L1502 dB_b dB_bl dB_bc dB_k dB_kl dB_kc;∀(h1:LDz E 3 (zO l_a (Int.toNat bJ*1)) (iV nH)) (h2:LDz E 27 (qe BA 0) (qf y0)) (h3:CPz 6 [qf y0] E (iV nE)) (h4:CPz 22 [iV nH,iV 0,iV (nE-1)] E (.bool true)) (h5:zL E.j [qf y0]) (nx:Nx (bJ+1) E) (u1:bJ<(l_l:Int):=by omega) (u2:Ix bJ l_l:=by omega) (u3:I6 (nE-1):=by omega) (u4:¬0<bJ:=by omega) (u5:I6 (bJ+1):=by omega) (dX:l_a.block<E.j:=by omega) (b_BA:BA<E.j:=by omega),zGF (some l_a) l_l l_c BA bJ E Nx Qr Q0 :=
 let s1:=zO l_a (Int.toNat bJ*1);λh1 h2 h3 h4 h5 nx u1 u2 u3 u4 u5 dX b_BA=>eO 0 (bJ+1) [.g3,.b (zT u1),.g2,.i u2,.l h1,.l h2,.c h3,.w u3,.c h4,.g3,.b (zY u4),.g4,.p ((zI (zR dX) zM):zL E.j [pz s1]),.p ((zI (zR b_BA) zM):zL E.j [pq BA 0]),.p h5,.p (⟨⟨dX,rfl⟩,h1⟩:(zLq E 3 s1 (iV nH))),.p (⟨⟨dX,rfl⟩,h1⟩:(zLq E 3 s1 (iV nH))),.w u5,.g] nx
theorem yRV(nx:Q0 E)(u1:¬bJ<(l_l:Int):=by omega):zGF l l_l l_c BA bJ E Nx Qr Q0 :=
 eO 2 () [.g3,.b (zY u1)] nx
theorem yYV(hL:yAS l l_l l_c E.j 0 (E.row (dnc d_L d_b ax az d_k aI aK) 10) Pr P0)(kr:∀t4_1' E',Pr t4_1' E'->yKS l l_l l_c E.j t4_1' E' Q)(k0:∀E',P0 E'->zRB l l_l l_c E.j E' Q):zQ tP 13 [qf (dnc d_L d_b ax az d_k aI aK),.slice l l_l l_c] E Q :=
 eQ [.g3,.k (.lf 40 (zDL l l_l l_c E.j 0) [zGU l l_l l_c E.j Pr,zGV l l_l l_c E.j P0])] (ai (ai tt (ai (arf (zDL l l_l l_c E.j 0)) hL)) (ai (kz1 kr) (ai (kz0 k0) trivial)))
theorem yFM(nx:Q (.bool true) E)(u1:0<(l_l:Int):=by omega):zRB l l_l l_c BA E Q :=
 eK [.g2,.b (zT u1),.g] nx
theorem xAD{Inv:Nat->Int->Int->St->Prop}{Q0:Int->Int->St->Prop}(hb:∀k dB aT E,Inv k dB aT E->yGF BA dB aT E (NX2 Inv k) Q0):∀k dB aT E,Inv k dB aT E->xAF BA dB aT E Q0 :=
 zFM (ai (wF 0) trivial) hb
theorem xSE{Nx:Int->Int->St->Prop}{Q0:Int->Int->St->Prop}(h1:LDz E 24 (qe BA 8) (.slice (some dU) lA cA))(h2:LDz E 59 (zO dU (Int.toNat aT*1)) (.slice qC lE cD))(nx:Nx (dB-((lE:Int)-1)) (aT+1) E)(u1:Ix aT lA:=by omega)(u2:I6 ((lE:Int)-1):=by omega)(u3:((lE:Int)-1)<=dB:=by omega)(u4:I6 (dB-((lE:Int)-1)):=by omega)(u5:I6 (aT+1):=by omega):yGF BA dB aT E Nx Q0 :=
 eO 0 ((dB-((lE:Int)-1)),aT+1) [.g2,.l h1,.g,.i u1,.l h2,.g,.w u2,.b (xV u3),.g2,.l h1,.g,.i u1,.l h2,.g,.w u2,.w u4,.g2,.w u5,.g] nx
theorem xSD{Nx:Int->Int->St->Prop}{Q0:Int->Int->St->Prop}(h1:LDz E 24 (qe BA 8) (.slice (some dU) lA cA))(h2:LDz E 59 (zO dU (Int.toNat aT*1)) (.slice qC lE cD))(nx:Q0 dB aT E)(u1:Ix aT lA:=by omega)(u2:I6 ((lE:Int)-1):=by omega)(u3:¬((lE:Int)-1)<=dB:=by omega):yGF BA dB aT E Nx Q0 :=
 eO 1 (dB,aT) [.g2,.l h1,.g,.i u1,.l h2,.g,.w u2,.b (xX u3)] nx
theorem xXR{P0:Int->Int->St->Prop}(hL:xAF E.j segment 0 (E.row (dnc d_L d_b ax az d_k aI aK) 10) P0)(k0:∀i1_1' i6_1' E',P0 i1_1' i6_1' E'->yGE E.j i1_1' i6_1' E' Q):zQ tP 32 [qf (dnc d_L d_b ax az d_k aI aK),iV segment] E Q :=
 eQ [.g4,.k (.lf 29 (zNF E.j segment 0) [zSM E.j P0])] (ai (ai tt (ai (arf (zNF E.j segment 0)) hL)) (ai (kz2 k0) trivial))
theorem xAC(nx:Q (.tuple ⟨[iV aT,iV dB]⟩) E):yGE BA dB aT E Q :=
 eK [.g4] nx
theorem xHO:let Y1:=E.row (dnc d_L d_b ax az d_k aI aK) 10;let Y2:=Y1.row (pdL a_1) 4;let Y3:=Y2.row (pdL b) 4;∀(h1:CPz 15 [qf (dnc d_L d_b ax az d_k aI aK),iV a_1.b,iV a_1.f] Y3 (iV n1)) (h2:CPz 15 [qf (dnc d_L d_b ax az d_k aI aK),iV b.b,iV b.f] Y3 (iV n2)) (h3:zL Y3.j [qf (dnc d_L d_b ax az d_k aI aK),iV a_1.b,iV a_1.f]) (h4:zL Y3.j [qf (dnc d_L d_b ax az d_k aI aK),iV b.b,iV b.f]) (nx:Q (.bool true) Y3) (u1:¬n1=n2:=by omega) (u2:n1<n2:=by omega),zQ tP 33 [qf (dnc d_L d_b ax az d_k aI aK),qf (pdL a_1),qf (pdL b)] E Q:=
 λh1 h2 h3 h4 nx u1 u2=>let ch1:List Bs:=[.r (pdL b) 4,.r (pdL a_1) 4,.r (dnc d_L d_b ax az d_k aI aK) 10];eQ [.g4,.F E ch1 0 0 wL xM,.g,.f E ch1 1 0 zU,.g,.f E ch1 1 1 zU,.c h1,.F E ch1 0 0 wL xM,.g,.f E ch1 2 0 zU,.g,.f E ch1 2 1 zU,.c h2,.g4,.q E ch1 0 0,.q E ch1 1 0,.q E ch1 1 1,.p h3,.q E ch1 0 0,.q E ch1 2 0,.q E ch1 2 1,.p h4,.U4 E ch1 0 0 wL xM,.U4 E ch1 0 0 wL xM,.u E ch1 2 0 zU,.u E ch1 2 0 zU,.u E ch1 2 1 zU,.u E ch1 2 1 zU,.b (uA u1),.g2,.b (zT u2),.g] nx
theorem xHN:let Y1:=E.row (dnc d_L d_b ax az d_k aI aK) 10;let Y2:=Y1.row (pdL a_1) 4;let Y3:=Y2.row (pdL b) 4;∀(h1:CPz 15 [qf (dnc d_L d_b ax az d_k aI aK),iV a_1.b,iV a_1.f] Y3 (iV n1)) (h2:CPz 15 [qf (dnc d_L d_b ax az d_k aI aK),iV b.b,iV b.f] Y3 (iV n2)) (h3:zL Y3.j [qf (dnc d_L d_b ax az d_k aI aK),iV a_1.b,iV a_1.f]) (h4:zL Y3.j [qf (dnc d_L d_b ax az d_k aI aK),iV b.b,iV b.f]) (nx:Q (.bool false) Y3) (u1:¬n1=n2:=by omega) (u2:¬n1<n2:=by omega),zQ tP 33 [qf (dnc d_L d_b ax az d_k aI aK),qf (pdL a_1),qf (pdL b)] E Q:=
 λh1 h2 h3 h4 nx u1 u2=>let ch1:List Bs:=[.r (pdL b) 4,.r (pdL a_1) 4,.r (dnc d_L d_b ax az d_k aI aK) 10];eQ [.g4,.F E ch1 0 0 wL xM,.g,.f E ch1 1 0 zU,.g,.f E ch1 1 1 zU,.c h1,.F E ch1 0 0 wL xM,.g,.f E ch1 2 0 zU,.g,.f E ch1 2 1 zU,.c h2,.g4,.q E ch1 0 0,.q E ch1 1 0,.q E ch1 1 1,.p h3,.q E ch1 0 0,.q E ch1 2 0,.q E ch1 2 1,.p h4,.U4 E ch1 0 0 wL xM,.U4 E ch1 0 0 wL xM,.u E ch1 2 0 zU,.u E ch1 2 0 zU,.u E ch1 2 1 zU,.u E ch1 2 1 zU,.b (uA u1),.g2,.b (zY u2),.g] nx
theorem xHM:let Y1:=E.row (dnc d_L d_b ax az d_k aI aK) 10;let Y2:=Y1.row (pdL a_1) 4;let Y3:=Y2.row (pdL b) 4;∀(h1:CPz 15 [qf (dnc d_L d_b ax az d_k aI aK),iV a_1.b,iV a_1.f] Y3 (iV n1)) (h2:CPz 15 [qf (dnc d_L d_b ax az d_k aI aK),iV b.b,iV b.f] Y3 (iV n2)) (h3:zL Y3.j [qf (dnc d_L d_b ax az d_k aI aK),iV a_1.b,iV a_1.f]) (h4:zL Y3.j [qf (dnc d_L d_b ax az d_k aI aK),iV b.b,iV b.f]) (nx:Q (.bool true) Y3) (u1:n1=n2:=by omega) (u2:a_1.n<b.n:=by omega),zQ tP 33 [qf (dnc d_L d_b ax az d_k aI aK),qf (pdL a_1),qf (pdL b)] E Q:=
 λh1 h2 h3 h4 nx u1 u2=>let ch1:List Bs:=[.r (pdL b) 4,.r (pdL a_1) 4,.r (dnc d_L d_b ax az d_k aI aK) 10];eQ [.g4,.F E ch1 0 0 wL xM,.g,.f E ch1 1 0 zU,.g,.f E ch1 1 1 zU,.c h1,.F E ch1 0 0 wL xM,.g,.f E ch1 2 0 zU,.g,.f E ch1 2 1 zU,.c h2,.g4,.q E ch1 0 0,.q E ch1 1 0,.q E ch1 1 1,.p h3,.q E ch1 0 0,.q E ch1 2 0,.q E ch1 2 1,.p h4,.U4 E ch1 0 0 wL xM,.U4 E ch1 0 0 wL xM,.u E ch1 2 0 zU,.u E ch1 2 0 zU,.u E ch1 2 1 zU,.u E ch1 2 1 zU,.b (yY u1),.g,.f E ch1 1 3 zU,.g,.f E ch1 2 3 zU,.b (zT u2),.g] nx
theorem xHL:let Y1:=E.row (dnc d_L d_b ax az d_k aI aK) 10;let Y2:=Y1.row (pdL a_1) 4;let Y3:=Y2.row (pdL b) 4;∀(h1:CPz 15 [qf (dnc d_L d_b ax az d_k aI aK),iV a_1.b,iV a_1.f] Y3 (iV n1)) (h2:CPz 15 [qf (dnc d_L d_b ax az d_k aI aK),iV b.b,iV b.f] Y3 (iV n2)) (h3:zL Y3.j [qf (dnc d_L d_b ax az d_k aI aK),iV a_1.b,iV a_1.f]) (h4:zL Y3.j [qf (dnc d_L d_b ax az d_k aI aK),iV b.b,iV b.f]) (nx:Q (.bool false) Y3) (u1:n1=n2:=by omega) (u2:¬a_1.n<b.n:=by omega),zQ tP 33 [qf (dnc d_L d_b ax az d_k aI aK),qf (pdL a_1),qf (pdL b)] E Q:=
 λh1 h2 h3 h4 nx u1 u2=>let ch1:List Bs:=[.r (pdL b) 4,.r (pdL a_1) 4,.r (dnc d_L d_b ax az d_k aI aK) 10];eQ [.g4,.F E ch1 0 0 wL xM,.g,.f E ch1 1 0 zU,.g,.f E ch1 1 1 zU,.c h1,.F E ch1 0 0 wL xM,.g,.f E ch1 2 0 zU,.g,.f E ch1 2 1 zU,.c h2,.g4,.q E ch1 0 0,.q E ch1 1 0,.q E ch1 1 1,.p h3,.q E ch1 0 0,.q E ch1 2 0,.q E ch1 2 1,.p h4,.U4 E ch1 0 0 wL xM,.U4 E ch1 0 0 wL xM,.u E ch1 2 0 zU,.u E ch1 2 0 zU,.u E ch1 2 1 zU,.u E ch1 2 1 zU,.b (yY u1),.g,.f E ch1 1 3 zU,.g,.f E ch1 2 3 zU,.b (zY u2),.g] nx
theorem yQW{Inv:Nat->(Option Addr)->Nat->Nat->Int->St->Prop}{Q0:(Option Addr)->Nat->Nat->St->Prop}(hb:∀k f8 f9 gi bf E,Inv k f8 f9 gi bf E->zXT l l_l l_c f8 f9 gi bf E (NX4 Inv k) Q0):∀k f8 f9 gi bf E,Inv k f8 f9 gi bf E->yML l l_l l_c f8 f9 gi bf E Q0 :=
 zKS (ai (wF 0) trivial) hb
theorem xFZ{Nx:(Option Addr)->Nat->Nat->Int->St->Prop}{Q0:(Option Addr)->Nat->Nat->St->Prop}(h1:LDz E 48 (zO l_a (Int.toNat bf*1)) (.slice qA lA cA))(h2:CAz 61 [.slice qA lA cA] E (.slice qC lE cD) EL)(h3:APz 25 25 (.slice f8 f9 gi) (.slice (some (qe EL.j 0)) 1 1) (EL.row [.slice qC lE cD] 1) (.slice qL lR cO) EYB)(nx:Nx qL lR cO (bf+1) EYB)(u1:bf<(l_l:Int):=by omega)(u2:Ix bf l_l:=by omega)(u3:I6 (bf+1):=by omega):zXT (some l_a) l_l l_c f8 f9 gi bf E Nx Q0 :=
 eO 0 (qL,lR,cO,bf+1) [.g3,.b (zT u1),.g3,.i u2,.l h1,.c h2,.g,.e h3,.g2,.w u3,.g] nx
theorem xFY{Nx:(Option Addr)->Nat->Nat->Int->St->Prop}{Q0:(Option Addr)->Nat->Nat->St->Prop}(nx:Q0 f8 f9 gi E)(u1:¬bf<(l_l:Int):=by omega):zXT l l_l l_c f8 f9 gi bf E Nx Q0 :=
 eO 1 (f8,f9,gi) [.g3,.b (zY u1)] nx
theorem xRE{P0:(Option Addr)->Nat->Nat->St->Prop}(hL:yML l l_l l_c none 0 0 0 E P0)(k0:∀p3_1' l3_1' c3_1' E',P0 p3_1' l3_1' c3_1' E'->yAB l l_l l_c p3_1' l3_1' c3_1' E' Q):zQ tP 31 [.slice l l_l l_c] E Q :=
 eQ [.g3,.k (.lf 20 (zHJ l l_l l_c none 0 0 0) [zMP l l_l l_c P0])] (ai (ai tt (ai (arf (zHJ l l_l l_c none 0 0 0)) hL)) (ai (kz3 k0) trivial))
theorem yQV(nx:Q (.slice f8 f9 gi) E):yAB l l_l l_c f8 f9 gi E Q :=
 eK [.g2] nx
theorem xRH(h1:APz 48 48 (.slice (some (qe E.j 0)) 0 0) (.slice l l_l l_c) (E.row [] 1) (.slice q2 l2 c2) E1)(nx:Q (.slice q2 l2 c2) E1):zQ tP 61 [.slice l l_l l_c] E Q :=
 eQ [.g3,.e h1,.g] nx
end
abbrev rlV(r:Rl):Value:=.agg ⟨rlL r⟩
def zDR{U:Type}(E:St)(ts te n:Nat)(f:U->Value)(p:Option Addr)(l:Nat)(R:List (List U)):Prop :=
 ∃vs:List Value,SlV tP E ts 1 p l vs/\R.length=l/\∀(i:Nat) r,R[i]?=some r->∃q c,vs[i]?=some (.slice q r.length c)/\SlV tP E te n q r.length (r.map f)
abbrev wLI(E:St)(ts te:Nat)(p:Option Addr)(l:Nat)(B:List (List Rl)):Prop:=zDR E ts te 3 rlV p l B
abbrev zIP(E:St)(p:Option Addr)(l:Nat)(K:List (List Int)):Prop:=zDR E 48 3 1 yK p l K
structure DnP(E:St)(ts te:Nat)(b:Option Addr)(bl:Nat)(k:Option Addr)(kl:Nat)(B:List (List Rl))(K:List (List Int)):Prop where
 bs:wLI E ts te b bl B
 ks:zIP E k kl K
def yZ(B:List (List Rl)):Nat:=(B.map λx=>x.length-1).sum
section
variable{E E':St}{U:Type}{f:U->Value}{ts te n l i bl bc kl kc:Nat}{p b k:Option Addr}{R:List (List U)}{B:List (List Rl)}{K:List (List Int)}{L:Lw}
theorem zDR.le(h:zDR E ts te n f p l R)(k:Le E E'):zDR E' ts te n f p l R:=by
 obtain⟨vs,h1,h2,h3⟩:=h;exact⟨vs,h1.le k,h2,λi r hi=>by obtain⟨q,c,g1,g2⟩:=h3 i r hi;exact⟨q,c,g1,g2.le k⟩⟩
theorem zDR.len(h:zDR E ts te n f p l R):R.length=l:=by obtain⟨_,_,h,_⟩:=h;exact h
theorem zDR.at(h:zDR E ts te n f p l R)(hi:i<l):∃a,p=some a/\∃r q c,R[i]?=some r/\zJ tP E ts (zO a (Int.toNat (i:Int)*1))=some (.slice q r.length c)/\SlV tP E te n q r.length (r.map f):=by
 obtain⟨vs,h1,h2,h3⟩:=h;have hx:R[i]?=some R[i]:=by simp
 obtain⟨q,c,g1,g2⟩:=h3 i _ hx;obtain⟨a,rfl,_⟩:=h1.some hi;exact⟨a,rfl,_,q,c,hx,h1.at rfl g1,g2⟩
theorem DnP.le(h:DnP E ts te b bl k kl B K)(k':Le E E'):DnP E' ts te b bl k kl B K:=⟨h.bs.le k',h.ks.le k'⟩
theorem wPO{n lo hi:Int}:zW tP 22 [iV n,iV lo,iV hi] E (.bool (inB n lo hi)) E:=by
 by_cases h1:lo<=n <;> by_cases h2:n<=hi
 .exact(wFX ⟨by simp[inB,h1,h2],Nat.le_refl _⟩).pure
 .exact(wFW ⟨by simp[inB,h1,h2],Nat.le_refl _⟩).pure
 .exact(xMV ⟨by simp[inB,h1],Nat.le_refl _⟩).pure
 .exact(xMV ⟨by simp[inB,h1],Nat.le_refl _⟩).pure
theorem zAU{n lo hi:Int}{b:Bool}(h:inB n lo hi=b):zW tP 22 [iV n,iV lo,iV hi] E (.bool b) E:=h ▸ wPO
structure Bx(O:St)(o:Nat)(L:Lw)(b:Option Addr)(bl bc:Nat)(k:Option Addr)(kl kc:Nat):Prop where
 own:Own O o (dnc L b bl bc k kl kc) 10
theorem Bx.new:Bx (E.row (dnc L b bl bc k kl kc) 10) E.j L b bl bc k kl kc:=⟨zX _ _ _⟩
section
variable{o:Nat}(h:Bx E o L b bl bc k kl kc)
include h
theorem Bx.le(g:Le E E'):Bx E' o L b bl bc k kl kc:=⟨h.own.le g⟩
theorem Bx.bs:zJ tP E 24 ⟨o,8,none⟩=some (.slice b bl bc):=h.own.ld rfl yJM rfl
theorem Bx.ks:zJ tP E 25 ⟨o,9,none⟩=some (.slice k kl kc):=h.own.ld rfl zPF rfl
end
theorem zFE{xs:List Nat}{i x:Nat}(h:xs[i]?=some x):(xs.take (i+1)).sum=(xs.take i).sum+x:=by rw[wE h,List.sum_append];simp
theorem yUP(h:DnP E ts te b bl k kl B K)(ht:ts=59)(hl:bl<=100)(hb:∀x∈B,x.length<=1000):zW tP 6 [.agg ⟨dnc L b bl bc k kl kc⟩] E (iV (yZ B)) E:=by
 subst ht;obtain⟨s1,hs⟩:∃s1,s1=E.re.row (dnc L b bl bc k kl kc) 10:=⟨_,rfl⟩;have N1:New E.re s1:=by rw[hs];exact New.row _ _ _
 have x1:Bx s1 E.j L b bl bc k kl kc:=by rw[hs];exact Bx.new
 have h1:=(h.le (le0 E)).le N1.le;have hB:B.length=bl:=h.bs.len;have bound:∀j,j<=bl->((B.map λx=>x.length-1).take j).sum<=1000*j:=by
  intro j;induction j with
  |zero=>simp
  |succ j ih =>
   intro hj;have hx:(B.map λx=>x.length-1)[j]?=some (B[j].length-1):=by rw[List.getElem?_map,List.getElem?_eq_getElem (by omega)];rfl
   rw[zFE hx];have:=hb B[j] (List.getElem_mem _);have:=ih (by omega);omega
 refine(xRJ (yRI (Inv:=λk' n i O=>O=s1/\∃j:Nat,i=j/\j+k'=bl/\n=(((B.map λx=>x.length-1).take j).sum:Nat)) (Q0:=λn O=>O=s1/\n=(yZ B:Nat)) ?_ bl 0 0 _ ⟨hs.symm,0,rfl,by omega,rfl⟩) ?_).pure
 .rintro k' n i O ⟨rfl,j,rfl,hk,rfl⟩;by_cases hj:j<bl;rotate_left
  .refine xGT x1.bs ⟨rfl, ?_⟩;rw[List.take_of_length_le (by simp;omega)];rfl
  obtain⟨a,rfl,r,q,c,hr,ld,_⟩:=h1.bs.at hj;have hx:(B.map λx=>x.length-1)[j]?=some (r.length-1):=by simp[hr]
  have h2:=zFE hx;have h3:=bound j (by omega);have h4:=hb r (List.mem_of_getElem? hr);exact xGU x1.bs ld zWH ⟨k' - 1,by omega,rfl,j+1,by omega,by omega,by rw[h2];omega⟩
 .rintro n O ⟨rfl,rfl⟩;exact yRH ⟨rfl,N1.lw⟩
def zSR(K:List (List Int)):Bool:=K.all (λr=>decide (r.length<=14))&&decide (K.length<=12)
theorem wCW(h:zIP E k kl K):∃v,zW tP 21 [.slice k kl kc] E (.bool v) E/\(v=true->kl<=12/\∀r∈K,r.length<=14):=by
 have h1:=zDR.le h (le0 E);have hK:K.length=kl:=zDR.len h;refine⟨zSR K, ?_,λe=>by unfold zSR at e;rw[Bool.and_eq_true,List.all_eq_true]at e;exact⟨by have:=of_decide_eq_true e.2;omega,λr hr=>of_decide_eq_true (e.1 r hr)⟩⟩
 refine(xFX (yKI (Inv:=λk' i O=>O=E.re/\∃j:Nat,i=j/\j+k'=kl/\j<=13/\(K.take j).all (λr=>decide (r.length<=14))=true) (Qr:=λv O=>O=E.re/\v=false/\zSR K=false) (Q0:=λO=>O=E.re/\K.all (λr=>decide (r.length<=14))=true) ?_ kl 0 _ ⟨rfl,0,rfl,by omega,by omega,rfl⟩) ?_ ?_).pure
 .rintro k' i O ⟨rfl,j,rfl,hk,h13,ha⟩;by_cases hj:j<kl;rotate_left
  .refine yYA ⟨rfl, ?_⟩;rw[List.take_of_length_le (by omega)]at ha;exact ha
  by_cases h12:j<=12;rotate_left
  .exact yYD ⟨rfl,rfl,by unfold zSR;rw[show decide (K.length<=12)=false from by simp;omega,Bool.and_false]⟩
  obtain⟨a,rfl,r,q,c,hr,ld,_⟩:=h1.at hj;by_cases h14:r.length<=14
  .exact yYB ld ⟨k' - 1,by omega,rfl,j+1,by omega,by omega,by omega,zPC hr ha (by simp[h14])⟩
  .refine yYC ld ⟨rfl,rfl, ?_⟩;unfold zSR;rw[yVH (List.mem_of_getElem? hr) (by simp;omega)];rfl
 .rintro v O ⟨rfl,rfl,e⟩;exact yKF ⟨by rw[e],Nat.le_refl _⟩
 .rintro O ⟨rfl,e⟩;by_cases h12:kl<=12
  .exact yKH ⟨by unfold zSR;rw[e];simp;omega,Nat.le_refl _⟩
  .exact yKG ⟨by unfold zSR;rw[e];simp;omega,Nat.le_refl _⟩
theorem wIR(h:DnP E 59 58 b bl k kl B K):∃v,zW tP 4 [.agg ⟨dnc L b bl bc k kl kc⟩] E (.bool v) E/\(v=true->bl<=10/\kl<=8/\(∀r∈B,r.length<=14)/\∀r∈K,r.length<=14):=by
 obtain⟨s1,hs⟩:∃s1,s1=E.re.row (dnc L b bl bc k kl kc) 10:=⟨_,rfl⟩;have N1:New E.re s1:=by rw[hs];exact New.row _ _ _
 have x1:Bx s1 E.j L b bl bc k kl kc:=by rw[hs];exact Bx.new
 have h1:=(h.le (le0 E)).le N1.le;have hB:B.length=bl:=h.bs.len;obtain⟨u,cu,hu⟩:=wCW (kc:=kc) h1.ks;suffices hm:zQ tP 4 [.agg ⟨dnc L b bl bc k kl kc⟩] E.re λv s=>∃v',v=.bool v'/\E.j<=s.low/\(v'=true->bl<=10/\kl<=8/\(∀r∈B,r.length<=14)/\∀r∈K,r.length<=14) by
  obtain⟨v,s,g1,v',rfl,g2,g3⟩:=hm;exact⟨v',zQ.pure ⟨_,s,g1,rfl,g2⟩,g3⟩
 refine xRI (yRG (Inv:=λk' i O=>O=s1/\∃j:Nat,i=j/\j+k'=bl/\j<=11/\(B.take j).all (λr=>decide (r.length<=14))=true) (Qr:=λv O=>O=s1/\v=false) (Q0:=λO=>O=s1/\B.all (λr=>decide (r.length<=14))=true) ?_ bl 0 _ ⟨hs.symm,0,rfl,by omega,by omega,rfl⟩) ?_ ?_
 .rintro k' i O ⟨rfl,j,rfl,hk,h13,ha⟩;by_cases hj:j<bl;rotate_left
  .refine xGO x1.bs ⟨rfl, ?_⟩;rw[List.take_of_length_le (by omega)]at ha;exact ha
  by_cases h12:j<=10;rotate_left
  .exact xGR x1.bs ⟨rfl,rfl⟩
  obtain⟨a,rfl,r,q,c,hr,ld,_⟩:=h1.bs.at hj;by_cases h14:r.length<=14
  .exact xGP x1.bs ld ⟨k' - 1,by omega,rfl,j+1,by omega,by omega,by omega,zPC hr ha (by simp[h14])⟩
  .exact xGQ x1.bs ld ⟨rfl,rfl⟩
 .rintro v O ⟨rfl,rfl⟩;exact yRC ⟨_,rfl,N1.lw,λe=>by cases e⟩
 .rintro O ⟨rfl,e⟩;by_cases h10:bl<=10;rotate_left
  .exact yRD x1.bs ⟨_,rfl,N1.lw,λe=>by cases e⟩
  by_cases h8:kl<=8
  .exact yRF x1.bs x1.ks cu ⟨_,rfl,N1.lw,λe'=>⟨h10,h8,λr hr=>of_decide_eq_true (List.all_eq_true.1 e r hr),(hu e').2⟩⟩
  .exact yRE x1.bs x1.ks ⟨_,rfl,N1.lw,λe=>by cases e⟩
end
section
noncomputable section
variable(x:Int)(bY s dI:oAa)(q2:(Option Addr)->Nat->Nat->St->Prop)(q0:(Option Addr)->Nat->Nat->Int->St->Prop)(bj s_l dJ bI s_c dL:Nat)(q3:Int->Int->St->Prop)(bk:Int)(f:FuncId)(f_c:lVa)(q4:Int->St->Prop)(q7:St->Prop)(bf ar:Int)(E:St)(Nx:(Option Addr)->Nat->Nat->Int->St->Prop)(Q:vPa)(q8 Qr:Int->St->Prop)(q5:Int->Int->St->Prop)(Q0:(Option Addr)->Nat->Nat->St->Prop)(q9:St->Prop)(q6:Int->St->Prop)
def yMP:Code:=(Code.part [1,0,1,0,0] (zV tP 30))
def zHL:lNa:=[(0,.int .u16 x),(2,.slice dI dJ dL),(4,iV bf)]
def xGI:Alt:=⟨(Option Addr)×Nat×Nat×Int,.normal,λt=>zHL x t.1 t.2.1 t.2.2.1 t.2.2.2,λt=>[],λt E=>q0 t.1 t.2.1 t.2.2.1 t.2.2.2 E⟩
def yAE(x:Int)(dI:oAa)(dJ dL:Nat):lNa:=[(2,.slice dI dJ dL)]
def zMR:Alt:=⟨(Option Addr)×Nat×Nat,(.exit 0),λt=>yAE x t.1 t.2.1 t.2.2,λt=>[],λt E=>q2 t.1 t.2.1 t.2.2 E⟩
def zPO:Prop:=yT tP (zZ tP) none yMP 16 (zHL x dI dJ dL bf) [] [xGI x Nx,zMR x Q0] E
def yMQ:Prop:=yW tP (zZ tP) none yMP 16 (zHL x dI dJ dL bf) [] [zMR x Q0] E
def yAF:Prop:=kZ (zZ tP) (zV tP 30) [1,0,1,0] (kFn tP 30 Q) (.exit 0) 16 (yAE x dI dJ dL) E
def yMM:Code:=(Code.part [1,0,1,0,0] (zV tP 38))
def zHK:lNa:=[(2,iV bk),(6,.slice bY bj bI),(7,iV (bj:Int)),(8,iV ar)]
def xGD:Alt:=⟨Int×Int,.normal,λt=>zHK bY bj bI t.1 t.2,λt=>[],λt E=>q3 t.1 t.2 E⟩
def yAC(bY:oAa)(bj bI:Nat)(bk:Int):lNa:=[(2,iV bk)]
def zMQ:Alt:=⟨Int,(.exit 0),λt=>yAC bY bj bI t,λt=>[],λt E=>q4 t E⟩
def zXU:Prop:=yT tP (zZ tP) none yMM 17 (zHK bY bj bI bk ar) [] [xGD bY bj bI q5,zMQ bY bj bI q6] E
def yMN:Prop:=yW tP (zZ tP) none yMM 17 (zHK bY bj bI bk ar) [] [zMQ bY bj bI q6] E
def yAD:Prop:=kZ (zZ tP) (zV tP 38) [1,0,1,0] (kFn tP 38 Q) (.exit 0) 17 (yAC bY bj bI bk) E
def yXJ:Code:=(Code.part [1,0,1,0,0] (zV tP 133))
def zMM:lNa:=[(0,.slice s s_l s_c),(1,.func (.func f) ⟨[]⟩ ⟨f_c⟩),(7,iV (s_l:Int)),(8,iV ar)]
def xQR:Alt:=⟨Int,.normal,λt=>zMM s s_l s_c f f_c t,λt=>[],λt E=>q4 t E⟩
def yEK(s:oAa)(s_l s_c:Nat)(f:FuncId)(f_c:lVa)(bf:Int):lNa:=[(4,iV bf)]
def zSD:Alt:=⟨Int,.ret,λt=>yEK s s_l s_c f f_c t,λt=>[],λt E=>q4 t E⟩
def yEL(s:oAa)(s_l s_c:Nat)(f:FuncId)(f_c:lVa):lNa:=[]
def zSE:Alt:=⟨Unit,(.exit 0),λt=>yEL s s_l s_c f f_c,λt=>[],λt E=>q7 E⟩
def zTX:Prop:=yT tP (zZ tP) none yXJ 19 (zMM s s_l s_c f f_c ar) [] [xQR s s_l s_c f f_c q8,zSD s s_l s_c f f_c Qr,zSE s s_l s_c f f_c q9] E
def yXK:Prop:=yW tP (zZ tP) none yXJ 19 (zMM s s_l s_c f f_c ar) [] [zSD s s_l s_c f f_c Qr,zSE s s_l s_c f f_c q9] E
def yEM:Prop:=kZ (zZ tP) (zV tP 133) [1,0,1,0] (kFn tP 133 Q) .ret 19 (yEK s s_l s_c f f_c bf) E
def yEN:Prop:=kZ (zZ tP) (zV tP 133) [1,0,1,0] (kFn tP 133 Q) (.exit 0) 19 (yEL s s_l s_c f f_c) E
end
variable{n low high x n1 dD gn dC gm z1 n2 n3 z2 z4 bf bX eU n4 bk ar nH w_spread:Int}{E EM ik:St}{Q:vPa}{b1 b3:Bool}{v0 p eR q2_a a1 q3_a w_pieces_a s_a v1:Addr}{f1 right dy f fC dx:FuncId}{dw bS bU f_c gF bZ:lVa}{l_l l_c l1 c1 dJ dL lK cF l2 c2 l3 c3 bj bI gY gZ w_rests_l w_rests_c s_l s_c:Nat}{q1 dI qG bY w_breaks w_rests s:oAa}{Inv:Nat->(Option Addr)->Nat->Nat->Int->St->Prop}{Q0 P0:(Option Addr)->Nat->Nat->St->Prop}{Nx:(Option Addr)->Nat->Nat->Int->St->Prop}{w W2:Wo}{Qr Pr:Int->St->Prop}{L1:Lw}
theorem yXT(nx:Q (.bool true) E)(u1:low<=n:=by omega)(u2:n<=high:=by omega):zQ tP 62 [iV n,iV low,iV high] E Q :=
 eQ [.g3,.b (xV u1),.g3,.b (xV u2),.g2] nx
theorem yWS(h1:CPz 62 [iV n,iV 0,iV 3000] E (.bool b1))(nx:Q (.bool b1) E):zQ tP 88 [iV n] E Q :=
 eQ [.g2,.c h1,.g] nx
theorem xSB(h1:LDz E 149 v0 (.func (.func f1) ⟨[]⟩ ⟨dw⟩))(h2:CPz f1 (iV x::dw) E (.bool true))(nx:Q (.bool false) E):zQ tP 127 [iV x,pz v0] E Q :=
 eQ [.g,.l h1,.g,.c h2,.g2] nx
theorem xSA(h1:LDz E 149 v0 (.func (.func f1) ⟨[]⟩ ⟨dw⟩))(h2:CPz f1 (iV x::dw) E (.bool false))(nx:Q (.bool true) E):zQ tP 127 [iV x,pz v0] E Q :=
 eQ [.g,.l h1,.g,.c h2,.g2] nx
theorem xXP{l:oAa}:let y0:=E.row [.func (.func right) ⟨[]⟩ ⟨bS⟩] 1;∀(h1:CPz 114 [.slice l l_l l_c,.func (.func 127) ⟨[]⟩ ⟨[pq E.j 0]⟩] y0 (.bool true)) (nx:Q (.bool false) y0),zQ tP 87 [.slice l l_l l_c,.func (.func right) ⟨[]⟩ ⟨bS⟩] E Q :=
 λh1 nx=>eQ [.g4,.c h1,.g2] nx
theorem xXO{l:oAa}:let y0:=E.row [.func (.func right) ⟨[]⟩ ⟨bS⟩] 1;∀(h1:CPz 114 [.slice l l_l l_c,.func (.func 127) ⟨[]⟩ ⟨[pq E.j 0]⟩] y0 (.bool false)) (nx:Q (.bool true) y0),zQ tP 87 [.slice l l_l l_c,.func (.func right) ⟨[]⟩ ⟨bS⟩] E Q :=
 λh1 nx=>eQ [.g4,.c h1,.g2] nx
theorem yQS{l:oAa}(h1:CPz 126 [.slice l l_l l_c] E (iV n1))(nx:Q (iV n1) E):zQ tP 86 [.slice l l_l l_c] E Q :=
 eQ [.g2,.c h1,.g] nx
theorem xRU(nx:Q (.bool true) ((E.row [iV dD,iV gn] 2).row [iV dC,iV gm] 2))(u1:dD<dC:=by omega):zQ tP 59 [qf [iV dD,iV gn],qf [iV dC,iV gm]] E Q :=
 let ch1:List Bs:=[.r [iV dC,iV gm] 2,.r [iV dD,iV gn] 2];eQ [.g4,.f E ch1 0 0 zU,.g,.f E ch1 1 0 zU,.b (zT u1),.g3] nx
theorem xRT(nx:Q (.bool true) ((E.row [iV dD,iV gn] 2).row [iV dC,iV gm] 2))(u1:¬dD<dC:=by omega)(u2:dD=dC:=by omega)(u3:gn<gm:=by omega):zQ tP 59 [qf [iV dD,iV gn],qf [iV dC,iV gm]] E Q :=
 let ch1:List Bs:=[.r [iV dC,iV gm] 2,.r [iV dD,iV gn] 2];eQ [.g4,.f E ch1 0 0 zU,.g,.f E ch1 1 0 zU,.b (zY u1),.g2,.f E ch1 0 0 zU,.g,.f E ch1 1 0 zU,.b (wU u2),.g2,.f E ch1 0 1 zU,.g,.f E ch1 1 1 zU,.b (zT u3),.g3] nx
theorem xRS(nx:Q (.bool false) ((E.row [iV dD,iV gn] 2).row [iV dC,iV gm] 2))(u1:¬dD<dC:=by omega)(u2:dD=dC:=by omega)(u3:¬gn<gm:=by omega):zQ tP 59 [qf [iV dD,iV gn],qf [iV dC,iV gm]] E Q :=
 let ch1:List Bs:=[.r [iV dC,iV gm] 2,.r [iV dD,iV gn] 2];eQ [.g4,.f E ch1 0 0 zU,.g,.f E ch1 1 0 zU,.b (zY u1),.g2,.f E ch1 0 0 zU,.g,.f E ch1 1 0 zU,.b (wU u2),.g2,.f E ch1 0 1 zU,.g,.f E ch1 1 1 zU,.b (zY u3),.g3] nx
theorem xRR(nx:Q (.bool false) ((E.row [iV dD,iV gn] 2).row [iV dC,iV gm] 2))(u1:¬dD<dC:=by omega)(u2:¬dD=dC:=by omega):zQ tP 59 [qf [iV dD,iV gn],qf [iV dC,iV gm]] E Q :=
 let ch1:List Bs:=[.r [iV dC,iV gm] 2,.r [iV dD,iV gn] 2];eQ [.g4,.f E ch1 0 0 zU,.g,.f E ch1 1 0 zU,.b (zY u1),.g2,.f E ch1 0 0 zU,.g,.f E ch1 1 0 zU,.b (wG u2),.g4] nx
theorem wFT(h1:vG .u64 (n)=z1)(h2:wW tP .shr 101 (.tmp 5) (.tmp 7) (.int .u16 x) (.int .u64 z1)=some (.int .u16 n2))(h3:wW tP .and 101 (.tmp 8) (.const (.int .u16 1)) (.int .u16 n2) (.int .u16 1)=some (.int .u16 n3))(nx:Q (.bool true) E)(u1:n3=1:=by omega):zQ tP 60 [.int .u16 x,iV n] E Q :=
 eQ [.g3,.n h1,.v h2,.v h3,.b (wU u1),.g] nx
theorem wFS(h1:vG .u64 (n)=z1)(h2:wW tP .shr 101 (.tmp 5) (.tmp 7) (.int .u16 x) (.int .u64 z1)=some (.int .u16 n2))(h3:wW tP .and 101 (.tmp 8) (.const (.int .u16 1)) (.int .u16 n2) (.int .u16 1)=some (.int .u16 n3))(nx:Q (.bool false) E)(u1:¬n3=1:=by omega):zQ tP 60 [.int .u16 x,iV n] E Q :=
 eQ [.g3,.n h1,.v h2,.v h3,.b (wG u1),.g] nx
theorem xRD(h1:LDz E 139 (zO p 10) (.slice q1 l1 c1))(h2:vG .u64 ((l1:Int))=z2)(h3:wW tP .shl 101 (.const (.int .u16 1)) (.tmp 8) (.int .u16 1) (.int .u64 z2)=some (.int .u16 n3))(h4:vG .u16 (Int.sub n3 1)=z4)(nx:Q (.int .u16 z4) E):zQ tP 29 [pz p] E Q :=
 eQ [.g4,.l h1,.g,.n h2,.v h3,.n h4,.g] nx
theorem yRA(hb:∀k dI dJ dL bf E,Inv k dI dJ dL bf E->zPO x dI dJ dL bf E (NX4 Inv k) Q0):∀k dI dJ dL bf E,Inv k dI dJ dL bf E->yMQ x dI dJ dL bf E Q0 :=
 zKS (ai (wF 0) trivial) hb
theorem xGH(h1:CPz 60 [.int .u16 x,iV bf] E (.bool true))(h2:APz 48 48 (.slice dI dJ dL) (.slice (some (qe E.j 0)) 1 1) (E.row [iV bf] 1) (.slice qG lK cF) EM)(nx:Nx qG lK cF (bf+1) EM)(u1:bf<10:=by omega)(u2:I6 (bf+1):=by omega):zPO x dI dJ dL bf E Nx Q0 :=
 eO 0 (qG,lK,cF,bf+1) [.b (zT u1),.g4,.c h1,.g3,.e h2,.g,.w u2,.g] nx
theorem xGG(h1:CPz 60 [.int .u16 x,iV bf] E (.bool false))(nx:Nx dI dJ dL (bf+1) E)(u1:bf<10:=by omega)(u2:I6 (bf+1):=by omega):zPO x dI dJ dL bf E Nx Q0 :=
 eO 0 (dI,dJ,dL,bf+1) [.b (zT u1),.g4,.c h1,.w u2,.g] nx
theorem xGF(nx:Q0 dI dJ dL E)(u1:¬bf<10:=by omega):zPO x dI dJ dL bf E Nx Q0 :=
 eO 1 (dI,dJ,dL) [.b (zY u1)] nx
theorem xRG(hL:yMQ x none 0 0 0 E P0)(k0:∀p2_1' l2_1' c2_1' E',P0 p2_1' l2_1' c2_1' E'->yAF x p2_1' l2_1' c2_1' E' Q):zQ tP 30 [.int .u16 x] E Q :=
 eQ [.g2,.k (.lf 16 (zHL x none 0 0 0) [zMR x P0])] (ai (ai tt (ai (arf (zHL x none 0 0 0)) hL)) (ai (kz3 k0) trivial))
theorem yQZ(nx:Q (.slice dI dJ dL) E):yAF x dI dJ dL E Q :=
 eK [.g2] nx
theorem xPT:let Y1:=E.row [iV bX,iV eU] 2;∀(h1:LDz Y1 43 (zO p 8) (.slice (some eR) l1 c1)) (h2:LDz Y1 90 (zO eR (Int.toNat bX*1)) (.slice (some q2_a) l2 c2)) (h3:LDz Y1 3 (zO q2_a ((Int.toNat eU*3)+0)) (iV n3)) (nx:Q (iV n3) Y1) (u1:Ix bX l1:=by omega) (u2:Ix eU l2:=by omega),zQ tP 64 [pz p,qf [iV bX,iV eU]] E Q:=
 λh1 h2 h3 nx u1 u2=>let ch1:List Bs:=[.r [iV bX,iV eU] 2];eQ [.g6,.l h1,.g,.f E ch1 0 0 zU,.i u1,.l h2,.g,.f E ch1 0 1 zU,.i u2,.g,.l h3,.g] nx
theorem wFY:let Y1:=E.row [iV bX,iV eU] 2;∀(h1:LDz Y1 25 v0 (.slice (some eR) l1 c1)) (h2:LDz Y1 48 (zO eR (Int.toNat bX*1)) (.slice (some q2_a) l2 c2)) (h3:LDz Y1 3 (zO q2_a (Int.toNat eU*1)) (iV n3)) (nx:Q (iV n3) Y1) (u1:Ix bX l1:=by omega) (u2:Ix eU l2:=by omega),zQ tP 36 [qf [iV bX,iV eU],pz v0] E Q:=
 λh1 h2 h3 nx u1 u2=>let ch1:List Bs:=[.r [iV bX,iV eU] 2];eQ [.g2,.l h1,.g,.f E ch1 0 0 zU,.i u1,.l h2,.g,.f E ch1 0 1 zU,.i u2,.l h3,.g] nx
theorem xFD:let Y1:=E.row [iV bX,iV eU] 2;∀(h1:LDz Y1 96 v0 (pz a1)) (h2:LDz Y1 43 (zO a1 8) (.slice (some q2_a) l2 c2)) (h3:LDz Y1 90 (zO q2_a (Int.toNat bX*1)) (.slice (some q3_a) l3 c3)) (h4:LDz Y1 3 (zO q3_a (((Int.toNat eU*3)+1)+0)) (iV n4)) (nx:Q (iV n4) Y1) (u1:Ix bX l2:=by omega) (u2:Ix eU l3:=by omega),zQ tP 124 [qf [iV bX,iV eU],pz v0] E Q:=
 λh1 h2 h3 h4 nx u1 u2=>let ch1:List Bs:=[.r [iV bX,iV eU] 2];eQ [.g2,.l h1,.g3,.l h2,.g,.f E ch1 0 0 zU,.i u1,.l h3,.g,.f E ch1 0 1 zU,.i u2,.g2,.l h4,.g] nx
theorem xFC:let Y1:=E.row [iV bX,iV eU] 2;∀(h1:LDz Y1 96 v0 (pz a1)) (h2:LDz Y1 43 (zO a1 8) (.slice (some q2_a) l2 c2)) (h3:LDz Y1 90 (zO q2_a (Int.toNat bX*1)) (.slice (some q3_a) l3 c3)) (h4:LDz Y1 3 (zO q3_a (((Int.toNat eU*3)+1)+1)) (iV n4)) (nx:Q (iV n4) Y1) (u1:Ix bX l2:=by omega) (u2:Ix eU l3:=by omega),zQ tP 125 [qf [iV bX,iV eU],pz v0] E Q:=
 λh1 h2 h3 h4 nx u1 u2=>let ch1:List Bs:=[.r [iV bX,iV eU] 2];eQ [.g2,.l h1,.g3,.l h2,.g,.f E ch1 0 0 zU,.i u1,.l h3,.g,.f E ch1 0 1 zU,.i u2,.g2,.l h4,.g] nx
theorem xPG:let y0:=qf [.func (.func 124) ⟨[]⟩ ⟨[pq E.j 0]⟩,.func (.func 125) ⟨[]⟩ ⟨[pq E.j 0]⟩];∀(nx:Q y0 (((((E.row [pz p] 1).row [.nilFunc,.nilFunc] 2).row [.nilFunc,.nilFunc] 1).own (E.j+2) [.func (.func 124) ⟨[]⟩ ⟨[pq E.j 0]⟩,.func (.func 125) ⟨[]⟩ ⟨[pq E.j 0]⟩] 1).own (E.j+1) [.func (.func 124) ⟨[]⟩ ⟨[pq E.j 0]⟩,.func (.func 125) ⟨[]⟩ ⟨[pq E.j 0]⟩] 2)),zQ tP 85 [pz p] E Q :=
 let s1:=E.row [pz p] 1;let s2:=s1.row [.nilFunc,.nilFunc] 2;let s3:=s2.row [.nilFunc,.nilFunc] 1;let s4:=s3.own (E.j+2) [.func (.func 124) ⟨[]⟩ ⟨[pq E.j 0]⟩,.func (.func 125) ⟨[]⟩ ⟨[pq E.j 0]⟩] 1;let s5:=s4.own (E.j+1) [.func (.func 124) ⟨[]⟩ ⟨[pq E.j 0]⟩,.func (.func 125) ⟨[]⟩ ⟨[pq E.j 0]⟩] 2;let y0:=qf [.func (.func 124) ⟨[]⟩ ⟨[pq E.j 0]⟩,.func (.func 125) ⟨[]⟩ ⟨[pq E.j 0]⟩];λnx=>let ch1:List Bs:=[.r [.nilFunc,.nilFunc] 1,.r [.nilFunc,.nilFunc] 2,.r [pz p] 1];let ch2:List Bs:=.o 2 [.func (.func 124) ⟨[]⟩ ⟨[pq E.j 0]⟩,.func (.func 125) ⟨[]⟩ ⟨[pq E.j 0]⟩] 1::ch1;eQ [.g6,.s E ch1 2 0 wGN y0,.i (⟨by decide,by decide⟩:xCQ 0 2),.f E ch2 2 0 yVL,.i (⟨by decide,by decide⟩:xCQ 1 2),.f E ch2 2 1 yVL,.g,.e (((zX _ _ _).row.own (nne E.j 1 2 rfl)).store (vs:=[.func (.func 124) ⟨[]⟩ ⟨[pq E.j 0]⟩,.func (.func 125) ⟨[]⟩ ⟨[pq E.j 0]⟩]) rfl xNH rfl (nle rfl) rfl:yN tP (evL [pq ((E.j+1)) 0,qf [.func (.func 124) ⟨[]⟩ ⟨[pq E.j 0]⟩,.func (.func 125) ⟨[]⟩ ⟨[pq E.j 0]⟩]]) s4 (.store 121 (.tmp 0) (.tmp 1))=some (undef,s5)),.l (((zX _ _ _).row.own (nne E.j 1 2 rfl)).put.rw.ldN wOM xNH (k:=0) rfl rfl (nle rfl):zJ tP s5 121 ⟨(E.j+1),0,none⟩=some y0)] nx
theorem yVZ(h1:LDz E 3 (zO v0 3) (iV n1))(nx:Q (.bool true) E)(u1:n1<=n:=by omega):zQ tP 134 [iV n,pz v0] E Q :=
 eQ [.g3,.l h1,.b (xV u1),.g] nx
theorem yVY(h1:LDz E 3 (zO v0 3) (iV n1))(nx:Q (.bool false) E)(u1:¬n1<=n:=by omega):zQ tP 134 [iV n,pz v0] E Q :=
 eQ [.g3,.l h1,.b (xX u1),.g] nx
theorem xFI{l:Lw}:let y0:=(E.row (lwL l) 8).row (woL w) 4;∀(h1:CPz 87 [.slice w.r w.rl w.rc,.func (.func 134) ⟨[]⟩ ⟨[pq E.j 0]⟩] y0 (.bool b1)) (nx:Q (.bool b1) y0),zQ tP 101 [qf (lwL l),qf (woL w)] E Q :=
 λh1 nx=>let ch1:List Bs:=[.r (woL w) 4,.r (lwL l) 8];eQ [.g4,.f E ch1 1 2 xF,.g,.c h1,.g] nx
theorem xWU{l:Lw}(nx:Q (.bool true) ((E.row (lwL l) 8).row (woL w) 4))(u1:((w.pl:Nat):Int)<=l.n:=by omega):zQ tP 98 [qf (lwL l),qf (woL w)] E Q :=
 let ch1:List Bs:=[.r (woL w) 4,.r (lwL l) 8];eQ [.g4,.f E ch1 1 0 xF,.g2,.f E ch1 0 7 zU,.b (xV u1),.g] nx
theorem xWT{l:Lw}(nx:Q (.bool false) ((E.row (lwL l) 8).row (woL w) 4))(u1:¬((w.pl:Nat):Int)<=l.n:=by omega):zQ tP 98 [qf (lwL l),qf (woL w)] E Q :=
 let ch1:List Bs:=[.r (woL w) 4,.r (lwL l) 8];eQ [.g4,.f E ch1 1 0 xF,.g2,.f E ch1 0 7 zU,.b (xX u1),.g] nx
theorem yQY{Inv:Nat->Int->Int->St->Prop}{Q0:Int->St->Prop}(hb:∀k bk ar E,Inv k bk ar E->zXU bY bj bI bk ar E (NX2 Inv k) Q0):∀k bk ar E,Inv k bk ar E->yMN bY bj bI bk ar E Q0 :=
 zFM (ai (wF 0) trivial) hb
theorem xGC{Nx:Int->Int->St->Prop}{Q0:Int->St->Prop}(h1:LDz E 3 (zO w_pieces_a (Int.toNat ar*1)) (iV nH))(nx:Nx (bk+nH) (ar+1) E)(u1:ar<(bj:Int):=by omega)(u2:Ix ar bj:=by omega)(u3:I6 (bk+nH):=by omega)(u4:I6 (ar+1):=by omega):zXU (some w_pieces_a) bj bI bk ar E Nx Q0 :=
 eO 0 (bk+nH,ar+1) [.b (zT u1),.i u2,.l h1,.g3,.w u3,.g,.w u4,.g] nx
theorem xGB{Nx:Int->Int->St->Prop}{Q0:Int->St->Prop}(nx:Q0 bk E)(u1:¬ar<(bj:Int):=by omega):zXU bY bj bI bk ar E Nx Q0 :=
 eO 1 bk [.b (zY u1)] nx
theorem xRF{P0:Int->St->Prop}(hL:yMN bY bj bI 0 0 (E.row [.slice bY bj bI,.slice w_breaks gY gZ,.slice w_rests w_rests_l w_rests_c,iV w_spread] 4) P0)(k0:∀i2_1' E',P0 i2_1' E'->yAD bY bj bI i2_1' E' Q):zQ tP 38 [qf [.slice bY bj bI,.slice w_breaks gY gZ,.slice w_rests w_rests_l w_rests_c,iV w_spread]] E Q :=
 let ch1:List Bs:=[.r [.slice bY bj bI,.slice w_breaks gY gZ,.slice w_rests w_rests_l w_rests_c,iV w_spread] 4];eQ [.g3,.f E ch1 0 0 xF,.g2,.k (.lf 17 (zHK bY bj bI 0 0) [zMQ bY bj bI P0])] (ai (ai tt (ai (arf (zHK bY bj bI 0 0)) hL)) (ai (kz1 k0) trivial))
theorem yQX(nx:Q (iV bk) E):yAD bY bj bI bk E Q :=
 eK [.g2] nx
theorem xPK{l:Lw}(h1:CPz 86 [.slice w.p w.pl w.pc] ((E.row (lwL l) 8).row (woL w) 4) (iV n1))(b_w_p:∀a,w.p=some a->a.block<E.j)(nx:Q (.bool true) ((E.row (lwL l) 8).row (woL w) 4))(u1:n1<=l.p:=by omega):zQ tP 99 [qf (lwL l),qf (woL w)] E Q :=
 let ch1:List Bs:=[.r (woL w) 4,.r (lwL l) 8];eQ [.g4,.f E ch1 1 0 xF,.c h1,.g,.f E ch1 0 0 zU,.b (xV u1),.g,.q E ch1 1 0,.p ((zI (zFY b_w_p 2) zM):zL ((E.row (lwL l) 8).row (woL w) 4).j [.slice w.p w.pl w.pc]),.q E ch1 0 0,.u E ch1 0 0 zU,.u E ch1 0 0 zU] nx
theorem xPJ{l:Lw}(h1:CPz 86 [.slice w.p w.pl w.pc] ((E.row (lwL l) 8).row (woL w) 4) (iV n1))(b_w_p:∀a,w.p=some a->a.block<E.j)(nx:Q (.bool false) ((E.row (lwL l) 8).row (woL w) 4))(u1:¬n1<=l.p:=by omega):zQ tP 99 [qf (lwL l),qf (woL w)] E Q :=
 let ch1:List Bs:=[.r (woL w) 4,.r (lwL l) 8];eQ [.g4,.f E ch1 1 0 xF,.c h1,.g,.f E ch1 0 0 zU,.b (xX u1),.g,.q E ch1 1 0,.p ((zI (zFY b_w_p 2) zM):zL ((E.row (lwL l) 8).row (woL w) 4).j [.slice w.p w.pl w.pc]),.q E ch1 0 0,.u E ch1 0 0 zU,.u E ch1 0 0 zU] nx
theorem xFM{l:Lw}:let Y1:=E.row (lwL l) 8;let Y2:=Y1.row (woL w) 4;∀(h1:CPz 38 [qf (woL w)] Y2 (iV n1)) (h2:zL Y2.j [qf (woL w)]) (nx:Q (.bool true) Y2) (u1:n1<=l.d:=by omega),zQ tP 100 [qf (lwL l),qf (woL w)] E Q:=
 λh1 h2 nx u1=>let ch1:List Bs:=[.r (woL w) 4,.r (lwL l) 8];eQ [.g3,.F E ch1 1 0 zTO zEB,.c h1,.g,.f E ch1 0 1 zU,.b (xV u1),.g,.q E ch1 1 0,.p h2,.q E ch1 0 1,.u E ch1 0 1 zU,.u E ch1 0 1 zU] nx
theorem xFL{l:Lw}:let Y1:=E.row (lwL l) 8;let Y2:=Y1.row (woL w) 4;∀(h1:CPz 38 [qf (woL w)] Y2 (iV n1)) (h2:zL Y2.j [qf (woL w)]) (nx:Q (.bool false) Y2) (u1:¬n1<=l.d:=by omega),zQ tP 100 [qf (lwL l),qf (woL w)] E Q:=
 λh1 h2 nx u1=>let ch1:List Bs:=[.r (woL w) 4,.r (lwL l) 8];eQ [.g3,.F E ch1 1 0 zTO zEB,.c h1,.g,.f E ch1 0 1 zU,.b (xX u1),.g,.q E ch1 1 0,.p h2,.q E ch1 0 1,.u E ch1 0 1 zU,.u E ch1 0 1 zU] nx
theorem xWS{l:Lw}(nx:Q (.bool true) ((E.row (lwL l) 8).row (woL w) 4))(u1:w.s<=l.s:=by omega):zQ tP 102 [qf (lwL l),qf (woL w)] E Q :=
 let ch1:List Bs:=[.r (woL w) 4,.r (lwL l) 8];eQ [.g4,.f E ch1 1 3 zU,.g,.f E ch1 0 2 zU,.b (xV u1),.g] nx
theorem xWR{l:Lw}(nx:Q (.bool false) ((E.row (lwL l) 8).row (woL w) 4))(u1:¬w.s<=l.s:=by omega):zQ tP 102 [qf (lwL l),qf (woL w)] E Q :=
 let ch1:List Bs:=[.r (woL w) 4,.r (lwL l) 8];eQ [.g4,.f E ch1 1 3 zU,.g,.f E ch1 0 2 zU,.b (xX u1),.g] nx
theorem yFB(nx:Q (.slice (some (qe E.j 0)) 5 5) (E.row [.func (.func 98) ⟨[]⟩ ⟨[]⟩,.func (.func 99) ⟨[]⟩ ⟨[]⟩,.func (.func 100) ⟨[]⟩ ⟨[]⟩,.func (.func 101) ⟨[]⟩ ⟨[]⟩,.func (.func 102) ⟨[]⟩ ⟨[]⟩] 1)):zQ tP 66 [] E Q :=
 eQ [.g7,.g] nx
theorem xRZ:let Y1:=E.row [.func (.func dy) ⟨[]⟩ ⟨bU⟩] 1;∀(h1:LDz Y1 161 v0 (.func (.func f1) ⟨[]⟩ ⟨dw⟩)) (h2:CPz f1 (qf [.func (.func dy) ⟨[]⟩ ⟨bU⟩]::dw) Y1 (.bool true)) (nx:Q (.bool false) Y1),zQ tP 97 [qf [.func (.func dy) ⟨[]⟩ ⟨bU⟩],pz v0] E Q:=
 λh1 h2 nx=>let ch1:List Bs:=[.r [.func (.func dy) ⟨[]⟩ ⟨bU⟩] 1];eQ [.g2,.l h1,.F E ch1 0 0 xMF ySU,.c h2,.g2] nx
theorem xRY:let Y1:=E.row [.func (.func dy) ⟨[]⟩ ⟨bU⟩] 1;∀(h1:LDz Y1 161 v0 (.func (.func f1) ⟨[]⟩ ⟨dw⟩)) (h2:CPz f1 (qf [.func (.func dy) ⟨[]⟩ ⟨bU⟩]::dw) Y1 (.bool false)) (nx:Q (.bool true) Y1),zQ tP 97 [qf [.func (.func dy) ⟨[]⟩ ⟨bU⟩],pz v0] E Q:=
 λh1 h2 nx=>let ch1:List Bs:=[.r [.func (.func dy) ⟨[]⟩ ⟨bU⟩] 1];eQ [.g2,.l h1,.F E ch1 0 0 xMF ySU,.c h2,.g2] nx
theorem yXI{Inv:Nat->Int->St->Prop}{Q0:St->Prop}(hb:∀k ar E,Inv k ar E->zTX s s_l s_c f f_c ar E (NX1 Inv k) Qr Q0):∀k ar E,Inv k ar E->yXK s s_l s_c f f_c ar E Qr Q0 :=
 xE (ai wX (ai (wF 0) trivial)) hb
theorem xQQ{Nx:Int->St->Prop}{Q0:St->Prop}(h1:LDz E 158 (zO s_a (Int.toNat ar*1)) (qf [.func (.func fC) ⟨[]⟩ ⟨gF⟩]))(h2:CPz f (qf [.func (.func fC) ⟨[]⟩ ⟨gF⟩]::f_c) E (.bool true))(nx:Qr ar E)(u1:ar<(s_l:Int):=by omega)(u2:Ix ar s_l:=by omega):zTX (some s_a) s_l s_c f f_c ar E Nx Qr Q0 :=
 eO 1 ar [.b (zT u1),.g5,.i u2,.l h1,.c h2,.g2] nx
theorem xQP{Nx:Int->St->Prop}{Q0:St->Prop}(h1:LDz E 158 (zO s_a (Int.toNat ar*1)) (qf [.func (.func fC) ⟨[]⟩ ⟨gF⟩]))(h2:CPz f (qf [.func (.func fC) ⟨[]⟩ ⟨gF⟩]::f_c) E (.bool false))(nx:Nx (ar+1) E)(u1:ar<(s_l:Int):=by omega)(u2:Ix ar s_l:=by omega)(u3:I6 (ar+1):=by omega):zTX (some s_a) s_l s_c f f_c ar E Nx Qr Q0 :=
 eO 0 (ar+1) [.b (zT u1),.g5,.i u2,.l h1,.c h2,.w u3,.g] nx
theorem xQO{Nx:Int->St->Prop}{Q0:St->Prop}(nx:Q0 E)(u1:¬ar<(s_l:Int):=by omega):zTX s s_l s_c f f_c ar E Nx Qr Q0 :=
 eO 2 () [.b (zY u1)] nx
theorem xWX{P0:St->Prop}(hL:yXK s s_l s_c f f_c 0 E Pr P0)(kr:∀i4_1' E',Pr i4_1' E'->yEM s s_l s_c f f_c i4_1' E' Q)(k0:∀E',P0 E'->yEN s s_l s_c f f_c E' Q):zQ tP 133 [.slice s s_l s_c,.func (.func f) ⟨[]⟩ ⟨f_c⟩] E Q :=
 eQ [.g4,.k (.lf 19 (zMM s s_l s_c f f_c 0) [zSD s s_l s_c f f_c Pr,zSE s s_l s_c f f_c P0])] (ai (ai tt (ai (arf (zMM s s_l s_c f f_c 0)) hL)) (ai (kz1 kr) (ai (kz0 k0) trivial)))
theorem yXG(nx:Q (iV bf) E):yEM s s_l s_c f f_c bf E Q :=
 eK [] nx
theorem yXH(nx:Q (iV (-1)) E):yEN s s_l s_c f f_c E Q :=
 eK [.g] nx
theorem xXH(h1:CPz 133 [.slice s s_l s_c,.func (.func f) ⟨[]⟩ ⟨f_c⟩] E (iV n1))(nx:Q (.bool true) E)(u1:0<=n1:=by omega):zQ tP 96 [.slice s s_l s_c,.func (.func f) ⟨[]⟩ ⟨f_c⟩] E Q :=
 eQ [.g3,.c h1,.b (xV u1),.g] nx
theorem xXG(h1:CPz 133 [.slice s s_l s_c,.func (.func f) ⟨[]⟩ ⟨f_c⟩] E (iV n1))(nx:Q (.bool false) E)(u1:¬0<=n1:=by omega):zQ tP 96 [.slice s s_l s_c,.func (.func f) ⟨[]⟩ ⟨f_c⟩] E Q :=
 eQ [.g3,.c h1,.b (xX u1),.g] nx
theorem xXN{l:oAa}:let y0:=E.row [.func (.func right) ⟨[]⟩ ⟨bS⟩] 1;∀(h1:CPz 96 [.slice l l_l l_c,.func (.func 97) ⟨[]⟩ ⟨[pq E.j 0]⟩] y0 (.bool true)) (nx:Q (.bool false) y0),zQ tP 65 [.slice l l_l l_c,.func (.func right) ⟨[]⟩ ⟨bS⟩] E Q :=
 λh1 nx=>eQ [.g4,.c h1,.g2] nx
theorem xXM{l:oAa}:let y0:=E.row [.func (.func right) ⟨[]⟩ ⟨bS⟩] 1;∀(h1:CPz 96 [.slice l l_l l_c,.func (.func 97) ⟨[]⟩ ⟨[pq E.j 0]⟩] y0 (.bool false)) (nx:Q (.bool true) y0),zQ tP 65 [.slice l l_l l_c,.func (.func right) ⟨[]⟩ ⟨bS⟩] E Q :=
 λh1 nx=>eQ [.g4,.c h1,.g2] nx
theorem xFN:let Y1:=E.row [.func (.func dx) ⟨[]⟩ ⟨bZ⟩] 1;∀(h1:LDz Y1 42 v0 (qf (lwL L1))) (h2:LDz Y1 118 v1 (qf (woL W2))) (h3:CPz dx (qf (lwL L1)::(qf (woL W2))::bZ) Y1 (.bool b3)) (nx:Q (.bool b3) Y1),zQ tP 67 [qf [.func (.func dx) ⟨[]⟩ ⟨bZ⟩],pz v0,pz v1] E Q:=
 λh1 h2 h3 nx=>let ch1:List Bs:=[.r [.func (.func dx) ⟨[]⟩ ⟨bZ⟩] 1];eQ [.g3,.f E ch1 0 0 wOJ,.l h1,.l h2,.c h3,.g] nx
theorem yQL{l:Lw}(h1:CAz 66 [] ((E.row (lwL l) 8).row (woL w) 4) (.slice q1 l1 c1) ik)(h2:CPz 65 [.slice q1 l1 c1,.func (.func 67) ⟨[]⟩ ⟨[pq E.j 0,pq ((E.j+1)) 0]⟩] ik (.bool b3))(nx:Q (.bool b3) ik):zQ tP 39 [qf (lwL l),qf (woL w)] E Q :=
 eQ [.g3,.c h1,.g,.c h2,.g] nx
end
section
noncomputable section
variable(s:oAa)(p x_a:Addr)(s_l x_l s_c x_c:Nat)(day aP:Int)(f:FuncId)(q5:Int->Int->St->Prop)(BA BB l1:Nat)(f_c:lVa)(bv bf ar:Int)(Q:Int->St->Prop)(q0:St->Prop)(E:St)(q2:vPa)(Nx Qr:Int->St->Prop)(q6:Int->Int->St->Prop)(Q0:St->Prop)(q8:Int->St->Prop)
def xOK:Code:=(Code.part [1,0,1,0,0] (zV tP 173))
def zWM:lNa:=[(0,.slice s s_l s_c),(1,.func (.func f) ⟨[]⟩ ⟨f_c⟩),(7,iV (s_l:Int)),(8,iV ar)]
def wBN:Alt:=⟨Int,.normal,λt=>zWM s s_l s_c f f_c t,λt=>[],λt E=>Q t E⟩
def yOI(s:oAa)(s_l s_c:Nat)(f:FuncId)(f_c:lVa)(bf:Int):lNa:=[(4,iV bf)]
def zYM:Alt:=⟨Int,.ret,λt=>yOI s s_l s_c f f_c t,λt=>[],λt E=>Q t E⟩
def yOJ(s:oAa)(s_l s_c:Nat)(f:FuncId)(f_c:lVa):lNa:=[]
def zYN:Alt:=⟨Unit,(.exit 0),λt=>yOJ s s_l s_c f f_c,λt=>[],λt E=>q0 E⟩
def yDE:Prop:=yT tP (zZ tP) none xOK 19 (zWM s s_l s_c f f_c ar) [] [wBN s s_l s_c f f_c Nx,zYM s s_l s_c f f_c Qr,zYN s s_l s_c f f_c Q0] E
def xOL:Prop:=yW tP (zZ tP) none xOK 19 (zWM s s_l s_c f f_c ar) [] [zYM s s_l s_c f f_c Qr,zYN s s_l s_c f f_c Q0] E
def yOK:Prop:=kZ (zZ tP) (zV tP 173) [1,0,1,0] (kFn tP 173 q2) .ret 19 (yOI s s_l s_c f f_c bf) E
def yOL:Prop:=kZ (zZ tP) (zV tP 173) [1,0,1,0] (kFn tP 173 q2) (.exit 0) 19 (yOJ s s_l s_c f f_c) E
def xNQ:Code:=(Code.part [1,0,1,0,0] (zV tP 110))
def yDB:lNa:=[(0,pz p),(1,iV day),(5,pq BA 0),(6,pq BB 0),(13,iV (l1:Int)),(14,iV bv)]
def wAD:Alt:=⟨Int,.normal,λt=>yDB p day BA BB l1 t,λt=>[],λt E=>Q t E⟩
def yNX(p:Addr)(day:Int)(BA BB l1:Nat):lNa:=[(5,pq BA 0),(6,pq BB 0)]
def zYF:Alt:=⟨Unit,(.exit 0),λt=>yNX p day BA BB l1,λt=>[],λt E=>q0 E⟩
def yDC:Prop:=yT tP (zZ tP) none xNQ 46 (yDB p day BA BB l1 bv) [] [wAD p day BA BB l1 Nx,zYF p day BA BB l1 Q0] E
def xNR:Prop:=yW tP (zZ tP) none xNQ 46 (yDB p day BA BB l1 bv) [] [zYF p day BA BB l1 Q0] E
def yNY:Prop:=kZ (zZ tP) (zV tP 110) [1,0,1,0] (kFn tP 110 q2) (.exit 0) 46 (yNX p day BA BB l1) E
def xNF:Code:=(Code.part [1,1,1,0,1,0,0] (zV tP 126))
def zVS:lNa:=[(0,.slice (some x_a) x_l x_c),(3,iV aP),(4,iV bf)]
def xYL:Alt:=⟨Int×Int,.normal,λt=>zVS x_a x_l x_c t.1 t.2,λt=>[],λt E=>q5 t.1 t.2 E⟩
def yNL(x_a:Addr)(x_l x_c:Nat)(aP:Int):lNa:=[(3,iV aP)]
def zYA:Alt:=⟨Int,(.exit 0),λt=>yNL x_a x_l x_c t,λt=>[],λt E=>Q t E⟩
def ySM:Prop:=yT tP (zZ tP) none xNF 25 (zVS x_a x_l x_c aP bf) [] [xYL x_a x_l x_c q6,zYA x_a x_l x_c q8] E
def xNG:Prop:=yW tP (zZ tP) none xNF 25 (zVS x_a x_l x_c aP bf) [] [zYA x_a x_l x_c q8] E
def yNM:Prop:=kZ (zZ tP) (zV tP 126) [1,1,1,0,1,0] (kFn tP 126 q2) (.exit 0) 25 (yNL x_a x_l x_c aP) E
end
variable{p eR a30 v0 v1 v2 v3 a1 s_a x_a:Addr}{dH duty aY bu bb bi n2 n3 n4 n5 n6 n10 n11 n12 n13 n14 n15 n16 n17 n18 n19 n20 n21 n22 n23 n25 n26 n27 n28 n29 n31 n33 n34 n35 n36 fp n7 n8 n9 fS ar nH bf n1 day bv nD nE nF aP nJ:Int}{l1 c1 l7 c7 l3 c3 l4 c4 s_l s_c l_l l_c BA BB x_l x_c:Nat}{q7 q3 q4 l q1:oAa}{E8 E24 E32 E E14 EM EA EG:St}{Q:vPa}{dx dy f1 f fK right:FuncId}{bZ dM bU dw f_c fK_c bS cs1838 cs1840:lVa}{b18:Bool}{Inv:Nat->Int->St->Prop}{Qr Nx Pr:Int->St->Prop}{Q0 P0:St->Prop}
@[reducible] def Ha4(E E8 E24 E32:St)(p eR a30:Addr)(dH aY bu bb bi duty n2 n3 n4 n5 n6 n10 n11 n12 n13 n14 n15 n16 n17 n18 n19 n20 n21 n22 n23 n25 n26 n27 n28 n29 n31 n33 n34 n35 n36:Int)(l1 c1 l7 c7:Nat)(q7:oAa):Prop:=LDz ((((E.row [.pointer (some p)] 1).row [iV dH] 1).row (zK aY bu bb bi) 4).row (zK 0 0 0 0) 4) 69 (zO p 1) (.slice (some eR) l1 c1)/\LDz ((((E.row [.pointer (some p)] 1).row [iV dH] 1).row (zK aY bu bb bi) 4).row (zK 0 0 0 0) 4) 93 (zO eR (Int.toNat duty*5)) (.agg ⟨zP n2 n3 n4 n5 n6⟩)/\CAz 80 [] ((((((E.row [.pointer (some p)] 1).row [iV dH] 1).row (zK aY bu bb bi) 4).row (zK 0 0 0 0) 4).row (zP 0 0 0 0 0) 5).own (E.j+4) (zP n2 n3 n4 n5 n6) 5) (.slice q7 l7 c7) E8/\(CPz 137 [.slice q7 l7 c7,.func (.func 138) ⟨[]⟩ ⟨[.pointer (some ⟨E.j,0,none⟩),.pointer (some ⟨(E.j+1),0,none⟩),.pointer (some ⟨(E.j+4),0,none⟩),.pointer (some ⟨(E.j+2),0,none⟩)]⟩] E8 (.bool true))/\(LDz E8 175 ⟨(E.j+2),0,none⟩ (.agg ⟨zK n10 n11 n12 n13⟩))/\(LDz E8 93 ⟨(E.j+4),0,none⟩ (.agg ⟨zP n14 n15 n16 n17 n18⟩))/\(LDz E8 3 ⟨(E.j+4),3,none⟩ (iV n19))/\(CPz 81 [.agg ⟨zK n10 n11 n12 n13⟩,.agg ⟨zP n14 n15 n16 n17 n18⟩,iV n19] E8 (.agg ⟨zK n20 n21 n22 n23⟩))/\(SOz E8 175 ⟨(E.j+2),0,none⟩ (.agg ⟨zK n20 n21 n22 n23⟩) E24)/\(LDz E24 175 ⟨(E.j+2),0,none⟩ (.agg ⟨zK n25 n26 n27 n28⟩))/\(LDz E24 3 ⟨(E.j+2),2,none⟩ (iV n29))/\LDz E24 167 ⟨E.j,0,none⟩ (.pointer (some a30))/\LDz E24 3 (zO a30 5) (iV n31)/\(SOz E24 175 ⟨(E.j+3),0,none⟩ (.agg ⟨zK n25 n26 n27 n28⟩) E32)/\(zL E24.j [.pointer (some ⟨(E.j+2),0,none⟩)])/\(zL E24.j [.pointer (some ⟨(E.j+2),2,none⟩)])/\zL E24.j [.pointer (some ⟨E.j,0,none⟩)]/\zL E24.j [.pointer (some (zO a30 5))]/\(zL E24.j [.pointer (some ⟨(E.j+3),0,none⟩),.agg ⟨zK n25 n26 n27 n28⟩])/\((zLq E24 3 ⟨(E.j+2),2,none⟩ (iV n29)))/\((zLq E32 3 ⟨(E.j+2),2,none⟩ (iV n29)))/\((zLq E24 167 ⟨E.j,0,none⟩ (.pointer (some a30))))/\((zLq E32 167 ⟨E.j,0,none⟩ (.pointer (some a30))))/\((zLq E24 3 (zO a30 5) (iV n31)))/\((zLq E32 3 (zO a30 5) (iV n31)))/\(LDz E32 175 ⟨(E.j+3),0,none⟩ (.agg ⟨zK n33 n34 n35 n36⟩))
theorem wNA(H:Ha4 E E8 E24 E32 p eR a30 dH aY bu bb bi duty n2 n3 n4 n5 n6 n10 n11 n12 n13 n14 n15 n16 n17 n18 n19 n20 n21 n22 n23 n25 n26 n27 n28 n29 n31 n33 n34 n35 n36 l1 c1 l7 c7 q7)(nx:Q (.tuple ⟨[qf (zK n33 n34 n35 n36),.bool true]⟩) E32)(u1:Ix duty l1:=by omega)(u2:n29<=n31:=by omega):zQ tP 108 [pz p,iV dH,iV duty,qf (zK aY bu bb bi)] E Q :=
 match H with|⟨h1,h2,h3,h4,h5,h6,h7,h8,h9,h10,h11,h12,h13,h14,h15,h16,h17,h18,h19,h20,h21,h22,h23,h24,h25,h26⟩=>let ch1:List Bs:=[.r (zK 0 0 0 0) 4,.r (zK aY bu bb bi) 4,.r [iV dH] 1,.r [pz p] 1];let ch2:List Bs:=.r (zP 0 0 0 0 0) 5::ch1;eQ [.g5,.f E ch1 0 0 zAE,.g3,.l h1,.g,.i u1,.l h2,.g,.s E ch2 4 0 zAN (qf (zP n2 n3 n4 n5 n6)),.c h3,.g,.c h4,.g,.l h5,.l h6,.g2,.l h7,.c h8,.e h9,.l h10,.g,.l h11,.l h12,.g3,.l h13,.b (xV u2),.e h14,.g,.p h15,.p h16,.p h17,.p h18,.p h19,.p h20,.p h21,.p h22,.p h23,.p h24,.p h25,.l h26] nx
theorem wMZ(H:Ha4 E E8 E24 E32 p eR a30 dH aY bu bb bi duty n2 n3 n4 n5 n6 n10 n11 n12 n13 n14 n15 n16 n17 n18 n19 n20 n21 n22 n23 n25 n26 n27 n28 n29 n31 n33 n34 n35 n36 l1 c1 l7 c7 q7)(nx:Q (.tuple ⟨[qf (zK n33 n34 n35 n36),.bool false]⟩) E32)(u1:Ix duty l1:=by omega)(u2:¬n29<=n31:=by omega):zQ tP 108 [pz p,iV dH,iV duty,qf (zK aY bu bb bi)] E Q :=
 match H with|⟨h1,h2,h3,h4,h5,h6,h7,h8,h9,h10,h11,h12,h13,h14,h15,h16,h17,h18,h19,h20,h21,h22,h23,h24,h25,h26⟩=>let ch1:List Bs:=[.r (zK 0 0 0 0) 4,.r (zK aY bu bb bi) 4,.r [iV dH] 1,.r [pz p] 1];let ch2:List Bs:=.r (zP 0 0 0 0 0) 5::ch1;eQ [.g5,.f E ch1 0 0 zAE,.g3,.l h1,.g,.i u1,.l h2,.g,.s E ch2 4 0 zAN (qf (zP n2 n3 n4 n5 n6)),.c h3,.g,.c h4,.g,.l h5,.l h6,.g2,.l h7,.c h8,.e h9,.l h10,.g,.l h11,.l h12,.g3,.l h13,.b (xX u2),.e h14,.g,.p h15,.p h16,.p h17,.p h18,.p h19,.p h20,.p h21,.p h22,.p h23,.p h24,.p h25,.l h26] nx
theorem wMY:let Y1:=E.row [pz p] 1;let Y2:=Y1.row [iV dH] 1;let Y3:=Y2.row (zK aY bu bb bi) 4;let Y4:=Y3.row (zK 0 0 0 0) 4;∀(h1:LDz Y4 69 (zO p 1) (.slice (some eR) l1 c1)) (h2:LDz Y4 93 (zO eR (Int.toNat duty*5)) (qf (zP n2 n3 n4 n5 n6))) (h3:CAz 80 [] ((Y4.row (zP 0 0 0 0 0) 5).own (E.j+4) (zP n2 n3 n4 n5 n6) 5) (.slice q7 l7 c7) E8) (h4:CPz 137 [.slice q7 l7 c7,.func (.func 138) ⟨[]⟩ ⟨[pq E.j 0,pq ((E.j+1)) 0,pq ((E.j+4)) 0,pq ((E.j+2)) 0]⟩] E8 (.bool false)) (h5:LDz E8 175 ⟨(E.j+2),0,none⟩ (qf (zK n10 n11 n12 n13))) (h6:SOz E8 175 ⟨(E.j+3),0,none⟩ (qf (zK n10 n11 n12 n13)) E14) (h7:LDz E14 175 ⟨(E.j+3),0,none⟩ (qf (zK n15 n16 n17 n18))) (nx:Q (.tuple ⟨[qf (zK n15 n16 n17 n18),.bool false]⟩) E14) (u1:Ix duty l1:=by omega),zQ tP 108 [pz p,iV dH,iV duty,qf (zK aY bu bb bi)] E Q:=
 λh1 h2 h3 h4 h5 h6 h7 nx u1=>let ch1:List Bs:=[.r (zK 0 0 0 0) 4,.r (zK aY bu bb bi) 4,.r [iV dH] 1,.r [pz p] 1];let ch2:List Bs:=.r (zP 0 0 0 0 0) 5::ch1;eQ [.g5,.f E ch1 0 0 zAE,.g3,.l h1,.g,.i u1,.l h2,.g,.s E ch2 4 0 zAN (qf (zP n2 n3 n4 n5 n6)),.c h3,.g,.c h4,.g,.l h5,.e h6,.g,.l h7] nx
theorem wHT:let Y1:=E.row [.int .u8 fp,.func (.func dx) ⟨dM⟩ ⟨bZ⟩] 2;∀(h1:LDz Y1 167 v0 (pz a1)) (h2:LDz Y1 72 a1 (qf (wkc n2 q3 l3 c3 q4 l4 c4 n5 n6 n7))) (h3:LDz Y1 3 v1 (iV n8)) (h4:LDz Y1 93 v2 (qf (zP n9 n10 n11 n12 n13))) (h5:LDz Y1 175 v3 (qf (zK n14 n15 n16 n17))) (h6:CPz dx (dM++(qf (wkc n2 q3 l3 c3 q4 l4 c4 n5 n6 n7)::iV n8::(qf (zP n9 n10 n11 n12 n13))::(qf (zK n14 n15 n16 n17))::bZ)) Y1 (.bool b18)) (nx:Q (.bool b18) Y1),zQ tP 138 [qf [.int .u8 fp,.func (.func dx) ⟨dM⟩ ⟨bZ⟩],pz v0,pz v1,pz v2,pz v3] E Q:=
 λh1 h2 h3 h4 h5 h6 nx=>let ch1:List Bs:=[.r [.int .u8 fp,.func (.func dx) ⟨dM⟩ ⟨bZ⟩] 2];eQ [.g3,.f E ch1 0 1 xME,.l h1,.g2,.l h2,.l h3,.l h4,.l h5,.c h6,.g] nx
theorem wEK:let Y1:=E.row [.int .u8 fS,.func (.func dy) ⟨[]⟩ ⟨bU⟩] 2;∀(h1:LDz Y1 224 v0 (.func (.func f1) ⟨[]⟩ ⟨dw⟩)) (h2:CPz f1 (qf [.int .u8 fS,.func (.func dy) ⟨[]⟩ ⟨bU⟩]::dw) Y1 (.bool true)) (nx:Q (.bool false) Y1),zQ tP 163 [qf [.int .u8 fS,.func (.func dy) ⟨[]⟩ ⟨bU⟩],pz v0] E Q:=
 λh1 h2 nx=>let ch1:List Bs:=[.r [.int .u8 fS,.func (.func dy) ⟨[]⟩ ⟨bU⟩] 2];eQ [.g2,.l h1,.F E ch1 0 0 zTN zEA,.c h2,.g2] nx
theorem wEJ:let Y1:=E.row [.int .u8 fS,.func (.func dy) ⟨[]⟩ ⟨bU⟩] 2;∀(h1:LDz Y1 224 v0 (.func (.func f1) ⟨[]⟩ ⟨dw⟩)) (h2:CPz f1 (qf [.int .u8 fS,.func (.func dy) ⟨[]⟩ ⟨bU⟩]::dw) Y1 (.bool false)) (nx:Q (.bool true) Y1),zQ tP 163 [qf [.int .u8 fS,.func (.func dy) ⟨[]⟩ ⟨bU⟩],pz v0] E Q:=
 λh1 h2 nx=>let ch1:List Bs:=[.r [.int .u8 fS,.func (.func dy) ⟨[]⟩ ⟨bU⟩] 2];eQ [.g2,.l h1,.F E ch1 0 0 zTN zEA,.c h2,.g2] nx
theorem yIA{s:oAa}(hb:∀k ar E,Inv k ar E->yDE s s_l s_c f f_c ar E (NX1 Inv k) Qr Q0):∀k ar E,Inv k ar E->xOL s s_l s_c f f_c ar E Qr Q0 :=
 xE (ai wX (ai (wF 0) trivial)) hb
theorem wBM(h1:LDz E 190 (zO s_a (Int.toNat ar*2)) (qf [.int .u8 nH,.func (.func fK) ⟨[]⟩ ⟨fK_c⟩]))(h2:CPz f (qf [.int .u8 nH,.func (.func fK) ⟨[]⟩ ⟨fK_c⟩]::f_c) E (.bool true))(nx:Qr ar E)(u1:ar<(s_l:Int):=by omega)(u2:Ix ar s_l:=by omega):yDE (some s_a) s_l s_c f f_c ar E Nx Qr Q0 :=
 eO 1 ar [.b (zT u1),.g5,.i u2,.l h1,.c h2,.g2] nx
theorem xCP(h1:LDz E 190 (zO s_a (Int.toNat ar*2)) (qf [.int .u8 nH,.func (.func fK) ⟨[]⟩ ⟨fK_c⟩]))(h2:CPz f (qf [.int .u8 nH,.func (.func fK) ⟨[]⟩ ⟨fK_c⟩]::f_c) E (.bool false))(nx:Nx (ar+1) E)(u1:ar<(s_l:Int):=by omega)(u2:Ix ar s_l:=by omega)(u3:I6 (ar+1):=by omega):yDE (some s_a) s_l s_c f f_c ar E Nx Qr Q0 :=
 eO 0 (ar+1) [.b (zT u1),.g5,.i u2,.l h1,.c h2,.w u3,.g] nx
theorem wBL{s:oAa}(nx:Q0 E)(u1:¬ar<(s_l:Int):=by omega):yDE s s_l s_c f f_c ar E Nx Qr Q0 :=
 eO 2 () [.b (zY u1)] nx
theorem xOJ{s:oAa}(hL:xOL s s_l s_c f f_c 0 E Pr P0)(kr:∀i4_1' E',Pr i4_1' E'->yOK s s_l s_c f f_c i4_1' E' Q)(k0:∀E',P0 E'->yOL s s_l s_c f f_c E' Q):zQ tP 173 [.slice s s_l s_c,.func (.func f) ⟨[]⟩ ⟨f_c⟩] E Q :=
 eQ [.g4,.k (.lf 19 (zWM s s_l s_c f f_c 0) [zYM s s_l s_c f f_c Pr,zYN s s_l s_c f f_c P0])] (ai (ai tt (ai (arf (zWM s s_l s_c f f_c 0)) hL)) (ai (kz1 kr) (ai (kz0 k0) trivial)))
theorem xKM{s:oAa}(nx:Q (iV bf) E):yOK s s_l s_c f f_c bf E Q :=
 eK [] nx
theorem xKN{s:oAa}(nx:Q (iV (-1)) E):yOL s s_l s_c f f_c E Q :=
 eK [.g] nx
theorem wIW{s:oAa}(h1:CPz 173 [.slice s s_l s_c,.func (.func f) ⟨[]⟩ ⟨f_c⟩] E (iV n1))(nx:Q (.bool true) E)(u1:0<=n1:=by omega):zQ tP 162 [.slice s s_l s_c,.func (.func f) ⟨[]⟩ ⟨f_c⟩] E Q :=
 eQ [.g3,.c h1,.b (xV u1),.g] nx
theorem wIV{s:oAa}(h1:CPz 173 [.slice s s_l s_c,.func (.func f) ⟨[]⟩ ⟨f_c⟩] E (iV n1))(nx:Q (.bool false) E)(u1:¬0<=n1:=by omega):zQ tP 162 [.slice s s_l s_c,.func (.func f) ⟨[]⟩ ⟨f_c⟩] E Q :=
 eQ [.g3,.c h1,.b (xX u1),.g] nx
theorem wJW:let y0:=E.row [.func (.func right) ⟨[]⟩ ⟨bS⟩] 1;∀(h1:CPz 162 [.slice l l_l l_c,.func (.func 163) ⟨[]⟩ ⟨[pq E.j 0]⟩] y0 (.bool true)) (nx:Q (.bool false) y0),zQ tP 137 [.slice l l_l l_c,.func (.func right) ⟨[]⟩ ⟨bS⟩] E Q :=
 λh1 nx=>eQ [.g4,.c h1,.g2] nx
theorem wJV:let y0:=E.row [.func (.func right) ⟨[]⟩ ⟨bS⟩] 1;∀(h1:CPz 162 [.slice l l_l l_c,.func (.func 163) ⟨[]⟩ ⟨[pq E.j 0]⟩] y0 (.bool false)) (nx:Q (.bool true) y0),zQ tP 137 [.slice l l_l l_c,.func (.func right) ⟨[]⟩ ⟨bS⟩] E Q :=
 λh1 nx=>eQ [.g4,.c h1,.g2] nx
theorem xJU(hb:∀k bv E,Inv k bv E->yDC p day BA BB l1 bv E (NX1 Inv k) Q0):∀k bv E,Inv k bv E->xNR p day BA BB l1 bv E Q0 :=
 xE (ai (wF 0) trivial) hb
theorem wAC(h1:LDz E 3 ⟨BA,0+Int.toNat bv*4+3,none⟩ (iV nH))(h2:SOz E 3 ⟨BA,0+Int.toNat bv*4+1,none⟩ (iV 0) EM)(h3:LDz EM 3 ⟨BA,0+Int.toNat bv*4+0,none⟩ (iV nD))(h4:LDz EM 3 (zO p 3) (iV nE))(h5:CPz 139 [.slice (some (qe EM.j 0)) 2 2] (EM.row [iV nD,iV (((day+1)*1440)-nE)] 1) (iV nF))(h6:SOz (EM.row [iV nD,iV (((day+1)*1440)-nE)] 1) 3 ⟨BA,0+Int.toNat bv*4+0,none⟩ (iV nF) EA)(nx:Nx (bv+1) EA)(u1:bv<(l1:Int):=by omega)(u2:Ix bv 6:=by omega)(u3:¬nH=day:=by omega)(u4:I6 (day+1):=by omega)(u5:I6 ((day+1)*1440):=by omega)(u6:I6 (((day+1)*1440)-nE):=by omega)(u7:I6 (bv+1):=by omega):yDC p day BA BB l1 bv E Nx Q0 :=
 eO 0 (bv+1) [.b (zT u1),.g3,.i u2,.g,.l h1,.g,.b (uA u3),.g,.i u2,.g,.e h2,.g2,.i u2,.g,.l h3,.g,.w u4,.w u5,.g4,.l h4,.w u6,.g,.c h5,.i u2,.g,.e h6,.w u7,.g] nx
theorem wAB(h1:LDz E 3 ⟨BA,0+Int.toNat bv*4+3,none⟩ (iV nH))(nx:Nx (bv+1) E)(u1:bv<(l1:Int):=by omega)(u2:Ix bv 6:=by omega)(u3:nH=day:=by omega)(u4:I6 (bv+1):=by omega):yDC p day BA BB l1 bv E Nx Q0 :=
 eO 0 (bv+1) [.b (zT u1),.g3,.i u2,.g,.l h1,.g,.b (yY u3),.w u4,.g] nx
theorem wAA(nx:Q0 E)(u1:¬bv<(l1:Int):=by omega):yDC p day BA BB l1 bv E Nx Q0 :=
 eO 1 () [.b (zY u1)] nx
theorem wHH{s:lVa}:let y0:=(E.row s 4).row [iV 0,iV 0,iV 0,iV 0,iV 0,iV 0,iV 0,iV 0,iV 0,iV 0,iV 0,iV 0,iV 0,iV 0,iV 0,iV 0,iV 0,iV 0,iV 0,iV 0,iV 0,iV 0,iV 0,iV 0] 4;∀(h1:LDz y0 70 (zO p 2) (.slice q1 l1 c1)) (hL:xNR p day E.j (E.j+1) l1 0 y0 P0) (k0:∀E',P0 E'->yNY p day E.j (E.j+1) l1 E' Q),zQ tP 110 [pz p,iV day,qf s] E Q :=
 let s1:=yDB p day E.j (E.j+1) l1 0;λh1 hL k0=>eQ [.g6,.l h1,.g2,.k (.lf 46 s1 [zYF p day E.j (E.j+1) l1 P0])] (ai (ai tt (ai (arf s1) hL)) (ai (kz0 k0) trivial))
theorem xJT(h1:LDz E 177 (qe BA 0) (qf cs1838))(h2:SOz E 177 (qe BB 0) (qf cs1838) EG)(h3:LDz EG 177 (qe BB 0) (qf cs1840))(nx:Q (qf cs1840) EG):yNY p day BA BB l1 E Q :=
 eK [.l h1,.e h2,.l h3] nx
theorem xUB(h1:CPz 126 [.slice l l_l l_c] E (iV n1))(nx:Q (iV n1) E):zQ tP 139 [.slice l l_l l_c] E Q :=
 eQ [.g2,.c h1,.g] nx
theorem yGV{Inv:Nat->Int->Int->St->Prop}{Q0:Int->St->Prop}(hb:∀k aP bf E,Inv k aP bf E->ySM x_a x_l x_c aP bf E (NX2 Inv k) Q0):∀k aP bf E,Inv k aP bf E->xNG x_a x_l x_c aP bf E Q0 :=
 zFM (ai (wF 0) trivial) hb
theorem xAX{Nx:Int->Int->St->Prop}{Q0:Int->St->Prop}(h1:LDz E 3 (zO x_a (Int.toNat bf*1)) (iV nH))(h2:wA tP (evL [iV aP,iV nH]) E (.call { callee:=.builtin .max,args:=⟨wT 2⟩,argTypes:=⟨[3,3]⟩ })=some (iV nJ))(nx:Nx nJ (bf+1) E)(u1:bf<(x_l:Int):=by omega)(u2:Ix bf x_l:=by omega)(u3:I6 (bf+1):=by omega):ySM x_a x_l x_c aP bf E Nx Q0 :=
 eO 0 (nJ,bf+1) [.g3,.b (zT u1),.g3,.i u2,.l h1,.v h2,.g2,.w u3,.g] nx
theorem xAW{Nx:Int->Int->St->Prop}{Q0:Int->St->Prop}(nx:Q0 aP E)(u1:¬bf<(x_l:Int):=by omega):ySM x_a x_l x_c aP bf E Nx Q0 :=
 eO 1 aP [.g3,.b (zY u1)] nx
theorem xNE{P0:Int->St->Prop}(h1:LDz E 3 x_a (iV n1))(hL:xNG x_a x_l x_c n1 1 E P0)(k0:∀i3_1' E',P0 i3_1' E'->yNM x_a x_l x_c i3_1' E' Q)(u1:¬(x_l:Int)<1:=by omega)(u2:Ix 0 x_l:=by omega):zQ tP 126 [.slice (some x_a) x_l x_c] E Q :=
 eQ [.g3,.b (zY u1),.g,.i u2,.l h1,.g2,.k (.lf 25 (zVS x_a x_l x_c n1 1) [zYA x_a x_l x_c P0])] (ai (ai tt (ai (arf (zVS x_a x_l x_c n1 1)) hL)) (ai (kz1 k0) trivial))
theorem yGU(nx:Q (iV aP) E):yNM x_a x_l x_c aP E Q :=
 eK [.g2] nx
end
section
variable{p:Option Addr}{l c cap:Nat}{xs:List Int}{g:FuncId}{gc:List Value}
structure WoP(E:St)(W:Wo)(P R:List Int):Prop where
 p:yM E W.p W.pl P
 b:∀x,W.b=some x->x.block<E.j
 r:yM E W.r W.rl R
def xCG:List Int->Int
 |[]=>0
 |x::xs=>xs.foldl max x
def zCT(L:Lw)(P R:List Int)(s:Int):Nat->Bool
 |0=>decide ((P.length:Int)<=L.n)
 |1=>decide (xCG P<=L.p)
 |2=>decide (P.sum<=L.d)
 |3=>R.all λn=>decide (L.b<=n)
 |_=>decide (s<=L.s)
section
variable{E E':St}{L:Lw}{W:Wo}{P R:List Int}
theorem WoP.le(h:WoP E W P R)(k:Le E E'):WoP E' W P R:=⟨SlV.le h.p k,λx e=>Nat.lt_of_lt_of_le (h.b x e) k.j,SlV.le h.r k⟩
theorem wLV(h:yM E p l xs)(h0:xs≠[])(hl:l<=1000):zW tP 126 [.slice p l c] E (iV (xCG xs)) E:=by
 have h1:=SlV.re h;have e1:=yM.len h;cases xs with
 |nil=>exact absurd rfl h0
 |cons x xs =>
 simp at e1;obtain⟨a,rfl,y,hy,ld⟩:=xA h1 (i:=0) (by omega);obtain rfl:x=y:=by simpa using hy
 refine(xNE (P0:=λn O=>O=E.re/\n=xCG (x::xs)) (by have:=ld;rwa [show zO a (Int.toNat ((0:Nat):Int)*1)=a from rfl]at this) (yGV (Inv:=λk n i O=>O=E.re/\∃j:Nat,i=((j+1:Nat):Int)/\j+1+k=l/\n=(xs.take j).foldl max x) ?_ (l-1) x 1 E.re ⟨rfl,0,rfl,by omega,rfl⟩) ?_).pure
 .rintro k n i O ⟨rfl,j,rfl,hk,rfl⟩;by_cases hj:j+1<l;rotate_left
  .refine xAW ⟨rfl, ?_⟩;rw[List.take_of_length_le (by omega)];rfl
  obtain⟨a',e',y,hy,ld⟩:=xA h1 hj;cases e'
  have hy':xs[j]?=some y:=by simpa using hy
  refine xAX ld zWH ⟨k-1,by omega,rfl,j+1,by omega,by omega, ?_⟩;rw[wE hy',List.foldl_append];rfl
 .rintro n O ⟨rfl,rfl⟩;exact yGU ⟨rfl,Nat.le_refl _⟩
theorem zTC(h:yM E p l xs)(h0:xs≠[])(hl:l<=1000):zW tP 86 [.slice p l c] E (iV (xCG xs)) E :=
 (yQS (wLV (SlV.re h) h0 hl) ⟨rfl,Nat.le_refl _⟩).pure
theorem yUN(h:WoP E W P R)(hl:W.pl<=100)(hb:∀x∈P, -100000<=x/\x<=100000):zW tP 38 [.agg ⟨woL W⟩] E (iV P.sum) E:=by
 have h1:WoP (E.re.row (woL W) 4) W P R:=(h.le (le0 E)).le (New.row _ _ _).le;have hn:E.j<=(E.re.row (woL W) 4).low:=(New.row _ _ _:New E.re _).lw;have e1:=yM.len h.p;have bound:∀j:Nat, -100000*(j:Int)<=(P.take j).sum/\(P.take j).sum<=100000*(j:Int):=by
  intro j;induction j with
  |zero=>simp
  |succ j ih =>
   by_cases hj:j<P.length
   .rw[wE (List.getElem?_eq_getElem hj),List.sum_append];have:=hb _ (List.getElem_mem hj);simp;omega
   .rw[List.take_of_length_le (by omega)]at ih ⊢;omega
 refine(xRF (P0:=λn O=>O=E.re.row (woL W) 4/\n=P.sum) (yQY (Inv:=λk n i O=>O=E.re.row (woL W) 4/\∃j:Nat,i=j/\j+k=W.pl/\n=(P.take j).sum) ?_ W.pl 0 0 _ ⟨rfl,0,rfl,by omega,rfl⟩) ?_).pure
 .rintro k n i O ⟨rfl,j,rfl,hk,rfl⟩;by_cases hj:j<W.pl;rotate_left
  .refine xGB ⟨rfl, ?_⟩;rw[List.take_of_length_le (by omega)]
  obtain⟨a,e,y,hy,ld⟩:=xA h1.p hj;have b1:=bound j;have b2:=bound (j+1);have e2:(P.take (j+1)).sum=(P.take j).sum+y:=by rw[wE hy,List.sum_append];simp
  rw[e];exact xGC ld ⟨k-1,by omega,rfl,j+1,by omega,by omega,e2.symm⟩
 .rintro n O ⟨rfl,rfl⟩;exact yQX ⟨rfl,hn⟩
theorem wJX{x:Int}{a:Addr}{b:Bool}(hr:Row E a [.func (.func g) ⟨[]⟩ ⟨gc⟩])(hc:∀O,Le E O->zW tP g (yK x::gc) O (.bool b) O) :
  zW tP 127 [yK x,.pointer (some a)] E (.bool (!b)) E:=by
 cases b with
 |true=>exact(xSB (hr.re.ld1 wET) (hc _ (le0 E)) ⟨rfl,Nat.le_refl _⟩).pure
 |false=>exact(xSA (hr.re.ld1 wET) (hc _ (le0 E)) ⟨rfl,Nat.le_refl _⟩).pure
theorem wEL{len:Nat}{f:Int->Bool}(hs:yM E p len xs)(hlen:len<=1073741824)
  (hc:∀x∈xs,∀O,Le E O->zW tP g (yK x::gc) O (.bool (f x)) O):zW tP 87 [.slice p len cap,.func (.func g) ⟨[]⟩ ⟨gc⟩] E (.bool (xs.all f)) E:=by
 have c:=wDI (E:=E.re.row [.func (.func g) ⟨[]⟩ ⟨gc⟩] 1) (g:=127) (gc:=[.pointer (some ⟨E.re.j,0,none⟩)]) (f:=λx=>!f x) (cap:=cap) hs.re.row hlen
  (λx hx O iq=>wJX ((wB _ _ _).le iq) (λO' hO'=>hc x hx O' ((((le0 E).trans (Le.row _ _ _)).trans iq).trans hO')))
 have e:(xs.any λx=>!f x)=!xs.all f:=by rw[List.not_all_eq_any_not]
 rw[e]at c;cases ha:xs.all f with
 |true=>rw[ha]at c;exact(xXO c ⟨rfl,Nat.le_refl _⟩).pure
 |false=>rw[ha]at c;exact(xXP c ⟨rfl,Nat.le_refl _⟩).pure
theorem wNU{n:Nat}(hn:n<5)(h:WoP E W P R)(h0:P≠[])(hl:W.pl<=100)(hr:W.rl<=1000)(hb:∀x∈P, -100000<=x/\x<=100000):zW tP (98+n) [.agg ⟨lwL L⟩,.agg ⟨woL W⟩] E (.bool (zCT L P R W.s n)) E:=by
 have N:New E.re ((E.re.row (lwL L) 8).row (woL W) 4):=(New.row _ _ _).row';have h1:=(h.le (le0 E)).le N.le;have e1:=yM.len h.p;have o:Own ((E.re.row (lwL L) 8).row (woL W) 4) E.re.j (lwL L) 8:=(zX E.re (lwL L) 8).row;match n,hn with
 |0,_ =>
  unfold zCT;by_cases c:(P.length:Int)<=L.n
  .rw[decide_eq_true c];exact(xWU ⟨rfl,N.lw⟩).pure
  .rw[decide_eq_false c];exact(xWT ⟨rfl,N.lw⟩).pure
 |1,_ =>
  unfold zCT;by_cases c:xCG P<=L.p
  .rw[decide_eq_true c];exact(xPK (zTC h1.p h0 (by omega)) (xW (SlV.re h.p)) ⟨rfl,N.lw⟩).pure
  .rw[decide_eq_false c];exact(xPJ (zTC h1.p h0 (by omega)) (xW (SlV.re h.p)) ⟨rfl,N.lw⟩).pure
 |2,_ =>
  unfold zCT;have bl:zL ((E.re.row (lwL L) 8).row (woL W) 4).j [.agg ⟨woL W⟩]:=by
   have kk:∀(p:Option Addr) (a b:Nat),(∀x,p=some x->x.block<((E.re.row (lwL L) 8).row (woL W) 4).j)->yQ 7 ((E.re.row (lwL L) 8).row (woL W) 4).j (.slice p a b)=true:=λp a b hp=>by
    cases p with
    |none=>rfl
    |some x=>exact(xY _ _).2 (hp x rfl)
   refine zI ?_ zM;show(yQ 7 _ (.slice W.p W.pl W.pc)&&(yQ 7 _ (.slice W.b W.bl W.bc)&&(yQ 7 _ (.slice W.r W.rl W.rc)&&(true&&true))))=true;rw[kk _ _ _ (xW h1.p),kk _ _ _ h1.b,kk _ _ _ (xW h1.r)];rfl
  by_cases c:P.sum<=L.d
  .rw[decide_eq_true c];exact(xFM (yUN h1 hl hb) bl ⟨rfl,N.lw⟩ c).pure
  .rw[decide_eq_false c];exact(xFL (yUN h1 hl hb) bl ⟨rfl,N.lw⟩ c).pure
 |3,_ =>
  refine(xFI (wEL (f:=λn=>decide (L.b<=n)) h1.r (by omega) λx _ O iq=>?_) ⟨rfl,N.lw⟩).pure;have ld:zJ tP O.re 3 (zO ⟨E.re.j,0,none⟩ 3)=some (iV L.b):=((o.le iq).re).ld rfl zU rfl;by_cases c:L.b<=x
  .rw[decide_eq_true c];exact(yVZ ld ⟨rfl,Nat.le_refl _⟩).pure
  .rw[decide_eq_false c];exact(yVY ld ⟨rfl,Nat.le_refl _⟩).pure
 |4,_ =>
  unfold zCT;by_cases c:W.s<=L.s
  .rw[decide_eq_true c];exact(xWS ⟨rfl,N.lw⟩).pure
  .rw[decide_eq_false c];exact(xWR ⟨rfl,N.lw⟩).pure
abbrev qV(n:Nat):Value:=.agg ⟨[.func (.func (98+n)) ⟨[]⟩ ⟨[]⟩]⟩
theorem wFR{b:Nat}{f:Nat->Bool}(hs:SlV tP E 158 1 (some ⟨b,0,none⟩) 5 ((List.range 5).map qV))
  (hc:∀n,n<5->∀O,Le E O->zW tP g (qV n::gc) O (.bool (f n)) O):zW tP 96 [.slice (some ⟨b,0,none⟩) 5 cap,.func (.func g) ⟨[]⟩ ⟨gc⟩] E (.bool ((List.range 5).any f)) E:=by
 have key:zQ tP 133 [.slice (some ⟨b,0,none⟩) 5 cap,.func (.func g) ⟨[]⟩ ⟨gc⟩] E.re.re λv s=>(∃r:Int,v=iV r/\(0<=r↔(List.range 5).any f=true))/\s=E.re.re:=by
  refine xWX (yXI (Inv:=λk i O=>O=E.re.re/\∃j:Nat,i=j/\j+k=5/\((List.range 5).take j).any f=false) (Qr:=λi O=>O=E.re.re/\0<=i/\(List.range 5).any f=true) (Q0:=λO=>O=E.re.re/\(List.range 5).any f=false) ?_ 5 0 E.re.re ⟨rfl,0,rfl,by omega,by simp⟩) ?_ ?_
  .rintro k i O ⟨rfl,j,rfl,hk,ha⟩;by_cases hj:j<5
   .obtain⟨a,e,x,hx,ld⟩:=xA hs.re.re hj;cases e
    have hxj:x=j:=by have:=List.getElem?_range hj;rw[this]at hx;simpa using hx.symm
    subst hxj;have c:=hc x hj E.re.re ((le0 E).trans (le0 _));cases hf:f x with
    |true =>
     rw[hf]at c;exact xQQ ld c ⟨rfl,by omega,List.any_eq_true.2 ⟨x,by simpa using hj,hf⟩⟩
    |false =>
     rw[hf]at c;exact xQP ld c ⟨k-1,by omega,rfl,x+1,by omega,by omega,by rw[wE hx,List.any_append,ha];simp[hf]⟩
   .exact xQO ⟨rfl,by rwa [List.take_of_length_le (by simp;omega)]at ha⟩
  .rintro i O ⟨rfl,h1,h2⟩;exact yXG ⟨⟨i,rfl,by simp[h1,h2]⟩,rfl⟩
  .rintro O ⟨rfl,h⟩;exact yXH ⟨⟨-1,rfl,by simp[h]⟩,rfl⟩
 obtain⟨v,s,h1,⟨r,rfl,h2⟩,rfl⟩:=key;have h1:=zYC h1 (Nat.le_refl _) rfl;cases ha:(List.range 5).any f with
 |true=>exact(xXH h1 ⟨rfl,Nat.le_refl _⟩ (h2.2 ha)).pure
 |false=>exact(xXG h1 ⟨rfl,Nat.le_refl _⟩ (λh=>by rw[h2.1 h]at ha;cases ha)).pure
theorem xKD(h:WoP E W P R)(h0:P≠[])(hl:W.pl<=100)(hr:W.rl<=1000)(hb:∀x∈P, -100000<=x/\x<=100000):zW tP 39 [.agg ⟨lwL L⟩,.agg ⟨woL W⟩] E (.bool ((List.range 5).all (zCT L P R W.s))) E:=by
 obtain⟨s1,hs⟩:∃s1,s1=(E.re.row (lwL L) 8).row (woL W) 4:=⟨_,rfl⟩;have N:New E.re s1:=by rw[hs];exact(New.row _ _ _).row'
 have oL:Own s1 E.j (lwL L) 8:=by rw[hs];exact(zX E.re (lwL L) 8).row
 have oW:Own s1 (E.j+1) (woL W) 4:=by rw[hs];exact zX (E.re.row (lwL L) 8) (woL W) 4
 obtain⟨v,s2,k1,m1,b,rfl,q1⟩:=zQ.new (E:=s1) (P:=tP) (f:=66) (args:=[]) (Q:=λv s=>∃b,v=.slice (some ⟨b,0,none⟩) 5 5/\SlV tP s 158 1 (some ⟨b,0,none⟩) 5 ((List.range 5).map qV))
  (yFB ⟨New.row _ _ _,s1.re.j,rfl,⟨rfl,wB _ _ _⟩,rfl,λv hv=>by
   obtain⟨n,_,rfl⟩:=List.mem_map.1 hv;exact .inr ⟨xMF,ySU,_,rfl,rfl⟩⟩) (by rintro v s s' ⟨b,rfl,g1⟩ hle;exact⟨b,rfl,g1.le hle⟩) (by rintro v s hr ⟨b,rfl,_⟩;cases hr)
 have h2:=(h.le (le0 E)).le (N.le.trans m1.le);have c:=wFR (E:=s2.re.row [.func (.func 67) ⟨[]⟩ ⟨[.pointer (some ⟨E.j,0,none⟩),.pointer (some ⟨E.j+1,0,none⟩)]⟩] 1) (g:=97) (gc:=[.pointer (some ⟨s2.re.j,0,none⟩)]) (f:=λn=>!zCT L P R W.s n) (cap:=5) q1.re.row
  (λn hn O iq=>by
   have L0:=((le0 s2).trans (Le.row _ _ _)).trans iq;have hrow:Row O.re ⟨s2.re.j,0,none⟩ [.func (.func 67) ⟨[]⟩ ⟨[.pointer (some ⟨E.j,0,none⟩),.pointer (some ⟨E.j+1,0,none⟩)]⟩]:=((wB s2.re _ 1).le iq).re;have c1:∀z,Le O z->zW tP 67 [qV n,.pointer (some ⟨E.j,0,none⟩),.pointer (some ⟨E.j+1,0,none⟩)] z (.bool (zCT L P R W.s n)) z:=λz hz=>by
    have L1:=(m1.le.trans (L0.trans hz)).trans (le0 z);exact(xFN (((oL.le L1).row).ldN xEM yGW rfl rfl (by simp)) (((oW.le L1).row).ldN zTO zEB rfl rfl (by simp)) (wNU hn (((h2.le (L0.trans hz)).le (le0 z)).le (Le.row _ _ _)) h0 hl hr hb) ⟨rfl,(New.row _ _ _:New z.re _).lw⟩).pure
   have c2:=c1 (O.re.row [.func (.func (98+n)) ⟨[]⟩ ⟨[]⟩] 1) ((le0 O).trans (Le.row _ _ _));have N3:New O.re (O.re.row [.func (.func (98+n)) ⟨[]⟩ ⟨[]⟩] 1):=New.row _ _ _;cases hq:zCT L P R W.s n with
   |true=>rw[hq]at c2;exact(xRZ (hrow.row.ld1 wES) c2 ⟨rfl,N3.lw⟩).pure
   |false=>rw[hq]at c2;exact(xRY (hrow.row.ld1 wES) c2 ⟨rfl,N3.lw⟩).pure)
 have e:((List.range 5).any λn=>!zCT L P R W.s n)=!(List.range 5).all (zCT L P R W.s):=by rw[List.not_all_eq_any_not]
 rw[e]at c;have hlow:E.j<=s2.low:=(N.trans m1).lw;refine(yQL (by rw[<- hs];exact k1) ?_ ⟨rfl,hlow⟩).pure;cases ha:(List.range 5).all (zCT L P R W.s)with
 |true=>rw[ha]at c;exact(xXM c ⟨rfl,Nat.le_refl _⟩).pure
 |false=>rw[ha]at c;exact(xXN c ⟨rfl,Nat.le_refl _⟩).pure
end
end
section
noncomputable section
variable(BA BB BC:Nat)(i2_4 bx i2_2 dv bJ bk fT i2_3:Int)(qF:oAa)(lJ cG:Nat)(Q:Int->St->Prop)(i2_5 bK:Int)(q0:St->Prop)(E:St)(Nx Qr:Int->St->Prop)(q1:vPa)(Q4 Q0 Q8 Q6 Q2:St->Prop)
def yFQ:Code:=(Code.part [1,1,1,1,0,1,0,0] (zV tP 5))
def zJL:lNa:=[(1,pq BA 0),(3,pq BB 0),(4,.slice (some (qe BC 0)) 7 7),(5,iV bJ)]
def yZT:Alt:=⟨Int,.normal,λt=>zJL BA BB BC t,λt=>[],λt E=>Q t E⟩
def zVA(BA BB BC:Nat)(bk:Int):lNa:=[(2,iV bk)]
def zJS:Alt:=⟨Int,.ret,λt=>zVA BA BB BC t,λt=>[],λt E=>Q t E⟩
def zVB(BA BB BC:Nat):lNa:=[(1,pq BA 0),(3,pq BB 0)]
def zJT:Alt:=⟨Unit,(.exit 0),λt=>zVB BA BB BC,λt=>[],λt E=>q0 E⟩
def zJW:Prop:=yT tP (zZ tP) none yFQ 206 (zJL BA BB BC bJ) [] [yZT BA BB BC Nx,zJS BA BB BC Qr,zJT BA BB BC Q0] E
def yFV:Prop:=yW tP (zZ tP) none yFQ 206 (zJL BA BB BC bJ) [] [zJS BA BB BC Qr,zJT BA BB BC Q0] E
def zVK:Prop:=kZ (zZ tP) (zV tP 5) [1,1,1,1,0,1,0] (kFn tP 5 q1) .ret 206 (zVA BA BB BC bk) E
def zBU:Prop:=kZ (zZ tP) (zV tP 5) [1,1,1,1,0,1,0] (kFn tP 5 q1) (.exit 0) 206 (zVB BA BB BC) E
def zJN:Code:=(Code.part [1,1,1,1,1,1,0,1,0,0] (zV tP 5))
def zFA:lNa:=[(1,pq BA 0),(6,iV bx)]
def zMZ:Alt:=⟨Int,.normal,λt=>zFA BA t,λt=>[],λt E=>Q t E⟩
def zUY(BA:Nat)(i2_2:Int):lNa:=[(2,iV i2_2)]
def zBS:Alt:=⟨Int,.ret,λt=>zUY BA t,λt=>[],λt E=>Q t E⟩
def zUZ:lNa:=[(1,pq BA 0)]
def zBT:Alt:=⟨Unit,(.exit 2),λt=>zUZ BA,λt=>[],λt E=>q0 E⟩
def zFB:Prop:=yT tP (zZ tP) none zJN 206 (zFA BA bx) [] [zMZ BA Nx,zBS BA Qr,zBT BA Q2] E
def yFU:Prop:=yW tP (zZ tP) none zJN 206 (zFA BA bx) [] [zBS BA Qr,zBT BA Q2] E
def yFP:Code:=(Code.part [1,1,1,1,1,1,0,1,0,0,1,0,0,1,1,0,0] (zV tP 5))
def zEZ:lNa:=[(1,pq BA 0),(6,iV bx),(7,iV fT)]
def yZS:Alt:=⟨Int,.normal,λt=>zEZ BA bx t,λt=>[],λt E=>Q t E⟩
def zUW(BA:Nat)(bx i2_3:Int):lNa:=[(2,iV i2_3)]
def zJQ:Alt:=⟨Int,.ret,λt=>zUW BA bx t,λt=>[],λt E=>Q t E⟩
def zUX:lNa:=[(1,pq BA 0),(6,iV bx)]
def zJR:Alt:=⟨Unit,(.exit 4),λt=>zUX BA bx,λt=>[],λt E=>q0 E⟩
def zJV:Prop:=yT tP (zZ tP) none yFP 206 (zEZ BA bx fT) [] [yZS BA bx Nx,zJQ BA bx Qr,zJR BA bx Q4] E
def yFT:Prop:=yW tP (zZ tP) none yFP 206 (zEZ BA bx fT) [] [zJQ BA bx Qr,zJR BA bx Q4] E
def zVG:Prop:=kZ (zZ tP) zJN [1,0,0,1,1,0] (zHG 206 [zMZ BA Nx,zBS BA Qr,zBT BA Q2]) .ret 206 (zUW BA bx i2_3) E
def zVH:Prop:=kZ (zZ tP) zJN [1,0,0,1,1,0] (zHG 206 [zMZ BA Nx,zBS BA Qr,zBT BA Q2]) (.exit 4) 206 (zUX BA bx) E
def zVI:Prop:=kZ (zZ tP) (zV tP 5) [1,1,1,1,1,1,0,1,0] (kFn tP 5 q1) .ret 206 (zUY BA i2_2) E
def zVJ:Prop:=kZ (zZ tP) (zV tP 5) [1,1,1,1,1,1,0,1,0] (kFn tP 5 q1) (.exit 2) 206 (zUZ BA) E
def zJM:Code:=(Code.part [1,1,1,1,1,1,1,0,1,0,0] (zV tP 5))
def zEY:lNa:=[(1,pq BA 0),(8,iV dv)]
def zMY:Alt:=⟨Int,.normal,λt=>zEY BA t,λt=>[],λt E=>Q t E⟩
def zUU(BA:Nat)(i2_4:Int):lNa:=[(2,iV i2_4)]
def zBQ:Alt:=⟨Int,.ret,λt=>zUU BA t,λt=>[],λt E=>Q t E⟩
def zUV(BA:Nat):lNa:=[]
def zBR:Alt:=⟨Unit,(.exit 6),λt=>zUV BA,λt=>[],λt E=>q0 E⟩
def zJU:Prop:=yT tP (zZ tP) none zJM 206 (zEY BA dv) [] [zMY BA Nx,zBQ BA Qr,zBR BA Q6] E
def yFS:Prop:=yW tP (zZ tP) none zJM 206 (zEY BA dv) [] [zBQ BA Qr,zBR BA Q6] E
def yFO:Code:=(Code.part [1,1,1,1,1,1,1,0,1,0,0,1,0,0,1,1,1,0,0] (zV tP 5))
def zEX:lNa:=[(1,pq BA 0),(8,iV dv),(9,.slice qF lJ cG),(10,iV bK)]
def yZR:Alt:=⟨Int,.normal,λt=>zEX BA dv qF lJ cG t,λt=>[],λt E=>Q t E⟩
def zUS(BA:Nat)(dv:Int)(qF:oAa)(lJ cG:Nat)(i2_5:Int):lNa:=[(2,iV i2_5)]
def zJO:Alt:=⟨Int,.ret,λt=>zUS BA dv qF lJ cG t,λt=>[],λt E=>Q t E⟩
def zUT(BA:Nat)(dv:Int)(qF:oAa)(lJ cG:Nat):lNa:=[(1,pq BA 0),(8,iV dv)]
def zJP:Alt:=⟨Unit,(.exit 8),λt=>zUT BA dv qF lJ cG,λt=>[],λt E=>q0 E⟩
def uL:Prop:=yT tP (zZ tP) none yFO 206 (zEX BA dv qF lJ cG bK) [] [yZR BA dv qF lJ cG Nx,zJO BA dv qF lJ cG Qr,zJP BA dv qF lJ cG Q8] E
def yFR:Prop:=yW tP (zZ tP) none yFO 206 (zEX BA dv qF lJ cG bK) [] [zJO BA dv qF lJ cG Qr,zJP BA dv qF lJ cG Q8] E
def zVC:Prop:=kZ (zZ tP) zJM [1,0,0,1,1,1,0] (zHG 206 [zMY BA Nx,zBQ BA Qr,zBR BA Q6]) .ret 206 (zUS BA dv qF lJ cG i2_5) E
def zVD:Prop:=kZ (zZ tP) zJM [1,0,0,1,1,1,0] (zHG 206 [zMY BA Nx,zBQ BA Qr,zBR BA Q6]) (.exit 8) 206 (zUT BA dv qF lJ cG) E
def zVE:Prop:=kZ (zZ tP) (zV tP 5) [1,1,1,1,1,1,1,0,1,0] (kFn tP 5 q1) .ret 206 (zUU BA i2_4) E
def zVF:Prop:=kZ (zZ tP) (zV tP 5) [1,1,1,1,1,1,1,0,1,0] (kFn tP 5 q1) (.exit 6) 206 (zUV BA) E
end
variable{d_L:Lw}{d_b d_k qCC qB qCB qH qF qP qDB:oAa}{ax az aI aK BA BB BC lSB cBC lI cI lB cB lAB cGB lTB cCC lBB cHB lJ cG lS cQ:Nat}{E:St}{Q:vPa}{n1 bJ nH bk nY nWB bx nR fT nQB i2_3 i2_2 dv bK nZ nAB nW nXB nBE i2_5 i2_4:Int}{Inv:Nat->Int->St->Prop}{Qr Nx Pr:Int->St->Prop}{Q0 P0 Q2 Q4 P4 P2 Q6 Q8 P8 P6:St->Prop}{eS gM qCB_a qNB_a qDB_a fk:Addr}
theorem xGZ(nx:Q (iV 3) (E.row (dnc d_L d_b ax az d_k aI aK) 10))(u1:6<(ax:Int):=by omega):zQ tP 5 [qf (dnc d_L d_b ax az d_k aI aK)] E Q :=
 let ch1:List Bs:=[.r (dnc d_L d_b ax az d_k aI aK) 10];eQ [.g3,.f E ch1 0 8 yJM,.g,.b (zT u1),.g5] nx
theorem xGY(nx:Q (iV 3) (E.row (dnc d_L d_b ax az d_k aI aK) 10))(u1:¬6<(ax:Int):=by omega)(u2:5<(aI:Int):=by omega):zQ tP 5 [qf (dnc d_L d_b ax az d_k aI aK)] E Q :=
 let ch1:List Bs:=[.r (dnc d_L d_b ax az d_k aI aK) 10];eQ [.g3,.f E ch1 0 8 yJM,.g,.b (zY u1),.g2,.f E ch1 0 9 zPF,.g,.b (zT u2),.g4] nx
theorem xGX:let y0:=dnc d_L d_b ax az d_k aI aK;∀(h1:CPz 6 [qf y0] (E.row y0 10) (iV n1)) (nx:Q (iV 3) (E.row y0 10)) (u1:¬6<(ax:Int):=by omega) (u2:¬5<(aI:Int):=by omega) (u3:10<n1:=by omega),zQ tP 5 [qf y0] E Q :=
 let y0:=dnc d_L d_b ax az d_k aI aK;λh1 nx u1 u2 u3=>let ch1:List Bs:=[.r y0 10];eQ [.g3,.f E ch1 0 8 yJM,.g,.b (zY u1),.g2,.f E ch1 0 9 zPF,.g,.b (zY u2),.g2,.F E ch1 0 0 wL xM,.c h1,.b (zT u3),.g2] nx
theorem yLK(hb:∀k bJ E,Inv k bJ E->zJW BA BB BC bJ E (NX1 Inv k) Qr Q0):∀k bJ E,Inv k bJ E->yFV BA BB BC bJ E Qr Q0 :=
 xE (ai wX (ai (wF 0) trivial)) hb
theorem yZQ(h1:LDz E 3 ⟨BC,0+Int.toNat bJ*1,none⟩ (iV nH))(h2:CPz 22 [iV nH,iV 0,iV 3000] E (.bool true))(nx:Nx (bJ+1) E)(u1:bJ<7:=by omega)(u2:Ix bJ 7:=by omega)(u3:I6 (bJ+1):=by omega):zJW BA BB BC bJ E Nx Qr Q0 :=
 eO 0 (bJ+1) [.g3,.b (zT u1),.g2,.i u2,.l h1,.c h2,.g2,.w u3,.g] nx
theorem yZP(h1:LDz E 3 ⟨BC,0+Int.toNat bJ*1,none⟩ (iV nH))(h2:CPz 22 [iV nH,iV 0,iV 3000] E (.bool false))(nx:Qr (1:Int) E)(u1:bJ<7:=by omega)(u2:Ix bJ 7:=by omega):zJW BA BB BC bJ E Nx Qr Q0 :=
 eO 1 (1:Int) [.g3,.b (zT u1),.g2,.i u2,.l h1,.c h2,.g2] nx
theorem yZO(nx:Q0 E)(u1:¬bJ<7:=by omega):zJW BA BB BC bJ E Nx Qr Q0 :=
 eO 2 () [.g3,.b (zY u1)] nx
theorem xGW:let y0:=dnc d_L d_b ax az d_k aI aK;∀(h1:CPz 6 [qf y0] (E.row y0 10) (iV n1)) (hL:yFV E.j (E.j+1) (E.j+2) 0 ((((E.row y0 10).row (zLV 0 0 0 0 0 0 0 0) 8).own (E.j+1) (lwL d_L) 8).row (zRM d_L.p d_L.d d_L.s d_L.b d_L.o d_L.f d_L.l) 1) Pr P0) (kr:∀i2_1' E',Pr i2_1' E'->zVK E.j (E.j+1) (E.j+2) i2_1' E' Q) (k0:∀E',P0 E'->zBU E.j (E.j+1) (E.j+2) E' Q) (u1:¬6<(ax:Int):=by omega) (u2:¬5<(aI:Int):=by omega) (u3:¬10<n1:=by omega),zQ tP 5 [qf y0] E Q :=
 let s1:=zJL E.j (E.j+1) (E.j+2) 0;let y0:=dnc d_L d_b ax az d_k aI aK;λh1 hL kr k0 u1 u2 u3=>let ch1:List Bs:=[.r y0 10];let ch2:List Bs:=.r (zLV 0 0 0 0 0 0 0 0) 8::ch1;let ch3:List Bs:=.o 1 (lwL d_L) 8::ch2;eQ [.g3,.f E ch1 0 8 yJM,.g,.b (zY u1),.g2,.f E ch1 0 9 zPF,.g,.b (zY u2),.g2,.F E ch1 0 0 wL xM,.c h1,.b (zY u3),.g2,.F E ch1 0 0 wLF ySS,.g,.s E ch2 1 0 ySS (qf (lwL d_L)),.g,.f E ch3 1 0 zU,.g,.f E ch3 1 1 zU,.g,.f E ch3 1 2 zU,.g,.f E ch3 1 3 zU,.g,.f E ch3 1 4 zU,.g,.f E ch3 1 5 zU,.g,.f E ch3 1 6 zU,.g3,.k (.lf 206 s1 [zJS E.j (E.j+1) (E.j+2) Pr,zJT E.j (E.j+1) (E.j+2) P0])] (ai (ai tt (ai (arf s1) hL)) (ai (kz1 kr) (ai (kz0 k0) trivial)))
theorem yLB(nx:Q (iV bk) E):zVK BA BB BC bk E Q :=
 eK [] nx
theorem yLF(h1:LDz E 3 (qe BB 3) (iV nY))(nx:Q (iV 1) E)(u1:nY=0:=by omega):zBU BA BB BC E Q :=
 eK [.g,.l h1,.b (wU u1),.g5] nx
theorem yLE(h1:LDz E 3 (qe BB 3) (iV nY))(h2:LDz E 3 (qe BB 7) (iV nWB))(h3:CPz 22 [iV nWB,iV 1,iV 3] E (.bool true))(h4:LDz E 25 (qe BA 9) (.slice qCC lSB cBC))(nx:Q (iV 1) E)(u1:¬nY=0:=by omega)(u2:(lSB:Int)=0:=by omega):zBU BA BB BC E Q :=
 eK [.g,.l h1,.b (wG u1),.g2,.l h2,.c h3,.g4,.l h4,.g,.b (wU u2),.g2] nx
theorem yLJ(hb:∀k bx E,Inv k bx E->zFB BA bx E (NX1 Inv k) Qr Q2):∀k bx E,Inv k bx E->yFU BA bx E Qr Q2 :=
 xE (ai wX (ai (wF 2) trivial)) hb
theorem yZN(h1:LDz E 25 (qe BA 9) (.slice (some eS) lI cI))(h2:LDz E 48 (zO eS (Int.toNat bx*1)) (.slice qB lB cB))(nx:Qr (1:Int) E)(u1:bx<(lI:Int):=by omega)(u2:Ix bx lI:=by omega)(u3:¬(lB:Int)=(lI:Int):=by omega):zFB BA bx E Nx Qr Q2 :=
 eO 1 (1:Int) [.g2,.l h1,.g,.b (zT u1),.g,.l h1,.g,.i u2,.l h2,.g2,.l h1,.g,.b (uA u3),.g3] nx
theorem yZM(h1:LDz E 25 (qe BA 9) (.slice (some eS) lI cI))(h2:LDz E 48 (zO eS (Int.toNat bx*1)) (.slice (some gM) lB cB))(h3:LDz E 3 (zO gM (Int.toNat bx*1)) (iV nR))(nx:Qr (1:Int) E)(u1:bx<(lI:Int):=by omega)(u2:Ix bx lI:=by omega)(u3:(lB:Int)=(lI:Int):=by omega)(u4:Ix bx lB:=by omega)(u5:¬nR=0:=by omega):zFB BA bx E Nx Qr Q2 :=
 eO 1 (1:Int) [.g2,.l h1,.g,.b (zT u1),.g,.l h1,.g,.i u2,.l h2,.g2,.l h1,.g,.b (yY u3),.g2,.l h1,.g,.i u2,.l h2,.g,.i u4,.l h3,.b (uA u5),.g2] nx
theorem yLI(hb:∀k fT E,Inv k fT E->zJV BA bx fT E (NX1 Inv k) Qr Q4):∀k fT E,Inv k fT E->yFT BA bx fT E Qr Q4 :=
 xE (ai wX (ai (wF 4) trivial)) hb
theorem yZJ(h1:LDz E 25 (qe BA 9) (.slice (some qCB_a) lAB cGB))(h2:LDz E 48 (zO qCB_a (Int.toNat bx*1)) (.slice (some qNB_a) lTB cCC))(h3:LDz E 3 (zO qNB_a (Int.toNat fT*1)) (iV nQB))(h4:CPz 22 [iV nQB,iV 0,iV 3000] E (.bool true))(nx:Nx (fT+1) E)(u1:fT<(lAB:Int):=by omega)(u2:Ix bx lAB:=by omega)(u3:Ix fT lTB:=by omega)(u4:I6 (fT+1):=by omega):zJV BA bx fT E Nx Qr Q4 :=
 eO 0 (fT+1) [.g2,.l h1,.g,.b (zT u1),.g,.l h1,.g,.i u2,.l h2,.g,.i u3,.l h3,.c h4,.g2,.w u4,.g] nx
theorem yZI(h1:LDz E 25 (qe BA 9) (.slice (some qCB_a) lAB cGB))(h2:LDz E 48 (zO qCB_a (Int.toNat bx*1)) (.slice (some qNB_a) lTB cCC))(h3:LDz E 3 (zO qNB_a (Int.toNat fT*1)) (iV nQB))(h4:CPz 22 [iV nQB,iV 0,iV 3000] E (.bool false))(nx:Qr (1:Int) E)(u1:fT<(lAB:Int):=by omega)(u2:Ix bx lAB:=by omega)(u3:Ix fT lTB:=by omega):zJV BA bx fT E Nx Qr Q4 :=
 eO 1 (1:Int) [.g2,.l h1,.g,.b (zT u1),.g,.l h1,.g,.i u2,.l h2,.g,.i u3,.l h3,.c h4,.g2] nx
theorem yZH(h1:LDz E 25 (qe BA 9) (.slice qCB lAB cGB))(nx:Q4 E)(u1:¬fT<(lAB:Int):=by omega):zJV BA bx fT E Nx Qr Q4 :=
 eO 2 () [.g2,.l h1,.g,.b (zY u1)] nx
theorem yZL(h1:LDz E 25 (qe BA 9) (.slice (some eS) lI cI))(h2:LDz E 48 (zO eS (Int.toNat bx*1)) (.slice (some gM) lB cB))(h3:LDz E 3 (zO gM (Int.toNat bx*1)) (iV nR))(hL:yFT BA bx 0 E Pr P4)(kr:∀i2_3' E',Pr i2_3' E'->zVG BA bx i2_3' E' Nx Qr Q2)(k4:∀E',P4 E'->zVH BA bx E' Nx Qr Q2)(u1:bx<(lI:Int):=by omega)(u2:Ix bx lI:=by omega)(u3:(lB:Int)=(lI:Int):=by omega)(u4:Ix bx lB:=by omega)(u5:nR=0:=by omega):zFB BA bx E Nx Qr Q2 :=
 eB [.g2,.l h1,.g,.b (zT u1),.g,.l h1,.g,.i u2,.l h2,.g2,.l h1,.g,.b (yY u3),.g2,.l h1,.g,.i u2,.l h2,.g,.i u4,.l h3,.b (yY u5),.g2,.k (.lf 206 (zEZ BA bx 0) [zJQ BA bx Pr,zJR BA bx P4])] (ai (ai tt (ai (arf (zEZ BA bx 0)) hL)) (ai (kz1 kr) (ai (kz0 k4) trivial)))
theorem yZK(h1:LDz E 25 (qe BA 9) (.slice qH lI cI))(nx:Q2 E)(u1:¬bx<(lI:Int):=by omega):zFB BA bx E Nx Qr Q2 :=
 eO 2 () [.g2,.l h1,.g,.b (zY u1)] nx
theorem yKX(nx:Qr i2_3 E):zVG BA bx i2_3 E Nx Qr Q2 :=
 eF 1 i2_3 [] nx
theorem yKY(nx:Nx (bx+1) E)(u1:I6 (bx+1):=by omega):zVH BA bx E Nx Qr Q2 :=
 eF 0 (bx+1) [.g,.w u1,.g] nx
theorem yLD(h1:LDz E 3 (qe BB 3) (iV nY))(h2:LDz E 3 (qe BB 7) (iV nWB))(h3:CPz 22 [iV nWB,iV 1,iV 3] E (.bool true))(h4:LDz E 25 (qe BA 9) (.slice qCC lSB cBC))(hL:yFU BA 0 E Pr P2)(kr:∀i2_2' E',Pr i2_2' E'->zVI BA i2_2' E' Q)(k2:∀E',P2 E'->zVJ BA E' Q)(u1:¬nY=0:=by omega)(u2:¬(lSB:Int)=0:=by omega):zBU BA BB BC E Q :=
 eK [.g,.l h1,.b (wG u1),.g2,.l h2,.c h3,.g4,.l h4,.g,.b (wG u2),.g2,.k (.lf 206 (zFA BA 0) [zBS BA Pr,zBT BA P2])] (ai (ai tt (ai (arf (zFA BA 0)) hL)) (ai (kz1 kr) (ai (kz0 k2) trivial)))
theorem yLC(h1:LDz E 3 (qe BB 3) (iV nY))(h2:LDz E 3 (qe BB 7) (iV nWB))(h3:CPz 22 [iV nWB,iV 1,iV 3] E (.bool false))(nx:Q (iV 1) E)(u1:¬nY=0:=by omega):zBU BA BB BC E Q :=
 eK [.g,.l h1,.b (wG u1),.g2,.l h2,.c h3,.g5] nx
theorem yKZ(nx:Q (iV i2_2) E):zVI BA i2_2 E Q :=
 eK [] nx
theorem yLH(hb:∀k dv E,Inv k dv E->zJU BA dv E (NX1 Inv k) Qr Q6):∀k dv E,Inv k dv E->yFS BA dv E Qr Q6 :=
 xE (ai wX (ai (wF 6) trivial)) hb
theorem yZG(h1:LDz E 24 (qe BA 8) (.slice (some qDB_a) lBB cHB))(h2:LDz E 59 (zO qDB_a (Int.toNat dv*1)) (.slice qF lJ cG))(nx:Qr (1:Int) E)(u1:dv<(lBB:Int):=by omega)(u2:Ix dv lBB:=by omega)(u3:(lJ:Int)<2:=by omega):zJU BA dv E Nx Qr Q6 :=
 eO 1 (1:Int) [.g2,.l h1,.g,.b (zT u1),.g,.l h1,.g,.i u2,.l h2,.g3,.b (zT u3),.g] nx
theorem yLG(hb:∀k bK E,Inv k bK E->uL BA dv qF lJ cG bK E (NX1 Inv k) Qr Q8):∀k bK E,Inv k bK E->yFR BA dv qF lJ cG bK E Qr Q8 :=
 xE (ai wX (ai (wF 8) trivial)) hb
@[reducible] def Ha7(E:St)(fk:Addr)(bK nZ nAB nW:Int)(BA lS cQ:Nat)(qP:oAa):Prop:=LDz E 3 (zO fk ((Int.toNat bK*3)+0)) (iV nZ)/\LDz E 25 ⟨BA,9,none⟩ (.slice qP lS cQ)/\(CPz 22 [iV nZ,iV 0,iV (((lS:Nat):Int)-1)] E (.bool true))/\LDz E 3 (zO fk (((Int.toNat bK*3)+1)+0)) (iV nAB)/\LDz E 3 (zO fk (((Int.toNat bK*3)+1)+1)) (iV nW)
theorem yZD(H:Ha7 E fk bK nZ nAB nW BA lS cQ qP)(h6:CPz 22 [iV nAB,iV 0,iV nW] E (.bool true))(nx:Qr (1:Int) E)(u1:bK<(lJ:Int):=by omega)(u2:Ix bK lJ:=by omega)(u3:I6 ((lS:Int)-1):=by omega)(u4:3000<nW:=by omega):uL BA dv (some fk) lJ cG bK E Nx Qr Q8 :=
 match H with|⟨h1,h2,h3,h4,h5⟩=>eO 1 (1:Int) [.g3,.b (zT u1),.g2,.i u2,.g,.l h1,.g,.l h2,.g,.w u3,.c h3,.g4,.i u2,.g2,.l h4,.g2,.i u2,.g2,.l h5,.c h6,.g5,.i u2,.g2,.l h5,.b (zT u4),.g2] nx
theorem yZC(H:Ha7 E fk bK nZ nAB nW BA lS cQ qP)(h6:CPz 22 [iV nAB,iV 0,iV nW] E (.bool true))(h7:LDz E 3 (zO fk (((Int.toNat (bK-1)*3)+1)+0)) (iV nXB))(nx:Qr (1:Int) E)(u1:bK<(lJ:Int):=by omega)(u2:Ix bK lJ:=by omega)(u3:I6 ((lS:Int)-1):=by omega)(u4:¬3000<nW:=by omega)(u5:0<bK:=by omega)(u6:I6 (bK-1):=by omega)(u7:Ix (bK-1) lJ:=by omega)(u8:nAB<nXB:=by omega):uL BA dv (some fk) lJ cG bK E Nx Qr Q8 :=
 match H with|⟨h1,h2,h3,h4,h5⟩=>eO 1 (1:Int) [.g3,.b (zT u1),.g2,.i u2,.g,.l h1,.g,.l h2,.g,.w u3,.c h3,.g4,.i u2,.g2,.l h4,.g2,.i u2,.g2,.l h5,.c h6,.g5,.i u2,.g2,.l h5,.b (zY u4),.g2,.b (zT u5),.g3,.i u2,.g2,.l h4,.g2,.w u6,.i u7,.g2,.l h7,.b (zT u8),.g4] nx
theorem yZB(H:Ha7 E fk bK nZ nAB nW BA lS cQ qP)(h6:CPz 22 [iV nAB,iV 0,iV nW] E (.bool true))(h7:LDz E 3 (zO fk (((Int.toNat (bK-1)*3)+1)+0)) (iV nXB))(h8:LDz E 3 (zO fk (((Int.toNat (bK-1)*3)+1)+1)) (iV nBE))(nx:Qr (1:Int) E)(u1:bK<(lJ:Int):=by omega)(u2:Ix bK lJ:=by omega)(u3:I6 ((lS:Int)-1):=by omega)(u4:¬3000<nW:=by omega)(u5:0<bK:=by omega)(u6:I6 (bK-1):=by omega)(u7:Ix (bK-1) lJ:=by omega)(u8:¬nAB<nXB:=by omega)(u9:nW<nBE:=by omega):uL BA dv (some fk) lJ cG bK E Nx Qr Q8 :=
 match H with|⟨h1,h2,h3,h4,h5⟩=>eO 1 (1:Int) [.g3,.b (zT u1),.g2,.i u2,.g,.l h1,.g,.l h2,.g,.w u3,.c h3,.g4,.i u2,.g2,.l h4,.g2,.i u2,.g2,.l h5,.c h6,.g5,.i u2,.g2,.l h5,.b (zY u4),.g2,.b (zT u5),.g3,.i u2,.g2,.l h4,.g2,.w u6,.i u7,.g2,.l h7,.b (zY u8),.g3,.i u2,.g2,.l h5,.g2,.w u6,.i u7,.g2,.l h8,.b (zT u9),.g3] nx
theorem yZA(H:Ha7 E fk bK nZ nAB nW BA lS cQ qP)(h6:CPz 22 [iV nAB,iV 0,iV nW] E (.bool true))(h7:LDz E 3 (zO fk (((Int.toNat (bK-1)*3)+1)+0)) (iV nXB))(h8:LDz E 3 (zO fk (((Int.toNat (bK-1)*3)+1)+1)) (iV nBE))(nx:Nx (bK+1) E)(u1:bK<(lJ:Int):=by omega)(u2:Ix bK lJ:=by omega)(u3:I6 ((lS:Int)-1):=by omega)(u4:¬3000<nW:=by omega)(u5:0<bK:=by omega)(u6:I6 (bK-1):=by omega)(u7:Ix (bK-1) lJ:=by omega)(u8:¬nAB<nXB:=by omega)(u9:¬nW<nBE:=by omega)(u10:I6 (bK+1):=by omega):uL BA dv (some fk) lJ cG bK E Nx Qr Q8 :=
 match H with|⟨h1,h2,h3,h4,h5⟩=>eO 0 (bK+1) [.g3,.b (zT u1),.g2,.i u2,.g,.l h1,.g,.l h2,.g,.w u3,.c h3,.g4,.i u2,.g2,.l h4,.g2,.i u2,.g2,.l h5,.c h6,.g5,.i u2,.g2,.l h5,.b (zY u4),.g2,.b (zT u5),.g3,.i u2,.g2,.l h4,.g2,.w u6,.i u7,.g2,.l h7,.b (zY u8),.g3,.i u2,.g2,.l h5,.g2,.w u6,.i u7,.g2,.l h8,.b (zY u9),.g3,.w u10,.g] nx
theorem yYZ(H:Ha7 E fk bK nZ nAB nW BA lS cQ qP)(h6:CPz 22 [iV nAB,iV 0,iV nW] E (.bool true))(nx:Nx (bK+1) E)(u1:bK<(lJ:Int):=by omega)(u2:Ix bK lJ:=by omega)(u3:I6 ((lS:Int)-1):=by omega)(u4:¬3000<nW:=by omega)(u5:¬0<bK:=by omega)(u6:I6 (bK+1):=by omega):uL BA dv (some fk) lJ cG bK E Nx Qr Q8 :=
 match H with|⟨h1,h2,h3,h4,h5⟩=>eO 0 (bK+1) [.g3,.b (zT u1),.g2,.i u2,.g,.l h1,.g,.l h2,.g,.w u3,.c h3,.g4,.i u2,.g2,.l h4,.g2,.i u2,.g2,.l h5,.c h6,.g5,.i u2,.g2,.l h5,.b (zY u4),.g2,.b (zY u5),.g3,.w u6,.g] nx
theorem yYY(H:Ha7 E fk bK nZ nAB nW BA lS cQ qP)(h6:CPz 22 [iV nAB,iV 0,iV nW] E (.bool false))(nx:Qr (1:Int) E)(u1:bK<(lJ:Int):=by omega)(u2:Ix bK lJ:=by omega)(u3:I6 ((lS:Int)-1):=by omega):uL BA dv (some fk) lJ cG bK E Nx Qr Q8 :=
 match H with|⟨h1,h2,h3,h4,h5⟩=>eO 1 (1:Int) [.g3,.b (zT u1),.g2,.i u2,.g,.l h1,.g,.l h2,.g,.w u3,.c h3,.g4,.i u2,.g2,.l h4,.g2,.i u2,.g2,.l h5,.c h6,.g5] nx
theorem yYX(h1:LDz E 3 (zO fk ((Int.toNat bK*3)+0)) (iV nZ))(h2:LDz E 25 (qe BA 9) (.slice qP lS cQ))(h3:CPz 22 [iV nZ,iV 0,iV ((lS:Int)-1)] E (.bool false))(nx:Qr (1:Int) E)(u1:bK<(lJ:Int):=by omega)(u2:Ix bK lJ:=by omega)(u3:I6 ((lS:Int)-1):=by omega):uL BA dv (some fk) lJ cG bK E Nx Qr Q8 :=
 eO 1 (1:Int) [.g3,.b (zT u1),.g2,.i u2,.g,.l h1,.g,.l h2,.g,.w u3,.c h3,.g6] nx
theorem yYW(nx:Q8 E)(u1:¬bK<(lJ:Int):=by omega):uL BA dv qF lJ cG bK E Nx Qr Q8 :=
 eO 2 () [.g3,.b (zY u1)] nx
theorem yZF(h1:LDz E 24 (qe BA 8) (.slice (some qDB_a) lBB cHB))(h2:LDz E 59 (zO qDB_a (Int.toNat dv*1)) (.slice qF lJ cG))(hL:yFR BA dv qF lJ cG 0 E Pr P8)(kr:∀i2_5' E',Pr i2_5' E'->zVC BA dv qF lJ cG i2_5' E' Nx Qr Q6)(k8:∀E',P8 E'->zVD BA dv qF lJ cG E' Nx Qr Q6)(u1:dv<(lBB:Int):=by omega)(u2:Ix dv lBB:=by omega)(u3:¬(lJ:Int)<2:=by omega):zJU BA dv E Nx Qr Q6 :=
 eB [.g2,.l h1,.g,.b (zT u1),.g,.l h1,.g,.i u2,.l h2,.g3,.b (zY u3),.g,.k (.lf 206 (zEX BA dv qF lJ cG 0) [zJO BA dv qF lJ cG Pr,zJP BA dv qF lJ cG P8])] (ai (ai tt (ai (arf (zEX BA dv qF lJ cG 0)) hL)) (ai (kz1 kr) (ai (kz0 k8) trivial)))
theorem yZE(h1:LDz E 24 (qe BA 8) (.slice qDB lBB cHB))(nx:Q6 E)(u1:¬dv<(lBB:Int):=by omega):zJU BA dv E Nx Qr Q6 :=
 eO 2 () [.g2,.l h1,.g,.b (zY u1)] nx
theorem yKT(nx:Qr i2_5 E):zVC BA dv qF lJ cG i2_5 E Nx Qr Q6 :=
 eF 1 i2_5 [] nx
theorem yKU(nx:Nx (dv+1) E)(u1:I6 (dv+1):=by omega):zVD BA dv qF lJ cG E Nx Qr Q6 :=
 eF 0 (dv+1) [.g,.w u1,.g] nx
theorem yLA(hL:yFS BA 0 E Pr P6)(kr:∀i2_4' E',Pr i2_4' E'->zVE BA i2_4' E' Q)(k6:∀E',P6 E'->zVF BA E' Q):zVJ BA E Q :=
 eK [.g,.k (.lf 206 (zEY BA 0) [zBQ BA Pr,zBR BA P6])] (ai (ai tt (ai (arf (zEY BA 0)) hL)) (ai (kz1 kr) (ai (kz0 k6) trivial)))
theorem yKV(nx:Q (iV i2_4) E):zVE BA i2_4 E Q :=
 eK [] nx
theorem yKW(nx:Q (iV 0) E):zVF BA E Q :=
 eK [.g] nx
end
section
variable{U:Type}{xs:List U}{j:Nat}
def okM(n:Int):Prop:=0<=n/\n<=3000
structure LawOk(L:Lw):Prop where
 p:okM L.p
 d:okM L.d
 s:okM L.s
 b:okM L.b
 o:okM L.o
 f:okM L.f
 l:okM L.l
 b0:L.b≠0
 n1:1<=L.n
 n3:L.n<=3
def yJP(kl a:Nat)(r:List Int):Prop:=r.length=kl/\r[a]?=some 0/\∀x∈r,okM x
def zRT(kl:Nat)(r:Rl):Prop:=0<=r.p/\r.p<(kl:Int)/\0<=r.lo/\r.lo<=r.hi/\r.hi<=3000
def zLY(kl:Nat)(x:List Rl):Prop:=2<=x.length/\(∀r∈x,zRT kl r)/\∀(i:Nat) r s,x[i]?=some r->x[i+1]?=some s->r.lo<=s.lo/\r.hi<=s.hi
structure OkD(L:Lw)(B:List (List Rl))(K:List (List Int)):Prop where
 law:LawOk L
 nb:B.length<=6
 nk:K.length<=5/\0<K.length
 ns:yZ B<=10
 rows:∀(a:Nat) r,K[a]?=some r->yJP K.length a r
 blks:∀x∈B,zLY K.length x
theorem zWG{P:U->Prop}(hj:xs.length<=j)(h:∀(i:Nat) x,i<j->xs[i]?=some x->P x):∀x∈xs,P x:=by
 intro x hx;obtain⟨i,hi⟩:=List.getElem?_of_mem hx;exact h i x (by have:=(List.getElem?_eq_some_iff.1 hi).1;omega) hi
theorem zSO{P:Nat->U->Prop}{y:U}(hy:xs[j]?=some y)(h:∀(i:Nat) x,i<j->xs[i]?=some x->P i x)(hp:P j y):∀(i:Nat) x,i<j+1->xs[i]?=some x->P i x:=by
 intro i x hi hx;by_cases e:i=j
 .subst e;rw[hy]at hx;cases hx;exact hp
 .exact h i x (by omega) hx
section
variable{E:St}{bl bc kl kc:Nat}{b k:Option Addr}{B:List (List Rl)}{K:List (List Int)}{L:Lw}
theorem wDD(h:DnP E 59 58 b bl k kl B K)(hb:bl<=10)(hk:kl<=8)(hB:∀r∈B,r.length<=14):∃n,zW tP 5 [.agg ⟨dnc L b bl bc k kl kc⟩] E (iV n) E/\(n=0->OkD L B K):=by
 suffices hm:zQ tP 5 [.agg ⟨dnc L b bl bc k kl kc⟩] E.re λv s=>∃n,v=iV n/\E.j<=s.low/\(n=0->OkD L B K) by
  obtain⟨v,s,g1,v',rfl,g2,g3⟩:=hm;exact⟨v',zQ.pure ⟨_,s,g1,rfl,g2⟩,g3⟩
 obtain⟨s1,hs⟩:∃s1,s1=E.re.row (dnc L b bl bc k kl kc) 10:=⟨_,rfl⟩;have N1:New E.re s1:=by rw[hs];exact New.row _ _ _
 have x1:Bx s1 E.j L b bl bc k kl kc:=by rw[hs];exact Bx.new
 have hn1:s1.j=E.j+1:=by rw[hs];rfl
 have h1:=(h.le (le0 E)).le N1.le;have eB:=h.bs.len;have eK:=h.ks.len;have no:∀{n:Int},n≠0->(n=0->OkD L B K):=λh e=>absurd e h
 have cs:zW tP 6 [.agg ⟨dnc L b bl bc k kl kc⟩] s1 (iV (yZ B)) s1:=yUP h1 rfl (by omega) λx hx=>by have:=hB x hx;omega
 by_cases c1:bl<=6;rotate_left
 .exact xGZ ⟨_,rfl,by rw[<- hs];exact N1.lw,no (by decide)⟩
 by_cases c2:kl<=5;rotate_left
 .exact xGY ⟨_,rfl,by rw[<- hs];exact N1.lw,no (by decide)⟩
 by_cases c3:yZ B<=10;rotate_left
 .exact xGX (by rw[<- hs];exact cs) ⟨_,rfl,by rw[<- hs];exact N1.lw,no (by decide)⟩ (by omega) (by omega) (by omega)
 obtain⟨s2,hs2⟩:∃s2,s2=((s1.row (zLV 0 0 0 0 0 0 0 0) 8).own (E.j+1) (lwL L) 8).row (zRM L.p L.d L.s L.b L.o L.f L.l) 1:=⟨_,rfl⟩;have N2:New E.re s2:=by rw[hs2];exact((N1.row').own (by show E.j<=E.j+1;omega)).row'
 have e2:Own s2 (E.j+1) (lwL L) 8:=by
  rw[hs2];have o:=zX s1 (zLV 0 0 0 0 0 0 0 0) 8;rw[hn1]at o;exact(o.put).row
 have e3:Own s2 (E.j+2) (zRM L.p L.d L.s L.b L.o L.f L.l) 1:=by
  rw[hs2];have o:=zX ((s1.row (zLV 0 0 0 0 0 0 0 0) 8).own (E.j+1) (lwL L) 8) (zRM L.p L.d L.s L.b L.o L.f L.l) 1;rw[show((s1.row (zLV 0 0 0 0 0 0 0 0) 8).own (E.j+1) (lwL L) 8).j=E.j+2 from by show s1.j+1=_;omega]at o;exact o
 have x2:Bx s2 E.j L b bl bc k kl kc:=by
  rw[hs2];exact⟨((x1.own.row).own (by omega)).row⟩
 have h2:=(h.le (le0 E)).le N2.le;have lst:∀(j:Nat) x,[L.p,L.d,L.s,L.b,L.o,L.f,L.l][j]?=some x->zJ tP s2 3 ⟨E.j+2,0+Int.toNat (j:Int)*1,none⟩=some (iV x):=by
  intro j x hx;refine e3.ld rfl zU ?_
  rw[Int.toNat_natCast,Nat.zero_add,Nat.mul_one];match j,hx with
  |0,hx|1,hx|2,hx|3,hx|4,hx|5,hx|6,hx=>simp at hx;subst hx;rfl
  |_+7,hx=>simp at hx
 refine xGW (P0:=λO=>s2=O/\∀x∈[L.p,L.d,L.s,L.b,L.o,L.f,L.l],okM x) (Pr:=λn O=>s2=O/\n≠0) (by rw[<- hs];exact cs) (yLK (Inv:=λk' i O=>s2=O/\∃j:Nat,i=j/\j+k'=7/\∀(i:Nat) x,i<j->[L.p,L.d,L.s,L.b,L.o,L.f,L.l][i]?=some x->okM x) ?_ 7 0 _ ⟨by rw[hs2,hs];rfl,0,rfl,by omega,λi x h=>by omega⟩) ?_ ?_ (by omega) (by omega) (by omega)
 .rintro k' i O ⟨rfl,j,rfl,hk',ha⟩;by_cases hj:j<7;rotate_left
  .exact yZO ⟨rfl,zWG (by simp;omega) ha⟩
  obtain⟨x,hx⟩:∃x,[L.p,L.d,L.s,L.b,L.o,L.f,L.l][j]?=some x:=⟨_,List.getElem?_eq_getElem (by simpa using hj)⟩;cases e:inB x 0 3000 with
  |true=>exact yZQ (lst j x hx) (zAU e) ⟨k' - 1,by omega,rfl,j+1,by omega,by omega,zSO (P:=λ_ x=>okM x) hx ha (uB.1 e)⟩
  |false=>exact yZP (lst j x hx) (zAU e) ⟨rfl,by decide⟩
 .rintro n O ⟨rfl,hn⟩;exact yLB ⟨_,rfl,N2.lw,no hn⟩
 rintro O ⟨rfl,hl⟩;have lb:zJ tP s2 3 ⟨E.j+1,3,none⟩=some (iV L.b):=e2.ld rfl zU rfl;have ln:zJ tP s2 3 ⟨E.j+1,7,none⟩=some (iV L.n):=e2.ld rfl zU rfl;by_cases b0:L.b=0
 .exact yLF lb ⟨_,rfl,N2.lw,no (by decide)⟩
 cases e4:inB L.n 1 3 with
 |false=>exact yLC lb ln (zAU e4) ⟨_,rfl,N2.lw,no (by decide)⟩
 |true =>
 by_cases k0:kl=0
 .exact yLE lb ln (zAU e4) x2.ks ⟨_,rfl,N2.lw,no (by decide)⟩
 have law:LawOk L:=⟨hl _ (by simp),hl _ (by simp),hl _ (by simp),hl _ (by simp),hl _ (by simp),hl _ (by simp),hl _ (by simp),b0,(uB.1 e4).1,(uB.1 e4).2⟩;refine yLD (P2:=λO=>s2=O/\∀(a:Nat) r,a<kl->K[a]?=some r->yJP kl a r) (Pr:=λn O=>s2=O/\n≠0) lb ln (zAU e4) x2.ks (yLJ (Inv:=λk' i O=>s2=O/\∃j:Nat,i=j/\j+k'=kl/\∀(a:Nat) r,a<j->K[a]?=some r->yJP kl a r) ?_ kl 0 _ ⟨rfl,0,rfl,by omega,λi x h=>by omega⟩) ?_ ?_
 .rintro k' i O ⟨rfl,j,rfl,hk',ha⟩;by_cases hj:j<kl;rotate_left
  .have:j=kl:=by omega
   subst this;exact yZK x2.ks ⟨rfl,ha⟩
  obtain⟨a,rfl,r,q,c,hr,ld,hq⟩:=h2.ks.at hj;by_cases r1:r.length=kl;rotate_left
  .exact yZN x2.ks ld ⟨rfl,by decide⟩
  obtain⟨a2,rfl,x,hx,ld2⟩:=xA hq (i:=j) (by omega);by_cases z0:x=0;rotate_left
  .exact yZM x2.ks ld ld2 ⟨rfl,by decide⟩
  refine yZL (P4:=λO=>s2=O/\∀x∈r,okM x) (Pr:=λn O=>s2=O/\n≠0) x2.ks ld ld2 (yLI (Inv:=λk' i O=>s2=O/\∃t:Nat,i=t/\t+k'=kl/\∀(i:Nat) x,i<t->r[i]?=some x->okM x) ?_ kl 0 _ ⟨rfl,0,rfl,by omega,λi x h=>by omega⟩) ?_ ?_
  .rintro k2 i2 O ⟨rfl,t,rfl,hk2,hb2⟩;by_cases ht:t<kl;rotate_left
   .exact yZH x2.ks ⟨rfl,zWG (by omega) hb2⟩
   obtain⟨a3,e3',y,hy,ld3⟩:=xA hq (i:=t) (by omega);cases e3'
   cases e:inB y 0 3000 with
   |true=>exact yZJ x2.ks ld ld3 (zAU e) ⟨k2-1,by omega,rfl,t+1,by omega,by omega,zSO (P:=λ_ x=>okM x) hy hb2 (uB.1 e)⟩
   |false=>exact yZI x2.ks ld ld3 (zAU e) ⟨rfl,by decide⟩
  .rintro n O ⟨rfl,hn⟩;exact yKX ⟨rfl,hn⟩
  .rintro O ⟨rfl,hr2⟩;exact yKY ⟨k' - 1,by omega,rfl,j+1,by omega,by omega,zSO (P:=λa r=>yJP kl a r) hr ha ⟨r1,by rw[hx,z0],hr2⟩⟩
 .rintro n O ⟨rfl,hn⟩;exact yKZ ⟨_,rfl,N2.lw,no hn⟩
 rintro O ⟨rfl,hrow⟩;refine yLA (P6:=λO=>s2=O/\∀x∈B,zLY kl x) (Pr:=λn O=>s2=O/\n≠0) (yLH (Inv:=λk' i O=>s2=O/\∃j:Nat,i=j/\j+k'=bl/\∀(a:Nat) x,a<j->B[a]?=some x->zLY kl x) ?_ bl 0 _ ⟨rfl,0,rfl,by omega,λi x h=>by omega⟩) ?_ ?_
 .rintro k' i O ⟨rfl,j,rfl,hk',ha⟩;by_cases hj:j<bl;rotate_left
  .exact yZE x2.bs ⟨rfl,zWG (by omega) ha⟩
  obtain⟨a,rfl,x,q,c,hx,ld,hq⟩:=h2.bs.at hj;by_cases r1:2<=x.length;rotate_left
  .exact yZG x2.bs ld ⟨rfl,by decide⟩
  have hx14:=hB x (List.mem_of_getElem? hx);refine yZF (P8:=λO=>s2=O/\zLY kl x) (Pr:=λn O=>s2=O/\n≠0) x2.bs ld (yLG (Inv:=λk' i O=>s2=O/\∃t:Nat,i=t/\t+k'=x.length/\(∀(i:Nat) r,i<t->x[i]?=some r->zRT kl r)/\∀(i:Nat) s,i<t->x[i]?=some s->∀i' r,i'+1=i->x[i']?=some r->r.lo<=s.lo/\r.hi<=s.hi) ?_ x.length 0 _ ⟨rfl,0,rfl,by omega,λi x h=>by omega,λi x h=>by omega⟩) ?_ ?_
  .rintro k2 i2 O ⟨rfl,t,rfl,hk2,hb2,hb3⟩;by_cases ht:t<x.length;rotate_left
   .exact yYW ⟨rfl,r1,zWG (by omega) hb2,λi r s hi hs=>hb3 (i+1) s (by have:=(List.getElem?_eq_some_iff.1 hs).1;omega) hs i r rfl hi⟩
   obtain⟨a3,rfl,y,hy,_⟩:=xA hq (i:=t) ht;have fl:∀{i:Nat} {r:Rl} (hi:x[i]?=some r) (k:Nat) {v:Value},(rlL r)[k]?=some v->zJ tP s2 3 (zO a3 (Int.toNat (i:Int)*3+k))=some v:=λhi k v hv=>zPU hq (by rw[List.getElem?_map,hi];rfl) hv zU
   have f0:=fl hy 0 rfl;have f1:=fl hy 1 rfl;have f2:=fl hy 2 rfl;have b1:Ix (t:Int) x.length:=⟨by omega,by omega⟩;have b2:I6 ((kl:Int)-1):=⟨by omega,by omega⟩;cases g1:inB y.p 0 ((kl:Int)-1)with
   |false=>exact yYX f0 x2.ks (zAU g1) ⟨rfl,by decide⟩
   |true =>
   cases g2:inB y.lo 0 y.hi with
   |false=>exact yYY ⟨f0,x2.ks,(zAU g1),f1,f2⟩ (zAU g2) ⟨rfl,by decide⟩
   |true =>
   by_cases g3:y.hi<=3000;rotate_left
   .exact yZD ⟨f0,x2.ks,(zAU g1),f1,f2⟩ (zAU g2) ⟨rfl,by decide⟩
   have ry:zRT kl y:=by
    have g1:=uB.1 g1;have g2:=uB.1 g2;exact⟨g1.1,by omega,g2.1,g2.2,g3⟩
   cases t with
   |zero=>exact yYZ ⟨f0,x2.ks,(zAU g1),f1,f2⟩ (zAU g2) ⟨k2-1,by omega,rfl,1,rfl,by omega,zSO (P:=λ_ r=>zRT kl r) hy hb2 ry,λi s h _ i' r e _=>by omega⟩
   |succ t =>
   have e1:(((t+1:Nat):Int)-1)=(t:Nat):=by omega
   obtain⟨z,hz⟩:∃z,x[t]?=some z:=⟨_,List.getElem?_eq_getElem (by omega)⟩;have f3:=fl hz 1 rfl;have f4:=fl hz 2 rfl;rw[<- e1]at f3 f4;have b3:I6 (((t+1:Nat):Int)-1):=⟨by omega,by omega⟩;have b4:Ix (((t+1:Nat):Int)-1) x.length:=⟨by omega,by omega⟩;by_cases g4:z.lo<=y.lo;rotate_left
   .exact yZC ⟨f0,x2.ks,(zAU g1),f1,f2⟩ (zAU g2) f3 ⟨rfl,by decide⟩
   by_cases g5:z.hi<=y.hi;rotate_left
   .exact yZB ⟨f0,x2.ks,(zAU g1),f1,f2⟩ (zAU g2) f3 f4 ⟨rfl,by decide⟩
   exact yZA ⟨f0,x2.ks,(zAU g1),f1,f2⟩ (zAU g2) f3 f4 ⟨k2-1,by omega,rfl,t+2,by omega,by omega,zSO (P:=λ_ r=>zRT kl r) hy hb2 ry,zSO (P:=λi s=>∀i' r,i'+1=i->x[i']?=some r->r.lo<=s.lo/\r.hi<=s.hi) hy hb3 λi' r e hr=>by
    obtain rfl:i'=t:=by omega
    rw[hz]at hr;cases hr;exact⟨g4,g5⟩⟩
  .rintro n O ⟨rfl,hn⟩;exact yKT ⟨rfl,hn⟩
  .rintro O ⟨rfl,hr2⟩;exact yKU ⟨k' - 1,by omega,rfl,j+1,by omega,by omega,zSO (P:=λ_ x=>zLY kl x) hx ha hr2⟩
 .rintro n O ⟨rfl,hn⟩;exact yKV ⟨_,rfl,N2.lw,no hn⟩
 rintro O ⟨rfl,hblk⟩;exact yKW ⟨_,rfl,N2.lw,λ_=>⟨law,by omega,⟨by omega,by omega⟩,c3,λa r hr=>by rw[eK];exact hrow a r (by have:=(List.getElem?_eq_some_iff.1 hr).1;omega) hr,by rw[eK];exact hblk⟩⟩
end
end
section
noncomputable section
variable(d_b s l:oAa)(ax s_l l_l az s_c l_c BA:Nat)(q0:Int->Int->St->Prop)(bk bT:Int)(f:FuncId)(d_k:oAa)(hH:Bool)(f_a f_c:lVa)(aI aK:Nat)(bf ar:Int)(q4:Bool->St->Prop)(q1:Int->St->Prop)(q5:St->Prop)(fZ:Bool)(E:St)(q2:Int->Int->St->Prop)(Nx q3 q6:Int->St->Prop)(Q:vPa)(Qr:Bool->St->Prop)(Q0:St->Prop)
def yVW:Code:=(Code.part [1,0,1,0,0] (zV tP 53))
def zMD:lNa:=[(2,iV bk),(6,.slice d_b ax az),(7,iV (ax:Int)),(8,iV ar)]
def xPN:Alt:=⟨Int×Int,.normal,λt=>zMD d_b ax az t.1 t.2,λt=>[],λt E=>q0 t.1 t.2 E⟩
def yDM(d_b:oAa)(ax az:Nat)(bk:Int):lNa:=[(2,iV bk)]
def zRX:Alt:=⟨Int,(.exit 0),λt=>yDM d_b ax az t,λt=>[],λt E=>q1 t E⟩
def yDO:Prop:=yT tP (zZ tP) none yVW 20 (zMD d_b ax az bk ar) [] [xPN d_b ax az q2,zRX d_b ax az q3] E
def yVX:Prop:=yW tP (zZ tP) none yVW 20 (zMD d_b ax az bk ar) [] [zRX d_b ax az q3] E
def yDN:Prop:=kZ (zZ tP) (zV tP 53) [1,0,1,0] (kFn tP 53 Q) (.exit 0) 20 (yDM d_b ax az bk) E
def yMB:Code:=(Code.part [1,0,1,0,0] (zV tP 55))
def zHH:lNa:=[(1,pq BA 0),(6,.slice d_k aI aK),(7,iV (aI:Int)),(8,iV ar)]
def xFG:Alt:=⟨Int,.normal,λt=>zHH BA d_k aI aK t,λt=>[],λt E=>q1 t E⟩
def zZO(BA:Nat)(d_k:oAa)(aI aK:Nat)(fZ:Bool):lNa:=[(2,.bool fZ)]
def zMA:Alt:=⟨Bool,.ret,λt=>zZO BA d_k aI aK t,λt=>[],λt E=>q4 t E⟩
def zZP(BA:Nat)(d_k:oAa)(aI aK:Nat):lNa:=[(1,pq BA 0)]
def zMB:Alt:=⟨Unit,(.exit 0),λt=>zZP BA d_k aI aK,λt=>[],λt E=>q5 E⟩
def zXR:Prop:=yT tP (zZ tP) none yMB 36 (zHH BA d_k aI aK ar) [] [xFG BA d_k aI aK Nx,zMA BA d_k aI aK Qr,zMB BA d_k aI aK Q0] E
def yMC:Prop:=yW tP (zZ tP) none yMB 36 (zHH BA d_k aI aK ar) [] [zMA BA d_k aI aK Qr,zMB BA d_k aI aK Q0] E
def yVS:Prop:=kZ (zZ tP) (zV tP 55) [1,0,1,0] (kFn tP 55 Q) .ret 36 (zZO BA d_k aI aK fZ) E
def zZQ:Prop:=kZ (zZ tP) (zV tP 55) [1,0,1,0] (kFn tP 55 Q) (.exit 0) 36 (zZP BA d_k aI aK) E
def yXE:Code:=(Code.part [1,0,1,0,0] (zV tP 153))
def zML:lNa:=[(0,.slice s s_l s_c),(1,.func (.func f) ⟨f_a⟩ ⟨f_c⟩),(7,iV (s_l:Int)),(8,iV ar)]
def xQN:Alt:=⟨Int,.normal,λt=>zML s s_l s_c f f_a f_c t,λt=>[],λt E=>q1 t E⟩
def yEG(s:oAa)(s_l s_c:Nat)(f:FuncId)(f_a f_c:lVa)(bf:Int):lNa:=[(4,iV bf)]
def zSB:Alt:=⟨Int,.ret,λt=>yEG s s_l s_c f f_a f_c t,λt=>[],λt E=>q1 t E⟩
def yEH(s:oAa)(s_l s_c:Nat)(f:FuncId)(f_a f_c:lVa):lNa:=[]
def zSC:Alt:=⟨Unit,(.exit 0),λt=>yEH s s_l s_c f f_a f_c,λt=>[],λt E=>q5 E⟩
def yEJ:Prop:=yT tP (zZ tP) none yXE 19 (zML s s_l s_c f f_a f_c ar) [] [xQN s s_l s_c f f_a f_c Nx,zSB s s_l s_c f f_a f_c q6,zSC s s_l s_c f f_a f_c Q0] E
def yXF:Prop:=yW tP (zZ tP) none yXE 19 (zML s s_l s_c f f_a f_c ar) [] [zSB s s_l s_c f f_a f_c q6,zSC s s_l s_c f f_a f_c Q0] E
def xFU:Prop:=kZ (zZ tP) (zV tP 153) [1,0,1,0] (kFn tP 153 Q) .ret 19 (yEG s s_l s_c f f_a f_c bf) E
def yEI:Prop:=kZ (zZ tP) (zV tP 153) [1,0,1,0] (kFn tP 153 Q) (.exit 0) 19 (yEH s s_l s_c f f_a f_c) E
def yXN:Code:=(Code.part [1,0,1,0,0] (zV tP 128))
def zMN:lNa:=[(0,.slice s s_l s_c),(1,.func (.func f) ⟨f_a⟩ ⟨f_c⟩),(7,iV (s_l:Int)),(8,iV ar)]
def xQU:Alt:=⟨Int,.normal,λt=>zMN s s_l s_c f f_a f_c t,λt=>[],λt E=>q1 t E⟩
def yEO(s:oAa)(s_l s_c:Nat)(f:FuncId)(f_a f_c:lVa)(bf:Int):lNa:=[(4,iV bf)]
def zSF:Alt:=⟨Int,.ret,λt=>yEO s s_l s_c f f_a f_c t,λt=>[],λt E=>q1 t E⟩
def yEP(s:oAa)(s_l s_c:Nat)(f:FuncId)(f_a f_c:lVa):lNa:=[]
def zSG:Alt:=⟨Unit,(.exit 0),λt=>yEP s s_l s_c f f_a f_c,λt=>[],λt E=>q5 E⟩
def yER:Prop:=yT tP (zZ tP) none yXN 19 (zMN s s_l s_c f f_a f_c ar) [] [xQU s s_l s_c f f_a f_c Nx,zSF s s_l s_c f f_a f_c q6,zSG s s_l s_c f f_a f_c Q0] E
def yXO:Prop:=yW tP (zZ tP) none yXN 19 (zMN s s_l s_c f f_a f_c ar) [] [zSF s s_l s_c f f_a f_c q6,zSG s s_l s_c f f_a f_c Q0] E
def xFV:Prop:=kZ (zZ tP) (zV tP 128) [1,0,1,0] (kFn tP 128 Q) .ret 19 (yEO s s_l s_c f f_a f_c bf) E
def yEQ:Prop:=kZ (zZ tP) (zV tP 128) [1,0,1,0] (kFn tP 128 Q) (.exit 0) 19 (yEP s s_l s_c f f_a f_c) E
def yFC:Code:=(Code.part [1,0,1,0,0] (zV tP 57))
def zET:lNa:=[(1,.slice l l_l l_c),(2,pq BA 0),(7,.slice l l_l l_c),(8,iV (l_l:Int)),(9,iV bT)]
def yYJ:Alt:=⟨Int,.normal,λt=>zET l l_l l_c BA t,λt=>[],λt E=>q1 t E⟩
def zUI(l:oAa)(l_l l_c BA:Nat)(hH:Bool):lNa:=[(4,.bool hH)]
def zJC:Alt:=⟨Bool,.ret,λt=>zUI l l_l l_c BA t,λt=>[],λt E=>q4 t E⟩
def zUJ:lNa:=[(1,.slice l l_l l_c),(2,pq BA 0)]
def zJD:Alt:=⟨Unit,(.exit 0),λt=>zUJ l l_l l_c BA,λt=>[],λt E=>q5 E⟩
def zJE:Prop:=yT tP (zZ tP) none yFC 52 (zET l l_l l_c BA bT) [] [yYJ l l_l l_c BA Nx,zJC l l_l l_c BA Qr,zJD l l_l l_c BA Q0] E
def yFD:Prop:=yW tP (zZ tP) none yFC 52 (zET l l_l l_c BA bT) [] [zJC l l_l l_c BA Qr,zJD l l_l l_c BA Q0] E
def yRB:Prop:=kZ (zZ tP) (zV tP 57) [1,0,1,0] (kFn tP 57 Q) .ret 52 (zUI l l_l l_c BA hH) E
def zUK:Prop:=kZ (zZ tP) (zV tP 57) [1,0,1,0] (kFn tP 57 Q) (.exit 0) 52 (zUJ l l_l l_c BA) E
end
variable{d_b qA d_k qC qO s dG_b dG_k:oAa}{ax az lA cA aI aK BA lE cD lW cP s_l s_c l_l l_c x_l x_c dG_bl dG_bc dG_kl dG_kc:Nat}{Inv:Nat->Int->St->Prop}{Q0 P0:St->Prop}{bk ar nJ nE n1 bT nD:Int}{dA d_k_a dU v0 s_a l_a:Addr}{E:St}{Nx:Int->St->Prop}{d_L L1875:Lw}{Q:vPa}{b2 bC:Bool}{Qr Pr:Bool->St->Prop}{r rA:Rl}{f1 f right:FuncId}{dw f1_a f_a f_c bS eV:lVa}
theorem yVV{Inv:Nat->Int->Int->St->Prop}{Q0:Int->St->Prop}(hb:∀k bk ar E,Inv k bk ar E->yDO d_b ax az bk ar E (NX2 Inv k) Q0):∀k bk ar E,Inv k bk ar E->yVX d_b ax az bk ar E Q0 :=
 zFM (ai (wF 0) trivial) hb
theorem xPM{Nx:Int->Int->St->Prop}{Q0:Int->St->Prop}(h1:LDz E 90 (zO dA (Int.toNat ar*1)) (.slice qA lA cA))(h2:wA tP (evL [iV 0,iV ((lA:Int)-1)]) E (.call { callee:=.builtin .max,args:=⟨wT 2⟩,argTypes:=⟨[3,3]⟩ })=some (iV nJ))(nx:Nx (bk+nJ) (ar+1) E)(u1:ar<(ax:Int):=by omega)(u2:Ix ar ax:=by omega)(u3:I6 ((lA:Int)-1):=by omega)(u4:I6 (bk+nJ):=by omega)(u5:I6 (ar+1):=by omega):yDO (some dA) ax az bk ar E Nx Q0 :=
 eO 0 (bk+nJ,ar+1) [.b (zT u1),.i u2,.l h1,.g4,.w u3,.v h2,.w u4,.g,.w u5,.g] nx
theorem xPL{Nx:Int->Int->St->Prop}{Q0:Int->St->Prop}(nx:Q0 bk E)(u1:¬ar<(ax:Int):=by omega):yDO d_b ax az bk ar E Nx Q0 :=
 eO 1 bk [.b (zY u1)] nx
theorem xWO{P0:Int->St->Prop}(hL:yVX d_b ax az 0 0 (E.row (dnc d_L d_b ax az d_k aI aK) 10) P0)(k0:∀i2_1' E',P0 i2_1' E'->yDN d_b ax az i2_1' E' Q):zQ tP 53 [qf (dnc d_L d_b ax az d_k aI aK)] E Q :=
 let ch1:List Bs:=[.r (dnc d_L d_b ax az d_k aI aK) 10];eQ [.g3,.f E ch1 0 8 zXH,.g2,.k (.lf 20 (zMD d_b ax az 0 0) [zRX d_b ax az P0])] (ai (ai tt (ai (arf (zMD d_b ax az 0 0)) hL)) (ai (kz1 k0) trivial))
theorem yVU(nx:Q (iV bk) E):yDN d_b ax az bk E Q :=
 eK [.g2] nx
theorem xFK{l:Lw}:let Y1:=E.row (lwL l) 8;let Y2:=Y1.row (zRM l.p l.d l.s l.b l.o l.f l.l) 1;∀(h1:CPz 87 [.slice (some ⟨(E.j+1),0,none⟩) 7 7,.func (.func 88) ⟨[]⟩ ⟨[]⟩] Y2 (.bool true)) (h2:CPz 62 [iV l.n,iV 1,iV 3] Y2 (.bool b2)) (nx:Q (.bool b2) Y2) (u1:0<l.b:=by omega),zQ tP 54 [qf (lwL l)] E Q:=
 λh1 h2 nx u1=>let ch1:List Bs:=[.r (lwL l) 8];let ch2:List Bs:=.r (zRM l.p l.d l.s l.b l.o l.f l.l) 1::ch1;eQ [.g3,.f E ch1 0 0 zU,.g,.f E ch1 0 1 zU,.g,.f E ch1 0 2 zU,.g,.f E ch1 0 3 zU,.g,.f E ch1 0 4 zU,.g,.f E ch1 0 5 zU,.g,.f E ch1 0 6 zU,.g,.c h1,.g2,.f E ch2 0 3 zU,.b (zT u1),.g3,.f E ch2 0 7 zU,.c h2,.g2] nx
theorem yQG(hb:∀k ar E,Inv k ar E->zXR BA d_k aI aK ar E (NX1 Inv k) Qr Q0):∀k ar E,Inv k ar E->yMC BA d_k aI aK ar E Qr Q0 :=
 xE (ai wX (ai (wF 0) trivial)) hb
theorem xFF(h1:LDz E 48 (zO d_k_a (Int.toNat ar*1)) (.slice (some dU) lA cA))(h2:LDz E 25 (qe BA 9) (.slice qC lE cD))(h3:CPz 87 [.slice (some dU) lA cA,.func (.func 88) ⟨[]⟩ ⟨[]⟩] E (.bool true))(h4:LDz E 3 (zO dU (Int.toNat ar*1)) (iV nE))(nx:Nx (ar+1) E)(u1:ar<(aI:Int):=by omega)(u2:Ix ar aI:=by omega)(u3:(lA:Int)=(lE:Int):=by omega)(u4:Ix ar lA:=by omega)(u5:nE=0:=by omega)(u6:I6 (ar+1):=by omega):zXR BA (some d_k_a) aI aK ar E Nx Qr Q0 :=
 eO 0 (ar+1) [.b (zT u1),.g,.i u2,.l h1,.g5,.l h2,.g,.b (yY u3),.g2,.c h3,.g5,.i u4,.l h4,.b (yY u5),.g,.w u6,.g] nx
theorem xFE(nx:Q0 E)(u1:¬ar<(aI:Int):=by omega):zXR BA d_k aI aK ar E Nx Qr Q0 :=
 eO 2 () [.b (zY u1)] nx
theorem xPH(hL:yMC E.j d_k aI aK 0 (E.row (dnc d_L d_b ax az d_k aI aK) 10) Pr P0)(kr:∀t2_1' E',Pr t2_1' E'->yVS E.j d_k aI aK t2_1' E' Q)(k0:∀E',P0 E'->zZQ E.j d_k aI aK E' Q):zQ tP 55 [qf (dnc d_L d_b ax az d_k aI aK)] E Q :=
 let ch1:List Bs:=[.r (dnc d_L d_b ax az d_k aI aK) 10];eQ [.g3,.f E ch1 0 9 zPF,.g2,.k (.lf 36 (zHH E.j d_k aI aK 0) [zMA E.j d_k aI aK Pr,zMB E.j d_k aI aK P0])] (ai (ai tt (ai (arf (zHH E.j d_k aI aK 0)) hL)) (ai (kz1 kr) (ai (kz0 k0) trivial)))
theorem yQF(h1:LDz E 25 (qe BA 9) (.slice qO lW cP))(nx:Q (.bool true) E)(u1:0<(lW:Int):=by omega):zZQ BA d_k aI aK E Q :=
 eK [.g,.l h1,.g,.b (zT u1),.g] nx
theorem yYF:let Y1:=E.row (dnc d_L d_b ax az d_k aI aK) 10;let Y2:=Y1.row (rlL r) 3;∀(h1:CPz 62 [iV r.p,iV 0,iV ((aI:Int)-1)] Y2 (.bool true)) (h2:CPz 88 [iV r.hi] Y2 (.bool b2)) (nx:Q (.bool b2) Y2) (u1:I6 ((aI:Int)-1):=by omega) (u2:0<=r.lo:=by omega) (u3:r.lo<=r.hi:=by omega),zQ tP 92 [qf (dnc d_L d_b ax az d_k aI aK),qf (rlL r)] E Q:=
 λh1 h2 nx u1 u2 u3=>let ch1:List Bs:=[.r (rlL r) 3,.r (dnc d_L d_b ax az d_k aI aK) 10];eQ [.g4,.f E ch1 1 0 zU,.g,.f E ch1 0 9 zPF,.g,.w u1,.c h1,.g3,.f E ch1 1 1 zU,.b (xV u2),.g4,.f E ch1 1 1 zU,.g2,.f E ch1 1 2 zU,.b (xV u3),.g4,.f E ch1 1 2 zU,.c h2,.g2] nx
theorem xRX{x:Rl}:let Y1:=E.row (rlL x) 3;∀(h1:LDz Y1 199 v0 (.func (.func f1) ⟨f1_a⟩ ⟨dw⟩)) (h2:CPz f1 (f1_a++(qf (rlL x)::dw)) Y1 (.bool true)) (nx:Q (.bool false) Y1),zQ tP 130 [qf (rlL x),pz v0] E Q:=
 λh1 h2 nx=>let ch1:List Bs:=[.r (rlL x) 3];eQ [.g2,.l h1,.F E ch1 0 0 wLD ySP,.c h2,.g2] nx
theorem yXD{Qr:Int->St->Prop}(hb:∀k ar E,Inv k ar E->yEJ s s_l s_c f f_a f_c ar E (NX1 Inv k) Qr Q0):∀k ar E,Inv k ar E->yXF s s_l s_c f f_a f_c ar E Qr Q0 :=
 xE (ai wX (ai (wF 0) trivial)) hb
theorem xQM{Qr:Int->St->Prop}(h1:LDz E 89 (zO s_a (Int.toNat ar*3)) (qf (rlL rA)))(h2:CPz f (f_a++(qf (rlL rA)::f_c)) E (.bool false))(nx:Nx (ar+1) E)(u1:ar<(s_l:Int):=by omega)(u2:Ix ar s_l:=by omega)(u3:I6 (ar+1):=by omega):yEJ (some s_a) s_l s_c f f_a f_c ar E Nx Qr Q0 :=
 eO 0 (ar+1) [.b (zT u1),.g5,.i u2,.l h1,.c h2,.w u3,.g] nx
theorem xQL{Qr:Int->St->Prop}(nx:Q0 E)(u1:¬ar<(s_l:Int):=by omega):yEJ s s_l s_c f f_a f_c ar E Nx Qr Q0 :=
 eO 2 () [.b (zY u1)] nx
theorem xWW{Pr:Int->St->Prop}(hL:yXF s s_l s_c f f_a f_c 0 E Pr P0)(kr:∀i4_1' E',Pr i4_1' E'->xFU s s_l s_c f f_a f_c i4_1' E' Q)(k0:∀E',P0 E'->yEI s s_l s_c f f_a f_c E' Q):zQ tP 153 [.slice s s_l s_c,.func (.func f) ⟨f_a⟩ ⟨f_c⟩] E Q :=
 eQ [.g4,.k (.lf 19 (zML s s_l s_c f f_a f_c 0) [zSB s s_l s_c f f_a f_c Pr,zSC s s_l s_c f f_a f_c P0])] (ai (ai tt (ai (arf (zML s s_l s_c f f_a f_c 0)) hL)) (ai (kz1 kr) (ai (kz0 k0) trivial)))
theorem yXC(nx:Q (iV (-1)) E):yEI s s_l s_c f f_a f_c E Q :=
 eK [.g] nx
theorem xXF(h1:CPz 153 [.slice s s_l s_c,.func (.func f) ⟨f_a⟩ ⟨f_c⟩] E (iV n1))(nx:Q (.bool false) E)(u1:¬0<=n1:=by omega):zQ tP 129 [.slice s s_l s_c,.func (.func f) ⟨f_a⟩ ⟨f_c⟩] E Q :=
 eQ [.g3,.c h1,.b (xX u1),.g] nx
theorem xXL{l:oAa}:let y0:=E.row [.func (.func right) ⟨eV⟩ ⟨bS⟩] 1;∀(h1:CPz 129 [.slice l l_l l_c,.func (.func 130) ⟨[]⟩ ⟨[pq E.j 0]⟩] y0 (.bool false)) (nx:Q (.bool true) y0),zQ tP 91 [.slice l l_l l_c,.func (.func right) ⟨eV⟩ ⟨bS⟩] E Q :=
 λh1 nx=>eQ [.g4,.c h1,.g2] nx
theorem xSC{x:oAa}(h1:LDz E 138 v0 (.func (.func f1) ⟨f1_a⟩ ⟨dw⟩))(h2:CPz f1 (f1_a++(.slice x x_l x_c::dw)) E (.bool true))(nx:Q (.bool false) E):zQ tP 90 [.slice x x_l x_c,pz v0] E Q :=
 eQ [.g,.l h1,.g,.c h2,.g2] nx
theorem yXM{Qr:Int->St->Prop}(hb:∀k ar E,Inv k ar E->yER s s_l s_c f f_a f_c ar E (NX1 Inv k) Qr Q0):∀k ar E,Inv k ar E->yXO s s_l s_c f f_a f_c ar E Qr Q0 :=
 xE (ai wX (ai (wF 0) trivial)) hb
theorem xQT{Qr:Int->St->Prop}(h1:LDz E 90 (zO s_a (Int.toNat ar*1)) (.slice qA lA cA))(h2:CPz f (f_a++(.slice qA lA cA::f_c)) E (.bool false))(nx:Nx (ar+1) E)(u1:ar<(s_l:Int):=by omega)(u2:Ix ar s_l:=by omega)(u3:I6 (ar+1):=by omega):yER (some s_a) s_l s_c f f_a f_c ar E Nx Qr Q0 :=
 eO 0 (ar+1) [.b (zT u1),.g5,.i u2,.l h1,.c h2,.w u3,.g] nx
theorem xQS{Qr:Int->St->Prop}(nx:Q0 E)(u1:¬ar<(s_l:Int):=by omega):yER s s_l s_c f f_a f_c ar E Nx Qr Q0 :=
 eO 2 () [.b (zY u1)] nx
theorem xWY{Pr:Int->St->Prop}(hL:yXO s s_l s_c f f_a f_c 0 E Pr P0)(kr:∀i4_1' E',Pr i4_1' E'->xFV s s_l s_c f f_a f_c i4_1' E' Q)(k0:∀E',P0 E'->yEQ s s_l s_c f f_a f_c E' Q):zQ tP 128 [.slice s s_l s_c,.func (.func f) ⟨f_a⟩ ⟨f_c⟩] E Q :=
 eQ [.g4,.k (.lf 19 (zMN s s_l s_c f f_a f_c 0) [zSF s s_l s_c f f_a f_c Pr,zSG s s_l s_c f f_a f_c P0])] (ai (ai tt (ai (arf (zMN s s_l s_c f f_a f_c 0)) hL)) (ai (kz1 kr) (ai (kz0 k0) trivial)))
theorem yXL(nx:Q (iV (-1)) E):yEQ s s_l s_c f f_a f_c E Q :=
 eK [.g] nx
theorem xXI(h1:CPz 128 [.slice s s_l s_c,.func (.func f) ⟨f_a⟩ ⟨f_c⟩] E (iV n1))(nx:Q (.bool false) E)(u1:¬0<=n1:=by omega):zQ tP 89 [.slice s s_l s_c,.func (.func f) ⟨f_a⟩ ⟨f_c⟩] E Q :=
 eQ [.g3,.c h1,.b (xX u1),.g] nx
theorem xXQ{l:oAa}:let y0:=E.row [.func (.func right) ⟨eV⟩ ⟨bS⟩] 1;∀(h1:CPz 89 [.slice l l_l l_c,.func (.func 90) ⟨[]⟩ ⟨[pq E.j 0]⟩] y0 (.bool false)) (nx:Q (.bool true) y0),zQ tP 56 [.slice l l_l l_c,.func (.func right) ⟨eV⟩ ⟨bS⟩] E Q :=
 λh1 nx=>eQ [.g4,.c h1,.g2] nx
theorem yKK{l:oAa}(hb:∀k bT E,Inv k bT E->zJE l l_l l_c BA bT E (NX1 Inv k) Qr Q0):∀k bT E,Inv k bT E->yFD l l_l l_c BA bT E Qr Q0 :=
 xE (ai wX (ai (wF 0) trivial)) hb
theorem yYI:let Y1:=E.row [iV 0,iV 0,iV 0] 3;let Y2:=Y1.own E.j (rlL rA) 3;∀(h1:LDz E 89 (zO l_a (Int.toNat bT*3)) (qf (rlL rA))) (h2:LDz Y2 3 (zO l_a (((Int.toNat (bT-1)*3)+1)+0)) (iV nJ)) (h3:LDz Y2 3 (zO l_a (((Int.toNat (bT-1)*3)+1)+1)) (iV nD)) (nx:Nx (bT+1) Y2) (u1:bT<(l_l:Int):=by omega) (u2:Ix bT l_l:=by omega) (u3:0<bT:=by omega) (u4:I6 (bT-1):=by omega) (u5:Ix (bT-1) l_l:=by omega) (u6:¬rA.lo<nJ:=by omega) (u7:¬rA.hi<nD:=by omega) (u8:I6 (bT+1):=by omega),zJE (some l_a) l_l l_c BA bT E Nx Qr Q0:=
 λh1 h2 h3 nx u1 u2 u3 u4 u5 u6 u7 u8=>let ch1:List Bs:=[.r [iV 0,iV 0,iV 0] 3];let ch2:List Bs:=.o 0 (rlL rA) 3::ch1;eO 0 (bT+1) [.b (zT u1),.g,.i u2,.l h1,.g2,.s E ch1 0 0 ySP (qf (rlL rA)),.g,.b (zT u3),.g3,.f E ch2 0 1 zU,.g2,.w u4,.i u5,.g2,.l h2,.b (zY u6),.g3,.f E ch2 0 2 zU,.g2,.w u4,.i u5,.g2,.l h3,.b (zY u7),.g2,.w u8,.g] nx
theorem yYH(h1:LDz E 89 (zO l_a (Int.toNat bT*3)) (qf (rlL rA)))(nx:Nx (bT+1) ((E.row [iV 0,iV 0,iV 0] 3).own E.j (rlL rA) 3))(u1:bT<(l_l:Int):=by omega)(u2:Ix bT l_l:=by omega)(u3:¬0<bT:=by omega)(u4:I6 (bT+1):=by omega):zJE (some l_a) l_l l_c BA bT E Nx Qr Q0 :=
 let ch1:List Bs:=[.r [iV 0,iV 0,iV 0] 3];eO 0 (bT+1) [.b (zT u1),.g,.i u2,.l h1,.g2,.s E ch1 0 0 ySP (qf (rlL rA)),.g,.b (zY u3),.g2,.w u4,.g] nx
theorem yYG{l:oAa}(nx:Q0 E)(u1:¬bT<(l_l:Int):=by omega):zJE l l_l l_c BA bT E Nx Qr Q0 :=
 eO 2 () [.b (zY u1)] nx
theorem xGK{l:oAa}(hL:yFD l l_l l_c E.j 0 (E.row (dnc d_L d_b ax az d_k aI aK) 10) Pr P0)(kr:∀t4_1' E',Pr t4_1' E'->yRB l l_l l_c E.j t4_1' E' Q)(k0:∀E',P0 E'->zUK l l_l l_c E.j E' Q):zQ tP 57 [qf (dnc d_L d_b ax az d_k aI aK),.slice l l_l l_c] E Q :=
 eQ [.g5,.k (.lf 52 (zET l l_l l_c E.j 0) [zJC l l_l l_c E.j Pr,zJD l l_l l_c E.j P0])] (ai (ai tt (ai (arf (zET l l_l l_c E.j 0)) hL)) (ai (kz1 kr) (ai (kz0 k0) trivial)))
theorem yKJ{l:oAa}:let y0:=dnc L1875 dG_b dG_bl dG_bc dG_k dG_kl dG_kc;∀(h1:LDz E 45 (qe BA 0) (qf y0)) (h2:CPz 91 [.slice l l_l l_c,.func (.func 92) ⟨[qf y0]⟩ ⟨[]⟩] E (.bool bC)) (nx:Q (.bool bC) E) (u1:2<=(l_l:Int):=by omega),zUK l l_l l_c BA E Q :=
 λh1 h2 nx u1=>eK [.g2,.b (xV u1),.g2,.l h1,.g,.c h2,.g2] nx
theorem ySF:let Y1:=E.row (dnc d_L d_b ax az d_k aI aK) 10;∀(h1:CPz 53 [qf (dnc d_L d_b ax az d_k aI aK)] Y1 (iV n1)) (h2:CPz 54 [qf (lwL d_L)] Y1 (.bool true)) (h3:CPz 55 [qf (dnc d_L d_b ax az d_k aI aK)] Y1 (.bool true)) (h4:CPz 56 [.slice d_b ax az,.func (.func 57) ⟨[qf (dnc d_L d_b ax az d_k aI aK)]⟩ ⟨[]⟩] Y1 (.bool true)) (nx:Q (iV 0) Y1) (u1:¬6<(ax:Int):=by omega) (u2:¬5<(aI:Int):=by omega) (u3:¬10<n1:=by omega),zQ tP 26 [qf (dnc d_L d_b ax az d_k aI aK)] E Q:=
 λh1 h2 h3 h4 nx u1 u2 u3=>let ch1:List Bs:=[.r (dnc d_L d_b ax az d_k aI aK) 10];eQ [.g3,.f E ch1 0 8 zXH,.g,.b (zY u1),.g2,.f E ch1 0 9 zPF,.g,.b (zY u2),.g2,.F E ch1 0 0 zGO zAO,.c h1,.b (zY u3),.g3,.F E ch1 0 0 xEM yGW,.c h2,.g2,.F E ch1 0 0 zGO zAO,.c h3,.g4,.f E ch1 0 8 zXH,.F E ch1 0 0 zGO zAO,.g,.c h4,.g4] nx
end
section
variable{E:St}{bl bc kl kc te:Nat}{b k:Option Addr}{L:Lw}{B:List (List Rl)}{K:List (List Int)}
theorem zIH{n lo hi:Int}(h1:lo<=n)(h2:n<=hi):zW tP 62 [iV n,iV lo,iV hi] E (.bool true) E:=(yXT ⟨rfl,Nat.le_refl _⟩).pure
theorem yOB{n:Int}(h:okM n):zW tP 88 [iV n] E (.bool true) E:=(yWS (zIH h.1 h.2) ⟨rfl,Nat.le_refl _⟩).pure
theorem wEM{p:Option Addr}{l c:Nat}{xs:List Int}(h:yM E p l xs)(hl:l<=1000)(hx:∀x∈xs,okM x):zW tP 87 [.slice p l c,.func (.func 88) ⟨[]⟩ ⟨[]⟩] E (.bool true) E:=by
 have c:=wEL (cap:=c) (g:=88) (gc:=[]) (f:=λ_=>true) h (by omega) λx hm O _=>yOB (hx x hm)
 rwa [show(xs.all λ_=>true)=true from by simp]at c
theorem wAW(hL:LawOk L):zW tP 54 [.agg ⟨lwL L⟩] E (.bool true) E:=by
 have N:New E.re ((E.re.row (lwL L) 8).row (zRM L.p L.d L.s L.b L.o L.f L.l) 1):=(New.row _ _ _).row';have hi:yM ((E.re.row (lwL L) 8).row (zRM L.p L.d L.s L.b L.o L.f L.l) 1) (some ⟨(E.re.row (lwL L) 8).j,0,none⟩) 7 [L.p,L.d,L.s,L.b,L.o,L.f,L.l]:=⟨⟨rfl,wB _ _ _⟩,rfl,λv hv=>by
  obtain⟨n,_,rfl⟩:=List.mem_map.1 hv;exact vU n⟩
 have hb:=hL.b;have hb0:=hL.b0;unfold okM at hb;exact(xFK (wEM hi (by omega) λx hx=>by
  simp only[List.mem_cons,List.not_mem_nil,or_false]at hx;rcases hx with rfl|rfl|rfl|rfl|rfl|rfl|rfl
  .exact hL.p
  .exact hL.d
  .exact hL.s
  .exact hL.b
  .exact hL.o
  .exact hL.f
  .exact hL.l) (zIH hL.n1 hL.n3) ⟨rfl,N.lw⟩ (by omega)).pure
theorem wMF(h:DnP E 90 te b bl k kl B K)(hl:bl<=100)(hb:∀x∈B,x.length<=1000):zW tP 53 [.agg ⟨dnc L b bl bc k kl kc⟩] E (iV (yZ B)) E:=by
 obtain⟨s1,hs⟩:∃s1,s1=E.re.row (dnc L b bl bc k kl kc) 10:=⟨_,rfl⟩;have N1:New E.re s1:=by rw[hs];exact New.row _ _ _
 have h1:=(h.le (le0 E)).le N1.le;have hB:B.length=bl:=h.bs.len;have bound:∀j,j<=bl->((B.map λx=>x.length-1).take j).sum<=1000*j:=by
  intro j;induction j with
  |zero=>simp
  |succ j ih =>
   intro hj;have hx:(B.map λx=>x.length-1)[j]?=some (B[j].length-1):=by rw[List.getElem?_map,List.getElem?_eq_getElem (by omega)];rfl
   rw[zFE hx];have:=hb B[j] (List.getElem_mem _);have:=ih (by omega);omega
 refine(xWO (yVV (Inv:=λk' n i O=>O=s1/\∃j:Nat,i=j/\j+k'=bl/\n=(((B.map λx=>x.length-1).take j).sum:Nat)) (Q0:=λn O=>O=s1/\n=(yZ B:Nat)) ?_ bl 0 0 _ ⟨hs.symm,0,rfl,by omega,rfl⟩) ?_).pure
 .rintro k' n i O ⟨rfl,j,rfl,hk,rfl⟩;by_cases hj:j<bl;rotate_left
  .refine xPL ⟨rfl, ?_⟩;rw[List.take_of_length_le (by simp;omega)];rfl
  obtain⟨a,rfl,r,q,c,hr,ld,_⟩:=h1.bs.at hj;have hx:(B.map λx=>x.length-1)[j]?=some (r.length-1):=by simp[hr]
  have h2:=zFE hx;have h3:=bound j (by omega);have h4:=hb r (List.mem_of_getElem? hr);exact xPM ld zWH ⟨k' - 1,by omega,rfl,j+1,by omega,by omega,by rw[h2];omega⟩
 .rintro n O ⟨rfl,rfl⟩;exact yVU ⟨rfl,N1.lw⟩
end
section
variable{E:St}{bl bc kl kc te:Nat}{b k:Option Addr}{L:Lw}{B:List (List Rl)}{K:List (List Int)}
theorem wGD(h:DnP E 90 te b bl k kl B K)(hD:OkD L B K):zW tP 55 [.agg ⟨dnc L b bl bc k kl kc⟩] E (.bool true) E:=by
 obtain⟨s1,hs⟩:∃s1,s1=E.re.row (dnc L b bl bc k kl kc) 10:=⟨_,rfl⟩;have N1:New E.re s1:=by rw[hs];exact New.row _ _ _
 have x1:Bx s1 E.j L b bl bc k kl kc:=by rw[hs];exact Bx.new
 have h1:=(h.le (le0 E)).le N1.le;have eK:=h.ks.len;have nk:=hD.nk;refine(xPH (Pr:=λ_ _=>False) (P0:=λO=>s1=O) (yQG (Inv:=λk' i O=>s1=O/\∃j:Nat,i=j/\j+k'=kl) (Qr:=λ_ _=>False) (Q0:=λO=>s1=O) ?_ kl 0 _ ⟨hs,0,rfl,by omega⟩) (λ_ _ h=>h.elim) ?_).pure
 .rintro k' i O ⟨rfl,j,rfl,hk⟩;by_cases hj:j<kl;rotate_left
  .exact xFE rfl
  obtain⟨a,rfl,r,q,c,hr,ld,hq⟩:=h1.ks.at hj;obtain⟨r1,r2,r3⟩:=hD.rows j r hr;obtain⟨a2,rfl,x,hx,ld2⟩:=xA hq (i:=j) (by omega);rw[r2]at hx;cases hx;exact xFF ld x1.ks (wEM hq (by omega) r3) ld2 ⟨k' - 1,by omega,rfl,j+1,by omega,by omega⟩
 .rintro O rfl;exact yQF x1.ks ⟨rfl,N1.lw⟩
theorem xZE{r:Rl}(hr:zRT kl r)(hk:kl<=100):zW tP 92 [.agg ⟨dnc L b bl bc k kl kc⟩,.agg ⟨rlL r⟩] E (.bool true) E:=by
 obtain⟨h1,h2,h3,h4,h5⟩:=hr;exact(yYF (zIH h1 (by omega)) (yOB ⟨by omega,h5⟩) ⟨rfl,((New.row _ _ _).row':New E.re _).lw⟩ ⟨by omega,by omega⟩ h3 h4).pure
theorem wNG{p:Option Addr}{len cap:Nat}{g:FuncId}{ga gc:List Value}{xs:List Rl}(hs:SlV tP E 89 3 p len (xs.map rlV))(hlen:len<=1000)
  (hc:∀x∈xs,∀O,Le E O->zW tP g (ga++(rlV x::gc)) O (.bool false) O):zW tP 129 [.slice p len cap,.func (.func g) ⟨ga⟩ ⟨gc⟩] E (.bool false) E:=by
 have c:zW tP 153 [.slice p len cap,.func (.func g) ⟨ga⟩ ⟨gc⟩] E.re (iV (-1)) E.re:=by
  refine(xWW (Pr:=λ_ _=>False) (P0:=λO=>O=E.re.re) (yXD (Inv:=λk i O=>O=E.re.re/\∃j:Nat,i=j/\j+k=len) (Qr:=λ_ _=>False) (Q0:=λO=>O=E.re.re) ?_ len 0 _ ⟨rfl,0,rfl,by omega⟩) (λ_ _ h=>h.elim) (λO h=>yXC ⟨rfl,by rw[h];exact Nat.le_refl _⟩)).pure;rintro k i O ⟨rfl,j,rfl,hk⟩;by_cases hj:j<len
  .obtain⟨a,rfl,x,hx,ld⟩:=xA hs.re.re hj;exact xQM ld (hc x (List.mem_of_getElem? hx) _ ((le0 E).trans (le0 _))) ⟨k-1,by omega,rfl,j+1,by omega,by omega⟩
  .exact xQL rfl
 exact(xXF c ⟨rfl,Nat.le_refl _⟩).pure
end
section
variable{p:Option Addr}
section
variable{E:St}{bl bc kl kc:Nat}{b k:Option Addr}{L:Lw}{B:List (List Rl)}{K:List (List Int)}
theorem wNW{len cap:Nat}{xs:List Rl}(hs:SlV tP E 89 3 p len (xs.map rlV))(hlen:len<=1000)(hk:kl<=100)(hx:∀x∈xs,zRT kl x):zW tP 91 [.slice p len cap,.func (.func 92) ⟨[.agg ⟨dnc L b bl bc k kl kc⟩]⟩ ⟨[]⟩] E (.bool true) E :=
 (xXL (wNG (hs.re.row) hlen λx hm O iq=>(xRX (((wB E.re _ 1).le iq).re.row.ld1 wOD) (xZE (hx x hm) hk) ⟨rfl,(New.row _ _ _:New O.re _).lw⟩).pure) ⟨rfl,(New.row _ _ _:New E.re _).lw⟩).pure
theorem wJJ{c:Nat}{x:List Rl}(hs:SlV tP E 89 3 p x.length (x.map rlV))(hlen:x.length<=1000)(hk:kl<=100)(hx:zLY kl x):zW tP 57 [.agg ⟨dnc L b bl bc k kl kc⟩,.slice p x.length c] E (.bool true) E:=by
 obtain⟨h2,h3,h4⟩:=hx;obtain⟨s1,hs1⟩:∃s1,s1=E.re.row (dnc L b bl bc k kl kc) 10:=⟨_,rfl⟩;have N1:New E.re s1:=by rw[hs1];exact New.row _ _ _
 have o1:Own s1 E.j (dnc L b bl bc k kl kc) 10:=by rw[hs1];exact zX E.re _ _
 have q1:=(SlV.le hs (le0 E)).le N1.le;refine(xGK (Pr:=λ_ _=>False) (P0:=λO=>New s1 O) (yKK (Inv:=λk' i O=>New s1 O/\∃j:Nat,i=j/\j+k'=x.length) (Qr:=λ_ _=>False) (Q0:=λO=>New s1 O) ?_ x.length 0 _ ⟨by rw[hs1];exact New.refl _,0,rfl,by omega⟩) (λ_ _ h=>h.elim) ?_).pure
 .rintro k' i O ⟨hN,j,rfl,hk'⟩;by_cases hj:j<x.length;rotate_left
  .exact yYG hN
  have q2:=SlV.le q1 hN.le;obtain⟨a,rfl,y,hy,ld⟩:=xA q2 hj;have hcp:New O ((O.row [iV 0,iV 0,iV 0] 3).own O.j (rlL y) 3):=(New.row _ _ _).own (Nat.le_refl _);cases j with
  |zero=>exact yYH ld ⟨k' - 1,by omega,hN.trans hcp,1,rfl,by omega⟩
  |succ j =>
   obtain⟨z,hz⟩:∃z,x[j]?=some z:=⟨_,List.getElem?_eq_getElem (by omega)⟩;have q3:=SlV.le q2 hcp.le;have e1:(((j+1:Nat):Int)-1)=(j:Nat):=by omega
   have f1:=zPU (t':=3) (i:=j) (k:=1) q3 (by rw[List.getElem?_map,hz];rfl) (x:=iV z.lo) rfl zU;have f2:=zPU (t':=3) (i:=j) (k:=2) q3 (by rw[List.getElem?_map,hz];rfl) (x:=iV z.hi) rfl zU;rw[<- e1]at f1 f2;have h5:=h4 j z y hz hy;exact yYI ld f1 f2 ⟨k' - 1,by omega,hN.trans hcp,j+2,by omega,by omega⟩ (by omega) ⟨by omega,by omega⟩ (by omega) ⟨by omega,by omega⟩ ⟨by omega,by omega⟩ (by omega) (by omega) ⟨by omega,by omega⟩
 .intro O hN;exact yKJ ((o1.le hN.le).ldN zGO zAO rfl rfl (by simp)) (wNW (SlV.le q1 hN.le) hlen hk h3) ⟨rfl,(N1.trans hN).lw⟩ (by omega)
theorem yJT(h:DnP E 90 89 b bl k kl B K)(hD:OkD L B K)(hB:∀r∈B,r.length<=1000):zW tP 26 [.agg ⟨dnc L b bl bc k kl kc⟩] E (iV 0) E:=by
 obtain⟨s1,hs1⟩:∃s1,s1=E.re.row (dnc L b bl bc k kl kc) 10:=⟨_,rfl⟩;have N1:New E.re s1:=by rw[hs1];exact New.row _ _ _
 have h1:=(h.le (le0 E)).le N1.le;have eB:=h.bs.len;have eK:=h.ks.len;have nb:=hD.nb;have nk:=hD.nk;have ns:=hD.ns;have c4:zW tP 56 [.slice b bl bc,.func (.func 57) ⟨[.agg ⟨dnc L b bl bc k kl kc⟩]⟩ ⟨[]⟩] s1 (.bool true) s1:=by
  obtain⟨s2,hs2⟩:∃s2,s2=s1.re.row [.func (.func 57) ⟨[.agg ⟨dnc L b bl bc k kl kc⟩]⟩ ⟨[]⟩] 1:=⟨_,rfl⟩;have N2:New s1.re s2:=by rw[hs2];exact New.row _ _ _
  have rw2:Row s2 ⟨s1.j,0,none⟩ [.func (.func 57) ⟨[.agg ⟨dnc L b bl bc k kl kc⟩]⟩ ⟨[]⟩]:=by rw[hs2];exact wB s1.re _ 1
  have h2:=(h1.le (le0 s1)).le N2.le;have c:zW tP 128 [.slice b bl bc,.func (.func 90) ⟨[]⟩ ⟨[.pointer (some ⟨s1.j,0,none⟩)]⟩] s2.re (iV (-1)) s2.re:=by
   refine(xWY (Pr:=λ_ _=>False) (P0:=λO=>O=s2.re.re) (yXM (Inv:=λk i O=>O=s2.re.re/\∃j:Nat,i=j/\j+k=bl) (Qr:=λ_ _=>False) (Q0:=λO=>O=s2.re.re) ?_ bl 0 _ ⟨rfl,0,rfl,by omega⟩) (λ_ _ h=>h.elim) (λO h=>yXL ⟨rfl,by rw[h];exact Nat.le_refl _⟩)).pure;rintro k' i O ⟨rfl,j,rfl,hk⟩;by_cases hj:j<bl
   .have h3:=(h2.le (le0 s2)).le (le0 s2.re);obtain⟨a,rfl,x,q,c,hx,ld,hq⟩:=h3.bs.at hj;have hm:=List.mem_of_getElem? hx;have cb:zW tP 90 [.slice q x.length c,.pointer (some ⟨s1.j,0,none⟩)] s2.re.re (.bool false) s2.re.re :=
     (xSC (rw2.re.re.re.ld1 wOK) (wJJ (kl:=kl) (SlV.le hq (le0 _)) (hB x hm) (by omega) (by rw[<- eK];exact hD.blks x hm)) ⟨rfl,Nat.le_refl _⟩).pure
    exact xQT ld cb ⟨k' - 1,by omega,rfl,j+1,by omega,by omega⟩
   .exact xQS rfl
  have c2:zW tP 89 [.slice b bl bc,.func (.func 90) ⟨[]⟩ ⟨[.pointer (some ⟨s1.j,0,none⟩)]⟩] s2 (.bool false) s2:=(xXI c ⟨rfl,Nat.le_refl _⟩).pure;exact(xXQ (by rw[<- hs2];exact c2) ⟨rfl,by rw[<- hs2];exact N2.lw⟩).pure
 exact(ySF (by rw[<- hs1];exact wMF h1 (by omega) hB) (by rw[<- hs1];exact wAW hD.law) (by rw[<- hs1];exact wGD h1 hD) (by rw[<- hs1];exact c4) ⟨rfl,by rw[<- hs1];exact N1.lw⟩ (by omega) (by omega) (by omega)).pure
end
end
section
noncomputable section
variable(x:Int)(l BA:Nat)(data q1 d_b:oAa)(aJ l1 ax aL c1 az:Nat)(a_1 bO dd b:Int)(q3:(Option Addr)->Nat->Nat->Int->St->Prop)(q4:(Option Addr)->Nat->Nat->St->Prop)(aV:oAa)(dm:FuncId)(aO aR:Nat)(aU:lVa)(bv ar eW:Int)(q0:Int->St->Prop)(Q:St->Prop)(E:St)(q2:vPa)(Nx:Int->St->Prop)(q5:(Option Addr)->Nat->Nat->Int->St->Prop)(Qr Q2 Q0:St->Prop)(q6:(Option Addr)->Nat->Nat->St->Prop)
def yDR:Code:=(Code.part [1,1,0,1,0,0] (zV tP 27))
def zTS:lNa:=[(3,pq BA 0),(11,.slice d_b ax az),(12,iV (ax:Int)),(13,iV dd)]
def yMD:Alt:=⟨Int,.normal,λt=>zTS BA d_b ax az t,λt=>[],λt E=>q0 t E⟩
def yDQ(BA:Nat)(d_b:oAa)(ax az:Nat):lNa:=[(3,pq BA 0)]
def zIR:Alt:=⟨Unit,(.exit 0),λt=>yDQ BA d_b ax az,λt=>[],λt E=>Q E⟩
def yDV:Prop:=yT tP (zZ tP) none yDR 43 (zTS BA d_b ax az dd) [] [yMD BA d_b ax az Nx,zIR BA d_b ax az Q0] E
def yWG:Prop:=yW tP (zZ tP) none yDR 43 (zTS BA d_b ax az dd) [] [zIR BA d_b ax az Q0] E
def yWE:Code:=(Code.part [1,1,0,1,0,0,1,1,0,0,1,1,0,0] (zV tP 27))
def zME(BA:Nat)(dd:Int)(qA:oAa)(lA cA:Nat)(dA:Addr)(ax az:Nat)(bx:Int):lNa:=[(3,pq BA 0),(4,iV dd),(5,.slice qA lA cA),(6,iV bx),(11,.slice (some dA) ax az),(12,iV (ax:Int)),(13,iV dd)]
def xPS(BA:Nat)(dd:Int)(qA:oAa)(lA cA:Nat)(dA:Addr)(ax az:Nat)(Q:Int->St->Prop):Alt:=⟨Int,.normal,λt=>zME BA dd qA lA cA dA ax az t,λt=>[],λt E=>Q t E⟩
def yDP(BA:Nat)(dd:Int)(qA:oAa)(lA cA:Nat)(dA:Addr)(ax az:Nat):lNa:=[(3,pq BA 0),(11,.slice (some dA) ax az),(12,iV (ax:Int)),(13,iV dd)]
def zRY(BA:Nat)(dd:Int)(qA:oAa)(lA cA:Nat)(dA:Addr)(ax az:Nat)(Q:St->Prop):Alt:=⟨Unit,(.exit 2),λt=>yDP BA dd qA lA cA dA ax az,λt=>[],λt E=>Q E⟩
def yDU(BA:Nat)(dd:Int)(qA:oAa)(lA cA:Nat)(dA:Addr)(ax az:Nat)(bx:Int)(E:St)(Nx:Int->St->Prop)(Q2:St->Prop):Prop:=yT tP (zZ tP) none yWE 43 (zME BA dd qA lA cA dA ax az bx) [] [xPS BA dd qA lA cA dA ax az Nx,zRY BA dd qA lA cA dA ax az Q2] E
def yWF(BA:Nat)(dd:Int)(qA:oAa)(lA cA:Nat)(dA:Addr)(ax az:Nat)(bx:Int)(E:St)(Q2:St->Prop):Prop:=yW tP (zZ tP) none yWE 43 (zME BA dd qA lA cA dA ax az bx) [] [zRY BA dd qA lA cA dA ax az Q2] E
def yDS(d_b:oAa)(BA:Nat)(dd:Int)(qA:oAa)(lA cA:Nat)(dA:Addr)(ax az:Nat)(E:St)(Nx:Int->St->Prop)(Q0:St->Prop):Prop:=kZ (zZ tP) yDR [1,1,0,0,1,1,0] (zHG 43 [yMD BA d_b ax az Nx,zIR BA d_b ax az Q0]) (.exit 2) 43 (yDP BA dd qA lA cA dA ax az) E
def yDT:Prop:=kZ (zZ tP) (zV tP 27) [1,1,0,1,0] (kFn tP 27 q2) (.exit 0) 43 (yDQ BA d_b ax az) E
def yDW:Code:=(Code.part [1,0,1,1,0,1,0,0] (zV tP 63))
def zEL:lNa:=[(1,.int .u16 x),(2,pq BA 0),(5,.slice aV aO aR),(12,.slice q1 l1 c1),(13,iV (l1:Int)),(14,iV bv)]
def yWM:Alt:=⟨(Option Addr)×Nat×Nat×Int,.normal,λt=>zEL x BA q1 l1 c1 t.1 t.2.1 t.2.2.1 t.2.2.2,λt=>[],λt E=>q3 t.1 t.2.1 t.2.2.1 t.2.2.2 E⟩
def zTT(x:Int)(BA:Nat)(q1:oAa)(l1 c1:Nat)(aV:oAa)(aO aR:Nat):lNa:=[(2,pq BA 0),(5,.slice aV aO aR)]
def zIS:Alt:=⟨(Option Addr)×Nat×Nat,(.exit 0),λt=>zTT x BA q1 l1 c1 t.1 t.2.1 t.2.2,λt=>[],λt E=>q4 t.1 t.2.1 t.2.2 E⟩
def zCJ:Prop:=yT tP (zZ tP) none yDW 59 (zEL x BA q1 l1 c1 aV aO aR bv) [] [yWM x BA q1 l1 c1 q5,zIS x BA q1 l1 c1 q6] E
def yDX:Prop:=yW tP (zZ tP) none yDW 59 (zEL x BA q1 l1 c1 aV aO aR bv) [] [zIS x BA q1 l1 c1 q6] E
def zTU:Prop:=kZ (zZ tP) (zV tP 63) [1,0,1,1,0,1,0] (kFn tP 63 q2) (.exit 0) 59 (zTT x BA q1 l1 c1 aV aO aR) E
def zZR:Code:=(Code.part [1,0,0] (zV tP 132))
def zDF:lNa:=[(0,.func (.yield l) ⟨[]⟩ ⟨[]⟩),(5,.slice q1 l1 c1),(6,iV (l1:Int)),(7,iV bO)]
def yQJ:Alt:=⟨Int,.normal,λt=>zDF l q1 l1 c1 t,λt=>[],λt E=>q0 t E⟩
def zQQ(l:Nat)(q1:oAa)(l1 c1:Nat):lNa:=[]
def zGP:Alt:=⟨Unit,.ret,λt=>zQQ l q1 l1 c1,λt=>[],λt E=>Q E⟩
def zQR(l:Nat)(q1:oAa)(l1 c1:Nat):lNa:=[]
def zGQ:Alt:=⟨Unit,(.exit 0),λt=>zQR l q1 l1 c1,λt=>[],λt E=>Q E⟩
def zMC:Prop:=yT tP (zZ tP) none zZR 16 (zDF l q1 l1 c1 bO) [] [yQJ l q1 l1 c1 Nx,zGP l q1 l1 c1 Qr,zGQ l q1 l1 c1 Q0] E
def zZS:Prop:=yW tP (zZ tP) none zZR 16 (zDF l q1 l1 c1 bO) [] [zGP l q1 l1 c1 Qr,zGQ l q1 l1 c1 Q0] E
def yJY:Prop:=kZ (zZ tP) (zV tP 132) [1,0] (kFn tP 132 q2) .ret 16 (zQQ l q1 l1 c1) E
def zQS:Prop:=kZ (zZ tP) (zV tP 132) [1,0] (kFn tP 132 q2) (.exit 0) 16 (zQR l q1 l1 c1) E
def yEC:Code:=(Code.part [1,0,0] (zV tP 154))
def zTV:lNa:=[(0,.slice data aJ aL),(1,iV a_1),(2,iV b),(3,.func (.func dm) ⟨[]⟩ ⟨aU⟩),(8,iV ar)]
def yMI:Alt:=⟨Int,.normal,λt=>zTV data aJ aL a_1 b dm aU t,λt=>[],λt E=>q0 t E⟩
def yEB(data:oAa)(aJ aL:Nat)(a_1 b:Int)(dm:FuncId)(aU:lVa):lNa:=[]
def zIT:Alt:=⟨Unit,(.exit 0),λt=>yEB data aJ aL a_1 b dm aU,λt=>[],λt E=>Q E⟩
def yEF:Prop:=yT tP (zZ tP) none yEC 53 (zTV data aJ aL a_1 b dm aU ar) [] [yMI data aJ aL a_1 b dm aU Nx,zIT data aJ aL a_1 b dm aU Q0] E
def yXB:Prop:=yW tP (zZ tP) none yEC 53 (zTV data aJ aL a_1 b dm aU ar) [] [zIT data aJ aL a_1 b dm aU Q0] E
def yWZ:Code:=(Code.part [1,0,0,1,0,0,1,0,0] (zV tP 154))
def zMK:lNa:=[(0,.slice data aJ aL),(1,iV a_1),(2,iV b),(3,.func (.func dm) ⟨[]⟩ ⟨aU⟩),(8,iV ar),(9,iV eW)]
def xQK:Alt:=⟨Int,.normal,λt=>zMK data aJ aL a_1 b dm aU ar t,λt=>[],λt E=>q0 t E⟩
def yEA:lNa:=[(0,.slice data aJ aL),(1,iV a_1),(2,iV b),(3,.func (.func dm) ⟨[]⟩ ⟨aU⟩),(8,iV ar)]
def zSA:Alt:=⟨Unit,(.exit 2),λt=>yEA data aJ aL a_1 b dm aU ar,λt=>[],λt E=>Q E⟩
def zTW:Prop:=yT tP (zZ tP) none yWZ 53 (zMK data aJ aL a_1 b dm aU ar eW) [] [xQK data aJ aL a_1 b dm aU ar Nx,zSA data aJ aL a_1 b dm aU ar Q2] E
def yXA:Prop:=yW tP (zZ tP) none yWZ 53 (zMK data aJ aL a_1 b dm aU ar eW) [] [zSA data aJ aL a_1 b dm aU ar Q2] E
def yED:Prop:=kZ (zZ tP) yEC [1,0,0,1,0] (zHG 53 [yMI data aJ aL a_1 b dm aU Nx,zIT data aJ aL a_1 b dm aU Q0]) (.exit 2) 53 (yEA data aJ aL a_1 b dm aU ar) E
def yEE:Prop:=kZ (zZ tP) (zV tP 154) [1,0] (kFn tP 154 q2) (.exit 0) 53 (yEB data aJ aL a_1 b dm aU) E
end
variable{BA ax az lA cA lI cI lG cC aI aK l1 c1 aO aR lCB cT lM cH l2 c2 l3 c3 l5 c5 s_l s_c l x_l x_c aJ aL:Nat}{d_b qA qH qD d_k q1 qU aV qI s data:oAa}{Inv:Nat->Int->St->Prop}{Q0 Q2 P2 P0 Qr Pr:St->Prop}{dd bx bv nH nJ nD nE nB nC n4 n6 n7 bO z1 n2 a_1 ar eW nR:Int}{dA eR dG p v0 a1 q2_a q3_a q5_a gO:Addr}{ECB EP E EE EA EZB EZ EL V3 EDB:St}{Nx:Int->St->Prop}{d_L:Lw}{Q:vPa}{fP dm:FuncId}{fP_c aU:lVa}{a_0 yG yC yD:Pc}
theorem yWD(hb:∀k dd E,Inv k dd E->yDV BA d_b ax az dd E (NX1 Inv k) Q0):∀k dd E,Inv k dd E->yWG BA d_b ax az dd E Q0 :=
 xE (ai (wF 0) trivial) hb
theorem yWC(hb:∀k bx E,Inv k bx E->yDU BA dd qA lA cA dA ax az bx E (NX1 Inv k) Q2):∀k bx E,Inv k bx E->yWF BA dd qA lA cA dA ax az bx E Q2 :=
 xE (ai (wF 2) trivial) hb
theorem xPP(h1:LDz E 139 (qe BA 10) (.slice qH lI cI))(h2:APz 139 139 (.slice qH lI cI) (.slice (some (qe E.j 0)) 1 1) (E.row (zK dd (bx-1) dd bx) 4) (.slice qD lG cC) ECB)(h3:SOz ECB 139 (qe BA 10) (.slice qD lG cC) EP)(nx:Nx (bx+1) EP)(u1:bx<(lA:Int):=by omega)(u2:I6 (bx-1):=by omega)(u3:I6 (bx+1):=by omega):yDU BA dd qA lA cA dA ax az bx E Nx Q2 :=
 eO 0 (bx+1) [.g3,.b (zT u1),.g4,.l h1,.g2,.w u2,.g6,.e h2,.g2,.e h3,.g,.w u3,.g] nx
theorem xPO(nx:Q2 E)(u1:¬bx<(lA:Int):=by omega):yDU BA dd qA lA cA dA ax az bx E Nx Q2 :=
 eO 1 () [.g3,.b (zY u1)] nx
theorem xPR(h1:LDz E 90 (zO dA (Int.toNat dd*1)) (.slice qA lA cA))(hL:yWF BA dd qA lA cA dA ax az 1 E P2)(k2:∀E',P2 E'->yDS (some dA) BA dd qA lA cA dA ax az E' Nx Q0)(u1:dd<(ax:Int):=by omega)(u2:Ix dd ax:=by omega):yDV BA (some dA) ax az dd E Nx Q0 :=
 eB [.b (zT u1),.g,.i u2,.l h1,.g3,.k (.lf 43 (zME BA dd qA lA cA dA ax az 1) [zRY BA dd qA lA cA dA ax az P2])] (ai (ai tt (ai (arf (zME BA dd qA lA cA dA ax az 1)) hL)) (ai (kz0 k2) trivial))
theorem xPQ(nx:Q0 E)(u1:¬dd<(ax:Int):=by omega):yDV BA d_b ax az dd E Nx Q0 :=
 eO 1 () [.b (zY u1)] nx
theorem yWA(nx:Nx (dd+1) E)(u1:I6 (dd+1):=by omega):yDS (some dA) BA dd qA lA cA dA ax az E Nx Q0 :=
 eF 0 (dd+1) [.w u1,.g] nx
theorem xWP(hL:yWG (E.j+1) d_b ax az 0 ((E.row (dnc d_L d_b ax az d_k aI aK) 10).row (pgc d_L d_b ax az d_k aI aK none 0 0) 11) P0)(k0:∀E',P0 E'->yDT (E.j+1) d_b ax az E' Q):zQ tP 27 [qf (dnc d_L d_b ax az d_k aI aK)] E Q :=
 let s1:=zTS (E.j+1) d_b ax az 0;let ch1:List Bs:=[.r (dnc d_L d_b ax az d_k aI aK) 10];let ch2:List Bs:=.r (pgc d_L d_b ax az d_k aI aK none 0 0) 11::ch1;eQ [.g2,.F E ch1 0 0 zGO zAO,.g4,.f E ch2 0 8 zXH,.g2,.k (.lf 43 s1 [zIR (E.j+1) d_b ax az P0])] (ai (ai tt (ai (arf s1) hL)) (ai (kz0 k0) trivial))
theorem yWB(nx:Q (pq BA 0) E):yDT BA d_b ax az E Q :=
 eK [.g2] nx
theorem yKA{x:Int}{Inv:Nat->(Option Addr)->Nat->Nat->Int->St->Prop}{Q0:(Option Addr)->Nat->Nat->St->Prop}(hb:∀k aV aO aR bv E,Inv k aV aO aR bv E->zCJ x BA q1 l1 c1 aV aO aR bv E (NX4 Inv k) Q0):∀k aV aO aR bv E,Inv k aV aO aR bv E->yDX x BA q1 l1 c1 aV aO aR bv E Q0 :=
 zKS (ai (wF 0) trivial) hb
theorem yWL{x:Int}{Nx:(Option Addr)->Nat->Nat->Int->St->Prop}{Q0:(Option Addr)->Nat->Nat->St->Prop}:let Y1:=E.row (zK 0 0 0 0) 4;let Y2:=Y1.own E.j (zK nH nJ nD nE) 4;let y0:=zO dG (((Int.toNat ((aO:Int)-1)*5)+0)+2);let y1:=qf [iV nB,iV nC];∀(h1:LDz E 143 (zO eR (Int.toNat bv*4)) (qf (zK nH nJ nD nE))) (h2:CPz 60 [.int .u16 x,iV bv] Y2 (.bool true)) (h3:LDz Y2 115 y0 y1) (h4:wW tP .eql 115 (.tmp 34) (.tmp 36) y1 (qf [iV nH,iV nJ])=some (.bool true)) (h5:SOz Y2 115 y0 (qf [iV nD,iV nE]) EE) (nx:Nx (some dG) aO aR (bv+1) EE) (u1:bv<(l1:Int):=by omega) (u2:Ix bv l1:=by omega) (u3:0<(aO:Int):=by omega) (u4:I6 ((aO:Int)-1):=by omega) (u5:Ix ((aO:Int)-1) aO:=by omega) (u6:I6 (bv+1):=by omega),zCJ x BA (some eR) l1 c1 (some dG) aO aR bv E Nx Q0:=
 λh1 h2 h3 h4 h5 nx u1 u2 u3 u4 u5 u6=>let ch1:List Bs:=[.r (zK 0 0 0 0) 4];let ch2:List Bs:=.o 0 (zK nH nJ nD nE) 4::ch1;eO 0 (some dG,aO,aR,bv+1) [.b (zT u1),.g,.i u2,.l h1,.g2,.s E ch1 0 0 zKJ (qf (zK nH nJ nD nE)),.g2,.c h2,.g5,.b (zT u3),.g3,.w u4,.i u5,.g2,.l h3,.g,.F E ch2 0 0 zLQ zAV,.v h4,.g3,.w u4,.g,.F E ch2 0 2 zLQ zAV,.i u5,.g2,.e h5,.w u6,.g] nx
theorem yWK{x:Int}{Nx:(Option Addr)->Nat->Nat->Int->St->Prop}{Q0:(Option Addr)->Nat->Nat->St->Prop}:let Y1:=E.row (zK 0 0 0 0) 4;let Y2:=Y1.own E.j (zK nH nJ nD nE) 4;let y0:=qf [iV nB,iV nC];∀(h1:LDz E 143 (zO eR (Int.toNat bv*4)) (qf (zK nH nJ nD nE))) (h2:CPz 60 [.int .u16 x,iV bv] Y2 (.bool true)) (h3:LDz Y2 115 (zO dG (((Int.toNat ((aO:Int)-1)*5)+0)+2)) y0) (h4:wW tP .eql 115 (.tmp 34) (.tmp 36) y0 (qf [iV nH,iV nJ])=some (.bool false)) (h5:APz 200 200 (.slice (some dG) aO aR) (.slice (some ⟨(E.j+1),0,none⟩) 1 1) (Y2.row (zP nH nJ nD nE bv) 5) (.slice qU lCB cT) EE) (nx:Nx qU lCB cT (bv+1) EE) (u1:bv<(l1:Int):=by omega) (u2:Ix bv l1:=by omega) (u3:0<(aO:Int):=by omega) (u4:I6 ((aO:Int)-1):=by omega) (u5:Ix ((aO:Int)-1) aO:=by omega) (u6:I6 (bv+1):=by omega),zCJ x BA (some eR) l1 c1 (some dG) aO aR bv E Nx Q0:=
 λh1 h2 h3 h4 h5 nx u1 u2 u3 u4 u5 u6=>let ch1:List Bs:=[.r (zK 0 0 0 0) 4];let ch2:List Bs:=.o 0 (zK nH nJ nD nE) 4::ch1;eO 0 (qU,lCB,cT,bv+1) [.b (zT u1),.g,.i u2,.l h1,.g2,.s E ch1 0 0 zKJ (qf (zK nH nJ nD nE)),.g2,.c h2,.g5,.b (zT u3),.g3,.w u4,.i u5,.g2,.l h3,.g,.F E ch2 0 0 zLQ zAV,.v h4,.g2,.F E ch2 0 0 xMH zKJ,.g3,.e h5,.g,.w u6,.g] nx
theorem yWJ{x:Int}{Nx:(Option Addr)->Nat->Nat->Int->St->Prop}{Q0:(Option Addr)->Nat->Nat->St->Prop}:let y0:=(E.row (zK 0 0 0 0) 4).own E.j (zK nH nJ nD nE) 4;∀(h1:LDz E 143 (zO eR (Int.toNat bv*4)) (qf (zK nH nJ nD nE))) (h2:CPz 60 [.int .u16 x,iV bv] y0 (.bool true)) (h3:APz 200 200 (.slice aV aO aR) (.slice (some ⟨(E.j+1),0,none⟩) 1 1) (y0.row (zP nH nJ nD nE bv) 5) (.slice qI lM cH) EA) (nx:Nx qI lM cH (bv+1) EA) (u1:bv<(l1:Int):=by omega) (u2:Ix bv l1:=by omega) (u3:¬0<(aO:Int):=by omega) (u4:I6 (bv+1):=by omega),zCJ x BA (some eR) l1 c1 aV aO aR bv E Nx Q0 :=
 λh1 h2 h3 nx u1 u2 u3 u4=>let ch1:List Bs:=[.r (zK 0 0 0 0) 4];let ch2:List Bs:=.o 0 (zK nH nJ nD nE) 4::ch1;eO 0 (qI,lM,cH,bv+1) [.b (zT u1),.g,.i u2,.l h1,.g2,.s E ch1 0 0 zKJ (qf (zK nH nJ nD nE)),.g2,.c h2,.g5,.b (zY u3),.g3,.F E ch2 0 0 xMH zKJ,.g3,.e h3,.g,.w u4,.g] nx
theorem yWI{x:Int}{Nx:(Option Addr)->Nat->Nat->Int->St->Prop}{Q0:(Option Addr)->Nat->Nat->St->Prop}:let y0:=(E.row (zK 0 0 0 0) 4).own E.j (zK nH nJ nD nE) 4;∀(h1:LDz E 143 (zO eR (Int.toNat bv*4)) (qf (zK nH nJ nD nE))) (h2:CPz 60 [.int .u16 x,iV bv] y0 (.bool false)) (nx:Nx aV aO aR (bv+1) y0) (u1:bv<(l1:Int):=by omega) (u2:Ix bv l1:=by omega) (u3:I6 (bv+1):=by omega),zCJ x BA (some eR) l1 c1 aV aO aR bv E Nx Q0 :=
 λh1 h2 nx u1 u2 u3=>let ch1:List Bs:=[.r (zK 0 0 0 0) 4];eO 0 (aV,aO,aR,bv+1) [.b (zT u1),.g,.i u2,.l h1,.g2,.s E ch1 0 0 zKJ (qf (zK nH nJ nD nE)),.g2,.c h2,.g,.w u3,.g] nx
theorem yWH{x:Int}{Nx:(Option Addr)->Nat->Nat->Int->St->Prop}{Q0:(Option Addr)->Nat->Nat->St->Prop}(nx:Q0 aV aO aR E)(u1:¬bv<(l1:Int):=by omega):zCJ x BA q1 l1 c1 aV aO aR bv E Nx Q0 :=
 eO 1 (aV,aO,aR) [.b (zY u1)] nx
theorem xFJ{x:Int}{P0:(Option Addr)->Nat->Nat->St->Prop}(h1:LDz (E.row [pz p] 1) 139 (zO p 10) (.slice q1 l1 c1))(hL:yDX x E.j q1 l1 c1 none 0 0 0 (E.row [pz p] 1) P0)(k0:∀p5_1' l5_1' c5_1' E',P0 p5_1' l5_1' c5_1' E'->zTU x E.j q1 l1 c1 p5_1' l5_1' c5_1' E' Q):zQ tP 63 [pz p,.int .u16 x] E Q :=
 let ch1:List Bs:=[.r [pz p] 1];eQ [.g3,.f E ch1 0 0 zPD,.g2,.l h1,.g2,.k (.lf 59 (zEL x E.j q1 l1 c1 none 0 0 0) [zIS x E.j q1 l1 c1 P0])] (ai (ai tt (ai (arf (zEL x E.j q1 l1 c1 none 0 0 0)) hL)) (ai (kz3 k0) trivial))
theorem yJZ{x:Int}(h1:CAz 93 [.slice aV aO aR,.func (.func 94) ⟨[]⟩ ⟨[pq BA 0]⟩] E (.tuple ⟨[]⟩) EZB)(h2:CAz 95 [.slice aV aO aR] EZB (.func (.func fP) ⟨[]⟩ ⟨fP_c⟩) EZ)(nx:Q (.func (.func fP) ⟨[]⟩ ⟨fP_c⟩) EZ):zTU x BA q1 l1 c1 aV aO aR E Q :=
 eK [.g2,.c h1,.g,.c h2,.g] nx
theorem xXJ{b:Pc}:let Y1:=E.row (pcL a_0) 5;let Y2:=Y1.row (pcL b) 5;let y0:=Y2.row [iV (n4-n6),iV (a_0.f-b.f)] 1;∀(h1:LDz Y2 96 v0 (pz a1)) (h2:LDz Y2 43 (zO a1 8) (.slice (some q2_a) l2 c2)) (h3:LDz Y2 90 (zO q2_a (Int.toNat a_0.b*1)) (.slice (some q3_a) l3 c3)) (h4:LDz Y2 3 (zO q3_a (((Int.toNat a_0.a*3)+1)+0)) (iV n4)) (h5:LDz Y2 90 (zO q2_a (Int.toNat b.b*1)) (.slice (some q5_a) l5 c5)) (h6:LDz Y2 3 (zO q5_a (((Int.toNat b.a*3)+1)+0)) (iV n6)) (h7:CPz 84 [.slice (some ⟨(E.j+2),0,none⟩) 2 2] y0 (iV n7)) (nx:Q (iV n7) y0) (u1:Ix a_0.b l2:=by omega) (u2:Ix a_0.a l3:=by omega) (u3:Ix b.b l2:=by omega) (u4:Ix b.a l5:=by omega) (u5:I6 (n4-n6):=by omega) (u6:I6 (a_0.f-b.f):=by omega),zQ tP 94 [qf (pcL a_0),qf (pcL b),pz v0] E Q:=
 λh1 h2 h3 h4 h5 h6 h7 nx u1 u2 u3 u4 u5 u6=>let ch1:List Bs:=[.r (pcL b) 5,.r (pcL a_0) 5];eQ [.g3,.l h1,.g3,.l h2,.g3,.f E ch1 0 0 zU,.i u1,.l h3,.g3,.f E ch1 0 1 zU,.i u2,.g2,.l h4,.l h1,.g3,.l h2,.g3,.f E ch1 1 0 zU,.i u3,.l h5,.g3,.f E ch1 1 1 zU,.i u4,.g2,.l h6,.w u5,.g,.f E ch1 0 4 zU,.g,.f E ch1 1 4 zU,.w u6,.g,.c h7,.g] nx
theorem xFH(nx:Q (.func (.func 132) ⟨[]⟩ ⟨[pq E.j 0]⟩) (E.row [.slice s s_l s_c] 1)):zQ tP 95 [.slice s s_l s_c] E Q :=
 eQ [.g4] nx
theorem yDL(hb:∀k bO E,Inv k bO E->zMC l q1 l1 c1 bO E (NX1 Inv k) Qr Q0):∀k bO E,Inv k bO E->zZS l q1 l1 c1 bO E Qr Q0 :=
 xE (ai wX (ai (wF 0) trivial)) hb
theorem yQI(h1:LDz E 154 (zO eR (Int.toNat bO*5)) (qf (pcL yG)))(h2:zZN tP l [qf (pcL yG)] ((E.row (zP 0 0 0 0 0) 5).own E.j (pcL yG) 5) (.bool true) EL)(nx:Nx (bO+1) EL)(u1:bO<(l1:Int):=by omega)(u2:Ix bO l1:=by omega)(u3:I6 (bO+1):=by omega):zMC l (some eR) l1 c1 bO E Nx Qr Q0 :=
 let ch1:List Bs:=[.r (zP 0 0 0 0 0) 5];let ch2:List Bs:=.o 0 (pcL yG) 5::ch1;eO 0 (bO+1) [.b (zT u1),.i u2,.l h1,.g,.s E ch1 0 0 zKI (qf (pcL yG)),.g,.F E ch2 0 0 xMG zKI,.y h2,.g,.w u3,.g] nx
theorem yQH(nx:Q0 E)(u1:¬bO<(l1:Int):=by omega):zMC l q1 l1 c1 bO E Nx Qr Q0 :=
 eO 2 () [.b (zY u1)] nx
theorem yVT(h1:LDz E 200 v0 (.slice q1 l1 c1))(hL:zZS l q1 l1 c1 0 E Pr P0)(kr:∀E',Pr E'->yJY l q1 l1 c1 E' Q)(k0:∀E',P0 E'->zQS l q1 l1 c1 E' Q):zQ tP 132 [.func (.yield l) ⟨[]⟩ ⟨[]⟩,pz v0] E Q :=
 eQ [.l h1,.g2,.k (.lf 16 (zDF l q1 l1 c1 0) [zGP l q1 l1 c1 Pr,zGQ l q1 l1 c1 P0])] (ai (ai tt (ai (arf (zDF l q1 l1 c1 0)) hL)) (ai (kz0 kr) (ai (kz0 k0) trivial)))
theorem yDK(nx:Q (.tuple ⟨[]⟩) E):zQS l q1 l1 c1 E Q :=
 eK [] nx
theorem xPI{x:oAa}(h1:vG .u64 ((x_l:Int))=z1)(h2:CPz 123 [.int .u64 z1] E (iV n2))(h3:CAz 131 [.slice x x_l x_c,iV 0,iV (x_l:Int),iV n2,.func (.func dm) ⟨[]⟩ ⟨aU⟩] E (.tuple ⟨[]⟩) V3)(nx:Q (.tuple ⟨[]⟩) V3):zQ tP 93 [.slice x x_l x_c,.func (.func dm) ⟨[]⟩ ⟨aU⟩] E Q :=
 eQ [.g6,.n h1,.c h2,.g,.c h3] nx
theorem yWY{b:Int}(hb:∀k ar E,Inv k ar E->yEF data aJ aL a_1 b dm aU ar E (NX1 Inv k) Q0):∀k ar E,Inv k ar E->yXB data aJ aL a_1 b dm aU ar E Q0 :=
 xE (ai (wF 0) trivial) hb
theorem yWX{b:Int}(hb:∀k eW E,Inv k eW E->zTW data aJ aL a_1 b dm aU ar eW E (NX1 Inv k) Q2):∀k eW E,Inv k eW E->yXA data aJ aL a_1 b dm aU ar eW E Q2 :=
 xE (ai (wF 2) trivial) hb
theorem xQH{b:Int}(h1:LDz E 154 (zO gO (Int.toNat eW*5)) (qf (pcL yC)))(h2:LDz E 154 (zO gO (Int.toNat (eW-1)*5)) (qf (pcL yD)))(h3:CPz dm (qf (pcL yC)::(qf (pcL yD))::aU) E (iV nR))(h4:SOz E 154 (zO gO (Int.toNat eW*5)) (qf (pcL yD)) EP)(h5:SOz EP 154 (zO gO (Int.toNat (eW-1)*5)) (qf (pcL yC)) EDB)(nx:Nx (eW-1) EDB)(u1:a_1<eW:=by omega)(u2:Ix eW aJ:=by omega)(u3:I6 (eW-1):=by omega)(u4:Ix (eW-1) aJ:=by omega)(u5:nR<0:=by omega):zTW (some gO) aJ aL a_1 b dm aU ar eW E Nx Q2 :=
 eO 0 (eW-1) [.g2,.b (zT u1),.g4,.i u2,.l h1,.g2,.w u3,.i u4,.l h2,.c h3,.b (zT u5),.g5,.w u3,.g2,.w u3,.i u4,.l h2,.g2,.i u2,.l h1,.i u2,.e h4,.i u4,.e h5,.g,.w u3,.g] nx
theorem xQG{b:Int}(h1:LDz E 154 (zO gO (Int.toNat eW*5)) (qf (pcL yC)))(h2:LDz E 154 (zO gO (Int.toNat (eW-1)*5)) (qf (pcL yD)))(h3:CPz dm (qf (pcL yC)::(qf (pcL yD))::aU) E (iV nR))(nx:Q2 E)(u1:a_1<eW:=by omega)(u2:Ix eW aJ:=by omega)(u3:I6 (eW-1):=by omega)(u4:Ix (eW-1) aJ:=by omega)(u5:¬nR<0:=by omega):zTW (some gO) aJ aL a_1 b dm aU ar eW E Nx Q2 :=
 eO 1 () [.g2,.b (zT u1),.g4,.i u2,.l h1,.g2,.w u3,.i u4,.l h2,.c h3,.b (zY u5),.g] nx
theorem xQF{b:Int}(nx:Q2 E)(u1:¬a_1<eW:=by omega):zTW data aJ aL a_1 b dm aU ar eW E Nx Q2 :=
 eO 1 () [.g2,.b (zY u1),.g2] nx
theorem xQJ{b:Int}(hL:yXA data aJ aL a_1 b dm aU ar ar E P2)(k2:∀E',P2 E'->yED data aJ aL a_1 b dm aU ar E' Nx Q0)(u1:ar<b:=by omega):yEF data aJ aL a_1 b dm aU ar E Nx Q0 :=
 eB [.g2,.b (zT u1),.g2,.k (.lf 53 (zMK data aJ aL a_1 b dm aU ar ar) [zSA data aJ aL a_1 b dm aU ar P2])] (ai (ai tt (ai (arf (zMK data aJ aL a_1 b dm aU ar ar)) hL)) (ai (kz0 k2) trivial))
theorem xQI{b:Int}(nx:Q0 E)(u1:¬ar<b:=by omega):yEF data aJ aL a_1 b dm aU ar E Nx Q0 :=
 eO 1 () [.g2,.b (zY u1)] nx
theorem yWV{b:Int}(nx:Nx (ar+1) E)(u1:I6 (ar+1):=by omega):yED data aJ aL a_1 b dm aU ar E Nx Q0 :=
 eF 0 (ar+1) [.g,.w u1,.g] nx
theorem xWV{b:Int}(hL:yXB data aJ aL a_1 b dm aU (a_1+1) E P0)(k0:∀E',P0 E'->yEE data aJ aL a_1 b dm aU E' Q)(u1:I6 (a_1+1):=by omega):zQ tP 154 [.slice data aJ aL,iV a_1,iV b,.func (.func dm) ⟨[]⟩ ⟨aU⟩] E Q :=
 let s1:=zTV data aJ aL a_1 b dm aU (a_1+1);eQ [.g,.w u1,.g,.k (.lf 53 s1 [zIT data aJ aL a_1 b dm aU P0])] (ai (ai tt (ai (arf s1) hL)) (ai (kz0 k0) trivial))
theorem yWW{b:Int}(nx:Q (.tuple ⟨[]⟩) E):yEE data aJ aL a_1 b dm aU E Q :=
 eK [] nx
end
section
variable{E O:St}{b:Nat}{s:Option Nat}{d dk d':Array Pc}{f:FuncId}{args:List Value}{v:Value}
abbrev pcV(y:Pc):Value:=.agg ⟨pcL y⟩
theorem yUJ(y:Pc):zDV tP 154 5 (pcV y):=.inr ⟨xMG,zKI,_,rfl,rfl⟩
open Go.Sort (swp)
def zCA(d:Array Pc):List Value:=d.toList.flatMap pcL
theorem zIA:∀l:List Pc,(l.flatMap pcL).length=l.length*5
 |[]=>rfl
 |x::l=>by rw[List.flatMap_cons,List.length_append,zIA l];simp;omega
theorem yJD(d:Array Pc):(zCA d).length=d.size*5:=by unfold zCA;rw[zIA];simp
def Dt(E:St)(b:Nat)(s:Option Nat)(d:Array Pc):Prop:=b<E.j/\∃log nx,yP E.heap b=some (.cells (zCA d) 5 ((s.getD 0,d.size*5)::log) nx false)
section
variable{E O:St}{b:Nat}{s:Option Nat}{d d0:Array Pc}
theorem xBT:∀(l:List Pc) (i:Nat) (x:Pc),l[i]?=some x->((l.flatMap pcL).drop (i*5)).take 5=pcL x
 |[],i,x,h=>by simp at h
 |y::l,0,x,h=>by
  cases h
  rw[List.flatMap_cons,Nat.zero_mul,List.drop_zero];exact List.take_left' rfl
 |y::l,i+1,x,h=>by
  rw[List.flatMap_cons,Nat.add_mul,Nat.one_mul,Nat.add_comm (i*5),<- List.drop_drop,show List.drop 5 (pcL y++l.flatMap pcL)=l.flatMap pcL from rfl];exact xBT l i x (by simpa using h)
theorem xNO:∀(l:List Pc) (i:Nat) (x:Pc),i<l.length->(l.flatMap pcL).take (i*5)++(pcL x++(l.flatMap pcL).drop (i*5+5))=(l.set i x).flatMap pcL
 |[],i,x,h=>by simp at h
 |y::l,0,x,h=>by
  rw[List.set_cons_zero,List.flatMap_cons,List.flatMap_cons,Nat.zero_mul,List.take_zero,List.nil_append,Nat.zero_add,show List.drop 5 (pcL y++l.flatMap pcL)=l.flatMap pcL from rfl]
 |y::l,i+1,x,h=>by
  rw[List.set_cons_succ,List.flatMap_cons,List.flatMap_cons,<- xNO l i x (by simpa using h),show(i+1)*5=5+i*5 by omega,List.take_append,List.drop_append,show 5+i*5+5-(pcL y).length=i*5+5 by simp;omega,show 5+i*5-(pcL y).length=i*5 by simp];rw[List.take_of_length_le (by simp),List.drop_of_length_le (by simp),List.nil_append,List.append_assoc]
theorem wIG{i:Nat}(h:i<d.size):d.toList[i]?=some d[i]! := by
 rw[Array.getElem?_toList,getElem!_pos d i h,Array.getElem?_eq_getElem h]
theorem Dt.ld(h:Dt E b s d){i:Int}(h0:0<=i)(hi:i<(d.size:Int)):zJ tP E 154 (zO ⟨b,0,s⟩ (Int.toNat i*5))=some (pcV d[i.toNat]!):=by
 obtain⟨h1,log,nx,h2⟩:=h;have hlt:i.toNat<d.size:=by omega
 have hr:xG E ⟨b,0+i.toNat*5,s⟩ 5=some (pcL d[i.toNat]!):=by
  have hle:Nat.ble (0+i.toNat*5+5) (d.size*5)=true:=(yJ _ _).2 (by omega);unfold xG;simp only[h2,yO,vP,Nat.beq_refl,cond_true,hle];rw[Nat.zero_add];unfold zCA;rw[xBT _ _ _ (wIG hlt)]
 have hR:Row E ⟨b,0+i.toNat*5,s⟩ (pcL d[i.toNat]!):=⟨hr,h1⟩;exact hR.loadN (P:=tP) (t:=154) (k:=0) xMG zKI rfl rfl (by simp)
theorem Dt.st(h:Dt E b s d){i:Int}(x:Pc)(h0:0<=i)(hi:i<(d.size:Int)) :
  ∃E',yN tP (evL [.pointer (some (zO ⟨b,0,s⟩ (Int.toNat i*5))),pcV x]) E (.store 154 (.tmp 0) (.tmp 1))=some (undef,E')/\Dt E' b s (d.setIfInBounds i.toNat x)/\Only (·=b) E E'/\E'.low<=b:=by
 obtain⟨h1,log,nx,h2⟩:=h;have hlt:i.toNat<d.size:=by omega
 have hw:wS E ⟨b,0+i.toNat*5,s⟩ (pcL x)=some (E.put b (.cells (zCA (d.setIfInBounds i.toNat x)) 5 [(s.getD 0,d.size*5)] nx false)):=by
  have e6:(pcL x).length=5:=rfl;have hc:(Nat.beq (s.getD 0) (s.getD 0)&&Nat.ble (0+i.toNat*5+5) (d.size*5)&&!false&&(pcL x).all cellB)=true:=by
   rw[Nat.beq_refl,(yJ _ _).2 (show 0+i.toNat*5+5<=d.size*5 by omega)];rfl
  unfold wS;simp only[h2,yO,e6,hc,cond_true,zCV,St.write_eq];have e:(zCA d).take (0+i.toNat*5)++(pcL x++(zCA d).drop (0+i.toNat*5+5))=zCA (d.setIfInBounds i.toNat x):=by
   rw[Nat.zero_add];unfold zCA;rw[Array.toList_setIfInBounds];exact xNO d.toList i.toNat x (by simpa using hlt)
  rw[e]
 refine⟨E.put b (.cells (zCA (d.setIfInBounds i.toNat x)) 5 [(s.getD 0,d.size*5)] nx false), ?_,⟨h1,[],nx, ?_⟩,Only.put (.inr rfl),by simp;omega⟩
 .have e0:yN tP (evL [.pointer (some (zO ⟨b,0,s⟩ (Int.toNat i*5))),pcV x]) E (.store 154 (.tmp 0) (.tmp 1))=(wS E ⟨b,0+i.toNat*5,s⟩ (pcL x)).map λE'=>(undef,E'):=by
   have e1:∀l:List Value,evL l (.tmp 0)=l.getD 0 undef:=λ_=>rfl
   have e2:∀l:List Value,evL l (.tmp 1)=l.getD 1 undef:=λ_=>rfl
   have e3:yR tP 154=some 5:=zKI;unfold yN;simp only[e1,e2,List.getD_cons_zero,List.getD_cons_succ,zCN,e3];rfl
  rw[e0,hw];rfl
 .rw[St.put_get,if_pos rfl,Array.size_setIfInBounds]
end
theorem zOH(xs:List Pc):wD (xs.map pcV)=xs.flatMap pcL:=by
 induction xs with
 |nil=>rfl
 |cons x xs ih =>
  simp only[wD,List.map_cons,List.flatMap_cons]at ih ⊢;rw[ih];rfl
def Cmp(E:St)(b:Nat)(g:FuncId)(gc:List Value)(lt:Pc->Pc->Bool)(V:Pc->Prop):Prop:=∀(O:St) (x y:Pc),Only (·=b) E.re O->V x->V y->∃n:Int,zW tP g (pcV x::pcV y::gc) O (iV n) O/\(n<0↔lt x y=true)
def yJX(V:Pc->Prop)(d:Array Pc):Prop:=∀i,i<d.size->V d[i]!
theorem zVR(d:Array Pc)(i j:Nat):(swp d i j).size=d.size:=by simp[swp]
theorem xOQ(d:Array Pc)(i k:Nat)(x:Pc)(hk:k<d.size):(d.setIfInBounds i x)[k]! = if i=k then x else d[k]! := by
 rw[getElem!_pos _ k (by simpa using hk),getElem!_pos d k hk,Array.getElem_setIfInBounds]
theorem yJX.swp{V:Pc->Prop}{d:Array Pc}(h:yJX V d){i j:Nat}(hi:i<d.size)(hj:j<d.size):yJX V (swp d i j):=by
 intro k hk;rw[zVR]at hk;unfold Go.Sort.swp;rw[xOQ _ _ _ _ (by simpa using hk),xOQ _ _ _ _ hk];split
 .exact h i hi
 .split
  .exact h j hj
  .exact h k hk
structure W(E O:St)(b:Nat)(s:Option Nat)(d dk:Array Pc):Prop where
 only:Only (·=b) E.re O
 dt:Dt O b s dk
 low:O.low<=b\/dk=d
theorem W.start(h:Dt E b s d):W E E.re b s d d:=⟨Only.refl _ _,h,.inr rfl⟩
theorem W.swap(w:W E O b s d dk){i j:Int}(h0:0<=i)(hi:i<(dk.size:Int))(k0:0<=j)(hj:j<(dk.size:Int)) :
  ∃be V2,yN tP (evL [.pointer (some (zO ⟨b,0,s⟩ (Int.toNat i*5))),pcV dk[j.toNat]!]) O (.store 154 (.tmp 0) (.tmp 1))=some (undef,be) /\
   yN tP (evL [.pointer (some (zO ⟨b,0,s⟩ (Int.toNat j*5))),pcV dk[i.toNat]!]) be (.store 154 (.tmp 0) (.tmp 1))=some (undef,V2)/\W E V2 b s d (swp dk i.toNat j.toNat):=by
 obtain⟨be,e1,d1,o1,l1⟩:=w.dt.st dk[j.toNat]! h0 hi;obtain⟨V2,e2,d2,o2,l2⟩:=d1.st (i:=j) dk[i.toNat]! k0 (by simpa using hj);exact⟨be,V2,e1,e2,⟨(w.only.trans' o1 (λb _ h=>.inl h)).trans' o2 (λb _ h=>.inl h),d2,.inl l2⟩⟩
def zXM(f:FuncId)(args:List Value)(v:Value)(E:St)(b:Nat)(s:Option Nat)(d d':Array Pc):Prop:=∃E',zW tP f args E v E'/\Only (·=b) E E'/\Dt E' b s d'/\(E'.low<=b\/d'=d)
theorem zXM.of(h0:Dt E b s d)(h:zQ tP f args E.re λv' O=>v'=v/\W E O b s d d')(hv:yI RD v=true:=by rfl):zXM f args v E b s d d':=by
  obtain⟨_,O,hN,rfl,w⟩:=h;by_cases hlow:O.low<E.j
  . have ho:Only (·=b) E ⟨O.heap,O.j,min E.low O.low⟩:=by
      have:=w.only.lower (m:=0);exact this
    refine⟨_,wAS hN w.only.j hlow,ho,w.dt, ?_⟩
    rcases w.low with h|h
    . exact .inl (by show min _ _<=_;omega)
    . exact .inr h
  . have hd:d'=d:=by
      rcases w.low with h|h
      . have:=h0.1;omega
      . exact h
    exact⟨E,zQ.pure ⟨_,O,hN,rfl,by omega⟩ hv,Only.refl _ _,by rw[hd];exact h0,.inr hd⟩
theorem W.call(w:W E O b s d dk)(h:zXM f args v O b s dk d'):∃O',zW tP f args O v O'/\W E O' b s d d':=by
 obtain⟨O',c,o,dt,hl⟩:=h;refine⟨O',c,w.only.trans' o (λb _ h=>.inl h),dt, ?_⟩
 have:=zLI c;rcases hl with hl|hl
 .exact .inl hl
 .rcases w.low with h|h
  .exact .inl (by omega)
  .exact .inr (hl.trans h)
section
variable{E:St}{b c:Nat}{s:Option Nat}{d:Array Pc}{g:FuncId}{gc:List Value}{lt:Pc->Pc->Bool}{V:Pc->Prop}
theorem zDD(lt:Pc->Pc->Bool)(a:Nat):∀(j:Nat) (d:Array Pc),(Go.Sort.insInner lt a j d).size=d.size
 |0,d=>rfl
 |j+1,d=>by
  unfold Go.Sort.insInner;split
  .rw[zDD,zVR]
  .rfl
theorem zKY(lt:Pc->Pc->Bool)(a:Nat){V:Pc->Prop}:∀(j:Nat) (d:Array Pc),j<d.size->yJX V d->yJX V (Go.Sort.insInner lt a j d)
 |0,d,_,h=>h
 |j+1,d,hj,h=>by
  unfold Go.Sort.insInner;split
  .exact zKY lt a j _ (by rw[zVR];omega) (h.swp hj (by omega))
  .exact h
theorem wNE{a B:Nat}(h:Dt E b s d)(hc:Cmp E b g gc lt V)(hv:yJX V d)(hB:B<=d.size)(hn:d.size<=1000000)(ha:a<=1000000) :
  zXM 154 [.slice (some ⟨b,0,s⟩) d.size c,iV (a:Int),iV (B:Int),.func (.func g) ⟨[]⟩ ⟨gc⟩] (.tuple ⟨[]⟩) E b s d (Go.Sort.insertionSort lt d a B):=by
 refine zXM.of h (xWV (P0:=λO=>W E O b s d (Go.Sort.insertionSort lt d a B)) (yWY (Inv:=λk i O=>∃(j:Nat) (dk:Array Pc),i=j/\k=B-j/\W E O b s d dk/\dk.size=d.size/\yJX V dk/\Go.Sort.insOuter lt a B j dk=Go.Sort.insertionSort lt d a B) ?_ (B-(a+1)) _ E.re ⟨a+1,d,by omega,rfl,W.start h,rfl,hv,rfl⟩) (λO hw=>yWW ⟨rfl,hw⟩));rintro k i O ⟨j,dk,rfl,hk,w,hsz,hall,ht⟩;by_cases hj:j<B;rotate_left
 .rw[Go.Sort.insOuter,if_neg hj]at ht;exact xQI (by rw[<- ht];exact w)
 rw[Go.Sort.insOuter,if_pos hj]at ht;refine xQJ (P2:=λO'=>W E O' b s d (Go.Sort.insInner lt a j dk)) (yWX (Inv:=λk' q' O'=>∃(q:Nat) (dq:Array Pc),q'=q/\q=k'/\q<=j/\W E O' b s d dq/\dq.size=d.size/\yJX V dq/\Go.Sort.insInner lt a q dq=Go.Sort.insInner lt a j dk) ?_ j _ O ⟨j,dk,rfl,rfl,Nat.le_refl _,w,hsz,hall,rfl⟩)
  (λO' hw=>yWV ⟨k-1,by omega,j+1,_,by omega,by omega,hw,by rw[zDD,hsz],zKY _ _ _ _ (by omega) hall,ht⟩) (by omega)
 rintro k' q' O' ⟨q,dq,rfl,rfl,hq,w',hsz',hall',ht'⟩;by_cases haq:a<q;rotate_left
 .refine xQF ?_;have e:Go.Sort.insInner lt a q dq=dq:=by
   cases q with
   |zero=>rfl
   |succ q=>unfold Go.Sort.insInner;rw[if_neg (by simp;omega)]
  rw[<- ht',e];exact w'
 obtain⟨p,rfl⟩:∃p,q=p+1:=⟨q-1,by omega⟩;have l1:=w'.dt.ld (i:=((p+1:Nat):Int)) (by omega) (by omega);have l2:=w'.dt.ld (i:=((p+1:Nat):Int)-1) (by omega) (by omega);have e2:(((p+1:Nat):Int)-1).toNat=p:=by omega
 obtain⟨n,hn1,hn2⟩:=hc O' dq[(((p+1:Nat):Int)).toNat]! dq[(((p+1:Nat):Int)-1).toNat]! w'.only (hall' _ (by omega)) (hall' _ (by omega));by_cases hlt:n<0
 .have hl:=hn2.1 hlt;rw[e2,Int.toNat_natCast]at hl;obtain⟨be,V2,s1,s2,w2⟩:=w'.swap (i:=((p+1:Nat):Int)) (j:=((p+1:Nat):Int)-1) (by omega) (by omega) (by omega) (by omega);rw[e2,Int.toNat_natCast]at w2;refine xQH l1 l2 hn1 s1 s2 ⟨p,by omega,p,_,by omega,rfl,by omega,w2,by rw[zVR,hsz'],hall'.swp (by omega) (by omega), ?_⟩;rw[<- ht'];conv=>rhs;unfold Go.Sort.insInner
  rw[if_pos (by simp[hl];omega)]
 .have hl:lt dq[p+1]! dq[p]! = false:=by
   rw[Bool.eq_false_iff];intro e;have:=hn2.2 (by rw[e2,Int.toNat_natCast];exact e);exact hlt this
  refine xQG l1 l2 hn1 ?_;have e:Go.Sort.insInner lt a (p+1) dq=dq:=by unfold Go.Sort.insInner;rw[if_neg (by simp[hl])]
  rw[<- ht',e];exact w'
end
section
theorem wCV{n0 c:Nat}{p:Option Addr}{out:List Pc}(h:Gr tP O n0 154 5 p out.length c (out.map pcV))(h0:out≠[]):∃b s,p=some ⟨b,0,s⟩/\n0<=b/\Dt O b s out.toArray:=by
 have ha:=h.app;rw[zOH]at ha;have hl:0<out.length:=by cases out with|nil=>exact absurd rfl h0|cons _ _=>simp
 obtain⟨n,hn⟩:∃n,n=out.length:=⟨_,rfl⟩;obtain⟨cs,hcs⟩:∃cs,cs=out.flatMap pcL:=⟨_,rfl⟩;rw[<- hn,<- hcs]at ha;cases ha with
 |nil=>omega
 |more h1 h2 h3 h4 h5 h6 h7 =>
  rename_i b s0 nx sp log;subst h2;refine⟨b,sp,rfl,h3,h4,log,nx, ?_⟩
  rw[h1,hcs];unfold zCA;rw[zIA];simp
theorem xTQ(h:Dt O b s d):SlV tP O 154 5 (some ⟨b,0,s⟩) d.size (d.toList.map pcV):=by
 obtain⟨h1,log,nx,h2⟩:=h;refine⟨⟨?_, ?_,h1⟩,by simp,λv hv=>?_⟩
 .rw[zOH];exact yJD d
 .rw[zOH];have hle:Nat.ble (0+(zCA d).length) (d.size*5)=true:=(yJ _ _).2 (by rw[yJD];omega);show xG O ⟨b,0,s⟩ (zCA d).length=some (zCA d);unfold xG;simp only[h2,yO,vP,Nat.beq_refl,cond_true,hle,List.drop_zero,List.take_length]
 .obtain⟨x,_,rfl⟩:=List.mem_map.1 hv;exact yUJ x
end
end
theorem zVM(n:Int):vG .u64 n=n % 18446744073709551616:=by
 have e1:(2:Int) ^ 64=18446744073709551616:=by decide
 rw[uU];simp only[IntKind.wrap,IntKind.bits,IntKind.signed,e1,Bool.false_and,Bool.false_eq_true,if_false]
theorem zGG(n:Int):vG .u16 n=n % 65536:=by
 have e1:(2:Int) ^ 16=65536:=by decide
 rw[uU];simp only[IntKind.wrap,IntKind.bits,IntKind.signed,e1,Bool.false_and,Bool.false_eq_true,if_false]
section
variable{x y:Nat}{o1 o2:Operand}
theorem xVP(h:x<65536):(BitVec.ofInt IntKind.u16.bits (x:Int)).toNat=x:=by
 have e:(2:Nat) ^ IntKind.u16.bits=65536:=by decide
 rw[BitVec.toNat_ofInt,e];omega
theorem xOZ(hx:x<65536)(hy:y<65536):wW tP .and 101 o1 o2 (.int .u16 (x:Int)) (.int .u16 (y:Int))=some (.int .u16 ((x &&& y:Nat):Int)):=by
 have e:Op.intBits .and .u16 (x:Int) (y:Int)=pure (.int .u16 (IntKind.u16.wrap ((BitVec.ofInt IntKind.u16.bits (x:Int) &&& BitVec.ofInt IntKind.u16.bits (y:Int)).toNat:Int))):=rfl;show((yL tP (do eqGuard .and 101 o1 o2 (.int .u16 (x:Int)) (.int .u16 (y:Int));Op.intBits .and .u16 (x:Int) (y:Int))).filter (yI RD))=_;rw[e,BitVec.toNat_and,xVP hx,xVP hy,<- uU,zGG,Int.emod_eq_of_lt (by omega) (by have:=Nat.and_le_left (n:=x) (m:=y);omega)];rfl
theorem wQB(hx:x<65536)(hy:y<65536):wW tP .or 101 o1 o2 (.int .u16 (x:Int)) (.int .u16 (y:Int))=some (.int .u16 ((x ||| y:Nat):Int)):=by
 have e:Op.intBits .or .u16 (x:Int) (y:Int)=pure (.int .u16 (IntKind.u16.wrap ((BitVec.ofInt IntKind.u16.bits (x:Int) ||| BitVec.ofInt IntKind.u16.bits (y:Int)).toNat:Int))):=rfl;show((yL tP (do eqGuard .or 101 o1 o2 (.int .u16 (x:Int)) (.int .u16 (y:Int));Op.intBits .or .u16 (x:Int) (y:Int))).filter (yI RD))=_;rw[e,BitVec.toNat_or,xVP hx,xVP hy,<- uU,zGG,Int.emod_eq_of_lt (by omega) (by have:=Nat.or_lt_two_pow (n:=16) (x:=x) (y:=y) hx hy;omega)];rfl
theorem wKJ(hx:x<65536)(hy:y<65536):wW tP .xor 101 o1 o2 (.int .u16 (x:Int)) (.int .u16 (y:Int))=some (.int .u16 ((x ^^^ y:Nat):Int)):=by
 have e:Op.intBits .xor .u16 (x:Int) (y:Int)=pure (.int .u16 (IntKind.u16.wrap ((BitVec.ofInt IntKind.u16.bits (x:Int) ^^^ BitVec.ofInt IntKind.u16.bits (y:Int)).toNat:Int))):=rfl;show((yL tP (do eqGuard .xor 101 o1 o2 (.int .u16 (x:Int)) (.int .u16 (y:Int));Op.intBits .xor .u16 (x:Int) (y:Int))).filter (yI RD))=_;rw[e,BitVec.toNat_xor,xVP hx,xVP hy,<- uU,zGG,Int.emod_eq_of_lt (by omega) (by have:=Nat.xor_lt_two_pow (n:=16) (x:=x) (y:=y) hx hy;omega)];rfl
theorem wKO(hy:y<=16):wW tP .shr 101 o1 o2 (.int .u16 (x:Int)) (.int .u64 (y:Int))=some (.int .u16 ((x / 2 ^ y:Nat):Int)):=by
 have e:Op.shift .shr .u16 (x:Int) .u64 (y:Int)=pure (.int .u16 ((x:Int).fdiv (2 ^ (min (y:Int).toNat IntKind.u16.bits)))):=by unfold Op.shift;rw[if_neg (by omega)]
 show((yL tP (do eqGuard .shr 101 o1 o2 (.int .u16 (x:Int)) (.int .u64 (y:Int));Op.shift .shr .u16 (x:Int) .u64 (y:Int))).filter (yI RD))=_;rw[e,Int.toNat_natCast,show min y IntKind.u16.bits=y from Nat.min_eq_left hy,show((2:Int) ^ y)=((2 ^ y:Nat):Int) by simp,Int.fdiv_eq_ediv_of_nonneg _ (Int.natCast_nonneg _),<- Int.natCast_ediv];rfl
theorem xYT(hy:y<16):wW tP .shl 101 o1 o2 (.int .u16 1) (.int .u64 (y:Int))=some (.int .u16 ((2 ^ y:Nat):Int)):=by
 have e:Op.shift .shl .u16 1 .u64 (y:Int)=pure (.int .u16 (IntKind.u16.wrap (1*2 ^ (min (y:Int).toNat IntKind.u16.bits)))):=by unfold Op.shift;rw[if_neg (by omega)]
 show((yL tP (do eqGuard .shl 101 o1 o2 (.int .u16 1) (.int .u64 (y:Int));Op.shift .shl .u16 1 .u64 (y:Int))).filter (yI RD))=_;have h2:2 ^ y<2 ^ 16:=Nat.pow_lt_pow_right (by omega) hy;rw[e,Int.toNat_natCast,show min y IntKind.u16.bits=y from Nat.min_eq_left (by show y<=16;omega),Int.one_mul,show((2:Int) ^ y)=((2 ^ y:Nat):Int) by simp];obtain⟨z,hz⟩:∃z,z=2 ^ y:=⟨_,rfl⟩;rw[<- hz]at h2 ⊢;rw[<- uU,zGG,Int.emod_eq_of_lt (by omega) (by omega)];rfl
end
section
variable{E:St}{x n:Nat}
theorem wKW(hx:x<65536)(hn:n<=16):zW tP 60 [.int .u16 (x:Int),iV (n:Int)] E (.bool (x.testBit n)) E:=by
 have e:x.testBit n=decide (x / 2 ^ n &&& 1=1):=by
  rw[Nat.testBit_eq_decide_div_mod_eq,Nat.and_one_is_mod]
 have h1:vG .u64 (n:Int)=(n:Int):=by rw[zVM];omega
 have h2:=Nat.div_le_self x (2 ^ n);have h3:=@xOZ (x / 2 ^ n) 1;rw[e];by_cases c:x / 2 ^ n &&& 1=1
 .rw[decide_eq_true c];exact(wFT h1 (wKO hn) (h3 (by omega) (by omega)) ⟨rfl,Nat.le_refl _⟩).pure
 .rw[decide_eq_false c];exact(wFS h1 (wKO hn) (h3 (by omega) (by omega)) ⟨rfl,Nat.le_refl _⟩).pure
def vW(x m:Nat):List Nat:=(List.range m).filter x.testBit
theorem wNS{m:Nat}:vW x (m+1)=vW x m++if x.testBit m then[m]else[]:=by
 unfold vW;rw[List.range_succ,List.filter_append];cases h:x.testBit m <;> simp[h]
theorem xED{m:Nat}:(vW x m).length<=m:=by
 have:=List.length_filter_le x.testBit (List.range m);simpa [vW] using this
theorem wIO(hx:x<65536):∃p c E',zW tP 30 [.int .u16 (x:Int)] E (.slice p (vW x 10).length c) E'/\New E E'/\yM E' p (vW x 10).length ((vW x 10).map λn:Nat=>(n:Int))/\∀b,AtP p b->E.j<=b:=by
 refine zQ.newSl (xRG (P0:=λp l c O=>New E.re O/\l=(vW x 10).length/\Gr tP O E.j 3 1 p l c (((vW x 10).map λn:Nat=>(n:Int)).map yK)) (yRA (Inv:=λk p l c i O=>∃j:Nat,i=j/\j+k=10/\New E.re O/\l=(vW x j).length/\Gr tP O E.j 3 1 p l c (((vW x j).map λn:Nat=>(n:Int)).map yK)) ?_ 10 none 0 0 0 E.re ⟨0,rfl,rfl,New.refl _,rfl,Gr.nil⟩) ?_)
 .rintro k p l c i O ⟨j,rfl,hk,hN,rfl,hg⟩;by_cases hj:j<10;rotate_left
  .have:j=10:=by omega
   subst this;exact xGF ⟨hN,rfl,hg⟩
  have hl:=xED (x:=x) (m:=j);have hc:=wKW (E:=O) (n:=j) hx (by omega);have e:=wNS (x:=x) (m:=j);cases h:x.testBit j with
  |false =>
   rw[h]at hc e;rw[if_neg (by decide),List.append_nil]at e;exact xGG hc ⟨k-1,by omega,j+1,by omega,by omega,hN,by rw[e],by rw[e];exact hg⟩
  |true =>
   rw[h]at hc e;rw[if_pos rfl]at e;obtain⟨p4,c4,V2,g1,g2,g3,g4⟩:=wQG (E0:=E.re) (iV (j:Int)) uH hg hN (New.refl O) (vU _) (by omega) (e:=rfl) (hc:=rfl);exact xGH hc g1 ⟨k-1,by omega,j+1,by omega,by omega,g3,by rw[e,List.length_append];rfl,by rw[e,List.map_append,List.map_append];exact g2⟩
 .rintro p l c O ⟨hN,rfl,hg⟩;exact yQZ ⟨hN,p,c,rfl,hg.slv,λb hb=>(hg.bd hb).1⟩
end
end Go.Proofs.YtflfajphjmajpaaGreat
