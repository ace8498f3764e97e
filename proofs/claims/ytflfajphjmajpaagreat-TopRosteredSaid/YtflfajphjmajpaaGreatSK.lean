import Derived.Test.YtflfajphjmajpaaGreatTy
import Derived.Test.YtflfajphjmajpaaGreatLayD
import Derived.Test.YtflfajphjmajpaaGreatET
import Derived.Test.YtflfajphjmajpaaGreatEG
import Derived.Test.YtflfajphjmajpaaGreatRY
import Derived.Test.YtflfajphjmajpaaGreatPC
import Derived.Test.YtflfajphjmajpaaGreatXA
set_option linter.unusedVariables false
set_option maxRecDepth 20000
set_option linter.unusedSimpArgs false
namespace Go.Proofs.YtflfajphjmajpaaGreat
open Go Go.Lay
section
noncomputable section
variable(m4 BA:Nat)(q1:(Option Addr)->Nat->Nat->St->Prop)(l dI:oAa)(q0:(Option Addr)->Nat->Nat->Int->St->Prop)(l_l dJ l_c dL:Nat)(bN ar:Int)(qE:St->Prop)(qD:Bool->St->Prop)(a2:Addr)(hH:Bool)(bT dK:Int)(q6:Int->St->Prop)(q4:Int->Int->St->Prop)(g4_1:Value)(q5:Value->Int->Int->St->Prop)(bJ aT:Int)(E:St)(q2:(Option Addr)->Nat->Nat->Int->St->Prop)(Nx:Int->St->Prop)(Q:vPa)(q8:Int->Int->St->Prop)(q3:(Option Addr)->Nat->Nat->St->Prop)(Qr:Bool->St->Prop)(q9:Value->Int->Int->St->Prop)(Q0:St->Prop)(qB:Int->St->Prop)
def yMW:Code:=(Code.part [1,1,1,1,1,1,1,0,0,0] (zV tP 10))
def zHP:lNa:=[(2,.slice dI dJ dL),(7,.map (some m4)),(8,.int .u16 ar),(9,pq BA 0)]
def xHC:Alt:=⟨(Option Addr)×Nat×Nat×Int,.normal,λt=>zHP m4 BA t.1 t.2.1 t.2.2.1 t.2.2.2,λt=>[],λt E=>q0 t.1 t.2.1 t.2.2.1 t.2.2.2 E⟩
def yAT(m4 BA:Nat)(dI:oAa)(dJ dL:Nat):lNa:=[(2,.slice dI dJ dL),(9,pq BA 0)]
def zNB:Alt:=⟨(Option Addr)×Nat×Nat,(.exit 0),λt=>yAT m4 BA t.1 t.2.1 t.2.2,λt=>[],λt E=>q1 t.1 t.2.1 t.2.2 E⟩
def zXW:Prop:=yT tP (zZ tP) none yMW 46 (zHP m4 BA dI dJ dL ar) [] [xHC m4 BA q2,zNB m4 BA q3] E
def yMX:Prop:=yW tP (zZ tP) none yMW 46 (zHP m4 BA dI dJ dL ar) [] [zNB m4 BA q3] E
def yAU:Prop:=kZ (zZ tP) (zV tP 10) [1,1,1,1,1,1,1,0,0] (kFn tP 10 Q) (.exit 0) 46 (yAT m4 BA dI dJ dL) E
def yNA:Code:=(Code.part [1,1,1,1,0,1,0,0] (zV tP 34))
def zHQ:lNa:=[(1,.slice l l_l l_c),(8,pz a2),(9,.int .u16 bT),(19,.slice l l_l l_c),(20,iV (l_l:Int)),(21,iV dK)]
def xHK:Alt:=⟨Int×Int,.normal,λt=>zHQ l l_l l_c a2 t.1 t.2,λt=>[],λt E=>q4 t.1 t.2 E⟩
def yAX(l:oAa)(l_l l_c:Nat)(a2:Addr)(g4_1:Value)(bJ aT:Int):lNa:=[(4,g4_1),(5,.int .u16 bJ),(6,iV aT)]
def zND:Alt:=⟨Value×Int×Int,.ret,λt=>yAX l l_l l_c a2 t.1 t.2.1 t.2.2,λt=>[],λt E=>q5 t.1 t.2.1 t.2.2 E⟩
def yAY(l:oAa)(l_l l_c:Nat)(a2:Addr)(bT:Int):lNa:=[(8,pz a2),(9,.int .u16 bT)]
def zNE:Alt:=⟨Int,(.exit 0),λt=>yAY l l_l l_c a2 t,λt=>[],λt E=>q6 t E⟩
def zPQ:Prop:=yT tP (zZ tP) none yNA 58 (zHQ l l_l l_c a2 bT dK) [] [xHK l l_l l_c a2 q8,zND l l_l l_c a2 q9,zNE l l_l l_c a2 qB] E
def yNB:Prop:=yW tP (zZ tP) none yNA 58 (zHQ l l_l l_c a2 bT dK) [] [zND l l_l l_c a2 q9,zNE l l_l l_c a2 qB] E
def xAB:Prop:=kZ (zZ tP) (zV tP 34) [1,1,1,1,0,1,0] (kFn tP 34 Q) .ret 58 (yAX l l_l l_c a2 g4_1 bJ aT) E
def yAZ:Prop:=kZ (zZ tP) (zV tP 34) [1,1,1,1,0,1,0] (kFn tP 34 Q) (.exit 0) 58 (yAY l l_l l_c a2 bT) E
def zIU:Code:=(Code.part [1,1,0,1,0,0] (zV tP 35))
def zEO:lNa:=[(2,pq BA 0),(16,.slice l l_l l_c),(17,iV (l_l:Int)),(18,iV bN)]
def zMO:Alt:=⟨Int,.normal,λt=>zEO BA l l_l l_c t,λt=>[],λt E=>q6 t E⟩
def zUB(BA:Nat)(l:oAa)(l_l l_c:Nat)(hH:Bool):lNa:=[(4,.bool hH)]
def zBM:Alt:=⟨Bool,.ret,λt=>zUB BA l l_l l_c t,λt=>[],λt E=>qD t E⟩
def zUC(BA:Nat)(l:oAa)(l_l l_c:Nat):lNa:=[]
def zBN:Alt:=⟨Unit,(.exit 0),λt=>zUC BA l l_l l_c,λt=>[],λt E=>qE E⟩
def zSI:Prop:=yT tP (zZ tP) none zIU 70 (zEO BA l l_l l_c bN) [] [zMO BA l l_l l_c Nx,zBM BA l l_l l_c Qr,zBN BA l l_l l_c Q0] E
def yEY:Prop:=yW tP (zZ tP) none zIU 70 (zEO BA l l_l l_c bN) [] [zBM BA l l_l l_c Qr,zBN BA l l_l l_c Q0] E
def yEW:Code:=(Code.part [1,1,0,1,0,0,1,1,0,0,1,1,1,0,0] (zV tP 35))
def zEN(BA:Nat)(bN:Int)(qA:oAa)(lA cA:Nat)(l_a:Addr)(l_l l_c:Nat)(dE:Int):lNa:=[(2,pq BA 0),(5,iV bN),(6,.slice qA lA cA),(16,.slice (some l_a) l_l l_c),(17,iV (l_l:Int)),(18,iV bN),(32,.slice qA lA cA),(33,iV (lA:Int)),(34,iV dE)]
def yXZ(BA:Nat)(bN:Int)(qA:oAa)(lA cA:Nat)(l_a:Addr)(l_l l_c:Nat)(Q:Int->St->Prop):Alt:=⟨Int,.normal,λt=>zEN BA bN qA lA cA l_a l_l l_c t,λt=>[],λt E=>Q t E⟩
def zTZ(BA:Nat)(bN:Int)(qA:oAa)(lA cA:Nat)(l_a:Addr)(l_l l_c:Nat)(t4_2:Bool):lNa:=[(4,.bool t4_2)]
def zIV(BA:Nat)(bN:Int)(qA:oAa)(lA cA:Nat)(l_a:Addr)(l_l l_c:Nat)(Q:Bool->St->Prop):Alt:=⟨Bool,.ret,λt=>zTZ BA bN qA lA cA l_a l_l l_c t,λt=>[],λt E=>Q t E⟩
def zUA(BA:Nat)(bN:Int)(qA:oAa)(lA cA:Nat)(l_a:Addr)(l_l l_c:Nat):lNa:=[(2,pq BA 0),(16,.slice (some l_a) l_l l_c),(17,iV (l_l:Int)),(18,iV bN)]
def zIW(BA:Nat)(bN:Int)(qA:oAa)(lA cA:Nat)(l_a:Addr)(l_l l_c:Nat)(Q:St->Prop):Alt:=⟨Unit,(.exit 2),λt=>zUA BA bN qA lA cA l_a l_l l_c,λt=>[],λt E=>Q E⟩
def zIX(BA:Nat)(bN:Int)(qA:oAa)(lA cA:Nat)(l_a:Addr)(l_l l_c:Nat)(dE:Int)(E:St)(Nx:Int->St->Prop)(Qr:Bool->St->Prop)(Q2:St->Prop):Prop:=yT tP (zZ tP) none yEW 70 (zEN BA bN qA lA cA l_a l_l l_c dE) [] [yXZ BA bN qA lA cA l_a l_l l_c Nx,zIV BA bN qA lA cA l_a l_l l_c Qr,zIW BA bN qA lA cA l_a l_l l_c Q2] E
def yEX(BA:Nat)(bN:Int)(qA:oAa)(lA cA:Nat)(l_a:Addr)(l_l l_c:Nat)(dE:Int)(E:St)(Qr:Bool->St->Prop)(Q2:St->Prop):Prop:=yW tP (zZ tP) none yEW 70 (zEN BA bN qA lA cA l_a l_l l_c dE) [] [zIV BA bN qA lA cA l_a l_l l_c Qr,zIW BA bN qA lA cA l_a l_l l_c Q2] E
def yQT(l:oAa)(BA:Nat)(bN:Int)(qA:oAa)(lA cA:Nat)(l_a:Addr)(l_l l_c:Nat)(t4_2:Bool)(E:St)(Nx:Int->St->Prop)(Qr:Bool->St->Prop)(Q0:St->Prop):Prop:=kZ (zZ tP) zIU [1,1,0,0,1,1,1,0] (zHG 70 [zMO BA l l_l l_c Nx,zBM BA l l_l l_c Qr,zBN BA l l_l l_c Q0]) .ret 70 (zTZ BA bN qA lA cA l_a l_l l_c t4_2) E
def zUD(l:oAa)(BA:Nat)(bN:Int)(qA:oAa)(lA cA:Nat)(l_a:Addr)(l_l l_c:Nat)(E:St)(Nx:Int->St->Prop)(Qr:Bool->St->Prop)(Q0:St->Prop):Prop:=kZ (zZ tP) zIU [1,1,0,0,1,1,1,0] (zHG 70 [zMO BA l l_l l_c Nx,zBM BA l l_l l_c Qr,zBN BA l l_l l_c Q0]) (.exit 2) 70 (zUA BA bN qA lA cA l_a l_l l_c) E
def yQU:Prop:=kZ (zZ tP) (zV tP 35) [1,1,0,1,0] (kFn tP 35 Q) .ret 70 (zUB BA l l_l l_c hH) E
def zUE:Prop:=kZ (zZ tP) (zV tP 35) [1,1,0,1,0] (kFn tP 35 Q) (.exit 0) 70 (zUC BA l l_l l_c) E
end
variable{m4 BA dJ dL lR cO lHB cZ ax az aI aK l_l l_c lE cD lA cA lB cB lG cC lK cF fg fh d6_bl d6_bc d6_kl d6_kc l7 c7 l17 c17:Nat}{Inv:Nat->Int->St->Prop}{Q0 Nx:Int->St->Prop}{dI qL qEB d_b d_k l qC qA qG gH d6_b d6_k q7 q17:oAa}{ar nH nJ nD nEB n1 n6 n7 n8 n9 nHB bT dK nE zH nB nC zA nF bN dE nFB nT nK nM n2 n3 n11 n15 n16:Int}{bD b13 b18:Bool}{EA EO E V3 Y5 V4 E10 E14:St}{d_L L5 L12:Lw}{a2 l_a dU gM qD_a fo a1:Addr}{Q:vPa}{P0:(Option Addr)->Nat->Nat->St->Prop}{Qr Pr:Bool->St->Prop}{Q2 P2:St->Prop}{W9:Wo}
theorem ySA{Inv:Nat->(Option Addr)->Nat->Nat->Int->St->Prop}{Q0:(Option Addr)->Nat->Nat->St->Prop}(hb:∀k dI dJ dL ar E,Inv k dI dJ dL ar E->zXW m4 BA dI dJ dL ar E (NX4 Inv k) Q0):∀k dI dJ dL ar E,Inv k dI dJ dL ar E->yMX m4 BA dI dJ dL ar E Q0 :=
 zKS (ai (wF 0) trivial) hb
theorem xHB{Nx:(Option Addr)->Nat->Nat->Int->St->Prop}{Q0:(Option Addr)->Nat->Nat->St->Prop}(h1:xJ tP (evL [.map (some m4),.int .u16 ar]) E (.lookup 98 (.tmp 0) (.tmp 1) false)=some (qf (bsc nH nJ nD bD)))(h2:CAz 30 [.int .u16 nH] E (.slice qL lR cO) EA)(h3:APz 25 25 (.slice dI dJ dL) (.slice (some (qe EA.j 0)) 1 1) (EA.row [.slice qL lR cO] 1) (.slice qEB lHB cZ) EO)(h4:wW tP .xor 101 (.tmp 39) (.tmp 40) (.int .u16 ar) (.int .u16 nH)=some (.int .u16 nEB))(nx:Nx qEB lHB cZ nEB EO)(u1:¬ar=0:=by omega):zXW m4 BA dI dJ dL ar E Nx Q0 :=
 eO 0 (qEB,lHB,cZ,nEB) [.g,.b (uA u1),.g2,.v h1,.g4,.c h2,.g,.e h3,.g3,.v h4,.g] nx
theorem xHA{Nx:(Option Addr)->Nat->Nat->Int->St->Prop}{Q0:(Option Addr)->Nat->Nat->St->Prop}(nx:Q0 dI dJ dL E)(u1:ar=0:=by omega):zXW m4 BA dI dJ dL ar E Nx Q0 :=
 eO 1 (dI,dJ,dL) [.g,.b (yY u1)] nx
theorem xRQ:let y0:=dnc d_L d_b ax az d_k aI aK;let y1:=bsc n7 n8 n9 true;∀(h1:CPz 26 [qf y0] (E.row y0 10) (iV n1)) (h2:CAz 27 [qf y0] (E.row y0 10) (pz a2) V3) (h3:CAz 28 [pz a2] V3 (.map (some m4)) Y5) (h4:CPz 29 [pz a2] Y5 (.int .u16 n6)) (h5:xJ tP (evL [.map (some m4),.int .u16 n6]) Y5 (.lookup 98 (.tmp 0) (.tmp 1) false)=some (qf y1)) (hL:yMX m4 Y5.j none 0 0 n6 ((Y5.row (bsc 0 0 0 false) 4).own Y5.j y1 4) P0) (k0:∀p2_1' l2_1' c2_1' E',P0 p2_1' l2_1' c2_1' E'->yAU m4 Y5.j p2_1' l2_1' c2_1' E' Q) (u1:n1=0:=by omega),zQ tP 10 [qf y0] E Q :=
 let y0:=dnc d_L d_b ax az d_k aI aK;let y1:=bsc n7 n8 n9 true;λh1 h2 h3 h4 h5 hL k0 u1=>let ch1:List Bs:=[.r y0 10];let ch2:List Bs:=[.r (bsc 0 0 0 false) 4];let ch3:List Bs:=.o 0 y1 4::ch2;eQ [.g4,.F E ch1 0 0 zGO zAO,.c h1,.g2,.b (yY u1),.F E ch1 0 0 zGO zAO,.c h2,.g2,.c h3,.g2,.c h4,.g3,.v h5,.g,.s Y5 ch2 0 0 vY (qf y1),.g,.f Y5 ch3 0 3 zXI,.g,.k (.lf 46 (zHP m4 Y5.j none 0 0 n6) [zNB m4 Y5.j P0])] (ai (ai tt (ai (arf (zHP m4 Y5.j none 0 0 n6)) hL)) (ai (kz3 k0) trivial))
theorem xRP:let y0:=dnc d_L d_b ax az d_k aI aK;let y1:=bsc n7 n8 n9 false;∀(h1:CPz 26 [qf y0] (E.row y0 10) (iV n1)) (h2:CAz 27 [qf y0] (E.row y0 10) (pz a2) V3) (h3:CAz 28 [pz a2] V3 (.map (some m4)) Y5) (h4:CPz 29 [pz a2] Y5 (.int .u16 n6)) (h5:xJ tP (evL [.map (some m4),.int .u16 n6]) Y5 (.lookup 98 (.tmp 0) (.tmp 1) false)=some (qf y1)) (nx:Q (.tuple ⟨[.slice none 0 0,iV 0,iV 9]⟩) ((Y5.row (bsc 0 0 0 false) 4).own Y5.j y1 4)) (u1:n1=0:=by omega),zQ tP 10 [qf y0] E Q :=
 let y0:=dnc d_L d_b ax az d_k aI aK;let y1:=bsc n7 n8 n9 false;λh1 h2 h3 h4 h5 nx u1=>let ch1:List Bs:=[.r y0 10];let ch2:List Bs:=[.r (bsc 0 0 0 false) 4];let ch3:List Bs:=.o 0 y1 4::ch2;eQ [.g4,.F E ch1 0 0 zGO zAO,.c h1,.g2,.b (yY u1),.F E ch1 0 0 zGO zAO,.c h2,.g2,.c h3,.g2,.c h4,.g3,.v h5,.g,.s Y5 ch2 0 0 vY (qf y1),.g,.f Y5 ch3 0 3 zXI,.g4] nx
theorem yRZ(h1:LDz E 3 (qe BA 2) (iV nHB))(nx:Q (.tuple ⟨[.slice dI dJ dL,iV nHB,iV 0]⟩) E):yAU m4 BA dI dJ dL E Q :=
 eK [.g3,.l h1,.g3] nx
theorem ySE{Inv:Nat->Int->Int->St->Prop}{Qr:Value->Int->Int->St->Prop}(hb:∀k bT dK E,Inv k bT dK E->zPQ l l_l l_c a2 bT dK E (NX2 Inv k) Qr Q0):∀k bT dK E,Inv k bT dK E->yNB l l_l l_c a2 bT dK E Qr Q0 :=
 zFM (ai wX (ai (wF 0) trivial)) hb
theorem xHJ{Nx:Int->Int->St->Prop}{Qr:Value->Int->Int->St->Prop}(h1:LDz E 3 (zO l_a (Int.toNat dK*1)) (iV nH))(h2:LDz E 139 (zO a2 10) (.slice qC lE cD))(h3:CPz 62 [iV nH,iV 0,iV ((lE:Int)-1)] E (.bool true))(h4:LDz E 3 (zO l_a (Int.toNat (dK-1)*1)) (iV nE))(h5:vG .u64 (nH)=zH)(h6:wW tP .shl 101 (.const (.int .u16 1)) (.tmp 50) (.int .u16 1) (.int .u64 zH)=some (.int .u16 nB))(h7:wW tP .or 101 (.tmp 48) (.tmp 51) (.int .u16 bT) (.int .u16 nB)=some (.int .u16 nC))(nx:Nx nC (dK+1) E)(u1:dK<(l_l:Int):=by omega)(u2:Ix dK l_l:=by omega)(u3:I6 ((lE:Int)-1):=by omega)(u4:0<dK:=by omega)(u5:I6 (dK-1):=by omega)(u6:Ix (dK-1) l_l:=by omega)(u7:¬nH<=nE:=by omega)(u8:I6 (dK+1):=by omega):zPQ (some l_a) l_l l_c a2 bT dK E Nx Qr Q0 :=
 eO 0 (nC,dK+1) [.b (zT u1),.g,.i u2,.l h1,.g6,.l h2,.g,.w u3,.c h3,.g3,.b (zT u4),.g4,.w u5,.i u6,.l h4,.b (xX u7),.g4,.n h5,.v h6,.v h7,.g,.w u8,.g] nx
theorem xHI{Nx:Int->Int->St->Prop}{Qr:Value->Int->Int->St->Prop}(h1:LDz E 3 (zO l_a (Int.toNat dK*1)) (iV nH))(h2:LDz E 139 (zO a2 10) (.slice qC lE cD))(h3:CPz 62 [iV nH,iV 0,iV ((lE:Int)-1)] E (.bool true))(h4:vG .u64 (nH)=zA)(h5:wW tP .shl 101 (.const (.int .u16 1)) (.tmp 50) (.int .u16 1) (.int .u64 zA)=some (.int .u16 nF))(h6:wW tP .or 101 (.tmp 48) (.tmp 51) (.int .u16 bT) (.int .u16 nF)=some (.int .u16 nB))(nx:Nx nB (dK+1) E)(u1:dK<(l_l:Int):=by omega)(u2:Ix dK l_l:=by omega)(u3:I6 ((lE:Int)-1):=by omega)(u4:¬0<dK:=by omega)(u5:I6 (dK+1):=by omega):zPQ (some l_a) l_l l_c a2 bT dK E Nx Qr Q0 :=
 eO 0 (nB,dK+1) [.b (zT u1),.g,.i u2,.l h1,.g6,.l h2,.g,.w u3,.c h3,.g3,.b (zY u4),.g5,.n h4,.v h5,.v h6,.g,.w u5,.g] nx
theorem xHH{Nx:Int->Int->St->Prop}{Qr:Value->Int->Int->St->Prop}(nx:Q0 bT E)(u1:¬dK<(l_l:Int):=by omega):zPQ l l_l l_c a2 bT dK E Nx Qr Q0 :=
 eO 2 bT [.b (zY u1)] nx
theorem xRW{Pr:Value->Int->Int->St->Prop}{P0:Int->St->Prop}:let y0:=dnc d_L d_b ax az d_k aI aK;∀(h1:CPz 26 [qf y0] (E.row y0 10) (iV n1)) (h2:CAz 27 [qf y0] (E.row y0 10) (pz a2) V3) (hL:yNB l l_l l_c a2 0 0 V3 Pr P0) (kr:∀g4_1' i5_1' i6_1' E',Pr g4_1' i5_1' i6_1' E'->xAB l l_l l_c a2 g4_1' i5_1' i6_1' E' Q) (k0:∀i9_1' E',P0 i9_1' E'->yAZ l l_l l_c a2 i9_1' E' Q) (u1:n1=0:=by omega),zQ tP 34 [qf y0,.slice l l_l l_c] E Q :=
 let y0:=dnc d_L d_b ax az d_k aI aK;λh1 h2 hL kr k0 u1=>let ch1:List Bs:=[.r y0 10];eQ [.g4,.F E ch1 0 0 zGO zAO,.c h1,.g2,.b (yY u1),.F E ch1 0 0 zGO zAO,.c h2,.g5,.k (.lf 58 (zHQ l l_l l_c a2 0 0) [zND l l_l l_c a2 Pr,zNE l l_l l_c a2 P0])] (ai (ai tt (ai (arf (zHQ l l_l l_c a2 0 0)) hL)) (ai (kz3 kr) (ai (kz1 k0) trivial)))
theorem ySD(nx:Q (.tuple ⟨[pz a2,.int .u16 bT,iV 0]⟩) E)(u1:¬bT=0:=by omega):yAZ l l_l l_c a2 bT E Q :=
 eK [.g,.b (wG u1),.g5] nx
theorem yKE{Q0:St->Prop}(hb:∀k bN E,Inv k bN E->zSI BA l l_l l_c bN E (NX1 Inv k) Qr Q0):∀k bN E,Inv k bN E->yEY BA l l_l l_c bN E Qr Q0 :=
 xE (ai wX (ai (wF 0) trivial)) hb
theorem yKD(hb:∀k dE E,Inv k dE E->zIX BA bN qA lA cA l_a l_l l_c dE E (NX1 Inv k) Qr Q2):∀k dE E,Inv k dE E->yEX BA bN qA lA cA l_a l_l l_c dE E Qr Q2 :=
 xE (ai wX (ai (wF 2) trivial)) hb
theorem yXW:let Y1:=E.row [iV 0,iV 0] 2;let Y2:=Y1.own E.j [iV nT,iV nK] 2;∀(h1:LDz E 3 (zO dU (Int.toNat dE*1)) (iV nFB)) (h2:LDz E 43 (qe BA 8) (.slice (some gM) lB cB)) (h3:LDz E 90 (zO gM (Int.toNat bN*1)) (.slice (some qD_a) lG cC)) (h4:LDz E 87 (zO qD_a ((Int.toNat dE*3)+1)) (qf [iV nT,iV nK])) (h5:CPz 62 [iV nFB,iV nT,iV nK] Y2 (.bool true)) (h6:LDz Y2 3 (zO dU (Int.toNat (dE-1)*1)) (iV nM)) (nx:Nx (dE+1) Y2) (u1:dE<(lA:Int):=by omega) (u2:Ix dE lA:=by omega) (u3:Ix bN lB:=by omega) (u4:Ix dE lG:=by omega) (u5:0<dE:=by omega) (u6:I6 (dE-1):=by omega) (u7:Ix (dE-1) lA:=by omega) (u8:¬nFB<nM:=by omega) (u9:I6 (dE+1):=by omega),zIX BA bN (some dU) lA cA l_a l_l l_c dE E Nx Qr Q2:=
 λh1 h2 h3 h4 h5 h6 nx u1 u2 u3 u4 u5 u6 u7 u8 u9=>let ch1:List Bs:=[.r [iV 0,iV 0] 2];let ch2:List Bs:=.o 0 [iV nT,iV nK] 2::ch1;eO 0 (dE+1) [.b (zT u1),.g,.i u2,.l h1,.g3,.l h2,.g,.i u3,.l h3,.g,.i u4,.g,.l h4,.g,.s E ch1 0 0 xYQ (qf [iV nT,iV nK]),.g2,.f E ch2 0 0 zU,.g,.f E ch2 0 1 zU,.c h5,.g3,.b (zT u5),.g4,.w u6,.i u7,.l h6,.b (zY u8),.g2,.w u9,.g] nx
theorem yXV(h1:LDz E 3 (zO dU (Int.toNat dE*1)) (iV nFB))(h2:LDz E 43 (qe BA 8) (.slice (some gM) lB cB))(h3:LDz E 90 (zO gM (Int.toNat bN*1)) (.slice (some qD_a) lG cC))(h4:LDz E 87 (zO qD_a ((Int.toNat dE*3)+1)) (qf [iV nT,iV nK]))(h5:CPz 62 [iV nFB,iV nT,iV nK] ((E.row [iV 0,iV 0] 2).own E.j [iV nT,iV nK] 2) (.bool true))(nx:Nx (dE+1) ((E.row [iV 0,iV 0] 2).own E.j [iV nT,iV nK] 2))(u1:dE<(lA:Int):=by omega)(u2:Ix dE lA:=by omega)(u3:Ix bN lB:=by omega)(u4:Ix dE lG:=by omega)(u5:¬0<dE:=by omega)(u6:I6 (dE+1):=by omega):zIX BA bN (some dU) lA cA l_a l_l l_c dE E Nx Qr Q2 :=
 let ch1:List Bs:=[.r [iV 0,iV 0] 2];let ch2:List Bs:=.o 0 [iV nT,iV nK] 2::ch1;eO 0 (dE+1) [.b (zT u1),.g,.i u2,.l h1,.g3,.l h2,.g,.i u3,.l h3,.g,.i u4,.g,.l h4,.g,.s E ch1 0 0 xYQ (qf [iV nT,iV nK]),.g2,.f E ch2 0 0 zU,.g,.f E ch2 0 1 zU,.c h5,.g3,.b (zY u5),.g3,.w u6,.g] nx
theorem yXU(nx:Q2 E)(u1:¬dE<(lA:Int):=by omega):zIX BA bN qA lA cA l_a l_l l_c dE E Nx Qr Q2 :=
 eO 2 () [.b (zY u1)] nx
theorem yXY{Q0:St->Prop}(h1:LDz E 48 (zO l_a (Int.toNat bN*1)) (.slice qA lA cA))(h2:LDz E 43 (qe BA 8) (.slice (some fo) lE cD))(h3:LDz E 90 (zO fo (Int.toNat bN*1)) (.slice qG lK cF))(hL:yEX BA bN qA lA cA l_a l_l l_c 0 E Pr P2)(kr:∀t4_2' E',Pr t4_2' E'->yQT (some l_a) BA bN qA lA cA l_a l_l l_c t4_2' E' Nx Qr Q0)(k2:∀E',P2 E'->zUD (some l_a) BA bN qA lA cA l_a l_l l_c E' Nx Qr Q0)(u1:bN<(l_l:Int):=by omega)(u2:Ix bN l_l:=by omega)(u3:Ix bN lE:=by omega)(u4:(lA:Int)=(lK:Int):=by omega):zSI BA (some l_a) l_l l_c bN E Nx Qr Q0 :=
 eB [.b (zT u1),.g,.i u2,.l h1,.g5,.l h2,.g,.i u3,.l h3,.g,.b (yY u4),.g3,.k (.lf 70 (zEN BA bN qA lA cA l_a l_l l_c 0) [zIV BA bN qA lA cA l_a l_l l_c Pr,zIW BA bN qA lA cA l_a l_l l_c P2])] (ai (ai tt (ai (arf (zEN BA bN qA lA cA l_a l_l l_c 0)) hL)) (ai (kz1 kr) (ai (kz0 k2) trivial)))
theorem yXX{Q0:St->Prop}(nx:Q0 E)(u1:¬bN<(l_l:Int):=by omega):zSI BA l l_l l_c bN E Nx Qr Q0 :=
 eO 2 () [.b (zY u1)] nx
theorem yKB{Q0:St->Prop}(nx:Nx (bN+1) E)(u1:I6 (bN+1):=by omega):zUD (some l_a) BA bN qA lA cA l_a l_l l_c E Nx Qr Q0 :=
 eF 0 (bN+1) [.w u1,.g] nx
theorem xFW{P0:St->Prop}(hL:yEY E.j l l_l l_c 0 (E.row (dnc d_L d_b ax az d_k aI aK) 10) Pr P0)(kr:∀t4_1' E',Pr t4_1' E'->yQU E.j l l_l l_c t4_1' E' Q)(k0:∀E',P0 E'->zUE E.j l l_l l_c E' Q)(u1:(l_l:Int)=(ax:Int):=by omega):zQ tP 35 [qf (dnc d_L d_b ax az d_k aI aK),.slice l l_l l_c] E Q :=
 let ch1:List Bs:=[.r (dnc d_L d_b ax az d_k aI aK) 10];eQ [.g5,.f E ch1 0 8 zXH,.g,.b (yY u1),.g3,.k (.lf 70 (zEO E.j l l_l l_c 0) [zBM E.j l l_l l_c Pr,zBN E.j l l_l l_c P0])] (ai (ai tt (ai (arf (zEO E.j l l_l l_c 0)) hL)) (ai (kz1 kr) (ai (kz0 k0) trivial)))
theorem yKC(nx:Q (.bool true) E):zUE BA l l_l l_c E Q :=
 eK [.g] nx
theorem wLK:let Y1:=E10.row [.slice none 0 0,.slice none 0 0,.slice none 0 0,iV 0] 4;let Y2:=Y1.own E10.j (woL W9) 4;∀(h1:CAz 34 [qf (dnc d_L d_b ax az d_k aI aK),.slice l l_l l_c] (((E.row (dnc d_L d_b ax az d_k aI aK) 10).row [.slice gH fg fh] 1).row [iV 0,iV 0,.slice none 0 0,.bool false] 4) (.tuple ⟨[pz a1,.int .u16 n2,iV n3]⟩) V4) (h2:LDz V4 45 (qe E.j 0) (qf (dnc L5 d6_b d6_bl d6_bc d6_k d6_kl d6_kc))) (h3:LDz V4 25 ⟨(E.j+1),0,none⟩ (.slice q7 l7 c7)) (h4:CPz 35 [qf (dnc L5 d6_b d6_bl d6_bc d6_k d6_kl d6_kc),.slice q7 l7 c7] V4 (.bool true)) (h5:CAz 37 [pz a1,.int .u16 n2,qf [.func (.func 36) ⟨[]⟩ ⟨[pq ((E.j+1)) 0]⟩,.func (.func 36) ⟨[]⟩ ⟨[pq ((E.j+1)) 0]⟩]] V4 (qf (woL W9)) E10) (h6:CPz 38 [qf (woL W9)] Y2 (iV n11)) (h7:LDz Y2 42 (qe E.j 0) (qf (lwL L12))) (h8:CPz 39 [qf (lwL L12),qf (woL W9)] Y2 (.bool b13)) (h9:SOz Y2 64 ⟨(E.j+2),0,none⟩ (qf [iV n11,iV W9.s,.slice W9.b W9.bl W9.bc,.bool b13]) E14) (h10:zL Y2.j [pq E10.j 0]) (h11:zL Y2.j [qf (woL W9)]) (h12:zL Y2.j [pq E10.j 3]) (h13:zL Y2.j [pq E10.j 1]) (h14:zL Y2.j [pq E.j 0]) (h15:zL Y2.j [qf (lwL L12),qf (woL W9)]) (h16:zL Y2.j [pq ((E.j+2)) 0,qf [iV n11,iV W9.s,.slice W9.b W9.bl W9.bc,.bool b13]]) (h17:(zLq Y2 3 (qe E10.j 3) (iV W9.s))) (h18:(zLq Y2 48 (qe E10.j 1) (.slice W9.b W9.bl W9.bc))) (h19:(zLq Y2 42 (qe E.j 0) (qf (lwL L12)))) (h20:(zLq Y2 118 (qe E10.j 0) (qf (woL W9)))) (h21:LDz E14 64 ⟨(E.j+2),0,none⟩ (qf [iV n15,iV n16,.slice q17 l17 c17,.bool b18])) (nx:Q (.tuple ⟨[qf [iV n15,iV n16,.slice q17 l17 c17,.bool b18],iV 0]⟩) E14) (u1:n3=0:=by omega),zQ tP 16 [qf (dnc d_L d_b ax az d_k aI aK),.slice l l_l l_c,.slice gH fg fh] E Q:=
 λh1 h2 h3 h4 h5 h6 h7 h8 h9 h10 h11 h12 h13 h14 h15 h16 h17 h18 h19 h20 h21 nx u1=>let ch1:List Bs:=[.r [iV 0,iV 0,.slice none 0 0,.bool false] 4,.r [.slice gH fg fh] 1,.r (dnc d_L d_b ax az d_k aI aK) 10];let ch2:List Bs:=[.r [.slice none 0 0,.slice none 0 0,.slice none 0 0,iV 0] 4];let ch3:List Bs:=.o 0 (woL W9) 4::ch2;eQ [.g4,.F E ch1 0 0 zGO zAO,.g,.c h1,.g7,.g,.b (yY u1),.l h2,.l h3,.c h4,.g7,.g,.c h5,.g,.s E10 ch2 0 0 zEB (qf (woL W9)),.F E10 ch3 0 0 zTO zEB,.c h6,.g,.f E10 ch3 0 3 zU,.g,.f E10 ch3 0 1 xF,.g,.l h7,.F E10 ch3 0 0 zTO zEB,.c h8,.g,.e h9,.g,.p h10,.p h11,.p h12,.p h13,.p h14,.p h10,.p h15,.p h16,.p h17,.p h17,.p h17,.p h17,.p h18,.p h18,.p h18,.p h18,.p h19,.p h19,.p h20,.p h20,.l h21] nx
end
def zVX(x:Nat):List Int:=(vW x 10).map λn:Nat=>(n:Int)
def wLJ(L:Lw)(B:List (List Rl))(K:List (List Int))(w:Value)(t:St):Prop:=w=.tuple ⟨[.slice none 0 0,iV 0,iV 9]⟩\/∃(xs:List Nat) (p:Option Addr) (c:Nat) (pay:Int),w=.tuple ⟨[.slice p xs.length c,iV pay,iV 0]⟩/\zIP t p xs.length (xs.map zVX)/\(∀x∈xs,0<x/\x<2 ^ yZ B/\uP L B K x=true)/\xs.length<=64/\pay=(xs.map (zCP L B)).sum
section
variable{E:St}{bl bc kl kc:Nat}{b k:Option Addr}{L:Lw}{B:List (List Rl)}{K:List (List Int)}
theorem wIS(h:DnP E 90 89 b bl k kl B K)(hD:OkD L B K)(hs6:yZ B<=6)(hB:∀r∈B,r.length<=1000)(hc:∀z,Le E z->zW tP 26 [.agg ⟨dnc L b bl bc k kl kc⟩] z (iV 0) z) :
  ∃w E',zW tP 10 [.agg ⟨dnc L b bl bc k kl kc⟩] E w E'/\New E E'/\wLJ L B K w E':=by
 have h64:2 ^ yZ B<=2 ^ 6:=Nat.pow_le_pow_right (by omega) hs6;have hp:=Nat.two_pow_pos (yZ B);have hzB:uO tP 106=some (.agg ⟨bsc 0 0 0 false⟩):=by kernel_rfl
 have eB:=h.bs.len;have nb:=hD.nb;obtain⟨s1,hs1⟩:∃s1,s1=E.re.row (dnc L b bl bc k kl kc) 10:=⟨_,rfl⟩;have N1:New E.re s1:=by rw[hs1];exact New.row _ _ _
 have c1:=hc s1 ((le0 E).trans N1.le);obtain⟨o,g,gl,gc,s3,k2,m2,_,hP⟩:=xZR (bc:=bc) (kc:=kc) (L:=L) ((h.le (le0 E)).le N1.le) (by omega) hB;obtain⟨km,F,r,s5,k3,m3,mf,hG,hr⟩:=wJN hP hD hs6;have P5:=hP.le m3.le;have ev:=yUF P5 (by omega);have lk:=mf.lookv zDO xTU hzB hr;have N5:=(N1.trans m2).trans m3;have hkm:=mf.1;refine zQ.new (P:=tP) (f:=10) (args:=[.agg ⟨dnc L b bl bc k kl kc⟩]) (E:=E) (Q:=λw t=>wLJ L B K w t) ?_ (by
  rintro w s s' (rfl|⟨xs,p,c,pay,rfl,h1,h2⟩) hle
  .exact .inl rfl
  .exact .inr ⟨xs,p,c,pay,rfl,zDR.le h1 hle,h2⟩) (by
  rintro w s hr (rfl|⟨xs,p,c,pay,rfl,h1,h2⟩)
  .exact .inl rfl
  .refine .inr ⟨xs,p,c,pay,rfl, ?_,h2⟩;cases p with
   |some a=>exact Bool.noConfusion (show false=true from hr)
   |none =>
    obtain⟨vs,g1,g2,g3⟩:=h1;have hl0:xs.length=0:=by have:=g1.1.2;simpa using this
    obtain rfl:=List.length_eq_zero_iff.1 hl0;exact⟨vs,uX g1,g2,λi r hi=>by simp at hi⟩)
 obtain⟨ok,hok⟩:∃ok,ok=r.ok:=⟨_,rfl⟩;have lk':xJ tP (evL [.map (some km),.int .u16 ((2 ^ yZ B-1:Nat):Int)]) s5 (.lookup 98 (.tmp 0) (.tmp 1) false)=some (.agg ⟨bsc r.x r.c r.y ok⟩):=by rw[hok];exact lk
 obtain⟨s6,hs6'⟩:∃s6,s6=(s5.row (bsc 0 0 0 false) 4).own s5.j (bsc r.x r.c r.y ok) 4:=⟨_,rfl⟩;have N6:New s5 s6:=by rw[hs6'];exact(New.row _ _ _).own (Nat.le_refl _)
 have o6:Own s6 s5.j (bsc r.x r.c r.y ok) 4:=by rw[hs6'];exact(zX s5 _ _).put
 have NN:=N5.trans N6;cases ok with
 |false=>exact xRP (by rw[<- hs1];exact c1) (by rw[<- hs1];exact k2) k3 ev lk' ⟨by rw[<- hs6'];exact NN,.inl rfl⟩ rfl
 |true =>
 refine xRQ (P0:=λp l c O=>New s6 O/\∃xs:List Nat,l=xs.length/\zIP O p xs.length (xs.map zVX)/\(∀x∈xs,0<x/\x<2 ^ yZ B/\uP L B K x=true)/\xs.length<=64/\r.y=(xs.map (zCP L B)).sum) (by rw[<- hs1];exact c1) (by rw[<- hs1];exact k2) k3 ev lk' (by
  rw[<- hs6'];refine ySA (Inv:=λk p l c i O=>New s6 O/\∃(left:Nat) (xs:List Nat) (r':Bn),i=left/\left<=k/\left<2 ^ yZ B/\xs.length+left<2 ^ yZ B/\l=xs.length/\zIO O s6.j 48 3 1 yK p xs.length c (xs.map zVX)/\(∀x∈xs,0<x/\x<2 ^ yZ B/\uP L B K x=true)/\F left=some r'/\r'.ok=true/\r.y=(xs.map (zCP L B)).sum+r'.y) ?_ (2 ^ yZ B-1) none 0 0 _ s6 ⟨New.refl _,2 ^ yZ B-1,[],r,rfl,Nat.le_refl _,by omega,by simp;omega,rfl,zIO.nil,λx hx=>(by cases hx),hr,hok.symm,by simp⟩;rintro k' p l c i O ⟨hN,left,xs,r',rfl,hk',hlt,hlen,rfl,hg,hxs,hr',hok',hsum⟩;obtain⟨_,_,ent⟩:=hG _ _ hr';have mfO:=mf.le (N6.trans hN).le;by_cases hl0:left=0
  .subst hl0;refine xHA ⟨hN,xs,rfl,hg.rowsF.rows,hxs,by omega, ?_⟩;rcases ent hok' with ⟨_,hy⟩|⟨x,_,_,h0,h1,_⟩
   .rw[hsum,hy,Int.add_zero]
   .rw[Nat.and_zero]at h1;omega
  rcases ent hok' with ⟨h0,_⟩|⟨x,r2,hx,hx0,hsub,hleg,hF2,hok2,hy⟩
  .exact absurd h0 hl0
  have hxle:x<=left:=by rw[<- hsub];exact Nat.and_le_right
  have hs64:=wKM ⟨left,by omega⟩ ⟨x,by omega⟩ hsub;simp only at hs64;have hxor:=@wKJ left x (.tmp 39) (.tmp 40) (by omega) (by omega);rw[hs64]at hxor;obtain⟨q,d,be,cl,n1,s1',f1⟩:=wIO (E:=O) (x:=x) (by omega);have el:(vW x 10).length=(zVX x).length:=by unfold zVX;simp
  rw[el]at cl s1';obtain⟨p4,c4,V2,g1,g2,g3⟩:=hg.push (d:=d) (r:=zVX x) zZH xF n1 hN.nx s1' f1 (by omega);have lk2:=mfO.lookv zDO xTU hzB hr';refine xHB lk2 (by rw[hx];exact cl) g1 (by rw[hx];exact hxor) ⟨k' - 1,by omega,hN.of_only g3 λb hb=>(hg.at_ hb).1,left-x,xs++[x],r2,rfl,by omega,by omega,by simp;omega,by simp, ?_, ?_,hF2,hok2, ?_⟩
  .rw[List.map_append,List.length_append];exact g2
  .intro z hz;rcases List.mem_append.1 hz with hz|hz
   .exact hxs z hz
   .obtain rfl:=List.mem_singleton.1 hz;exact⟨hx0,by omega,hleg⟩
  .rw[hsum,hy];simp;omega) ?_ rfl
 rintro p l c O ⟨hN,xs,rfl,hn,hxs,hl,hsum⟩;exact yRZ ((o6.le hN.le).ld rfl zU rfl) ⟨NN.trans hN,.inr ⟨xs,p,c,_,rfl,hn,hxs,hl,hsum⟩⟩
end
section
variable{ns:List Nat}
def orL(ns:List Nat):Nat:=ns.foldl (λa n=>a ||| 2 ^ n) 0
section
variable{E:St}{bl bc kl kc:Nat}{b k:Option Addr}{L:Lw}{B:List (List Rl)}{K:List (List Int)}
theorem wAH{j y:Nat}(h:ns[j]?=some y):orL (ns.take (j+1))=orL (ns.take j) ||| 2 ^ y:=by
 unfold orL;rw[wE h,List.foldl_append];rfl
theorem wAI{ns:List Nat}(h:∀y∈ns,y<16):∀j,j<=ns.length->orL (ns.take j)<65536
 |0,_=>by simp[orL]
 |j+1,hj=>by
  have hx:ns[j]?=some ns[j]:=by simp
  rw[wAH hx];have h1:ns[j]<16:=h _ (List.getElem_mem _);exact Nat.or_lt_two_pow (n:=16) (wAI h j (by omega)) (Nat.pow_lt_pow_right (by decide) h1)
theorem xNU(h:ns≠[]):orL ns≠0:=by
 have hl:0<ns.length:=List.length_pos_iff.2 h;have hx:ns[ns.length-1]?=some (ns[ns.length-1]'(by omega)):=by simp
 have e:=wAH hx;rw[List.take_of_length_le (by omega)]at e;rw[e];have h1:2 ^ (ns[ns.length-1]'(by omega))<=orL (ns.take (ns.length-1)) ||| 2 ^ (ns[ns.length-1]'(by omega)):=Nat.right_le_or
 have h2:=Nat.two_pow_pos (ns[ns.length-1]'(by omega));omega
theorem wJT{p:Option Addr}{l c:Nat}(h:DnP E 90 89 b bl k kl B K)(hD:OkD L B K)(hl:bl<=100)(hB:∀r∈B,r.length<=1000)(hp:yM E p l (ns.map λn:Nat=>(n:Int)))(h0:ns≠[])(h1:∀y∈ns,y<yZ B)(h2:∀(i:Nat) y z,ns[i]?=some y->ns[i+1]?=some z->y<z) :
  ∃o g gl gc E',zW tP 34 [.agg ⟨dnc L b bl bc k kl kc⟩,.slice p l c] E (.tuple ⟨[.pointer (some ⟨o,0,none⟩),.int .u16 ((orL ns:Nat):Int),iV 0]⟩) E'/\New E E'/\E.j<=o/\PlP E' o ⟨b,bl,bc,k,kl,kc,g,gl,gc⟩ L B K:=by
 have hs:=hD.ns;have el:ns.length=l:=by have:=yM.len hp;simpa using this
 have h16:∀y∈ns,y<16:=λy hy=>by have:=h1 y hy;omega
 have hll:l<=1000:=by
  have:∀i,i<ns.length->∀y,ns[i]?=some y->i<=y:=by
   intro i;induction i with
   |zero=>intros;omega
   |succ i ih =>
    intro hi y hy;have hx:ns[i]?=some ns[i]:=by simp
    have:=ih (by omega) _ hx;have:=h2 i _ _ hx hy;omega
  rcases Nat.eq_zero_or_pos ns.length with e|e
  .omega
  .have hx:ns[ns.length-1]?=some (ns[ns.length-1]'(by omega)):=by simp
   have a1:=this _ (by omega) _ hx;have a2:=h16 _ (List.getElem_mem (by omega:ns.length-1<ns.length));omega
 obtain⟨s1,hs1⟩:∃s1,s1=E.re.row (dnc L b bl bc k kl kc) 10:=⟨_,rfl⟩;have N1:New E.re s1:=by rw[hs1];exact New.row _ _ _
 have n1:s1.j=E.j+1:=by rw[hs1];rfl
 have k1:=(h.le (le0 E)).le N1.le;obtain⟨o,g,gl,gc,s2,c2,m2,ho,hP⟩:=xZR (L:=L) (bc:=bc) (kc:=kc) k1 hl hB;have N2:=N1.trans m2;have p2:yM s2 p l (ns.map λn:Nat=>(n:Int)):=SlV.le (SlV.le hp (le0 E)) N2.le;have lg:zJ tP s2 139 (zO ⟨o,0,none⟩ 10)=some (.slice g gl gc):=by have:=hP.own.ld (k:=10) rfl yVK rfl;simpa [zO] using this
 have hgl:gl=yZ B:=hP.gl;have st:s1.j<=o:=ho;have hl0:0<l:=by have:=List.length_pos_iff.2 h0;omega
 obtain⟨a0,rfl,_⟩:=xA p2 hl0;have R:zQ tP 34 [.agg ⟨dnc L b bl bc k kl kc⟩,.slice (some a0) l c] E.re λv O=>New E.re O/\(v=.tuple ⟨[.pointer (some ⟨o,0,none⟩),.int .u16 ((orL ns:Nat):Int),iV 0]⟩/\E.j<=o/\PlP O o ⟨b,bl,bc,k,kl,kc,g,gl,gc⟩ L B K):=by
  refine xRW (Pr:=λ_ _ _ _=>False) (P0:=λx O=>O=s2/\x=((orL ns:Nat):Int)) (by rw[<- hs1];exact yJT k1 hD hB) (by rw[<- hs1];exact c2) (ySE (Inv:=λk x i O=>O=s2/\∃j:Nat,i=j/\j+k=l/\x=((orL (ns.take j):Nat):Int)) ?_ l 0 0 s2 ⟨rfl,0,rfl,by omega,rfl⟩) (λ_ _ _ _ h=>h.elim) ?_ (by omega)
  .rintro k' x i O ⟨rfl,j,rfl,hk,rfl⟩;by_cases hj:j<l;rotate_left
   .refine xHH ⟨rfl, ?_⟩;rw[List.take_of_length_le (by omega)]
   obtain⟨a,e,y,hy,ld⟩:=xA p2 hj;cases e
   have hx:ns[j]?=some ns[j]:=by simp
   obtain rfl:((ns[j]:Nat):Int)=y:=by rw[List.getElem?_map,hx]at hy;simpa using hy
   have b1:=h1 _ (List.getElem_mem (by omega:j<ns.length));have b2:=h16 _ (List.getElem_mem (by omega:j<ns.length));have cw:=zIH (E:=O) (n:=((ns[j]:Nat):Int)) (lo:=0) (hi:=(gl:Int)-1) (by omega) (by omega);have w:vG .u64 ((ns[j]:Nat):Int)=((ns[j]:Nat):Int):=by rw[zVM];omega
   have o2:=wQB (o1:=.tmp 48) (o2:=.tmp 51) (wAI h16 j (by omega)) (show 2 ^ ns[j]<65536 from Nat.pow_lt_pow_right (n:=16) (by decide) b2);rw[<- wAH hx]at o2;by_cases hz:0<j
   .obtain⟨a',e',y',hy',ld'⟩:=xA p2 (i:=j-1) (by omega);cases e'
    have hx':ns[j-1]?=some ns[j-1]:=by simp
    obtain rfl:((ns[j-1]:Nat):Int)=y':=by rw[List.getElem?_map,hx']at hy';simpa using hy'
    have b3:=h2 (j-1) _ _ hx' (by rw[show j-1+1=j by omega];exact hx);rw[show(((j-1:Nat)):Int)=(j:Int)-1 by omega]at ld';exact xHJ ld lg cw ld' w (xYT b2) o2 ⟨k' - 1,by omega,rfl,j+1,by omega,by omega,rfl⟩
   .exact xHI ld lg cw w (xYT b2) o2 ⟨k' - 1,by omega,rfl,j+1,by omega,by omega,rfl⟩
  .rintro x O ⟨rfl,rfl⟩;exact ySD ⟨N2,rfl,by omega,hP⟩ (by have:=xNU h0;omega)
 obtain⟨v,E',q1,q2,rfl,q3,q4⟩:=R.new (by rintro v s s' ⟨e,g1,g2⟩ hle;exact⟨e,g1,g2.le hle⟩) (by rintro v s hr ⟨rfl,_⟩;cases hr);exact⟨o,g,gl,gc,E',q1,q2,q3,q4⟩
end
end
structure TrOk(B:List (List Rl))(T:List (List Int)):Prop where
 len:T.length=B.length
 row:∀(i:Nat) r x,T[i]?=some r->B[i]?=some x->r.length=x.length/\(∀(j:Nat) n y,r[j]?=some n->x[j]?=some y->y.lo<=n/\n<=y.hi)/\∀(j:Nat) n m,r[j]?=some n->r[j+1]?=some m->n<=m
section
variable{E:St}{bl bc kl kc:Nat}{b k:Option Addr}{L:Lw}{B:List (List Rl)}{K:List (List Int)}{T:List (List Int)}
theorem wCU{p:Option Addr}{c:Nat}(h:DnP E 90 89 b bl k kl B K)(hl:bl<=100)(hB:∀r∈B,r.length<=1000)(hp:zIP E p bl T)(hT:TrOk B T) :
  zW tP 35 [.agg ⟨dnc L b bl bc k kl kc⟩,.slice p bl c] E (.bool true) E:=by
 obtain⟨s1,hs⟩:∃s1,s1=E.re.row (dnc L b bl bc k kl kc) 10:=⟨_,rfl⟩;have N1:New E.re s1:=by rw[hs];exact New.row _ _ _
 have x1:Bx s1 E.j L b bl bc k kl kc:=by rw[hs];exact Bx.new
 have h1:=(h.le (le0 E)).le N1.le;have p1:=(hp.le (le0 E)).le N1.le;have eB:=h.bs.len;refine(xFW (Pr:=λ_ _=>False) (P0:=λO=>New s1 O) (yKE (Inv:=λk' i O=>New s1 O/\∃j:Nat,i=j/\j+k'=bl) (Qr:=λ_ _=>False) (Q0:=λO=>New s1 O) ?_ bl 0 _ ⟨by rw[<- hs];exact New.refl _,0,rfl,by omega⟩) (λ_ _ h=>h.elim) (λO hN=>yKC ⟨rfl,(N1.trans hN).lw⟩)).pure;rintro k' i O ⟨hN,j,rfl,hk⟩;by_cases hj:j<bl;rotate_left
 .exact yXX hN
 obtain⟨a,rfl,r,q,c1,hr,ld,hq⟩:=(p1.le hN.le).at hj;obtain⟨a2,e2,x,q2,c2,hx,ld2,hq2⟩:=(h1.bs.le hN.le).at hj;subst e2;obtain⟨r1,r2,r3⟩:=hT.row j r x hr hx;have hxl:=hB x (List.mem_of_getElem? hx);refine yXY ld (x1.le hN.le).bs ld2 (Pr:=λ_ _=>False) (P2:=λz=>New O z) (yKD (Inv:=λk' i z=>New O z/\∃t:Nat,i=t/\t+k'=r.length) (Qr:=λ_ _=>False) (Q2:=λz=>New O z) ?_ r.length 0 _ ⟨New.refl _,0,rfl,by omega⟩) (λ_ _ h=>h.elim) (λz hz=>yKB ⟨k' - 1,by omega,hN.trans hz,j+1,by omega,by omega⟩ ⟨by omega,by omega⟩);rintro k2 i V2 ⟨hM,t,rfl,hk2⟩;by_cases ht:t<r.length;rotate_left
 .exact yXU hM
 have hM1:=hN.trans hM;obtain⟨a4,e4,x',q4,c4,hx',ld4,hq4⟩:=(h1.bs.le hM1.le).at hj;cases e4
 rw[hx]at hx';cases hx';obtain⟨a3,rfl,n,hn,ln⟩:=xA (SlV.le hq hM.le) (i:=t) ht;obtain⟨a5,rfl,_⟩:=hq4.some (show t<x.length by omega);have hn0:r[t]?=some r[t]:=by simp
 have hy:x[t]?=some (x[t]'(by omega)):=by simp
 obtain rfl:r[t]=n:=by rw[hn0]at hn;simpa using hn
 obtain⟨g1,g2⟩:=r2 t _ _ hn0 hy;have l5:=zVT (P:=tP) (t':=87) (k:=1) (m:=2) (ds:=[iV (x[t]'(by omega)).lo,iV (x[t]'(by omega)).hi]) hq4 (by rw[List.getElem?_map,hy];rfl) rfl rfl (by decide) (by kernel_rfl) (by kernel_rfl);have N3:New V2 ((V2.row [iV 0,iV 0] 2).own V2.j [iV (x[t]'(by omega)).lo,iV (x[t]'(by omega)).hi] 2):=(New.row _ _ _).own (Nat.le_refl _);have cw:=zIH (E:=(V2.row [iV 0,iV 0] 2).own V2.j [iV (x[t]'(by omega)).lo,iV (x[t]'(by omega)).hi] 2) g1 g2;by_cases hz:0<t
 .obtain⟨a',e',n',hn',ln'⟩:=xA (SlV.le hq (hM.trans N3).le) (i:=t-1) (by omega);cases e'
  have hn1:r[t-1]?=some r[t-1]:=by simp
  obtain rfl:r[t-1]=n':=by rw[hn1]at hn';simpa using hn'
  have g3:=r3 (t-1) _ _ hn1 (by rw[show t-1+1=t by omega];exact hn0);rw[show(((t-1:Nat)):Int)=(t:Int)-1 by omega]at ln';exact yXW ln (x1.le hM1.le).bs ld4 l5 cw ln' ⟨k2-1,by omega,hM.trans N3,t+1,by omega,by omega⟩ (by omega) ⟨by omega,by omega⟩ ⟨by omega,by omega⟩ ⟨by omega,by omega⟩ (by omega) ⟨by omega,by omega⟩ ⟨by omega,by omega⟩ (by omega) ⟨by omega,by omega⟩
 .exact yXV ln (x1.le hM1.le).bs ld4 l5 cw ⟨k2-1,by omega,hM.trans N3,t+1,by omega,by omega⟩
end
def tmF(T:List (List Int))(i a:Nat):Int:=(T.getD i []).getD a 0
def bgT(T:List (List Int))(y:Pc):Int:=tmF T y.b.toNat y.a.toNat
def enT(T:List (List Int))(y:Pc):Int:=tmF T y.c.toNat y.e.toNat
section
variable{E:St}{tb x:Nat}{L:Lw}{B:List (List Rl)}{K:List (List Int)}{T:List (List Int)}
theorem yBF{i a:Nat}(hT:TrOk B T)(hi:i<B.length)(ha:a<(zAL B i).length):∃r,T[i]?=some r/\r[a]?=some (tmF T i a)/\(vJ B i a).lo<=tmF T i a/\tmF T i a<=(vJ B i a).hi:=by
 have hl:=hT.len;have h1:T[i]?=some (T[i]'(by omega)):=by simp
 have h2:B[i]?=some B[i]:=by simp
 obtain⟨r1,r2,r3⟩:=hT.row i _ _ h1 h2;have e:=zOZ h2;rw[e]at ha;have h3:(T[i]'(by omega))[a]?=some ((T[i]'(by omega))[a]'(by omega)):=by simp
 have h4:tmF T i a=(T[i]'(by omega))[a]'(by omega):=by unfold tmF;rw[List.getD_eq_getElem?_getD,List.getD_eq_getElem?_getD,h1];show((T[i]'(by omega))[a]?).getD 0=_;rw[h3];rfl
 have h5:=zNS (B:=B) (i:=i) (a:=a) (by rw[e];exact ha);rw[e]at h5;obtain⟨g1,g2⟩:=r2 a _ _ h3 h5;exact⟨_,h1,by rw[h4];exact h3,by rw[h4];exact g1,by rw[h4];exact g2⟩
theorem xYA{p:Option Addr}{c:Nat}(hp:zIP E p B.length T)(hD:OkD L B K)(hT:TrOk B T)(ow:Own E tb [.slice p B.length c] 1):TmOk E (wC B x) 36 [.pointer (some ⟨tb,0,none⟩)] 36 [.pointer (some ⟨tb,0,none⟩)] (bgT T) (enT T):=by
 have hyo:=zGJ (B:=B) (x:=x) (by have:=hD.ns;omega);have wl:=ow.lt;have at1:∀z,Le E z->∀{i a:Nat},i<B.length->a<(zAL B i).length->zW tP 36 [.agg ⟨[iV (i:Int),iV (a:Int)]⟩,.pointer (some ⟨tb,0,none⟩)] z (iV (tmF T i a)) z:=by
  intro z hz i a hi ha;have Lz:=(hz.trans (le0 z)).trans (Le.row z.re [iV (i:Int),iV (a:Int)] 2);obtain⟨r,h1,h2,_,_⟩:=yBF hT hi ha;obtain⟨a1,rfl,r',q,c1,hr,ld,hq⟩:=(hp.le Lz).at hi;rw[h1]at hr;cases hr;have hal:=(List.getElem?_eq_some_iff.1 h2).1;obtain⟨a2,rfl,n,hn,ln⟩:=xA hq (i:=a) hal;rw[h2]at hn;cases hn;exact(wFY ((ow.le Lz).ld (k:=0) rfl zPF rfl) ld ln ⟨rfl,(New.row _ _ _:New z.re _).lw⟩ ⟨by omega,by omega⟩ ⟨by omega,by omega⟩).pure
 refine⟨λz hz y hy=>?_,λz hz y hy=>?_,λn hn=>zI (zR (by show tb<n;omega)) zM,λn hn=>zI (zR (by show tb<n;omega)) zM,rfl,λy hy=>?_⟩
 .obtain⟨i,a,e,n,rfl,h1,h2,h3,h4⟩:=hyo y hy;exact at1 z hz h1 (by omega)
 .obtain⟨i,a,e,n,rfl,h1,h2,h3,h4⟩:=hyo y hy;exact at1 z hz h1 h3
 .obtain⟨i,a,e,n,rfl,h1,h2,h3,h4⟩:=hyo y hy;obtain⟨_,_,r3,r4,r5⟩:=zBX hD.blks h1 (by omega:a<_);obtain⟨_,_,r6,r7,r8⟩:=zBX hD.blks h1 h3;obtain⟨_,_,_,g1,g2⟩:=yBF hT h1 (by omega:a<_);obtain⟨_,_,_,g3,g4⟩:=yBF hT h1 h3;exact⟨⟨by show 0<=tmF T i a;omega,by show tmF T i a<=3000;omega⟩,by show 0<=tmF T i e;omega,by show tmF T i e<=3000;omega⟩
end
section
variable{E:St}{bl bc kl kc x:Nat}{b k:Option Addr}{L:Lw}{B:List (List Rl)}{K:List (List Int)}{T:List (List Int)}
theorem wQL{p tp:Option Addr}{l c tc:Nat}{ns:List Nat}(h:DnP E 90 89 b bl k kl B K)(hD:OkD L B K)(hs6:yZ B<=6)(hl:bl<=100)(hB:∀r∈B,r.length<=1000)(hp:yM E p l (ns.map λn:Nat=>(n:Int)))(h0:ns≠[])(h1:∀y∈ns,y<yZ B)(h2:∀(i:Nat) y z,ns[i]?=some y->ns[i+1]?=some z->y<z)(ex:orL ns=x)(hx:x<2 ^ yZ B)(ht:zIP E tp bl T)(hT:TrOk B T) :
  ∃q ql qc E',zW tP 16 [.agg ⟨dnc L b bl bc k kl kc⟩,.slice p l c,.slice tp bl tc] E (.tuple ⟨[.agg ⟨[iV (zKP (bgT T) (enT T) (wC B x)).sum,iV (wJ L (bgT T) (enT T) (wC B x)),.slice q ql qc,.bool (zFP L B K (bgT T) (enT T) (wC B x))]⟩,iV 0]⟩) E'/\New E E'/\∀a,q=some a->a.block<E'.j:=by
 have x0:0<x:=by have:=xNU h0;omega
 have eB:=h.bs.len;obtain⟨s1,hs1⟩:∃s1,s1=((E.re.row (dnc L b bl bc k kl kc) 10).row [.slice tp bl tc] 1).row [iV 0,iV 0,.slice none 0 0,.bool false] 4:=⟨_,rfl⟩;have N1:New E.re s1:=by rw[hs1];exact((New.row _ _ _).row').row'
 have o1:Own s1 E.j (dnc L b bl bc k kl kc) 10:=by rw[hs1];exact((zX E.re _ 10).row).row
 have o2:Own s1 (E.j+1) [.slice tp bl tc] 1:=by rw[hs1];exact(zX (E.re.row _ 10) _ 1).row
 have o3:Own s1 (E.j+2) [iV 0,iV 0,.slice none 0 0,.bool false] 4:=by rw[hs1];exact zX ((E.re.row _ 10).row _ 1) _ 4
 have k1:=(h.le (le0 E)).le N1.le;obtain⟨o,g,gl,gc,s4,c4,m4,_,hP⟩:=wJT (L:=L) (bc:=bc) (kc:=kc) (c:=c) k1 hD hl hB (SlV.le (SlV.le hp (le0 E)) N1.le) h0 h1 h2;rw[ex]at c4;have t4:=((ht.le (le0 E)).le N1.le).le m4.le;subst eB;have tm:=xYA (x:=x) t4 hD hT (o2.le m4.le);obtain⟨W,s10,c10,m10,gW,gS⟩:=wPN hP rfl hD.rows hD.blks hD.law hs6 (by have:=Nat.pow_le_pow_right (n:=2) (by decide) hs6;omega) (yTP x0 hx) tm;obtain⟨s11,hs11⟩:∃s11,s11=(s10.row [.slice none 0 0,.slice none 0 0,.slice none 0 0,iV 0] 4).own s10.j (woL W) 4:=⟨_,rfl⟩;have N11:New s10 s11:=by rw[hs11];exact(New.row _ _ _).own (Nat.le_refl _)
 have o11:Own s11 s10.j (woL W) 4:=by rw[hs11];exact(zX s10 _ 4).put
 have g11:=gW.le N11.le;have yl:(zKP (bgT T) (enT T) (wC B x)).length<=6:=by unfold zKP;rw[List.length_map,zIB];exact Nat.le_trans zQA hs6
 have cd:=yUN g11 (by have e:(zKP (bgT T) (enT T) (wC B x)).length=W.pl:=yM.len g11.p;omega) (xNZ tm.bd);have cl:=wAY hs6 x0 hx tm.bd g11 gS;have Lz:=m4.le.trans (m10.le.trans N11.le);have st:=((o3.le Lz).store (P:=tP) (k:=0) (t:=64) (v:=.agg ⟨[iV (zKP (bgT T) (enT T) (wC B x)).sum,iV W.s,.slice W.b W.bl W.bc,.bool (zFP L B K (bgT T) (enT T) (wC B x))]⟩) (ds:=[iV (zKP (bgT T) (enT T) (wC B x)).sum,iV W.s,.slice W.b W.bl W.bc,.bool (zFP L B K (bgT T) (enT T) (wC B x))]) rfl (by kernel_rfl) rfl (by show 4<=4;exact Nat.le_refl _) rfl);obtain⟨s14,e14,o14,k14⟩:∃s14,s14=s11.own (E.j+2) [iV (zKP (bgT T) (enT T) (wC B x)).sum,iV W.s,.slice W.b W.bl W.bc,.bool (zFP L B K (bgT T) (enT T) (wC B x))] 4/\Own s14 (E.j+2) [iV (zKP (bgT T) (enT T) (wC B x)).sum,iV W.s,.slice W.b W.bl W.bc,.bool (zFP L B K (bgT T) (enT T) (wC B x))] 4/\New E.re s14:=⟨_,rfl,(o3.le Lz).put,(((N1.trans m4).trans m10).trans N11).own (by show E.j<=E.j+2;omega)⟩;have bw:∀a:Addr,W.b=some a->a.block<s14.j:=λa e=>by
  have h:s14.j=s11.j:=by rw[e14];rfl
  rw[h];exact g11.b a e
 have w3:W.s=wJ L (bgT T) (enT T) (wC B x):=gS;have R:zQ tP 16 [.agg ⟨dnc L b B.length bc k kl kc⟩,.slice p l c,.slice tp B.length tc] E.re λv O=>New E.re O/\∃q ql qc,(∀a:Addr,q=some a->a.block<O.j)/\v=.tuple ⟨[.agg ⟨[iV (zKP (bgT T) (enT T) (wC B x)).sum,iV (wJ L (bgT T) (enT T) (wC B x)),.slice q ql qc,.bool (zFP L B K (bgT T) (enT T) (wC B x))]⟩,iV 0]⟩:=by
  rw[<- w3];have wb:yQ 7 s11.j (.slice W.b W.bl W.bc)=true:=by
   cases e:W.b with
   |none=>rfl
   |some a=>exact(xY _ _).2 (g11.b a e)
  have b1:=((o1.le Lz)).lt;have b3:=(o3.le Lz).lt;refine wLK (E10:=s10) (E14:=s14) (by rw[<- hs1];exact c4) ((o1.le m4.le).ldN (k:=0) (by kernel_rfl) (by kernel_rfl) rfl rfl (by simp)) ((o2.le m4.le).ld (k:=0) rfl zPF rfl) (wCU (k1.le m4.le) hl hB t4 hT) c10 (by rw[<- hs11];exact cd) (by rw[<- hs11];exact(o1.le Lz).ldN (k:=0) xEM yGW rfl rfl (by simp)) (by rw[<- hs11];exact cl) (by rw[<- hs11,e14];exact st) (by rw[<- hs11];exact zI (zR o11.lt) zM) (by rw[<- hs11];exact zI (yGJ g11 (Nat.le_refl _)) zM) (by rw[<- hs11];exact zI (zR o11.lt) zM) (by rw[<- hs11];exact zI (zR o11.lt) zM) (by rw[<- hs11];exact zI (zR b1) zM) (by rw[<- hs11];exact zI rfl (zI (yGJ g11 (Nat.le_refl _)) zM)) ?_ ?_ ?_ ?_ ?_ (o14.ldN (k:=0) (by kernel_rfl) (by kernel_rfl) rfl rfl (by simp)) ⟨k14,_,_,_,bw,rfl⟩ rfl
  .rw[<- hs11];exact zI (zR b3) (zI (by show(true&&(true&&(yQ 7 _ (.slice W.b W.bl W.bc)&&(true&&true))))=true;rw[wb];rfl) zM)
  .rw[<- hs11];exact⟨⟨o11.lt,rfl⟩,o11.ld (k:=3) rfl zU rfl⟩
  .rw[<- hs11];exact⟨⟨o11.lt,rfl⟩,o11.ld (k:=1) rfl (by kernel_rfl) rfl⟩
  .rw[<- hs11];exact⟨⟨b1,rfl⟩,(o1.le Lz).ldN (k:=0) xEM yGW rfl rfl (by simp)⟩
  .rw[<- hs11];exact⟨⟨o11.lt,rfl⟩,o11.ldN (k:=0) (by kernel_rfl) (by kernel_rfl) rfl rfl (by simp)⟩
 obtain⟨v,E',q1,q2,q,ql,qc,q3,rfl⟩:=R.new (by rintro v s s' ⟨q,ql,qc,g,e⟩ hle;exact⟨q,ql,qc,λa h=>Nat.lt_of_lt_of_le (g a h) hle.j,e⟩) (by
  rintro v s hr ⟨q,ql,qc,g,rfl⟩;cases q with
  |none=>exact⟨none,ql,qc,(by rintro a ⟨⟩),rfl⟩
  |some a=>cases hr)
 exact⟨q,ql,qc,E',q1,q2,q3⟩
end
section
variable{n l c:Nat}{p:Option Addr}
section
variable{E:St}{bl bc kl kc x:Nat}{b k:Option Addr}{L:Lw}{B:List (List Rl)}{K:List (List Int)}
theorem zGZ{U:Type}{f:U->Value}{ts te:Nat}{R:List (List U)}(h:zDR E ts te n f p l R):∀x,p=some x->x.block<E.j:=by
 obtain⟨vs,g,_⟩:=h;exact xW g
theorem yIO{q:Option Addr}{a d e:Nat}(hp:∀x,p=some x->x.block<n)(hq:∀x,q=some x->x.block<n):zL n [.agg ⟨dnc L p a c q d e⟩]:=by
 have kk:∀(p:Option Addr) (a b:Nat),(∀x,p=some x->x.block<n)->yQ 7 n (.slice p a b)=true:=λp a b hp=>by
  cases p with
  |none=>rfl
  |some x=>exact(xY _ _).2 (hp x rfl)
 refine zI ?_ zM;show(true&&(true&&(true&&(true&&(true&&(true&&(true&&(true&&(yQ 7 n (.slice p a c)&&(yQ 7 n (.slice q d e)&&true))))))))))=true;rw[kk _ _ _ hp,kk _ _ _ hq];rfl
theorem xUZ{ns:List Nat}(h:DnP E 59 58 b bl k kl B K)(hD:OkD L B K)(hl:bl<=100)(hB:∀r∈B,r.length<=1000)(hp:yM E p l (ns.map λn:Nat=>(n:Int)))(h0:ns≠[])(h1:∀y∈ns,y<yZ B)(h2:∀(i:Nat) y z,ns[i]?=some y->ns[i+1]?=some z->y<z)(hll:l<=1000) :
  zW tP 13 [.agg ⟨dnc L b bl bc k kl kc⟩,.slice p l c] E (.bool true) E:=by
 have el:ns.length=l:=by have:=yM.len hp;simpa using this
 have hs:=hD.ns;have hl0:0<l:=by have:=List.length_pos_iff.2 h0;omega
 obtain⟨s1,hs1⟩:∃s1,s1=E.re.row (dnc L b bl bc k kl kc) 10:=⟨_,rfl⟩;have N1:New E.re s1:=by rw[hs1];exact New.row _ _ _
 have x1:Bx s1 E.j L b bl bc k kl kc:=by rw[hs1];exact Bx.new
 have k1:=(h.le (le0 E)).le N1.le;have p2:yM s1 p l (ns.map λn:Nat=>(n:Int)):=SlV.le (SlV.le hp (le0 E)) N1.le;obtain⟨a0,rfl,_⟩:=xA p2 hl0;have la:a0.block<s1.j:=xW p2 a0 rfl;have lx:=x1.own.lt;have ld0:zJ tP s1 27 ⟨E.j,0,none⟩=some (.agg ⟨dnc L b bl bc k kl kc⟩):=x1.own.ldN (k:=0) (by kernel_rfl) (by kernel_rfl) rfl rfl (by simp);refine(yYV (Pr:=λ_ _=>False) (P0:=λO=>O=s1) ?_ (λ_ _ h=>h.elim) ?_).pure;rotate_left
 .rintro O rfl;exact yFM ⟨rfl,N1.lw⟩
 .rw[<- hs1];refine yFN (Inv:=λk i O=>O=s1/\∃j:Nat,i=j/\j+k=l) (Qr:=λ_ _=>False) (Q0:=λO=>O=s1) ?_ l 0 s1 ⟨rfl,0,rfl,by omega⟩;rintro k' i O ⟨rfl,j,rfl,hk⟩;by_cases hj:j<l;rotate_left
  .exact yRV rfl
  obtain⟨a,e,y,hy,ld⟩:=xA p2 hj;cases e
  have hx:ns[j]?=some ns[j]:=by simp
  obtain rfl:((ns[j]:Nat):Int)=y:=by rw[List.getElem?_map,hx]at hy;simpa using hy
  have b1:=h1 _ (List.getElem_mem (by omega:j<ns.length));have cs:=yUP (E:=O) (L:=L) (bc:=bc) (kc:=kc) k1 rfl hl hB;have ci:zW tP 22 [iV ((ns[j]:Nat):Int),iV 0,iV ((yZ B:Int)-1)] O (.bool true) O:=zAU (by unfold inB;simp;omega);have bw:zL O.j [.agg ⟨dnc L b bl bc k kl kc⟩]:=yIO (zGZ k1.bs) (zGZ k1.ks);by_cases hz:0<j
  .obtain⟨a',e',y',hy',ld'⟩:=xA p2 (i:=j-1) (by omega);cases e'
   have hx':ns[j-1]?=some ns[j-1]:=by simp
   obtain rfl:((ns[j-1]:Nat):Int)=y':=by rw[List.getElem?_map,hx']at hy';simpa using hy'
   have b3:=h2 (j-1) _ _ hx' (by rw[show j-1+1=j by omega];exact hx);rw[show(((j-1:Nat)):Int)=(j:Int)-1 by omega]at ld';exact yRX ld ld0 cs ci ld' bw ⟨k' - 1,by omega,rfl,j+1,by omega,by omega⟩ (by omega) ⟨by omega,by omega⟩ ⟨by omega,by omega⟩ (by omega) ⟨by omega,by omega⟩ ⟨by omega,by omega⟩ (by omega) ⟨by omega,by omega⟩ la lx
  .exact yRW ld ld0 cs ci bw ⟨k' - 1,by omega,rfl,j+1,by omega,by omega⟩ (by omega) ⟨by omega,by omega⟩ ⟨by omega,by omega⟩ (by omega) ⟨by omega,by omega⟩ la lx
end
end
section
variable{x m y:Nat}
theorem xNV:∀(ns:List Nat) (a i:Nat),(ns.foldl (λa n=>a ||| 2 ^ n) a).testBit i=(a.testBit i||decide (i∈ns))
 |[],a,i=>by simp
 |n::ns,a,i=>by
  rw[List.foldl_cons,xNV ns,Nat.testBit_or,Nat.testBit_two_pow];by_cases h1:n=i
  .subst h1;simp
  .have h2:¬i=n:=λe=>h1 e.symm
   simp[h1,h2]
theorem yJH:y∈vW x m↔y<m/\x.testBit y=true:=by
 unfold vW;rw[List.mem_filter,List.mem_range]
theorem wJM{k:Nat}(h:x<2 ^ k)(hy:y∈vW x m):y<k:=by
 rcases Nat.lt_or_ge y k with g|g
 .exact g
 .have:=(yJH.1 hy).2;rw[Nat.testBit_lt_two_pow (Nat.lt_of_lt_of_le h (Nat.pow_le_pow_right (by omega) g))]at this;cases this
theorem xBX(h:x<2 ^ m):orL (vW x m)=x:=by
 refine Nat.eq_of_testBit_eq λi=>?_
 unfold orL;rw[xNV,Nat.zero_testBit,Bool.false_or];by_cases hb:x.testBit i=true
 .rw[hb];refine decide_eq_true (yJH.2 ⟨?_,hb⟩);rcases Nat.lt_or_ge i m with g|g
  .exact g
  .rw[Nat.testBit_lt_two_pow (Nat.lt_of_lt_of_le h (Nat.pow_le_pow_right (by omega) g))]at hb;cases hb
 .rw[Bool.not_eq_true]at hb;rw[hb];exact decide_eq_false λg=>by have:=(yJH.1 g).2;rw[hb]at this;cases this
theorem wJK{i z:Nat}(h1:(vW x m)[i]?=some y)(h2:(vW x m)[i+1]?=some z):y<z:=by
 have p:(vW x m).Pairwise (· < ·):=List.Pairwise.filter _ List.pairwise_lt_range;obtain⟨a1,rfl⟩:=List.getElem?_eq_some_iff.1 h1;obtain⟨a2,rfl⟩:=List.getElem?_eq_some_iff.1 h2;exact List.pairwise_iff_getElem.1 p i (i+1) a1 a2 (by omega)
theorem wJL(h:x<2 ^ m)(h0:0<x):vW x m≠[]:=λe=>by
 have:=xBX h;rw[e]at this;simp[orL]at this;omega
theorem xOA{U:Type}{f g:U->Int}:∀(ys:List U) (a b:Int),(∀y∈ys,f y<=g y)->a<=b->(ys.map f).foldl max a<=(ys.map g).foldl max b
 |[],_,_,_,h=>h
 |y::ys,a,b,h,hab=>xOA ys _ _ (λz hz=>h z (.tail _ hz)) (by have:=h y (.head _);omega)
theorem wHU{U:Type}{f g:U->Int}:∀ys:List U,(∀y∈ys,f y<=g y)->xCG (ys.map f)<=xCG (ys.map g)
 |[],_=>Int.le_refl _
 |y::ys,h=>xOA ys _ _ (λz hz=>h z (.tail _ hz)) (h y (.head _))
theorem xNB{U:Type}{f g:U->Int}:∀ys:List U,(∀y∈ys,f y<=g y)->(ys.map f).sum<=(ys.map g).sum
 |[],_=>Int.le_refl _
 |y::ys,h=>by
  have h1:=xNB ys (λz hz=>h z (.tail _ hz));have h2:=h y (.head _);rw[List.map_cons,List.map_cons,List.sum_cons,List.sum_cons];omega
theorem xOU{W V:Pc->Pc->Int}{c:Int}:∀ys:List Pc,(∀y∈ys,∀z∈ys,W y z<=V y z)->(∀n∈btw W ys,c<=n)->∀n∈btw V ys,c<=n
 |[],_,_=>λn h=>nomatch h
 |[_],_,_=>λn h=>nomatch h
 |y::z::l,h,g=>λn hn=>by
  have hn:n∈V y z::btw V (z::l):=hn;rcases List.mem_cons.1 hn with rfl|hn
  .have h1:=h y (.head _) z (.tail _ (.head _));have h2:=g (W y z) (.head _);omega
  .exact xOU (z::l) (λa ha b hb=>h a (.tail _ ha) b (.tail _ hb)) (λm hm=>g m (.tail _ hm)) n hn
section
variable{x:Nat}{L:Lw}{B:List (List Rl)}{K:List (List Int)}{T:List (List Int)}
theorem xAS(hD:OkD L B K)(hT:TrOk B T):∀y∈wC B x,loF B y<=bgT T y/\enT T y<=hiF B y:=by
 intro y hy;obtain⟨i,a,e,n,rfl,h1,h2,h3,h4⟩:=zGJ (by have:=hD.ns;omega) y hy;obtain⟨_,_,_,g1,g2⟩:=yBF hT h1 (by omega:a<_);obtain⟨_,_,_,g3,g4⟩:=yBF hT h1 h3;exact⟨g1,g4⟩
theorem yNK(hD:OkD L B K)(hT:TrOk B T):wJ L (bgT T) (enT T) (wC B x)<=wJ L (loF B) (hiF B) (wC B x):=by
 unfold wJ;split
 .rename_i a b h1 h2;have ha:=(xAS hD hT a (List.mem_of_head? h1)).1;have hb:=(xAS hD hT b (List.mem_of_getLast? h2)).2;omega
 .exact Int.le_refl _
theorem wHY(hD:OkD L B K)(hT:TrOk B T)(h:uP L B K x=true):zFP L B K (bgT T) (enT T) (wC B x)=true:=by
 unfold uP zFP at h;unfold zFP;rw[List.all_eq_true]at h ⊢;have hm:∀y∈wC B x,enT T y-bgT T y<=hiF B y-loF B y:=λy hy=>by have:=xAS hD hT y hy;omega
 intro i hi;have h:=h i hi;match i,h with
 |0,h =>
  have h:=of_decide_eq_true h;refine decide_eq_true ?_
  unfold zKP at h ⊢;rw[List.length_map]at h ⊢;exact h
 |1,h=>exact decide_eq_true (Int.le_trans (wHU _ hm) (of_decide_eq_true h))
 |2,h=>exact decide_eq_true (Int.le_trans (xNB _ hm) (of_decide_eq_true h))
 |3,h =>
  have h:=List.all_eq_true.1 h;refine List.all_eq_true.2 λn hn=>decide_eq_true ?_
  exact xOU (W:=zAA B K (loF B) (hiF B)) _ (λy hy z hz=>by
   have h1:=xAS hD hT y hy;have h2:=xAS hD hT z hz;unfold zAA;omega) (λn hn=>of_decide_eq_true (h n hn)) n hn
 |n+4,h=>exact decide_eq_true (Int.le_trans (yNK hD hT) (of_decide_eq_true h))
theorem yGT(hD:OkD L B K)(hT:TrOk B T):wJ L (bgT T) (enT T) (wC B x)<=zCP L B x:=by
 have:=yNK (x:=x) hD hT;unfold zCP;omega
end
end
abbrev pdV(y:Pd):Value:=.agg ⟨pdL y⟩
theorem wBZ{P:Program}{O:St}{t n n0 l c t' i k:Nat}{p:Option Addr}{vs ds:List Value}{v w x:Value}(h:Gr P O n0 t n p l c vs)(hv:vs[i]?=some v)(hw:zDV P t n w)(hx:x.cells.toList=ds)(hs:yR P t'=some ds.length)(hc:ds.all cellB=true)(hk:k+ds.length<=n)(he:v.cells.toList.take k++(ds++v.cells.toList.drop (k+ds.length))=w.cells.toList) :
  ∃a O',p=some a/\yN P (evL [.pointer (some (zO a (i*n+k))),x]) O (.store t' (.tmp 0) (.tmp 1))=some (undef,O')/\Gr P O' n0 t n p l c (vs.set i w)/\Only (AtP p) O O':=by
 have ha:=h.app;have hL:=h.len_eq;have hi:i<vs.length:=(List.getElem?_eq_some_iff.1 hv).1;have hF:=yIK h.el;have cv:=(h.el v (List.mem_of_getElem? hv)).len;have e1:vs=vs.take i++v::vs.drop (i+1):=by
  rw[show v::vs.drop (i+1)=vs.drop i from by rw[List.drop_eq_getElem_cons hi];congr 1;exact((List.getElem?_eq_some_iff.1 hv).2).symm,List.take_append_drop]
 have e2:vs.set i w=vs.take i++w::vs.drop (i+1):=List.set_eq_take_append_cons_drop.trans (if_pos hi);have e3:wD vs=wD (vs.take i)++(v.cells.toList++wD (vs.drop (i+1))):=by
  conv=>lhs;rw[e1,zBJ]
  simp[wD]
 have e4:wD (vs.set i w)=wD (vs.take i)++(w.cells.toList++wD (vs.drop (i+1))):=by
  rw[e2,zBJ];simp[wD]
 have e5:(wD (vs.take i)).length=i*n:=by
  rw[yIK λv hv=>h.el v (List.mem_of_mem_take hv),List.length_take,Nat.min_eq_left (by omega)]
 have hin:i*n+n<=vs.length*n:=by
  have:=Nat.mul_le_mul_right n (show i+1<=vs.length from hi);rw[Nat.succ_mul]at this;exact this
 have ef:(wD vs).take (i*n+k)++(ds++(wD vs).drop (i*n+k+ds.length))=wD (vs.set i w):=by
  rw[e3,e4,<- he];generalize wD (vs.take i)=A at e5 ⊢;generalize wD (vs.drop (i+1))=D;rw[List.take_append,List.drop_append,e5,List.take_of_length_le (l:=A) (by omega),List.drop_eq_nil_of_le (by omega),show i*n+k-i*n=k by omega,show i*n+k+ds.length-i*n=k+ds.length by omega,List.take_append_of_le_length (by omega),List.drop_append_of_le_length (by omega)];simp
 obtain⟨cs,hcs⟩:∃cs,cs=wD vs:=⟨_,rfl⟩;rw[<- hcs]at ha hF ef;have el':(wD (vs.set i w)).length=cs.length:=by rw[<- ef];simp;omega
 cases ha with
 |nil=>omega
 |more h1 h2 h3 h4 h5 h6 h7 =>
  rename_i b s0 nx sp log;subst h2;have hww:wS O ⟨b,0+(i*n+k),sp⟩ ds=some (O.put b (.cells (wD (vs.set i w)) n [(sp.getD 0,cs.length)] nx false)):=by
   have hcc:(Nat.beq (sp.getD 0) (sp.getD 0)&&Nat.ble (0+(i*n+k)+ds.length) cs.length&&!false&&ds.all cellB)=true:=by
    rw[Nat.beq_refl,(yJ _ _).2 (show 0+(i*n+k)+ds.length<=cs.length by omega),hc];rfl
   unfold wS;simp only[h1,yO,hcc,cond_true,zCV,St.write_eq];rw[Nat.zero_add,ef]
  refine⟨⟨b,0,sp⟩,O.put b (.cells (wD (vs.set i w)) n [(sp.getD 0,cs.length)] nx false),rfl, ?_,⟨?_,by rw[List.length_set];exact hL, ?_⟩,Only.put (.inr ⟨_,rfl,rfl⟩)⟩
  rotate_left
  .refine .more (log:=[]) (nx:=nx) (s:=sp.getD 0) ?_ rfl h3 h4 (by rw[el'];exact h5) h6 h7;rw[St.put_get,if_pos rfl,el']
  .intro u hu;rcases List.mem_or_eq_of_mem_set hu with g|rfl
   .exact h.el u g
   .exact hw
  .have hb:Nat.beq x.cells.toList.length ds.length=true:=by rw[hx];exact Nat.beq_refl _
   have:zCN P O t' (zO ⟨b,0,sp⟩ (i*n+k)) x=some (O.put b (.cells (wD (vs.set i w)) n [(sp.getD 0,cs.length)] nx false)):=by
    unfold zCN;rw[hx]at hb ⊢;simp only[hs,hb,cond_true];exact hww
   show(zCN P O t' _ x).map _=_;rw[this];rfl
section
variable{E:St}{bl bc kl kc:Nat}{b k:Option Addr}{L:Lw}{B:List (List Rl)}{K:List (List Int)}
theorem zTM{n:Nat}{v:Value}{vs:List Value}(h:zL n [v])(t:zL n vs):zL n (v::vs):=zI (by unfold zL at h;rw[List.all_cons,List.all_nil,Bool.and_true]at h;exact h) t
theorem wLU(h:DnP E 59 58 b bl k kl B K)(hD:OkD L B K){s:Nat}(hs:s<yZ B):∃i a:Nat,zW tP 32 [.agg ⟨dnc L b bl bc k kl kc⟩,iV (s:Int)] E (.tuple ⟨[iV (i:Int),iV (a:Int)]⟩) E/\i<B.length/\a+1<(zAL B i).length/\a<=10:=by
 have eB:=h.bs.len;have hns:=hD.ns;have hnb:=hD.nb;obtain⟨s1,hs1⟩:∃s1,s1=E.re.row (dnc L b bl bc k kl kc) 10:=⟨_,rfl⟩;have N1:New E.re s1:=by rw[hs1];exact New.row _ _ _
 have x1:Bx s1 E.j L b bl bc k kl kc:=by rw[hs1];exact Bx.new
 have k1:=(h.le (le0 E)).le N1.le;suffices hm:zQ tP 32 [.agg ⟨dnc L b bl bc k kl kc⟩,iV (s:Int)] E.re λv z=>∃i a:Nat,v=.tuple ⟨[iV (i:Int),iV (a:Int)]⟩/\E.j<=z.low/\i<B.length/\a+1<(zAL B i).length/\a<=10 by
  obtain⟨v,z,g1,i,a,rfl,g2,g3⟩:=hm;exact⟨i,a,zQ.pure ⟨_,z,g1,rfl,g2⟩,g3⟩
 refine xXR (P0:=λi1 i6 O=>∃i a:Nat,i1=a/\i6=i/\O=s1/\i<B.length/\a+1<(zAL B i).length/\a<=10) (xAD (Inv:=λk' i1 i6 O=>O=s1/\∃i a:Nat,i1=a/\i6=i/\i+k'=bl/\a+((B.map λx=>x.length-1).take i).sum=s) ?_ bl s 0 _ ⟨by rw[<- hs1],0,s,rfl,rfl,by omega,by simp⟩) ?_
 .rintro k' i1 i6 O ⟨rfl,i,a,rfl,rfl,hk,hsum⟩;by_cases hi:i<bl;rotate_left
  .rw[List.take_of_length_le (by simp;omega)]at hsum;unfold yZ at hs;omega
  obtain⟨ad,rfl,r,q,c,hr,ld,_⟩:=k1.bs.at hi;have hb:=zOZ hr;have h2:=(hD.blks r (List.mem_of_getElem? hr)).1;have hx:(B.map λx=>x.length-1)[i]?=some (r.length-1):=by simp[hr]
  have h3:=zFE hx;have h4:a<=10:=by omega
  have h5:r.length<=12:=by
   have:((B.map λx=>x.length-1).take (i+1)).sum<=yZ B:=by
    unfold yZ;have e:=congrArg List.sum (List.take_append_drop (i+1) (B.map λx=>x.length-1));rw[List.sum_append]at e;omega
   omega
  by_cases hg:r.length-1<=a
  .exact xSE x1.bs ld ⟨k' - 1,by omega,rfl,i+1,a-(r.length-1),by omega,by omega,by omega,by omega⟩
  .exact xSD x1.bs ld ⟨i,a,rfl,rfl,rfl,by omega,by rw[hb];omega,h4⟩
 .rintro i1 i6 O ⟨i,a,rfl,rfl,rfl,g1,g2⟩;exact xAC ⟨i,a,rfl,N1.lw,g1,g2⟩
theorem wDC(h:DnP E 59 58 b bl k kl B K){i a:Nat}(hi:i<B.length)(ha:a<(zAL B i).length):zW tP 15 [.agg ⟨dnc L b bl bc k kl kc⟩,iV (i:Int),iV (a:Int)] E (iV (vJ B i a).lo) E:=by
 have eB:=h.bs.len;have N1:New E.re (E.re.row (dnc L b bl bc k kl kc) 10):=New.row _ _ _;have k1:=(h.le (le0 E)).le N1.le;obtain⟨ad,rfl,r,q,c,hr,ld,hq⟩:=k1.bs.at (i:=i) (by omega)
 have hb:=zOZ hr;have hx:=zNS ha;rw[hb]at hx ha;obtain⟨a2,rfl,_⟩:=hq.some ha;have l2:zJ tP (E.re.row (dnc L (some ad) bl bc k kl kc) 10) 3 (zO a2 (Int.toNat (a:Int)*3+1))=some (iV (vJ B i a).lo):=zPU (k:=1) hq (by rw[List.getElem?_map,hx];rfl) rfl zU;exact(wFV ld l2 ⟨rfl,N1.lw⟩ ⟨by omega,by omega⟩ ⟨by omega,by omega⟩).pure
def xEP(B:List (List Rl))(y:Pd):Prop:=∃i a e n:Nat,y=⟨i,a,e,n⟩/\i<B.length/\a<(zAL B i).length/\e<(zAL B i).length
theorem wDY(h:DnP E 59 58 b bl k kl B K){y z:Pd}(hy:xEP B y)(hz:xEP B z):∃t,zW tP 33 [.agg ⟨dnc L b bl bc k kl kc⟩,.agg ⟨pdL y⟩,.agg ⟨pdL z⟩] E (.bool t) E:=by
 obtain⟨i,a,e,n,rfl,y1,y2,y3⟩:=hy;obtain⟨j,p,f,m,rfl,z1,z2,z3⟩:=hz;obtain⟨s1,hs1⟩:∃s1,s1=((E.re.row (dnc L b bl bc k kl kc) 10).row (pdL ⟨i,a,e,n⟩) 4).row (pdL ⟨j,p,f,m⟩) 4:=⟨_,rfl⟩;have N1:New E.re s1:=by rw[hs1];exact((New.row _ _ _).row').row'
 have k1:=(h.le (le0 E)).le N1.le;have c1:=wDC (L:=L) (bc:=bc) (kc:=kc) k1 y1 y2;have c2:=wDC (L:=L) (bc:=bc) (kc:=kc) k1 z1 z2;have bw:∀u v:Int,zL s1.j [.agg ⟨dnc L b bl bc k kl kc⟩,iV u,iV v]:=λu v=>zTM (yIO (zGZ k1.bs) (zGZ k1.ks)) (zI rfl (zI rfl zM))
 by_cases h1:(vJ B i a).lo=(vJ B j p).lo
 .by_cases h2:(n:Int)<(m:Int)
  .exact⟨true,(xHM (by rw[<- hs1];exact c1) (by rw[<- hs1];exact c2) (by rw[<- hs1];exact bw _ _) (by rw[<- hs1];exact bw _ _) ⟨rfl,by rw[<- hs1];exact N1.lw⟩ h1 h2).pure⟩
  .exact⟨false,(xHL (by rw[<- hs1];exact c1) (by rw[<- hs1];exact c2) (by rw[<- hs1];exact bw _ _) (by rw[<- hs1];exact bw _ _) ⟨rfl,by rw[<- hs1];exact N1.lw⟩ h1 h2).pure⟩
 .by_cases h2:(vJ B i a).lo<(vJ B j p).lo
  .exact⟨true,(xHO (by rw[<- hs1];exact c1) (by rw[<- hs1];exact c2) (by rw[<- hs1];exact bw _ _) (by rw[<- hs1];exact bw _ _) ⟨rfl,by rw[<- hs1];exact N1.lw⟩ h1 h2).pure⟩
  .exact⟨false,(xHN (by rw[<- hs1];exact c1) (by rw[<- hs1];exact c2) (by rw[<- hs1];exact bw _ _) (by rw[<- hs1];exact bw _ _) ⟨rfl,by rw[<- hs1];exact N1.lw⟩ h1 h2).pure⟩
end
section
variable{ys:List Pd}
theorem wEF:AppT tP 50 50 53 4:=zAW (by kernel_rfl)
theorem yUI(y:Pd):zDV tP 53 4 (pdV y):=.inr ⟨wPW,ySQ,_,rfl,rfl⟩
def PdG(B:List (List Rl))(O:St)(n0:Nat)(p:Option Addr)(l c:Nat):Prop:=∃ys:List Pd,Gr tP O n0 53 4 p l c (ys.map pdV)/\∀y∈ys,xEP B y
section
variable{E O:St}{bl bc kl kc n0 l c i:Nat}{b k p:Option Addr}{L:Lw}{B:List (List Rl)}{K:List (List Int)}
theorem PdG.len(h:Gr tP O n0 53 4 p l c (ys.map pdV)):ys.length=l:=by have:=h.len_eq;rwa [List.length_map]at this
theorem ySV{y:Pd}(h:∀y∈ys,xEP B y)(hy:xEP B y):∀z∈ys.set i y,xEP B z:=by
 intro z hz;rcases List.mem_or_eq_of_mem_set hz with g|rfl
 .exact h z g
 .exact hy
theorem xZW{w:Pd}(h:Gr tP O n0 53 4 p l c (ys.map pdV))(hi:i<l):∃a O',p=some a/\yN tP (evL [.pointer (some (zO a (i*4))),.agg ⟨pdL w⟩]) O (.store 53 (.tmp 0) (.tmp 1))=some (undef,O')/\Gr tP O' n0 53 4 p l c ((ys.set i w).map pdV)/\Only (AtP p) O O':=by
 have hl:=PdG.len h;have hx:ys[i]?=some (ys[i]'(by omega)):=by simp
 obtain⟨a,O',e,g1,g2,g3⟩:=wBZ (k:=0) (t':=53) (ds:=pdL w) (w:=pdV w) (x:=.agg ⟨pdL w⟩) h (by rw[List.getElem?_map,hx];rfl) (yUI w) rfl ySQ rfl (Nat.le_refl _) rfl;exact⟨a,O',e,g1,by rw[List.map_set];exact g2,g3⟩
theorem xUY{lp:Option Addr}{ll lc:Nat}{ns:List Nat}(h:DnP E 59 58 b bl k kl B K)(hD:OkD L B K)(hp:yM E lp ll (ns.map λn:Nat=>(n:Int)))(h0:ns≠[])(h1:∀y∈ns,y<yZ B)(hll:ll<=1000) :
  ∃q ql qc E',∃ys:List Pd,zW tP 14 [.agg ⟨dnc L b bl bc k kl kc⟩,.slice lp ll lc] E (.slice q ql qc) E'/\New E E'/\SlV tP E' 53 4 q ql (ys.map pdV)/\0<ql/\ql<=1000/\∀y∈ys,xEP B y:=by
 have el:ns.length=ll:=by have:=yM.len hp;simpa using this
 have hs:=hD.ns;have hl0:0<ll:=by have:=List.length_pos_iff.2 h0;omega
 obtain⟨s1,hs1⟩:∃s1,s1=E.re.row (dnc L b bl bc k kl kc) 10:=⟨_,rfl⟩;have N1:New E.re s1:=by rw[hs1];exact New.row _ _ _
 have n1:s1.j=E.j+1:=by rw[hs1];rfl
 have x1:Own s1 E.j (dnc L b bl bc k kl kc) 10:=by rw[hs1];exact zX E.re _ _
 have k1:=(h.le (le0 E)).le N1.le;have p1:yM s1 lp ll (ns.map λn:Nat=>(n:Int)):=SlV.le (SlV.le hp (le0 E)) N1.le;obtain⟨a0,rfl,_⟩:=xA p1 hl0;have ldd:∀{O},Own O E.j (dnc L b bl bc k kl kc) 10->zJ tP O 27 ⟨E.j,0,none⟩=some (.agg ⟨dnc L b bl bc k kl kc⟩):=λo=>o.ldN (k:=0) (by kernel_rfl) (by kernel_rfl) rfl rfl (by simp)
 have R:zQ tP 14 [.agg ⟨dnc L b bl bc k kl kc⟩,.slice (some a0) ll lc] E.re λv O=>New E.re O/\∃q ql qc,∃ys:List Pd,v=.slice q ql qc/\SlV tP O 53 4 q ql (ys.map pdV)/\0<ql/\ql<=1000/\∀y∈ys,xEP B y:=by
  refine yYU (P0:=λp l c O=>New s1 O/\PdG B O s1.j p l c/\0<l/\l<=1000) (by
   rw[<- hs1];refine yFL (Inv:=λk' p l c i O=>New s1 O/\PdG B O s1.j p l c/\∃j:Nat,i=j/\j+k'=ll/\l<=j/\(0<j->0<l)) ?_ ll none 0 0 0 s1 ⟨New.refl _,⟨[],Gr.nil,λy hy=>by cases hy⟩,0,rfl,by omega,Nat.le_refl _,λe=>by omega⟩;rintro k' p l c i O ⟨hN,⟨ys,hg,hok⟩,j,rfl,hk,hlj,hj0⟩;by_cases hj:j<ll;rotate_left
   .exact yRO ⟨hN,⟨ys,hg,hok⟩,hj0 (by omega),by omega⟩
   have hyl:=PdG.len hg;obtain⟨a,e,y,hy,ld⟩:=xA (SlV.le p1 hN.le) hj;cases e
   have hx:ns[j]?=some ns[j]:=by simp
   obtain rfl:((ns[j]:Nat):Int)=y:=by rw[List.getElem?_map,hx]at hy;simpa using hy
   have b1:=h1 _ (List.getElem_mem (by omega:j<ns.length));obtain⟨si,sa,cs,g1,g2,g3⟩:=wLU (L:=L) (bc:=bc) (kc:=kc) (k1.le hN.le) hD b1;have nb:=hD.nb;have hO0:Only (AtP p) O O:=Only.refl _ _;have fin:∀{V2:St},Only (AtP p) O V2->New s1 V2:=λhO=>hN.of_only hO λb hb=>(hg.bd hb).1
   have fresh:∃p4 c4 V2,xO tP 50 50 (.slice p l c) (.slice (some ⟨O.j,0,none⟩) 1 1) (O.row (zK (si:Int) (sa:Int) ((sa:Int)+1) (ns[j]:Nat)) 4)=some (.slice p4 (l+1) c4,V2)/\NX4 (λk' p l c (i:Int) O=>New s1 O/\PdG B O s1.j p l c/\∃j:Nat,i=j/\j+k'=ll/\l<=j/\(0<j->0<l)) k' p4 (l+1) c4 ((j:Int)+1) V2:=by
    obtain⟨p4,c4,V2,e1,e2,e3,_⟩:=zGM (pdV ⟨si,sa,(sa:Int)+1,(ns[j]:Nat)⟩) wEF hg (Le.refl _) (yUI _) (by omega) hN.nx;have hO:Only (AtP p) O V2:=((New.row O _ _).only (S:=AtP p)).trans' e3 λb _ h=>.inl h
    refine⟨p4,c4,V2,e1,k' - 1,by omega,fin hO,⟨ys++[⟨si,sa,(sa:Int)+1,(ns[j]:Nat)⟩],by rw[List.map_append];exact e2,λy hy=>?_⟩,j+1,by omega,by omega,by omega,λ_=>by omega⟩
    rcases List.mem_append.1 hy with hy|hy
    .exact hok y hy
    .obtain rfl:=List.mem_singleton.1 hy;exact⟨si,sa,sa+1,ns[j],rfl,g1,by omega,g2⟩
   have o27:=ldd (x1.le hN.le);have a1:Ix (j:Int) ll:=⟨by omega,by omega⟩;have a2:I6 (((l:Nat):Int)-1):=⟨by omega,by omega⟩;have a3:I6 ((j:Int)+1):=⟨by omega,by omega⟩;have a4:I6 ((sa:Int)+1):=⟨by omega,by omega⟩;by_cases hz:0<j;rotate_left
   .obtain⟨p4,c4,V2,f1,f2⟩:=fresh;exact yRP o27 ld cs f1 f2
   obtain⟨a',e',y',hy',ld'⟩:=xA (SlV.le p1 hN.le) (i:=j-1) (by omega);cases e'
   have hx':ns[j-1]?=some ns[j-1]:=by simp
   obtain rfl:((ns[j-1]:Nat):Int)=y':=by rw[List.getElem?_map,hx']at hy';simpa using hy'
   rw[show(((j-1:Nat)):Int)=(j:Int)-1 by omega]at ld';have a5:I6 ((j:Int)-1):=⟨by omega,by omega⟩;have a6:Ix ((j:Int)-1) ll:=⟨by omega,by omega⟩;have a7:I6 (((ns[j]:Nat):Int)-1):=⟨by omega,by omega⟩;by_cases hq:((ns[j-1]:Nat):Int)=((ns[j]:Nat):Int)-1;rotate_left
   .obtain⟨p4,c4,V2,f1,f2⟩:=fresh;exact yRQ o27 ld cs ld' f1 f2
   have hl:=hj0 hz;have a8:Ix (((l:Nat):Int)-1) l:=⟨by omega,by omega⟩;have el1:((l:Nat):Int)-1=((l-1:Nat):Int):=by omega
   have hyx:ys[l-1]?=some (ys[l-1]'(by omega)):=by simp
   obtain⟨a3',rfl,_⟩:=hg.slv.some (i:=l-1) (by omega);have lb:zJ tP O 3 (zO a3' (Int.toNat (((l:Nat):Int)-1)*4+0))=some (iV (ys[l-1]'(by omega)).b):=by
    rw[el1];exact zPU (k:=0) hg.slv (by rw[List.getElem?_map,hyx];rfl) rfl zU
   by_cases hb:(ys[l-1]'(by omega)).b=(si:Int);rotate_left
   .obtain⟨p4,c4,V2,f1,f2⟩:=fresh;exact yRR o27 ld cs ld' lb f1 f2
   obtain⟨yi,ya,ye,yn,e0,y1,y2,y3⟩:=hok _ (List.getElem_mem (by omega:l-1<ys.length));rw[e0]at hb hyx;have hb:(yi:Int)=si:=hb;have hb:yi=si:=by omega
   subst hb;obtain⟨a4',V2,e4,f1,f2,f3⟩:=wBZ (k:=2) (t':=3) (i:=l-1) (v:=pdV ⟨yi,ya,ye,yn⟩) (ds:=[iV ((sa:Int)+1)]) (w:=pdV ⟨yi,ya,(sa:Int)+1,yn⟩) (x:=iV ((sa:Int)+1)) hg (by rw[List.getElem?_map,hyx];rfl) (yUI _) rfl (by kernel_rfl) rfl (by show 3<=4;omega) rfl;cases e4
   rw[show l-1=Int.toNat (((l:Nat):Int)-1) by omega]at f1;refine yRS o27 ld cs ld' lb f1 ⟨k' - 1,by omega,fin f3,⟨ys.set (l-1) ⟨yi,ya,(sa:Int)+1,yn⟩,by rw[List.map_set];exact f2,ySV hok ⟨yi,ya,sa+1,yn,rfl,y1,y2,g2⟩⟩,j+1,by omega,by omega,by omega,λ_=>hl⟩ (by omega) a1 a2 (by omega) a5 a6 a7 (by omega) a8 (by rw[e0])) ?_
  rintro p l c O ⟨hN,hg,hl0',hl1⟩;refine yFI (P2:=λO=>New s1 O/\PdG B O s1.j p l c) (yFK (Inv:=λk' i O=>New s1 O/\PdG B O s1.j p l c/\∃j:Nat,i=j/\j+k'=l) ?_ l 0 O ⟨hN,hg,0,rfl,by omega⟩) λz hz=>yFH (by
   obtain⟨hM,ys,hg,hok⟩:=hz;exact⟨N1.trans hM,p,l,c,ys,rfl,hg.slv,hl0',hl1,hok⟩)
  rintro k' i V2 ⟨hN,hg,j,rfl,hk⟩;by_cases hj:j<l;rotate_left
  .exact yRM ⟨hN,hg⟩
  refine yRN (P4:=λO=>New s1 O/\PdG B O s1.j p l c) (yFJ (Inv:=λk' i O=>New s1 O/\PdG B O s1.j p l c/\∃t:Nat,i=t/\t<=k'/\t<l) ?_ j j V2 ⟨hN,hg,j,rfl,Nat.le_refl _,hj⟩) (λz hz=>yFG ⟨k' - 1,by omega,hz.1,hz.2,j+1,by omega,by omega⟩ ⟨by omega,by omega⟩);rintro k2 i E3 ⟨hN,⟨ys,hg,hok⟩,t,rfl,hk2,ht⟩;by_cases hz:0<t;rotate_left
  .exact yRJ ⟨hN,ys,hg,hok⟩
  have hyl:=PdG.len hg;have o27:=ldd (x1.le hN.le);have ex:ys[t]?=some (ys[t]'(by omega)):=by simp
  have ey:ys[t-1]?=some (ys[t-1]'(by omega)):=by simp
  obtain⟨a,rfl,y,hy,l2⟩:=xA hg.slv (i:=t) ht;obtain⟨a',e',z,hz',l3⟩:=xA hg.slv (i:=t-1) (by omega);cases e'
  rw[ex]at hy;cases hy;rw[ey]at hz';cases hz';rw[show(((t-1:Nat)):Int)=(t:Int)-1 by omega]at l3;have k1':=hok _ (List.getElem_mem (by omega:t<ys.length));have k2':=hok _ (List.getElem_mem (by omega:t-1<ys.length));generalize ys[t]'(by omega)=y at l2 k1';generalize ys[t-1]'(by omega)=z at l3 k2';obtain⟨v,cb⟩:=wDY (L:=L) (bc:=bc) (kc:=kc) (k1.le hN.le) k1' k2';have a1:Ix (t:Int) l:=⟨by omega,by omega⟩;have a2:I6 ((t:Int)-1):=⟨by omega,by omega⟩;have a3:Ix ((t:Int)-1) l:=⟨by omega,by omega⟩;cases v with
  |false=>exact yRK o27 l2 l3 cb ⟨hN,ys,hg,hok⟩
  |true =>
   obtain⟨b1,E4,e1,f1,f2,f3⟩:=xZW (w:=z) hg ht;cases e1
   obtain⟨b2,U5,e2,g1,g2,g3⟩:=xZW (i:=t-1) (w:=y) f2 (by omega);cases e2
   rw[show t-1=Int.toNat ((t:Int)-1) by omega]at g1;rw[show t=Int.toNat (t:Int) by omega]at f1;have hM:=(hN.of_only f3 λb hb=>(hg.bd hb).1).of_only g3 λb hb=>(hg.bd hb).1
   exact yRL o27 l2 l3 cb f1 g1 ⟨k2-1,by omega,hM,⟨_,g2,ySV (ySV hok k2') k1'⟩,t-1,by omega,by omega,by omega⟩ (by omega) a1 a2 a3
 obtain⟨v,E',q1,q2,q,ql,qc,ys,rfl,q3⟩:=R.new (by rintro v s s' ⟨q,ql,qc,ys,e,g,g'⟩ hle;exact⟨q,ql,qc,ys,e,SlV.le g hle,g'⟩) (by
  rintro v s hr ⟨q,ql,qc,ys,rfl,g,g',_⟩;cases q with
  |none=>have:ql=0:=g.1.2;omega
  |some a=>cases hr)
 exact⟨q,ql,qc,E',ys,q1,q2,q3⟩
end
end
section
noncomputable section
variable(aZ:oAa)(aF aG BA:Nat)(aV:oAa)(aO aR:Nat)(aT:Int)(q0:(Option Addr)->Nat->Nat->St->Prop)(dj:oAa)(Q:(Option Addr)->Nat->Nat->Int->St->Prop)(df dh:Nat)(cn:Int)(BG:Nat)(gN:Bool)(kA gh cj:Int)(q1:Int->St->Prop)(E:St)(q2:vPa)(Nx:(Option Addr)->Nat->Nat->Int->St->Prop)(Qn:Int->St->Prop)(Q0 Q2:(Option Addr)->Nat->Nat->St->Prop)
def zSJ:Code:=(Code.part [1,1,0,1,0,0] (zV tP 12))
def zEW:lNa:=[(1,.slice aZ aF aG),(2,pq BA 0),(5,.slice aV aO aR),(6,iV aT)]
def yAG:Alt:=⟨(Option Addr)×Nat×Nat×Int,.normal,λt=>zEW aZ aF aG BA t.1 t.2.1 t.2.2.1 t.2.2.2,λt=>[],λt E=>Q t.1 t.2.1 t.2.2.1 t.2.2.2 E⟩
def zUO(aZ:oAa)(aF aG BA:Nat)(aV:oAa)(aO aR:Nat):lNa:=[(5,.slice aV aO aR)]
def zDY:Alt:=⟨(Option Addr)×Nat×Nat,(.exit 0),λt=>zUO aZ aF aG BA t.1 t.2.1 t.2.2,λt=>[],λt E=>q0 t.1 t.2.1 t.2.2 E⟩
def zSK:Prop:=yT tP (zZ tP) none zSJ 92 (zEW aZ aF aG BA aV aO aR aT) [] [yAG aZ aF aG BA Nx,zDY aZ aF aG BA Q0] E
def yFF:Prop:=yW tP (zZ tP) none zSJ 92 (zEW aZ aF aG BA aV aO aR aT) [] [zDY aZ aF aG BA Q0] E
def zJG:Code:=(Code.part [1,1,0,1,0,0,1,0,0,1,0,1,0,0] (zV tP 12))
def zEV:lNa:=[(1,.slice aZ aF aG),(2,pq BA 0),(5,.slice aV aO aR),(6,iV aT),(7,.slice dj df dh),(8,iV cn)]
def zMS:Alt:=⟨(Option Addr)×Nat×Nat×Int,.normal,λt=>zEV aZ aF aG BA aV aO aR aT t.1 t.2.1 t.2.2.1 t.2.2.2,λt=>[],λt E=>Q t.1 t.2.1 t.2.2.1 t.2.2.2 E⟩
def zUN:lNa:=[(1,.slice aZ aF aG),(2,pq BA 0),(5,.slice aV aO aR),(6,iV aT),(7,.slice dj df dh)]
def zBO:Alt:=⟨(Option Addr)×Nat×Nat,(.exit 2),λt=>zUN aZ aF aG BA aV aO aR aT t.1 t.2.1 t.2.2,λt=>[],λt E=>q0 t.1 t.2.1 t.2.2 E⟩
def zJK:Prop:=yT tP (zZ tP) none zJG 92 (zEV aZ aF aG BA aV aO aR aT dj df dh cn) [] [zMS aZ aF aG BA aV aO aR aT Nx,zBO aZ aF aG BA aV aO aR aT Q2] E
def yFE:Prop:=yW tP (zZ tP) none zJG 92 (zEV aZ aF aG BA aV aO aR aT dj df dh cn) [] [zBO aZ aF aG BA aV aO aR aT Q2] E
def xGN:Code:=(Code.part [1,1,0,1,0,0,1,0,0,1,0,1,0,0,1,0,0,1,1,1,1,0,1] (zV tP 12))
def zJF:lNa:=[(1,.slice aZ aF aG),(2,pq BA 0),(5,.slice aV aO aR),(6,iV aT),(7,.slice dj df dh),(8,iV cn),(9,pq BG 0),(11,iV cj),(65,iV kA)]
def zUM(aZ:oAa)(aF aG BA:Nat)(aV:oAa)(aO aR:Nat)(aT:Int)(dj:oAa)(df dh:Nat)(cn:Int)(BG:Nat)(kA cj:Int):lNa:=[(1,.slice aZ aF aG),(2,pq BA 0),(5,.slice aV aO aR),(6,iV aT),(7,.slice dj df dh),(8,iV cn),(11,iV cj)]
def zJI:Alt:=⟨Int,.normal,λt=>zUM aZ aF aG BA aV aO aR aT dj df dh cn BG kA t,λt=>[],λt E=>q1 t E⟩
def zCL:Prop:=yT tP (zZ tP) none xGN 92 (zJF aZ aF aG BA aV aO aR aT dj df dh cn BG kA cj) [] [zJI aZ aF aG BA aV aO aR aT dj df dh cn BG kA Qn] E
def zBP:Prop:=kZ (zZ tP) zJG [1,0,0,1,1,1,1,0,1] (zHG 92 [zMS aZ aF aG BA aV aO aR aT Nx,zBO aZ aF aG BA aV aO aR aT Q2]) .normal 92 (zUM aZ aF aG BA aV aO aR aT dj df dh cn BG kA cj) E
def xGM:Code:=(Code.part [1,1,0,1,0,0,1,0,0,1,0,1,0,0,1,0,0,1,1,1,1,1,0,1] (zV tP 12))
def zEU:lNa:=[(1,.slice aZ aF aG),(2,pq BA 0),(5,.slice aV aO aR),(6,iV aT),(7,.slice dj df dh),(8,iV cn),(11,iV gh),(75,.bool gN)]
def zUL(aZ:oAa)(aF aG BA:Nat)(aV:oAa)(aO aR:Nat)(aT:Int)(dj:oAa)(df dh:Nat)(cn:Int)(gN:Bool)(gh:Int):lNa:=[(1,.slice aZ aF aG),(2,pq BA 0),(5,.slice aV aO aR),(6,iV aT),(7,.slice dj df dh),(8,iV cn),(11,iV gh)]
def zJH:Alt:=⟨Int,.normal,λt=>zUL aZ aF aG BA aV aO aR aT dj df dh cn gN t,λt=>[],λt E=>q1 t E⟩
def zJJ:Prop:=yT tP (zZ tP) none xGM 92 (zEU aZ aF aG BA aV aO aR aT dj df dh cn gN gh) [] [zJH aZ aF aG BA aV aO aR aT dj df dh cn gN Qn] E
def zDZ:Prop:=kZ (zZ tP) zJG [1,0,0,1,1,1,1,1,0,1] (zHG 92 [zMS aZ aF aG BA aV aO aR aT Nx,zBO aZ aF aG BA aV aO aR aT Q2]) .normal 92 (zUL aZ aF aG BA aV aO aR aT dj df dh cn gN gh) E
def zUP:Prop:=kZ (zZ tP) zSJ [1,0,0,1,0,1,0] (zHG 92 [yAG aZ aF aG BA Nx,zDY aZ aF aG BA Q0]) (.exit 2) 92 (zUN aZ aF aG BA aV aO aR aT dj df dh) E
def zUQ:Prop:=kZ (zZ tP) (zV tP 12) [1,1,0,1,0] (kFn tP 12 q2) (.exit 0) 92 (zUO aZ aF aG BA aV aO aR) E
end
variable{aZ aV dj qB qIC qA qJC d_b d_k:oAa}{aF aG BA aO aR BG df dh lI cI lB cB lBG cIC lA cA lBH cJC ax az aI aK:Nat}{Inv:Nat->(Option Addr)->Nat->Nat->Int->St->Prop}{Q0 Q2 P2 P0:(Option Addr)->Nat->Nat->St->Prop}{aT kA cn cj nV nR nT nK nL nM gh nYB nUB:Int}{E EBF EBG:St}{Qn Pn:Int->St->Prop}{eS gM gD p7_2_a:Addr}{Nx:(Option Addr)->Nat->Nat->Int->St->Prop}{gN:Bool}{d_L:Lw}{Q:vPa}
theorem yKR(hb:∀k aV aO aR aT E,Inv k aV aO aR aT E->zSK aZ aF aG BA aV aO aR aT E (NX4 Inv k) Q0):∀k aV aO aR aT E,Inv k aV aO aR aT E->yFF aZ aF aG BA aV aO aR aT E Q0 :=
 zKS (ai (wF 0) trivial) hb
theorem yKQ(hb:∀k dj df dh cn E,Inv k dj df dh cn E->zJK aZ aF aG BA aV aO aR aT dj df dh cn E (NX4 Inv k) Q2):∀k dj df dh cn E,Inv k dj df dh cn E->yFE aZ aF aG BA aV aO aR aT dj df dh cn E Q2 :=
 zKS (ai (wF 2) trivial) hb
theorem yYO(h1:LDz E 3 (qe BG 0) (iV nV))(nx:Qn nV E)(u1:kA=0:=by omega):zCL aZ aF aG BA aV aO aR aT dj df dh cn BG kA cj E Qn :=
 eO 0 nV [.b (wU u1),.g2,.l h1,.g] nx
theorem yYN(h1:LDz E 3 (qe BG 1) (iV nV))(nx:Qn nV E)(u1:¬kA=0:=by omega)(u2:kA=1:=by omega):zCL aZ aF aG BA aV aO aR aT dj df dh cn BG kA cj E Qn :=
 eO 0 nV [.b (wG u1),.g,.b (wU u2),.g2,.l h1,.g] nx
theorem yYM(nx:Qn cj E)(u1:¬kA=0:=by omega)(u2:¬kA=1:=by omega):zCL aZ aF aG BA aV aO aR aT dj df dh cn BG kA cj E Qn :=
 eO 0 cj [.b (wG u1),.g,.b (wG u2),.g] nx
theorem yYR(h1:LDz E 24 (qe BA 8) (.slice (some eS) lI cI))(h2:LDz E 59 (zO eS (Int.toNat aT*1)) (.slice (some gM) lB cB))(h3:LDz E 56 (zO gM ((Int.toNat cn*3)+1)) (qf [iV nR,iV nT]))(h4:wW tP .rem 3 (.tmp 45) (.tmp 47) (iV ((5*aT)+cn)) (iV (aF:Int))=some (iV nK))(h5:LDz ((E.row [iV 0,iV 0] 2).own E.j [iV nR,iV nT] 2) 100 (zO gD (Int.toNat nK*1)) (.int .u16 nL))(h6:IntKind.wrap .i64 (Int.tdiv nL 4)=Int.tdiv nL 4)(h7:wW tP .rem 3 (.tmp 55) (.tmp 61) (iV (Int.tdiv nL 4)) (iV ((nT-nR)+1))=some (iV nM))(hL:zCL (some gD) aF aG BA aV aO aR aT dj df dh cn E.j (Int.tmod nL 4) (nR+nM) ((E.row [iV 0,iV 0] 2).own E.j [iV nR,iV nT] 2) Pn)(kn:∀i11_3' E',Pn i11_3' E'->zBP (some gD) aF aG BA aV aO aR aT dj df dh cn E.j (Int.tmod nL 4) i11_3' E' Nx Q2)(u1:Ix aT lI:=by omega)(u2:cn<(lB:Int):=by omega)(u3:Ix cn lB:=by omega)(u4:0<(aF:Int):=by omega)(u5:I6 (5*aT):=by omega)(u6:I6 ((5*aT)+cn):=by omega)(u7:Ix nK aF:=by omega)(u8:I6 nL:=by omega)(u9:I6 (nT-nR):=by omega)(u10:I6 ((nT-nR)+1):=by omega)(u11:I6 (nR+nM):=by omega):zJK (some gD) aF aG BA aV aO aR aT dj df dh cn E Nx Q2 :=
 let ch1:List Bs:=[.r [iV 0,iV 0] 2];let ch2:List Bs:=.o 0 [iV nR,iV nT] 2::ch1;eB [.g2,.l h1,.g,.i u1,.l h2,.g,.b (zT u2),.g,.l h1,.g,.i u1,.l h2,.g,.i u3,.g,.l h3,.g,.s E ch1 0 0 xID (qf [iV nR,iV nT]),.g3,.b (zT u4),.g2,.w u5,.g,.w u6,.g2,.v h4,.i u7,.l h5,.w u8,.g2,.f E ch2 0 0 zU,.g,.n h6,.g,.f E ch2 0 1 zU,.g,.f E ch2 0 0 zU,.w u9,.w u10,.v h7,.w u11,.g3,.k (.cut 92 (zJF (some gD) aF aG BA aV aO aR aT dj df dh cn E.j (Int.tmod nL 4) (nR+nM)) [zJI (some gD) aF aG BA aV aO aR aT dj df dh cn E.j (Int.tmod nL 4) Pn])] (ai (ai tt (ai (arf (zJF (some gD) aF aG BA aV aO aR aT dj df dh cn E.j (Int.tmod nL 4) (nR+nM))) hL)) (ai (kz1 kn) trivial))
theorem yYQ(h1:LDz E 24 (qe BA 8) (.slice (some eS) lI cI))(h2:LDz E 59 (zO eS (Int.toNat aT*1)) (.slice (some gM) lB cB))(h3:LDz E 56 (zO gM ((Int.toNat cn*3)+1)) (qf [iV nR,iV nT]))(h4:IntKind.wrap .i64 (Int.tdiv 1 4)=Int.tdiv 1 4)(h5:wW tP .rem 3 (.tmp 55) (.tmp 61) (iV (Int.tdiv 1 4)) (iV ((nT-nR)+1))=some (iV nK))(hL:zCL aZ aF aG BA aV aO aR aT dj df dh cn E.j (Int.tmod 1 4) (nR+nK) ((E.row [iV 0,iV 0] 2).own E.j [iV nR,iV nT] 2) Pn)(kn:∀i11_3' E',Pn i11_3' E'->zBP aZ aF aG BA aV aO aR aT dj df dh cn E.j (Int.tmod 1 4) i11_3' E' Nx Q2)(u1:Ix aT lI:=by omega)(u2:cn<(lB:Int):=by omega)(u3:Ix cn lB:=by omega)(u4:¬0<(aF:Int):=by omega)(u5:I6 (nT-nR):=by omega)(u6:I6 ((nT-nR)+1):=by omega)(u7:I6 (nR+nK):=by omega):zJK aZ aF aG BA aV aO aR aT dj df dh cn E Nx Q2 :=
 let s1:=zJF aZ aF aG BA aV aO aR aT dj df dh cn E.j (Int.tmod 1 4) (nR+nK);let ch1:List Bs:=[.r [iV 0,iV 0] 2];let ch2:List Bs:=.o 0 [iV nR,iV nT] 2::ch1;eB [.g2,.l h1,.g,.i u1,.l h2,.g,.b (zT u2),.g,.l h1,.g,.i u1,.l h2,.g,.i u3,.g,.l h3,.g,.s E ch1 0 0 xID (qf [iV nR,iV nT]),.g3,.b (zY u4),.g,.f E ch2 0 0 zU,.g,.n h4,.g,.f E ch2 0 1 zU,.g,.f E ch2 0 0 zU,.w u5,.w u6,.v h5,.w u7,.g3,.k (.cut 92 s1 [zJI aZ aF aG BA aV aO aR aT dj df dh cn E.j (Int.tmod 1 4) Pn])] (ai (ai tt (ai (arf s1) hL)) (ai (kz1 kn) trivial))
theorem yYP(h1:LDz E 24 (qe BA 8) (.slice (some eS) lI cI))(h2:LDz E 59 (zO eS (Int.toNat aT*1)) (.slice qB lB cB))(nx:Q2 dj df dh E)(u1:Ix aT lI:=by omega)(u2:¬cn<(lB:Int):=by omega):zJK aZ aF aG BA aV aO aR aT dj df dh cn E Nx Q2 :=
 eO 1 (dj,df,dh) [.g2,.l h1,.g,.i u1,.l h2,.g,.b (zY u2)] nx
theorem yYL(h1:LDz E 3 (zO p7_2_a (Int.toNat (cn-1)*1)) (iV nYB))(h2:wA tP (evL [iV gh,iV nYB]) E (.call { callee:=.builtin .max,args:=⟨wT 2⟩,argTypes:=⟨[3,3]⟩ })=some (iV nUB))(nx:Qn nUB E)(u1:I6 (cn-1):=by omega)(u2:Ix (cn-1) df:=by omega):zJJ aZ aF aG BA aV aO aR aT (some p7_2_a) df dh cn true gh E Qn :=
 eO 0 nUB [.g3,.w u1,.i u2,.l h1,.v h2,.g] nx
theorem yYK(nx:Qn gh E):zJJ aZ aF aG BA aV aO aR aT dj df dh cn false gh E Qn :=
 eO 0 gh [] nx
theorem yKN(hL:zJJ aZ aF aG BA aV aO aR aT dj df dh cn true cj E Pn)(kn:∀i11_4' E',Pn i11_4' E'->zDZ aZ aF aG BA aV aO aR aT dj df dh cn true i11_4' E' Nx Q2)(u1:0<cn:=by omega):zBP aZ aF aG BA aV aO aR aT dj df dh cn BG kA cj E Nx Q2 :=
 eK [.g,.b (zT u1),.k (.cut 92 (zEU aZ aF aG BA aV aO aR aT dj df dh cn true cj) [zJH aZ aF aG BA aV aO aR aT dj df dh cn true Pn])] (ai (ai tt (ai (arf (zEU aZ aF aG BA aV aO aR aT dj df dh cn true cj)) hL)) (ai (kz1 kn) trivial))
theorem yKM(hL:zJJ aZ aF aG BA aV aO aR aT dj df dh cn false cj E Pn)(kn:∀i11_4' E',Pn i11_4' E'->zDZ aZ aF aG BA aV aO aR aT dj df dh cn false i11_4' E' Nx Q2)(u1:¬0<cn:=by omega):zBP aZ aF aG BA aV aO aR aT dj df dh cn BG kA cj E Nx Q2 :=
 eK [.g,.b (zY u1),.k (.cut 92 (zEU aZ aF aG BA aV aO aR aT dj df dh cn false cj) [zJH aZ aF aG BA aV aO aR aT dj df dh cn false Pn])] (ai (ai tt (ai (arf (zEU aZ aF aG BA aV aO aR aT dj df dh cn false cj)) hL)) (ai (kz1 kn) trivial))
theorem yKL(h1:APz 48 48 (.slice dj df dh) (.slice (some (qe E.j 0)) 1 1) (E.row [iV gh] 1) (.slice qIC lBG cIC) EBF)(nx:Nx qIC lBG cIC (cn+1) EBF)(u1:I6 (cn+1):=by omega):zDZ aZ aF aG BA aV aO aR aT dj df dh cn gN gh E Nx Q2 :=
 eF 0 (qIC,lBG,cIC,cn+1) [.g3,.e h1,.g2,.w u1,.g] nx
theorem yYT(h1:LDz E 24 (qe BA 8) (.slice qA lA cA))(hL:yFE aZ aF aG BA aV aO aR aT none 0 0 0 E P2)(k2:∀p7_2' l7_2' c7_2' E',P2 p7_2' l7_2' c7_2' E'->zUP aZ aF aG BA aV aO aR aT p7_2' l7_2' c7_2' E' Nx Q0)(u1:aT<(lA:Int):=by omega):zSK aZ aF aG BA aV aO aR aT E Nx Q0 :=
 eB [.g2,.l h1,.g,.b (zT u1),.g2,.k (.lf 92 (zEV aZ aF aG BA aV aO aR aT none 0 0 0) [zBO aZ aF aG BA aV aO aR aT P2])] (ai (ai tt (ai (arf (zEV aZ aF aG BA aV aO aR aT none 0 0 0)) hL)) (ai (kz3 k2) trivial))
theorem yYS(h1:LDz E 24 (qe BA 8) (.slice qA lA cA))(nx:Q0 aV aO aR E)(u1:¬aT<(lA:Int):=by omega):zSK aZ aF aG BA aV aO aR aT E Nx Q0 :=
 eO 1 (aV,aO,aR) [.g2,.l h1,.g,.b (zY u1)] nx
theorem yKO(h1:APz 25 25 (.slice aV aO aR) (.slice (some (qe E.j 0)) 1 1) (E.row [.slice dj df dh] 1) (.slice qJC lBH cJC) EBG)(nx:Nx qJC lBH cJC (aT+1) EBG)(u1:I6 (aT+1):=by omega):zUP aZ aF aG BA aV aO aR aT dj df dh E Nx Q0 :=
 eF 0 (qJC,lBH,cJC,aT+1) [.g3,.e h1,.g2,.w u1,.g] nx
theorem xGL(hL:yFF aZ aF aG E.j none 0 0 0 (E.row (dnc d_L d_b ax az d_k aI aK) 10) P0)(k0:∀p5_1' l5_1' c5_1' E',P0 p5_1' l5_1' c5_1' E'->zUQ aZ aF aG E.j p5_1' l5_1' c5_1' E' Q):zQ tP 12 [qf (dnc d_L d_b ax az d_k aI aK),.slice aZ aF aG] E Q :=
 eQ [.g4,.k (.lf 92 (zEW aZ aF aG E.j none 0 0 0) [zDY aZ aF aG E.j P0])] (ai (ai tt (ai (arf (zEW aZ aF aG E.j none 0 0 0)) hL)) (ai (kz3 k0) trivial))
theorem yKP(nx:Q (.slice aV aO aR) E):zUQ aZ aF aG BA aV aO aR E Q :=
 eK [.g2] nx
end
theorem yHI{ox oy:Operand}{t:TypeId}{a b:Int}(h:b≠0):wW tP .rem t ox oy (iV a) (iV b)=some (iV (a.tmod b)):=by
 simp[wW,zFH,yTZ,h]
abbrev wLS(x:Int):Value:=.int .u16 x
def TrR(x:List Rl)(xs:List Int):Prop:=(∀(j:Nat) n y,xs[j]?=some n->x[j]?=some y->y.lo<=n/\n<=y.hi)/\∀(j:Nat) n m,xs[j]?=some n->xs[j+1]?=some m->n<=m
theorem TrR.snoc{x:List Rl}{xs:List Int}{y:Rl}{n:Int}(h:TrR x xs)(hy:x[xs.length]?=some y)(h1:y.lo<=n/\n<=y.hi)(h2:∀m,xs[xs.length-1]?=some m->0<xs.length->m<=n):TrR x (xs++[n]):=by
 have at_:∀(j:Nat) m,(xs++[n])[j]?=some m->xs[j]?=some m\/j=xs.length/\m=n:=λj m hj=>by
  by_cases e:j<xs.length
  .rw[List.getElem?_append_left e]at hj;exact .inl hj
  .have:j<(xs++[n]).length:=(List.getElem?_eq_some_iff.1 hj).1;have:j=xs.length:=by simp at this;omega
   subst this;rw[List.getElem?_append_right (Nat.le_refl _),Nat.sub_self]at hj;exact .inr ⟨rfl,by simpa using hj.symm⟩
 refine⟨λj m z hj hz=>?_,λj a b ha hb=>?_⟩
 .rcases at_ j m hj with g|⟨rfl,rfl⟩
  .exact h.1 j m z g hz
  .rw[hy]at hz;cases hz;exact h1
 .rcases at_ _ _ hb with g|⟨e,rfl⟩
  .have lt:=(List.getElem?_eq_some_iff.1 g).1;rw[List.getElem?_append_left (by omega)]at ha;exact h.2 j a b ha g
  .rw[List.getElem?_append_left (by omega)]at ha;exact h2 a (by rw[<- e];exact ha) (by omega)
section
variable{E:St}{bl bc kl kc wl wc:Nat}{b k wp:Option Addr}{L:Lw}{B:List (List Rl)}{K:List (List Int)}{ws:List Int}
theorem wDB(h:DnP E 59 58 b bl k kl B K)(hD:OkD L B K)(hB:∀r∈B,r.length<=1000)(hw:SlV tP E 100 1 wp wl (ws.map wLS))(hwr:∀x∈ws,0<=x/\x<=65535) :
  ∃q qc T E',zW tP 12 [.agg ⟨dnc L b bl bc k kl kc⟩,.slice wp wl wc] E (.slice q bl qc) E'/\New E E'/\zIP E' q bl T/\TrOk B T:=by
 have eB:=h.bs.len;have nb:=hD.nb;obtain⟨s1,hs1⟩:∃s1,s1=E.re.row (dnc L b bl bc k kl kc) 10:=⟨_,rfl⟩;have N1:New E.re s1:=by rw[hs1];exact New.row _ _ _
 have x1:Bx s1 E.j L b bl bc k kl kc:=by rw[hs1];exact Bx.new
 have k1:=(h.le (le0 E)).le N1.le;have w1:=SlV.le (SlV.le hw (le0 E)) N1.le;have R:zQ tP 12 [.agg ⟨dnc L b bl bc k kl kc⟩,.slice wp wl wc] E.re λv O=>New E.re O/\∃q qc T,v=.slice q bl qc/\zCF O s1.j 48 3 1 yK q bl T/\TrOk B T:=by
  refine xGL (P0:=λp l c O=>New s1 O/\l=bl/\∃T,zCF O s1.j 48 3 1 yK p bl T/\TrOk B T) (by
   rw[<- hs1];refine yKR (Inv:=λk' p l c i O=>New s1 O/\∃(j:Nat) (T:List (List Int)),i=j/\j+k'=bl/\l=j/\zIO O s1.j 48 3 1 yK p j c T/\∀(i:Nat) r x,T[i]?=some r->B[i]?=some x->r.length=x.length/\TrR x r) ?_ bl none 0 0 0 s1 ⟨New.refl _,0,[],rfl,by omega,rfl,zIO.nil,λi r x hr=>by simp at hr⟩;rintro k' p l c i O ⟨hN,j,T,rfl,hk,rfl,hg,hT⟩;have hTl:T.length=l:=hg.1;by_cases hj:l<bl;rotate_left
   .have:l=bl:=by omega
    subst this;exact yYS (x1.le hN.le).bs ⟨hN,rfl,T,hg.rowsF,by omega,hT⟩
   obtain⟨a,e0,x,q,d,hx,ld,hq⟩:=(k1.bs.le hN.le).at hj;subst e0;have hxl:=hB x (List.mem_of_getElem? hx);have hok:=hD.blks x (List.mem_of_getElem? hx);refine yYT (x1.le hN.le).bs (P2:=λp7 l7 c7 z=>New O z/\∃xs:List Int,Gr tP z O.j 3 1 p7 l7 c7 (xs.map yK)/\l7=x.length/\TrR x xs) (yKQ (Inv:=λk2 p7 l7 c7 i z=>New O z/\∃(t:Nat) (xs:List Int),i=t/\t+k2=x.length/\l7=t/\Gr tP z O.j 3 1 p7 l7 c7 (xs.map yK)/\TrR x xs) ?_ x.length none 0 0 0 O ⟨New.refl _,0,[],rfl,by omega,rfl,Gr.nil,λj n y h=>by simp at h,λj n y h=>by simp at h⟩) ?_
   .rintro k2 p7 l7 c7 i z ⟨hM,t,xs,rfl,hk2,rfl,hr,hR⟩;have hM1:=hN.trans hM;have hxs:xs.length=l7:=by have:=hr.len_eq;rwa [List.length_map]at this
    obtain⟨a',e',x',q',d',hx',ld',hq'⟩:=(k1.bs.le hM1.le).at hj;cases e'
    rw[hx]at hx';cases hx';by_cases ht:l7<x.length;rotate_left
    .exact yYP (x1.le hM1.le).bs ld' ⟨hM,xs,hr,by omega,hR⟩
    have hy:x[l7]?=some x[l7]:=by simp
    obtain⟨_,_,y3,y4,y5⟩:=hok.2.1 _ (List.mem_of_getElem? hy);obtain⟨y,ey⟩:∃y,y=x[l7]:=⟨_,rfl⟩;rw[<- ey]at hy y3 y4 y5;obtain⟨a5,rfl,_⟩:=hq'.some ht;have l3:=zVT (P:=tP) (t':=56) (k:=1) (m:=2) (ds:=[iV y.lo,iV y.hi]) hq' (by rw[List.getElem?_map,hy];rfl) rfl rfl (by decide) (by kernel_rfl) (by kernel_rfl);obtain⟨z2,hz2⟩:∃z2,z2=(z.row [iV 0,iV 0] 2).own z.j [iV y.lo,iV y.hi] 2:=⟨_,rfl⟩;have N2:New z z2:=by rw[hz2];exact(New.row _ _ _).own (Nat.le_refl _)
    have o2:Own z2 z.j [iV y.lo,iV y.hi] 2:=by rw[hz2];exact(zX z _ 2).put
    have r2:=hr.le N2.le;have w2:=SlV.le w1 (hM1.trans N2).le;have g3:∀kk nn:Int,y.lo<=nn->nn<=y.hi->zCL wp wl wc E.j p l c (l:Int) p7 l7 c7 (l7:Int) z.j kk nn z2 (λn s=>s=z2/\y.lo<=n/\n<=y.hi):=λkk nn h1 h2=>by
     by_cases e0:kk=0
     .exact yYO (o2.ld (k:=0) rfl zU rfl) ⟨rfl,Int.le_refl _,y4⟩
     .by_cases e1:kk=1
      .exact yYN (o2.ld (k:=1) rfl zU rfl) ⟨rfl,y4,Int.le_refl _⟩
      .exact yYM ⟨rfl,h1,h2⟩
    have k4:∀(hb:Bool) (n:Int),y.lo<=n/\n<=y.hi->(∀m,xs[xs.length-1]?=some m->0<xs.length->m<=n)->zDZ wp wl wc E.j p l c (l:Int) p7 l7 c7 (l7:Int) hb n z2 (NX4 (λk2 p7 l7 c7 (i:Int) z=>New O z/\∃(t:Nat) (xs:List Int),i=t/\t+k2=x.length/\l7=t/\Gr tP z O.j 3 1 p7 l7 c7 (xs.map yK)/\TrR x xs) k2) (λp7 l7 c7 z=>New O z/\∃xs:List Int,Gr tP z O.j 3 1 p7 l7 c7 (xs.map yK)/\l7=x.length/\TrR x xs):=λhb n h1 h2=>by
     obtain⟨p4,c4,z3,e1,e2,e3,_⟩:=zGM (yK n) uH r2 (Le.refl _) (vU n) (by omega) (by have:=hM.nx;have:=N2.nx;omega);have hO:Only (AtP p7) z2 z3:=((New.row z2 _ _).only (S:=AtP p7)).trans' e3 λb _ h=>.inl h
     have M3:New O z3:=(hM.trans N2).of_only hO λb hb=>(hr.bd hb).1
     refine yKL e1 ⟨k2-1,by omega,M3,l7+1,xs++[n],by omega,by omega,rfl,by rw[List.map_append];exact e2,hR.snoc (by rw[hxs];exact hy) h1 h2⟩
    have kn:∀(kk:Int) n s,s=z2/\y.lo<=n/\n<=y.hi->zBP wp wl wc E.j p l c (l:Int) p7 l7 c7 (l7:Int) z.j kk n s (NX4 (λk2 p7 l7 c7 (i:Int) z=>New O z/\∃(t:Nat) (xs:List Int),i=t/\t+k2=x.length/\l7=t/\Gr tP z O.j 3 1 p7 l7 c7 (xs.map yK)/\TrR x xs) k2) (λp7 l7 c7 z=>New O z/\∃xs:List Int,Gr tP z O.j 3 1 p7 l7 c7 (xs.map yK)/\l7=x.length/\TrR x xs):=by
     rintro kk n s ⟨rfl,h1,h2⟩;by_cases hz:0<l7;rotate_left
     .exact yKM (Pn:=λn' s'=>s'=s/\n'=n) (yYK ⟨rfl,rfl⟩) (by rintro n' s' ⟨rfl,rfl⟩;exact k4 false _ ⟨h1,h2⟩ λm _ e=>by omega)
     obtain⟨a6,rfl,m,hm,lm⟩:=xA r2.slv (i:=l7-1) (by omega);rw[show(((l7-1:Nat)):Int)=(l7:Int)-1 by omega]at lm;have hp:x[l7-1]?=some (x[l7-1]'(by omega)):=by simp
     have b1:=hR.1 _ _ _ hm hp;have b2:=hok.2.2 (l7-1) _ _ hp (by rw[show l7-1+1=l7 by omega];exact hy);exact yKN (Pn:=λn' s'=>s'=s/\n'=max n m) (yYL lm zWH ⟨rfl,rfl⟩ ⟨by omega,by omega⟩ ⟨by omega,by omega⟩) (by rintro n' s' ⟨rfl,rfl⟩;exact k4 true _ ⟨by omega,by omega⟩ λm' e _=>by rw[hxs,hm]at e;cases e;omega)
    have c1:Ix (l:Int) bl:=⟨by omega,by omega⟩;have c2:Ix (l7:Int) x.length:=⟨by omega,by omega⟩;have c3:I6 (y.hi-y.lo):=⟨by omega,by omega⟩;have c4:I6 ((y.hi-y.lo)+1):=⟨by omega,by omega⟩;have bnd:∀u:Int,0<=u->0<=u.tmod (y.hi-y.lo+1)/\u.tmod (y.hi-y.lo+1)<y.hi-y.lo+1:=λu hu=>by
     rw[Int.tmod_eq_emod_of_nonneg hu];exact⟨Int.emod_nonneg u (by omega),Int.emod_lt_of_pos u (by omega)⟩
    by_cases g1:0<wl;rotate_left
    .have b0:=bnd (Int.tdiv 1 4) (by decide);exact yYQ (x1.le hM1.le).bs ld' l3 (by decide) (yHI (by omega)) (by rw[<- hz2];exact g3 _ _ (by omega) (by omega)) (kn _)
    have hmod:(5*l+l7) % wl<wl:=Nat.mod_lt _ g1;obtain⟨aw,rfl,u,hu,ldu⟩:=xA (f:=wLS) w2 hmod;have hub:=hwr u (List.mem_of_getElem? hu);have eT:(5*(l:Int)+l7).tmod (wl:Int)=(((5*l+l7) % wl:Nat):Int):=by rw[Int.tmod_eq_emod_of_nonneg (by omega),Int.natCast_emod];congr 1
    have eD:Int.tdiv u 4=u / 4:=Int.tdiv_eq_ediv_of_nonneg hub.1;have b0:=bnd (Int.tdiv u 4) (by omega);have wr:IntKind.wrap .i64 (Int.tdiv u 4)=Int.tdiv u 4:=by
     rw[eD,<- uU];exact xHT (by omega) (by omega)
    exact yYR (x1.le hM1.le).bs ld' l3 (by rw[yHI (by omega),eT]) (by rw[<- hz2];exact ldu) wr (yHI (by omega)) (by rw[<- hz2];exact g3 _ _ (by omega) (by omega)) (kn _)
   .rintro p7 l7 c7 z ⟨hM,xs,hr,rfl,hR⟩;have hxs:xs.length=x.length:=by have:=hr.len_eq;rwa [List.length_map]at this
    obtain⟨p4,c4,z3,e1,e2,e3⟩:=hg.push (d:=c7) (r:=xs) zZH xF hM hN.nx (by rw[hxs];exact hr.slv) (λb hb=>(hr.bd hb).1) (by omega);rw[hxs]at e1;refine yKO e1 ⟨k' - 1,by omega,hN.of_only e3 λb hb=>(hg.at_ hb).1,l+1,T++[xs],by omega,by omega,rfl,e2,λi r y hr hy=>?_⟩;by_cases e:i<l
    .rw[List.getElem?_append_left (by omega)]at hr;exact hT i r y hr hy
    .have lt:=(List.getElem?_eq_some_iff.1 hr).1;have:i=l:=by simp at lt;omega
     subst this;rw[List.getElem?_append_right (by omega),hTl,Nat.sub_self]at hr;obtain rfl:xs=r:=by simpa using hr
     rw[hx]at hy;cases hy;exact⟨hxs,hR⟩) ?_
  rintro p l c O ⟨hN,rfl,T,g1,g2⟩;exact yKP ⟨N1.trans hN,p,c,T,rfl,g1,g2⟩
 obtain⟨v,E',q1,q2,q,qc,T,rfl,q3,q4⟩:=R.new (by rintro v s s' ⟨q,qc,T,e,g,g'⟩ hle;exact⟨q,qc,T,e,g.le hle,g'⟩) (by
  rintro v s hr ⟨q,qc,T,rfl,g,g'⟩;cases q with
  |none=>exact⟨none,qc,T,rfl,g.none_any,g'⟩
  |some a=>exact Bool.noConfusion (show false=true from hr))
 exact⟨q,qc,T,E',q1,q2,q3.rows,q4⟩
end
section
variable{s:Std}{n k D j:Nat}
section
variable{w:Wk}{ros tru:Nat->Int}{l m:Nat}
structure StB(s:Std)(n:Nat):Prop where
 free:-10080<=s.free/\s.free<=100000
 day:-1<=s.day/\s.day<=6
 row:0<=s.row/\s.row<=15+s.day
 used:0<=s.used/\s.used<=20000+1440*n
theorem StB.ok(h:StB s n)(hn:n<=200):StOk s:=by
 have h1:=h.free;have h2:=h.day;have h3:=h.row;have h4:=h.used;exact⟨by omega,by omega,by omega,by omega⟩
theorem StB.mono{n':Nat}(h:StB s n)(hn:n<=n'):StB s n':=⟨h.free,h.day,h.row,by have:=h.used;omega⟩
theorem StB.take{s:Std}{x:Dty}{e:Int}{n:Nat}(h:StB s n)(hx:0<=x.day/\x.day<=6)(he:x.on<=e/\e<=x.on+1440)(ho:0<=x.on/\x.on<=1439)(hd:s.day<=x.day):StB (take s x e) (n+1):=by
 have h1:=h.free;have h2:=h.day;have h3:=h.row;have h4:=h.used;unfold Go.Proofs.YtflfajphjmajpaaGreat.take;by_cases e1:s.day=x.day
 .rw[if_pos e1];exact⟨h1,h2,h3,by simp only;omega⟩
 .rw[if_neg e1];refine⟨by simp only;omega,⟨by simp only;omega,hx.2⟩, ?_,by simp only;omega⟩
  simp only;by_cases e2:s.day=x.day-1
  .rw[if_pos e2];omega
  .rw[if_neg e2];omega
theorem yLO:(xZ w ros tru k D j).day<=(D:Int):=by
 obtain⟨h1,h2⟩:=yGR (w:=w) (ros:=ros) (tru:=tru) (k:=k) (D:=D) (j:=j);by_cases e:onL w ros k D j=[]
 .rw[h2 e,(zPT (w:=w) (ros:=ros) (tru:=tru) (k:=k) (D:=D)).2.2];have:=zIE (w:=w) (ros:=ros) (k:=k) (D:=D);omega
 .rw[h1.2 e];exact Int.le_refl _
theorem xYC(hs:Sane w l m)(hl:w.L.length=l)(ht:∀i,i<l->(dty w i).on<=tru i/\tru i<=(dty w i).on+1440){k:Nat}(hk:k<m):∀{D j:Nat},j<=l->StB (xZ w ros tru k D j) (D*l+j):=by
 have step:∀{D j:Nat},j<l->StB (xZ w ros tru k D j) (D*l+j)->StB (xZ w ros tru k D (j+1)) (D*l+(j+1)):=by
  intro D j hj h;rw[zAS];split
  .rename_i hh;unfold his at hh;simp only[Bool.and_eq_true,decide_eq_true_eq]at hh;have hd:=hs.duty j hj;have:=yLO (w:=w) (ros:=ros) (tru:=tru) (k:=k) (D:=D) (j:=j);exact h.take ⟨hd.1,hd.2.1⟩ (ht j hj) ⟨hd.2.2.1,hd.2.2.2.1⟩ (by omega)
  .exact h.mono (by omega)
 have day:∀{D:Nat},StB (xZ w ros tru k D 0) (D*l+0)->∀{j:Nat},j<=l->StB (xZ w ros tru k D j) (D*l+j):=by
  intro D h0 j;induction j with
  |zero=>intro _;exact h0
  |succ j ih=>intro hj;exact step (by omega) (ih (by omega))
 intro D;induction D with
 |zero =>
  intro j hj;refine day ?_ hj;have:=hs.dr k hk;show StB (before (drQ w k)) _;exact⟨⟨this.1,by show(drQ w k).off<=_;omega⟩,⟨Int.le_refl _,by show(-1:Int)<=6;omega⟩,⟨this.2.2.1,by show(drQ w k).row<=15+(-1:Int);omega⟩,⟨this.2.2.2.2.1,by show(drQ w k).used<=_;omega⟩⟩
 |succ D ih =>
  intro j hj;refine day ?_ hj;have h:=ih (Nat.le_refl l);have e:xZ w ros tru k (D+1) 0=xZ w ros tru k D l:=by
   rw[<- hl];rfl
  rw[e,Nat.add_mul,Nat.one_mul];exact h
def stF(w:Wk)(ros tru:Nat->Int)(m D j:Nat):Nat->Std:=λk=>if k<m then xZ w ros tru k D j else yCT
theorem xYJ:stF w ros tru m (D+1) 0=stF w ros tru m D w.L.length:=rfl
theorem xAV(h:¬((dty w j).day=(D:Int)/\0<=ros j)):stF w ros tru m D (j+1)=stF w ros tru m D j:=by
 funext k;unfold stF;split
 .rw[zAS,if_neg];unfold his;simp only[Bool.and_eq_true,decide_eq_true_eq];rintro⟨h1,h2⟩;exact h ⟨h2,by omega⟩
 .rfl
theorem xYI(hk:k<m)(hd:(dty w j).day=(D:Int))(hr:ros j=(k:Int)):stF w ros tru m D (j+1)=upd (stF w ros tru m D j) k (take (stF w ros tru m D j k) (dty w j) (tru j)):=by
 funext i;unfold stF upd;by_cases e:i=k
 .subst e;rw[if_pos hk,if_pos rfl,if_pos hk,zAS,if_pos (by unfold his;simp[hd,hr])];rfl
 .rw[if_neg e];show(if i<m then xZ w ros tru i D (j+1)else yCT)=if i<m then xZ w ros tru i D j else yCT;have e2:xZ w ros tru i D (j+1)=xZ w ros tru i D j:=by rw[zAS,if_neg (by unfold his;simp[hd,hr];omega)]
  rw[e2]
theorem yPF(h:¬((dty w j).day=(D:Int)/\ros j≠-1)):zHD w ros tru D (j+1)=zHD w ros tru D j:=by
 rw[xLB];split
 .rename_i hd;have:ros j=-1:=Decidable.not_not.1 λe=>h ⟨hd,e⟩
  unfold yCH;rw[if_pos this,List.append_nil]
 .rw[List.append_nil]
theorem xUX(hk:k<m)(hd:(dty w j).day=(D:Int))(hr:ros j=(k:Int)):zHD w ros tru D (j+1)=zHD w ros tru D j++zRQ w k j (stF w ros tru m D j k) 5:=by
 rw[xLB,if_pos hd];congr 1;unfold yCH zRQ stF;rw[if_neg (by omega),if_pos hk,show(ros j).toNat=k by omega]
end
end
structure JL(E:St)(wl:List Value)(rv tv:Value)(X:Nat->Prop)(f:Nat->Std)(A:List Bch)(O:St):Prop where
 le:Le E.re O
 wk:Row O ⟨E.j,0,none⟩ wl
 ro:Row O ⟨E.j+1,0,none⟩ [rv]
 tr:Row O ⟨E.j+2,0,none⟩ [tv]
 nw:Own O (E.j+4) (stL f) 4
 out:∃po co,Own O (E.j+3) [.slice po A.length co] 1/\Gr tP O (E.j+5) 192 3 po A.length co (A.map wDZ)/\∀b,AtP po b->¬X b
section
variable{E O O':St}{wl:List Value}{rv tv:Value}{X:Nat->Prop}{f:Nat->Std}{A:List Bch}
theorem J.dn(h:J E wl rv tv X f A O):JL E wl rv tv X f A O:=⟨h.new.le,h.wk,h.ro,h.tr,h.nw,h.out⟩
theorem JL.up(h:JL E wl rv tv X f A O)(hl:E.j<=O.low):J E wl rv tv X f A O:=⟨⟨h.le,λm _ h2=>Nat.le_trans h2 hl⟩,h.wk,h.ro,h.tr,h.nw,h.out⟩
theorem JL.mono{Y:Nat->Prop}(h:JL E wl rv tv X f A O)(k:∀b,b<O.j->E.j+5<=b->Y b->X b):JL E wl rv tv Y f A O:=by
 obtain⟨po,co,h1,h2,h3⟩:=h.out;exact⟨h.le,h.wk,h.ro,h.tr,h.nw,po,co,h1,h2,λb hb hy=>h3 b hb (k b (h2.bd hb).2 (h2.bd hb).1 hy)⟩
theorem JL.same{n0:Nat}(h:JL E wl rv tv X f A O)(k:Same n0 O O')(hn:E.j<=n0):JL E wl rv tv X f A O':=by
 obtain⟨po,co,h1,h2,h3⟩:=h.out;exact⟨⟨Nat.le_trans h.le.j k.j,λb hb=>(k.old b (Nat.lt_of_lt_of_le hb hn)).trans (h.le.get b hb)⟩,k.rw h.wk,k.rw h.ro,k.rw h.tr,k.own h.nw,po,co,k.own h1,k.gr h2,h3⟩
theorem xII{lo:Nat}{args:List Value}{z:St}{tm:Tm}{ps:List Tmp}{a b:Code}{db:Nat}{Q:St->Prop}(h:zCG tP lo args z tm ps a b db [⟨Unit,.normal,λ_=>[],λ_=>[],λ_ z=>Q z⟩]):∃z4,Q z4/\zCG tP lo args z tm ps a b db [⟨Unit,.normal,λ_=>[],λ_=>[],λ_ z=>z=z4⟩]:=by
 obtain⟨e,z',⟨al,hal,rfl,t,hq⟩,hc⟩:=h;simp only[In,or_false]at hal;subst hal;exact⟨z',hq,_,z',⟨_,.inl rfl,rfl,(),rfl⟩,hc⟩
variable{w:Wk}{p q r t:Option Addr}{l m c d rc tc D:Nat}{rs ts:List Int}
theorem wIQ{wd i19:Int}{a1 a2:Nat}(h:WkP E 93 94 w p l q m)(hs:Sane w l m)(hsh:zCE w)(hr:yM E r l rs)(ht:yM E t l ts)(hro:∀i,i<l->-1<=yU rs i/\yU rs i<(m:Int))
  (hts:∀i,i<l->(dty w i).on<=yU ts i/\yU ts i<=(dty w i).on+1440) (hA:∀j,j<=l->(zFL w (yU rs) (yU ts) D++zHD w (yU rs) (yU ts) D j).length<=450) (hD:D<=6)
  (r1:Row O ⟨a1,0,none⟩ (wkc w.J p l c q m d w.rest w.run w.N)) (r2:Row O ⟨a2,0,none⟩ [yK D]) (ha2:E.j+5<=a2) {ms:List Nat} (hms:∀y∈ms,yP O.heap y=some .defd/\E.j+5<=y/\y<O.j)
  (hJ:J E (wkc w.J p l c q m d w.rest w.run w.N) (.slice r l rc) (.slice t l tc) (λx=>x=a2\/x∈ms) (stF w (yU rs) (yU ts) m D 0) (zFL w (yU rs) (yU ts) D) O) {Qn:St->Prop}
  (hQ:∀z,JL E (wkc w.J p l c q m d w.rest w.run w.N) (.slice r l rc) (.slice t l tc) (λx=>x∈O.j::ms) (stF w (yU rs) (yU ts) m (D+1) 0) (zFL w (yU rs) (yU ts) (D+1)) z->(∀y∈O.j::ms,yP z.heap y=some .defd)->O.j<z.j->E.j<=z.low->Qn z) :
  yPQ E.j (E.j+1) (E.j+2) (E.j+3) (E.j+4) wd i19 116 [.pointer (some ⟨a1,0,none⟩),.pointer (some ⟨a2,0,none⟩)] O Qn:=by
 have hn:=h.len.1;have hm6:=hs.m6;have hl12:=hs.l12;have hO5:E.j+5<=O.j:=by have:=hJ.nw.lt;omega
 obtain⟨X,hX⟩:∃X:Nat->Prop,X=λx=>x<E.j\/x=a2\/x=O.j\/x=O.j+1\/x∈ms:=⟨_,rfl⟩
 have hX3:¬X (E.j+3):=by
  rw[hX];rintro(g|g|g|g|g)
  .omega
  .omega
  .omega
  .omega
  .have:=(hms _ g).2.1;omega
 have hX4:¬X (E.j+4):=by
  rw[hX];rintro(g|g|g|g|g)
  .omega
  .omega
  .omega
  .omega
  .have:=(hms _ g).2.1;omega
 refine xKY (w:=w) (pp:=p) (q:=q) (l:=l) (m:=m) (c:=c) (d:=d) (D:=D) (a1:=a1) (a2:=a2) (n0:=E.j) (J:=λs z=>JL E (wkc w.J p l c q m d w.rest w.run w.N) (.slice r l rc) (.slice t l tc) X (stF w (yU rs) (yU ts) m D s) (zFL w (yU rs) (yU ts) D++zHD w (yU rs) (yU ts) D s) z/\Row z ⟨a2,0,none⟩ [yK D]/\(∀y∈ms,yP z.heap y=some .defd)/\O.j<=z.j)
  (λg0=>rfl) r1 (by omega) (by omega) (λs z hz=>⟨hz.2.1,SlV.le h.dty ((le0 E).trans hz.1.le)⟩) ⟨?_,r2,λy hy=>(hms y hy).1,Nat.le_refl _⟩ (λs z z' hz hk=>⟨hz.1.same hk (Nat.le_refl _),hk.rw hz.2.1,λy hy=>by rw[hk.get y (by have:=(hms y hy).2.2;have:=hz.2.2.2;omega) (λ_ _ _ _ _ _ _ e=>by rw[hz.2.2.1 y hy]at e;cases e)];exact hz.2.2.1 y hy,Nat.le_trans hz.2.2.2 hk.j⟩) ?_ ?_ ?_
 .have e:zFL w (yU rs) (yU ts) D++zHD w (yU rs) (yU ts) D 0=zFL w (yU rs) (yU ts) D:=by simp[zHD]
  rw[e];refine hJ.dn.mono ?_
  rw[hX];rintro b hb hb2 (h1|h1|h1|h1|h1)
  .omega
  .exact .inl h1
  .omega
  .omega
  .exact .inr h1
 .rintro s z hsl hd ⟨hz,hz2⟩;rw[xAV (λe=>hd e.1),yPF (λe=>hd e.1)];exact⟨hz,hz2⟩
 .rintro s z z1 lo g0 db hsl hd hlo hlp hz1 ⟨hz,hz2,hz3,hz4⟩ hnx;have zl:=yCX z.re (dty w s);have hlt:lo<z.j:=by omega
  have hl1:yP (yQK z.re (dty w s)).heap lo=some (zCY E.j (E.j+1) (E.j+2) (E.j+3) (E.j+4) wd i19 116 [.pointer (some ⟨a1,0,none⟩),.pointer (some ⟨a2,0,none⟩)] g0 .ready none db):=by
   rw[zl.get _ hlt];exact hlp
  have s1:Same E.j z z1:=⟨by rw[hz1];exact zl.j,λy hy hne=>by
   rw[hz1,St.put_get,if_neg (λe=>by subst e;exact hne _ _ _ _ _ _ _ hlp)];exact zl.get y hy,λy hy=>by rw[hz1,St.put_get,if_neg (by omega)];exact zl.get y (by show y<z.j;omega)⟩
  have hm1:∀y∈ms,yP z1.heap y=some .defd:=λy hy=>by rw[s1.get y (by have:=(hms y hy).2.2;omega) (λ_ _ _ _ _ _ _ e=>by rw[hz3 y hy]at e;cases e)];exact hz3 y hy
  have hlw:E.j<=z1.low:=by rw[hz1];show E.j<=min (min z.j z.j) lo;omega
  have Jz:=(hz.mono (Y:=λx=>X x\/z.j<=x) (λb h1 _ h3=>h3.elim id (λh4=>by omega)));have J1:=(Jz.same s1 (Nat.le_refl _)).up hlw;have rB:Row z1 ⟨z.re.j,0,none⟩ (wPM (dty w s)):=by
   rw[hz1];exact(Only.put (S:=(·=lo)) (.inr rfl)).rw' ((zX z.re (zP 0 0 0 0 0) 5).put).rw (λe=>by have e:z.j=lo:=e;omega)
  have LS:Le E z1:=(le0 E).trans J1.new.le;obtain⟨a,rfl,x,hx,lx⟩:=xA (SlV.le hr LS) hsl;have gx:yU rs s=x:=xB hx;have l26:zJ tP z1 48 ⟨E.j+1,0,none⟩=some (.slice (some a) l rc):=J1.ro.ld xF rfl;have hrs:=hro s hsl;by_cases e1:x=-1
  .refine⟨z1,xLN hlp hl1 hz1 l26 lx rfl (by omega) e1, ?_,λ_=>False,Only.refl _ _,λy hy=>hy.elim⟩
   rw[xAV (λe=>by omega),yPF (λe=>by omega)];exact⟨hz.same s1 (Nat.le_refl _),s1.rw hz2,hm1,Nat.le_trans hz4 s1.j⟩
  obtain⟨k,hkx⟩:∃k:Nat,x=(k:Int):=⟨x.toNat,by omega⟩;have hk:k<m:=by omega
  have hrk:yU rs s=(k:Int):=by rw[gx,hkx]
  obtain⟨bq,s2,cq,nq,hbq,rowq⟩:=yBU (E:=z1);obtain⟨X2,hX2⟩:∃X2:Nat->Prop,X2=λx=>X x\/x=z.j\/x=bq:=⟨_,rfl⟩
  have nz1:=s1.j;have J2:J E (wkc w.J p l c q m d w.rest w.run w.N) (.slice (some a) l rc) (.slice t l tc) X2 (stF w (yU rs) (yU ts) m D s) (zFL w (yU rs) (yU ts) D++zHD w (yU rs) (yU ts) D s) s2:=by
   refine(J1.le nq.le (J1.new.trans nq)).mono ?_
   rw[hX2];rintro b _ _ (g|g|g)
   .exact .inl g
   .exact .inr (by omega)
   .exact .inr (by omega)
  have ha2z:a2<O.j:=r2.lt;have hz12:z.j<s2.j:=by have:=nq.le.j;have:=rB.lt;have e:z.re.j<z1.j:=this;have:z.j<z1.j:=e;omega
  have hXlt:∀x,X2 x->x<s2.j:=by
   rw[hX2,hX];rintro x ((g|g|g|g|g)|g|g)
   .omega
   .omega
   .omega
   .omega
   .have:=(hms _ g).2.2;omega
   .omega
   .have:=rowq.lt;rw[g];exact this
  have hX23:¬X2 (E.j+3):=by
   rw[hX2];rintro(g|g|g)
   .exact hX3 g
   .omega
   .have:=J1.nw.lt;omega
  have hX24:¬X2 (E.j+4):=by
   rw[hX2];rintro(g|g|g)
   .exact hX4 g
   .omega
   .have:=J1.nw.lt;omega
  have hXB:X2 z.re.j:=by rw[hX2];exact .inr (.inl rfl)
  have hXq:X2 bq:=by rw[hX2];exact .inr (.inr rfl)
  have hfk:stF w (yU rs) (yU ts) m D s k=xZ w (yU rs) (yU ts) k D s:=by unfold stF;rw[if_pos hk]
  have hDl:D*l<=6*12:=Nat.mul_le_mul hD hl12;have hso:StOk (stF w (yU rs) (yU ts) m D s k):=by rw[hfk];exact(xYC hs hn hts hk (by omega)).ok (by omega)
  have hdt:=hs.duty s hsl;have hdo:DtOk (dty w s):=⟨⟨hdt.1,hdt.2.1⟩,⟨hdt.2.2.1,hdt.2.2.2.1⟩⟩;have hAs:=hA s (by omega);have ask:=wEB (lo:=lo) (c:=c) (d:=d) h hsh hm6 hk hsl hso hdo (by omega) J2 (rB.le nq.le) rowq hXB hXq hX23 hXlt;have hu:=hts s hsl;have rd:zCG tP lo [iV (s:Int),zBB (dty w s)] z (Fm 92 (ov (zBL E.j (E.j+1) (E.j+2) (E.j+3) (E.j+4) wd i19 116 [.pointer (some ⟨a1,0,none⟩),.pointer (some ⟨a2,0,none⟩)]) g0)) [25,26] zCC zAK db
    [⟨Unit,.normal,λ_=>[],λ_=>[],λ_ z4=>J E (wkc w.J p l c q m d w.rest w.run w.N) (.slice (some a) l rc) (.slice t l tc) X2 (stF w (yU rs) (yU ts) m D (s+1)) (zFL w (yU rs) (yU ts) D++zHD w (yU rs) (yU ts) D (s+1)) z4/\Only (λx=>¬X2 x) s2 z4⟩]:=by
   refine xLM hlp hl1 hz1 l26 (hkx ▸ lx) cq ask ?_ (by omega) (by omega)
   rintro z3 ⟨J3,O3⟩
   refine xSM ht (by omega) hsl hso hdo (by omega) J3 (O3.rw' (rB.le nq.le) (λhh=>hh hXB)) hX24 ?_
   intro z4 J4 O4
   rw[xYI hk hd hrk,xUX (m:=m) hk hd hrk,<- List.append_assoc]
   exact⟨J4,O3.trans' O4 (λb _ hb=>.inl hb)⟩
  obtain⟨z4,⟨J4,O4⟩,rd4⟩:=xII rd;refine⟨z4,rd4,⟨J4.dn.mono (λb _ _ hb=>by rw[hX2];exact .inl hb), ?_, ?_, ?_⟩,λy=>E.j<=y/\y≠O.j/\y≠O.j+1,(nq.only).trans' (O4.mono (T:=λy=>E.j<=y/\y≠O.j/\y≠O.j+1) ?_) (λb _ hb=>.inl hb),λy hy=>hy⟩
  .refine O4.rw' ((s1.rw hz2).le nq.le) (λhh=>hh ?_);rw[hX2,hX];exact .inl (.inr (.inl rfl))
  .intro y hy;have hys:y<s2.j:=hXlt y (by rw[hX2,hX];exact .inl (.inr (.inr (.inr (.inr hy)))));rw[O4.get y hys (λhh=>hh (by rw[hX2,hX];exact .inl (.inr (.inr (.inr (.inr hy)))))),nq.le.get y (by have:=(hms y hy).2.2;omega)];exact hm1 y hy
  .have:=O4.j;have:=nq.le.j;omega
  .intro b _ hb;rw[hX2,hX]at hb;refine⟨?_, ?_, ?_⟩
   .rcases Nat.lt_or_ge b E.j with g|g
    .exact absurd (.inl (.inl g)) hb
    .exact g
   .intro e;exact hb (.inl (.inr (.inr (.inl e))))
   .intro e;exact hb (.inl (.inr (.inr (.inr (.inl e)))))
 .rintro z ⟨hz,_,hz3,_⟩ h1 h2 h3;refine hQ z ?_ (λy hy=>by rcases List.mem_cons.1 hy with e|e;exact e ▸ h1;exact hz3 y e) h2 (h3 E.j (Nat.le_refl _) ?_)
  .have e:zFL w (yU rs) (yU ts) (D+1)=zFL w (yU rs) (yU ts) D++zHD w (yU rs) (yU ts) D l:=by rw[wAF,hn]
   rw[e,xYJ,hn];refine hz.mono (λb _ _ h=>?_);rw[hX];rcases List.mem_cons.1 h with e|e
   .exact .inr (.inr (.inl e))
   .exact .inr (.inr (.inr (.inr e)))
  .have:=hJ.new.low E.j (Nat.le_refl _) (Nat.le_refl _);exact this
end
section
variable{E O:St}{w:Wk}{p q r t:Option Addr}{l m c d rc tc:Nat}{rs ts:List Int}
theorem wPA{D:Nat}:∃a1 a2 E',zW tP 79 [.agg ⟨wkc w.J p l c q m d w.rest w.run w.N⟩,iV (D:Int)] E (.func (.func 116) ⟨[]⟩ ⟨[.pointer (some ⟨a1,0,none⟩),.pointer (some ⟨a2,0,none⟩)]⟩) E'/\New E E'/\E.j<=a2/\Row E' ⟨a1,0,none⟩ (wkc w.J p l c q m d w.rest w.run w.N)/\Row E' ⟨a2,0,none⟩ [yK D]:=by
 obtain⟨v,E',h1,h2,a1,a2,rfl,h3,h4,h5⟩:=zQ.new (E:=E) (P:=tP) (f:=79) (args:=[.agg ⟨wkc w.J p l c q m d w.rest w.run w.N⟩,iV (D:Int)]) (Q:=λv s=>∃a1 a2,v=.func (.func 116) ⟨[]⟩ ⟨[.pointer (some ⟨a1,0,none⟩),.pointer (some ⟨a2,0,none⟩)]⟩/\E.j<=a2/\Row s ⟨a1,0,none⟩ (wkc w.J p l c q m d w.rest w.run w.N)/\Row s ⟨a2,0,none⟩ [yK D])
  (wOZ ⟨(New.row _ _ _).row',E.re.j,E.re.j+1,rfl,by show E.j<=E.j+1;omega,(wB _ _ _).row,wB (E.re.row (wkc w.J p l c q m d w.rest w.run w.N) 6) _ _⟩) (by rintro v s s' ⟨a1,a2,rfl,g1,g2,g3⟩ hle;exact⟨a1,a2,rfl,g1,g2.le hle,g3.le hle⟩) (by rintro v s hr ⟨a1,a2,rfl,_⟩;cases hr)
 exact⟨a1,a2,E',h1,h2,h3,h4,h5⟩
theorem wDA{n:Nat}(hn:w.J=(n:Int))(hn7:n<=7)(h:WkP E 93 94 w p l q m)(hs:Sane w l m)(hsh:zCE w)(hr:yM E r l rs)(ht:yM E t l ts)(hro:∀i,i<l->-1<=yU rs i/\yU rs i<(m:Int))
  (hts:∀i,i<l->(dty w i).on<=yU ts i/\yU ts i<=(dty w i).on+1440) (hA:∀D j,D<=6->j<=l->(zFL w (yU rs) (yU ts) D++zHD w (yU rs) (yU ts) D j).length<=450)
  (hJ:J E (wkc w.J p l c q m d w.rest w.run w.N) (.slice r l rc) (.slice t l tc) (λx=>x∈([]:List Nat)) (st0 w m) [] O) :
  zZD E.j (E.j+1) (E.j+2) (E.j+3) (E.j+4) w.J 0 [] O (λms z=>J E (wkc w.J p l c q m d w.rest w.run w.N) (.slice r l rc) (.slice t l tc) (λx=>x∈ms) (stF w (yU rs) (yU ts) m n 0) (zFL w (yU rs) (yU ts) n) z/\ms.Nodup/\∀y∈ms,yP z.heap y=some .defd/\E.j+5<=y/\y<z.j):=by
 refine yVD (Inv:=λk i ms z=>∃D:Nat,i=D/\D+k=n/\J E (wkc w.J p l c q m d w.rest w.run w.N) (.slice r l rc) (.slice t l tc) (λx=>x∈ms) (stF w (yU rs) (yU ts) m D 0) (zFL w (yU rs) (yU ts) D) z/\ms.Nodup/\∀y∈ms,yP z.heap y=some .defd/\E.j+5<=y/\y<z.j) ?_ n 0 [] O ⟨0,rfl,by omega,hJ,List.nodup_nil,λy hy=>by cases hy⟩;rintro k i ms z ⟨D,rfl,hk,hz,hnd,hms⟩;by_cases hD:D<n;rotate_left
 .have:D=n:=by omega
  subst this;exact xLU ⟨hz,hnd,hms⟩
 have lw:zJ tP z 72 ⟨E.j,0,none⟩=some (.agg ⟨wkc w.J p l c q m d w.rest w.run w.N⟩):=hz.wk.ldN (k:=0) zAD vB (ds:=wkc w.J p l c q m d w.rest w.run w.N) rfl rfl (by simp);obtain⟨a1,a2,z2,c2,n2,ha2,r1,r2⟩:=wPA (E:=z) (w:=w) (p:=p) (l:=l) (c:=c) (q:=q) (m:=m) (d:=d) (D:=D);have hz5:E.j+5<=z.j:=by have:=hz.nw.lt;omega
 have J2:=((hz.mono (Y:=λx=>x=a2\/x∈ms) (λb h1 _ h3=>h3.elim (λe=>by omega) id)).le n2.le (hz.new.trans n2));have hms2:∀y∈ms,yP z2.heap y=some .defd/\E.j+5<=y/\y<z2.j:=λy hy=>by
  obtain⟨g1,g2,g3⟩:=hms y hy;exact⟨by rw[n2.le.get y g3];exact g1,g2,by have:=n2.le.j;omega⟩
 refine xLV lw c2 (wIQ (wd:=w.J) (i19:=D) h hs hsh hr ht hro hts (λj hj=>hA D j (by omega) hj) (by omega) r1 r2 (by omega) hms2 J2
  (Qn:=λz3=>J E (wkc w.J p l c q m d w.rest w.run w.N) (.slice r l rc) (.slice t l tc) (λx=>x∈z2.j::ms) (stF w (yU rs) (yU ts) m (D+1) 0) (zFL w (yU rs) (yU ts) (D+1)) z3/\∀y∈z2.j::ms,yP z3.heap y=some .defd/\E.j+5<=y/\y<z3.j)
  (λz3 g1 g2 g3 g4=>⟨g1.up g4,λy hy=>⟨g2 y hy, ?_⟩⟩)) ?_
 .rcases List.mem_cons.1 hy with e|e
  .have:=n2.le.j;omega
  .have:=hms2 y e;omega
 .rintro z3 ⟨g1,g2⟩;refine yUZ ⟨k-1,by omega,D+1,by omega,by omega,g1, ?_,g2⟩;exact List.nodup_cons.2 ⟨λe=>by have:=(hms2 _ e).2.2;omega,hnd⟩
end
section
variable{E O:St}{w:Wk}{p q:Option Addr}{l m c d n:Nat}{rv tv:Value}{ros tru:Nat->Int}{A:List Bch}{ms:List Nat}
theorem xTX{k:Nat}:(zOD w ros tru n k).length<=k:=by
 unfold zOD;have:=List.length_filterMap_le (λk=>if w.N<(wH w ros tru k n).used then some (⟨5,k,0⟩:Bch)else none) (List.range k);simpa using this
theorem wAX(hm6:m<=6)(hA:A.length<=500)(hms:∀y∈ms,E.j+5<=y/\y<O.j)
  (hJ:J E (wkc w.J p l c q m d w.rest w.run w.N) rv tv (λx=>x∈ms) (stF w ros tru m n 0) A O) :
  zZB E.j (E.j+3) (E.j+4) m ms 0 O (λz=>J E (wkc w.J p l c q m d w.rest w.run w.N) rv tv (λx=>x∈ms) (stF w ros tru m n 0) (A++zOD w ros tru n m) z/\Only (λx=>¬x∈ms) O z):=by
 refine yVB (Inv:=λk' i z=>∃k:Nat,i=k/\k+k'=m/\J E (wkc w.J p l c q m d w.rest w.run w.N) rv tv (λx=>x∈ms) (stF w ros tru m n 0) (A++zOD w ros tru n k) z/\Only (λx=>¬x∈ms) O z) ?_ m 0 O ⟨0,rfl,by omega,by simpa [zOD] using hJ,Only.refl _ _⟩;rintro k' i z ⟨k,rfl,hk',hz,O7⟩;by_cases hk:k<m;rotate_left
 .have:k=m:=by omega
  subst this;exact xLO ⟨hz,O7⟩
 have lu:=xYG hz.nw (i:=k) (by omega);have lh:zJ tP z 3 ⟨E.j,5,none⟩=some (iV w.N):=hz.wk.ld zU rfl;have ef:(stF w ros tru m n 0 k).used=(wH w ros tru k n).used:=by unfold stF;rw[if_pos hk];rfl
 rw[ef]at lu;have es:=wHW (w:=w) (ros:=ros) (tru:=tru) (n:=n) (k:=k);have hl:=xTX (w:=w) (ros:=ros) (tru:=tru) (n:=n) (k:=k);by_cases hh:w.N<(wH w ros tru k n).used
 .rw[if_pos hh]at es;obtain⟨po,co,g1,p',c',z2,g2,g3,g4,g5⟩:=hz.push (Le.refl z) hz.new ⟨5,k,0⟩ (by rw[List.length_append];omega) (λe=>by have:=(hms _ e).1;omega) (λx hx=>by have:=(hms x hx).2;have:=O7.j;omega);refine xLQ lu lh g1 g2 g3 ⟨k' - 1,by omega,k+1,by omega,by omega, ?_,O7.trans' g5 (λb _ hb=>.inl hb)⟩;rw[es,<- List.append_assoc];exact g4
 .rw[if_neg hh,List.append_nil]at es;exact xLP lu lh ⟨k' - 1,by omega,k+1,by omega,by omega,by rw[es];exact hz,O7⟩
end
section
variable{E:St}{w:Wk}{p q r t:Option Addr}{l m c d rc tc:Nat}{rs ts:List Int}{ros tru:Nat->Int}
theorem xVN{D i:Nat}:(yCH w ros tru D i).length<=5:=by
 unfold yCH;split
 .simp
 .have:=List.length_filterMap_le (λq=>if holds w q (drQ w (ros i).toNat) (dty w i) (xZ w ros tru (ros i).toNat D i)=true then none else some (⟨q,(ros i).toNat,i⟩:Bch)) (List.range 5);simpa using this
theorem yIP{D:Nat}:∀{j:Nat},(zHD w ros tru D j).length<=5*j
 |0=>by simp[zHD]
 |j+1=>by
  have ih:=yIP (D:=D) (j:=j);rw[xLB,List.length_append];have:=xVN (w:=w) (ros:=ros) (tru:=tru) (D:=D) (i:=j);split
  .omega
  .simp only[List.length_nil];omega
theorem xBW:∀{D:Nat},(zFL w ros tru D).length<=5*w.L.length*D
 |0=>by simp[zFL]
 |D+1=>by
  have ih:=xBW (D:=D);rw[wAF,List.length_append,Nat.mul_add,Nat.mul_one];have:=yIP (w:=w) (ros:=ros) (tru:=tru) (D:=D) (j:=w.L.length);omega
end
section
variable{E:St}{w:Wk}{p q r t:Option Addr}{l m c d rl rc tl tc:Nat}{rs ts:List Int}
theorem xXS(h:WkP E 93 94 w p l q m)(hr:yM E t l ts)(hl:l<=1073741824)(ho:∀i,i<l->(dty w i).lo<=ts.getD i 0/\ts.getD i 0<=(dty w i).hi):zW tP 49 [.agg ⟨wkc w.J p l c q m d w.rest w.run w.N⟩,.slice t l tc] E (.bool true) E:=by
 have hn:=h.len.1;have el:=hr.len;obtain⟨E1,hE1⟩:∃E1,E1=E.re.row (wkc w.J p l c q m d w.rest w.run w.N) 6:=⟨_,rfl⟩;have hk0:=wB E.re (wkc w.J p l c q m d w.rest w.run w.N) 6;rw[<- hE1]at hk0;have N1:New E.re E1:=by rw[hE1];exact New.row _ _ _
 have L1:Le E E1:=(le0 E).trans N1.le;refine(xSG (ySH (Inv:=λk i O=>New E1 O/\∃j:Nat,i=j/\j+k=l) (Qr:=λ_ _=>False) (Q0:=λO=>New E1 O) ?_ l 0 _ ⟨by rw[<- hE1];exact New.refl _,0,rfl,by omega⟩) (λ_ _ h=>h.elim) ?_).pure
 .rintro k i O ⟨hN,j,rfl,hk⟩;have LL:Le E O:=L1.trans hN.le;by_cases hj:j<l;rotate_left
  .exact xHP hN
  have hj2:j<l:=by omega
  obtain⟨a,rfl,x,hx,lx⟩:=xA (SlV.le hr LL) hj;obtain⟨b,rfl,y,hy,ly⟩:=xA (SlV.le h.dty LL) hj2;have gx:ts.getD j 0=x:=xB hx;have gy:dty w j=y:=by unfold dty;rw[List.getD_eq_getElem?_getD,hy];rfl
  have lD:zJ tP O 69 ⟨E.re.j,1,none⟩=some (.slice (some b) l c):=(hk0.le hN.le).ld zXG rfl;have ls:zJ tP O 91 (zO b ((Int.toNat (j:Int)*5)+2))=some (.agg ⟨[iV y.lo,iV y.hi]⟩):=by
   obtain⟨_,e,hrow⟩:=(SlV.le h.dty LL).some hj2;cases e
   rw[Int.toNat_natCast];have hv:((wD (w.L.map zBB)).drop (j*5+2)).take 2=[iV y.lo,iV y.hi]:=by
    have key:∀(xs:List Dty) (j:Nat),xs[j]?=some y->((wD (xs.map zBB)).drop (j*5+2)).take 2=[iV y.lo,iV y.hi]:=by
     intro xs;induction xs with
     |nil=>intro j h;simp at h
     |cons x xs ih =>
      intro j h;cases j with
      |zero =>
       have:x=y:=by simpa using h
       subst this;rfl
      |succ j =>
       have:=ih j (by simpa using h);have e:(j+1)*5+2=5+(j*5+2):=by omega
       rw[e,<- List.drop_drop];exact this
    exact key _ _ hy
   have hlen:(wD (w.L.map zBB)).length=l*5:=(SlV.le h.dty LL).1.1;exact hrow.loadN wPS xYP hv rfl (by rw[hlen];omega)
  have N2:New O ((O.row [iV 0,iV 0] 2).own O.j [iV y.lo,iV y.hi] 2):=(New.row _ _ _).own (Nat.le_refl _);have hb:=ho j hj;rw[gx,gy]at hb;exact xHQ lx lD ls (uB.2 hb ▸ yGK) ⟨k-1,by omega,hN.trans N2,j+1,by omega,by omega⟩ (by omega) (by omega) (by omega) (by omega)
 .exact λO hN=>ySG ⟨rfl,(N1.trans hN).lw⟩
end
section
noncomputable section
variable(data:oAa)(aJ aL:Nat)(a_1 b:Int)(dm:FuncId)(aU:lVa)(q2:Int->Int->Int->Bool->Bool->St->Prop)(dB ar bk aP:Int)(Q:St->Prop)(q0:Int->St->Prop)(eg ee:Bool)(E:St)(Nx:Int->St->Prop)(q3:Int->Int->Int->Bool->Bool->St->Prop)(q1:vPa)(Q0 Qr:St->Prop)
def xOE:Code:=(Code.part [1,0,0] (zV tP 143))
def yDD:lNa:=[(0,.slice data aJ aL),(1,iV a_1),(2,iV b),(3,.func (.func dm) ⟨[]⟩ ⟨aU⟩),(8,iV ar)]
def wBG:Alt:=⟨Int,.normal,λt=>yDD data aJ aL a_1 b dm aU t,λt=>[],λt E=>q0 t E⟩
def yOD(data:oAa)(aJ aL:Nat)(a_1 b:Int)(dm:FuncId)(aU:lVa):lNa:=[]
def zYI:Alt:=⟨Unit,(.exit 0),λt=>yOD data aJ aL a_1 b dm aU,λt=>[],λt E=>Q E⟩
def xOG:Prop:=yT tP (zZ tP) none xOE 53 (yDD data aJ aL a_1 b dm aU ar) [] [wBG data aJ aL a_1 b dm aU Nx,zYI data aJ aL a_1 b dm aU Q0] E
def xOF:Prop:=yW tP (zZ tP) none xOE 53 (yDD data aJ aL a_1 b dm aU ar) [] [zYI data aJ aL a_1 b dm aU Q0] E
def yOE:Prop:=kZ (zZ tP) (zV tP 143) [1,0] (kFn tP 143 q1) (.exit 0) 53 (yOD data aJ aL a_1 b dm aU) E
def xZT:Code:=(Code.part [1,1,0,0] (zV tP 122))
def yHM:lNa:=[(0,.slice data aJ aL),(1,iV dB),(2,iV bk),(3,iV aP),(4,.func (.func dm) ⟨[]⟩ ⟨aU⟩),(10,.bool eg),(11,.bool ee)]
def wHG:Alt:=⟨Int×Int×Int×Bool×Bool,.normal,λt=>yHM data aJ aL dm aU t.1 t.2.1 t.2.2.1 t.2.2.2.1 t.2.2.2.2,λt=>[],λt E=>q2 t.1 t.2.1 t.2.2.1 t.2.2.2.1 t.2.2.2.2 E⟩
def xBR(data:oAa)(aJ aL:Nat)(dm:FuncId)(aU:lVa):lNa:=[]
def yHN:Alt:=⟨Unit,.ret,λt=>xBR data aJ aL dm aU,λt=>[],λt E=>Q E⟩
def xZV:Prop:=yT tP (zZ tP) none xZT 148 (yHM data aJ aL dm aU dB bk aP eg ee) [] [wHG data aJ aL dm aU q3,yHN data aJ aL dm aU Qr] E
def xZU:Prop:=yW tP (zZ tP) none xZT 148 (yHM data aJ aL dm aU dB bk aP eg ee) [] [yHN data aJ aL dm aU Qr] E
def xBS:Prop:=kZ (zZ tP) (zV tP 122) [1,1,0] (kFn tP 122 q1) .ret 148 (xBR data aJ aL dm aU) E
end
variable{data x:oAa}{aJ aL x_l x_c:Nat}{a_1 b ar dB bk aP limit z1 n2:Int}{dm:FuncId}{aU:lVa}{Inv:Nat->Int->St->Prop}{Q0 P0 Qr Pr:St->Prop}{E EEB V3:St}{Nx:Int->St->Prop}{Q:vPa}{eg ee:Bool}
theorem xKI(hb:∀k ar E,Inv k ar E->xOG data aJ aL a_1 b dm aU ar E (NX1 Inv k) Q0):∀k ar E,Inv k ar E->xOF data aJ aL a_1 b dm aU ar E Q0 :=
 xE (ai (wF 0) trivial) hb
theorem wBE(nx:Q0 E)(u1:¬ar<b:=by omega):xOG data aJ aL a_1 b dm aU ar E Nx Q0 :=
 eO 1 () [.g2,.b (zY u1)] nx
theorem wIA(hL:xOF data aJ aL a_1 b dm aU (a_1+1) E P0)(k0:∀E',P0 E'->yOE data aJ aL a_1 b dm aU E' Q)(u1:I6 (a_1+1):=by omega):zQ tP 143 [.slice data aJ aL,iV a_1,iV b,.func (.func dm) ⟨[]⟩ ⟨aU⟩] E Q :=
 let s1:=yDD data aJ aL a_1 b dm aU (a_1+1);eQ [.g,.w u1,.g,.k (.lf 53 s1 [zYI data aJ aL a_1 b dm aU P0])] (ai (ai tt (ai (arf s1) hL)) (ai (kz0 k0) trivial))
theorem xKH(nx:Q (.tuple ⟨[]⟩) E):yOE data aJ aL a_1 b dm aU E Q :=
 eK [] nx
theorem xTO{Inv:Nat->Int->Int->Int->Bool->Bool->St->Prop}(hb:∀k dB bk aP eg ee E,Inv k dB bk aP eg ee E->xZV data aJ aL dm aU dB bk aP eg ee E (NX5 Inv k) Qr):∀k dB bk aP eg ee E,Inv k dB bk aP eg ee E->xZU data aJ aL dm aU dB bk aP eg ee E Qr :=
 xKA (ai wX trivial) hb
theorem wHE{Nx:Int->Int->Int->Bool->Bool->St->Prop}(h1:CAz 143 [.slice data aJ aL,iV dB,iV bk,.func (.func dm) ⟨[]⟩ ⟨aU⟩] E (.tuple ⟨[]⟩) EEB)(nx:Qr EEB)(u1:I6 (bk-dB):=by omega)(u2:(bk-dB)<=12:=by omega):xZV data aJ aL dm aU dB bk aP eg ee E Nx Qr :=
 eO 1 () [.g2,.w u1,.g2,.b (xV u2),.g4,.c h1] nx
theorem wMR(hL:xZU data aJ aL dm aU a_1 b limit true true E Pr)(kr:∀E',Pr E'->xBS data aJ aL dm aU E' Q):zQ tP 122 [.slice data aJ aL,iV a_1,iV b,iV limit,.func (.func dm) ⟨[]⟩ ⟨aU⟩] E Q :=
 eQ [.g2,.k (.lf 148 (yHM data aJ aL dm aU a_1 b limit true true) [yHN data aJ aL dm aU Pr])] (ai (ai tt (ai (arf (yHM data aJ aL dm aU a_1 b limit true true)) hL)) (ai (kz0 kr) trivial))
theorem xTN(nx:Q (.tuple ⟨[]⟩) E):xBS data aJ aL dm aU E Q :=
 eK [] nx
theorem xYK(h1:vG .u64 ((x_l:Int))=z1)(h2:CPz 123 [.int .u64 z1] E (iV n2))(h3:CAz 122 [.slice x x_l x_c,iV 0,iV (x_l:Int),iV n2,.func (.func dm) ⟨[]⟩ ⟨aU⟩] E (.tuple ⟨[]⟩) V3)(nx:Q (.tuple ⟨[]⟩) V3):zQ tP 82 [.slice x x_l x_c,.func (.func dm) ⟨[]⟩ ⟨aU⟩] E Q :=
 eQ [.g6,.n h1,.c h2,.g,.c h3] nx
end
section
variable{E z:St}{c:Nat}{g:FuncId}{gc:List Value}
theorem wBF:zW tP 143 [.slice none 0 c,iV 0,iV 0,.func (.func g) ⟨[]⟩ ⟨gc⟩] E (.tuple ⟨[]⟩) E :=
 zQ.pure (wIA (P0:=λO=>O=E.re) (xKI (Inv:=λk i O=>i=1/\O=E.re) (λk i O h=>by obtain⟨rfl,rfl⟩:=h;exact wBE rfl (by omega)) 0 _ E.re ⟨rfl,rfl⟩) (λO h=>xKH ⟨rfl,by rw[h];exact Nat.le_refl _⟩))
theorem wHF{n:Int}:zW tP 122 [.slice none 0 c,iV 0,iV 0,iV n,.func (.func g) ⟨[]⟩ ⟨gc⟩] E (.tuple ⟨[]⟩) E :=
 zQ.pure (wMR (Pr:=λO=>O=E.re) (xTO (Inv:=λk i1 i2 i3 t10 t11 O=>i1=0/\i2=0/\O=E.re) (λk i1 i2 i3 t10 t11 O h=>by obtain⟨rfl,rfl,rfl⟩:=h;exact wHE wBF rfl) 0 _ _ _ _ _ E.re ⟨rfl,rfl,rfl⟩) (λO h=>xTN ⟨rfl,by rw[h];exact Nat.le_refl _⟩))
theorem xSN:zW tP 82 [.slice none 0 c,.func (.func g) ⟨[]⟩ ⟨gc⟩] E (.tuple ⟨[]⟩) E:=by
 obtain⟨n,n3⟩:=wEA (E:=E.re) (n:=0) (by omega);exact zQ.pure (xYK (x_l:=0) (z1:=((0:Nat):Int)) (by rw[zVM];rfl) n3 wHF ⟨rfl,Nat.le_refl _⟩)
end
section
variable{E:St}{w:Wk}{p q r t:Option Addr}{l m c d rc tc:Nat}{rs ts:List Int}
theorem wDP{n:Nat}(hn:w.J=(n:Int))(hn7:n<=7)(hv:Days w n)(h:WkP E 93 94 w p l q m)(hs:Sane w l m)(hsh:zCE w)(hr:yM E r l rs)(ht:yM E t l ts)(hro:∀i,i<l->-1<=yU rs i/\yU rs i<(m:Int))
  (hts:∀i,i<l->(dty w i).on<=yU ts i/\yU ts i<=(dty w i).on+1440) (hL:zAF w (yU rs) (yU ts)) :
  ∃E',zW tP 50 [.agg ⟨wkc w.J p l c q m d w.rest w.run w.N⟩,.slice r l rc,.slice t l tc] E (.slice none 0 0) E'/\New E E':=by
 have hl:=h.len.1;have hm:=h.len.2;have hm6:=hs.m6;have hl12:=hs.l12;have hRos:Ros w (yU rs):=⟨λi hi=>by have:=hro i (by omega);omega⟩;have hE:=(xUA hv hRos).2 hL;unfold wKA at hE;obtain⟨s4,hs4⟩:∃s,s=(((E.re.row (wkc w.J p l c q m d w.rest w.run w.N) 6).row [.slice r l rc] 1).row [.slice t l tc] 1).row [.slice none 0 0] 1:=⟨_,rfl⟩;have N4:New E.re s4:=by rw[hs4];exact((New.row _ _ _).row'.row').row'
 have L4:Le E s4:=(le0 E).trans N4.le;have x4:s4.j=E.j+4:=by rw[hs4];rfl
 have cb:=yNH (c:=c) (d:=d) (h.le L4) hm6;have oz:Own (s4.row zGR 4) (E.j+4) (stL λ_=>yCT) 4:=by
  have:=zX s4 zGR 4;rw[x4]at this;exact this
 have st:=yCZ oz (st0 w m);obtain⟨s5,hs5⟩:∃s,s=(s4.row zGR 4).own (E.j+4) (stL (st0 w m)) 4:=⟨_,rfl⟩;have N5:New E.re s5:=by rw[hs5];exact N4.row'.own (by show E.j<=E.j+4;omega)
 have w1:Row s5 ⟨E.j,0,none⟩ (wkc w.J p l c q m d w.rest w.run w.N):=by
  rw[hs5,hs4];exact(wB E.re (wkc w.J p l c q m d w.rest w.run w.N) 6).row.row.row.row.own (by show E.j≠_;omega)
 have w2:Row s5 ⟨E.j+1,0,none⟩ [.slice r l rc]:=by
  rw[hs5,hs4];exact(wB (E.re.row (wkc w.J p l c q m d w.rest w.run w.N) 6) [.slice r l rc] 1).row.row.row.own (by show E.j+1≠_;omega)
 have w3:Row s5 ⟨E.j+2,0,none⟩ [.slice t l tc]:=by
  rw[hs5,hs4];exact(wB ((E.re.row (wkc w.J p l c q m d w.rest w.run w.N) 6).row [.slice r l rc] 1) [.slice t l tc] 1).row.row.own (by show E.j+2≠_;omega)
 have w4:Own s5 (E.j+3) [.slice none 0 0] 1:=by
  rw[hs5,hs4];exact(zX (((E.re.row (wkc w.J p l c q m d w.rest w.run w.N) 6).row [.slice r l rc] 1).row [.slice t l tc] 1) [.slice none 0 0] 1).row.own (by show E.j+3≠_;omega)
 have w5:Own s5 (E.j+4) (stL (st0 w m)) 4:=by rw[hs5];exact oz.put
 have J0:J E (wkc w.J p l c q m d w.rest w.run w.N) (.slice r l rc) (.slice t l tc) (λx=>x∈([]:List Nat)) (st0 w m) [] s5:=⟨N5,w1,w2,w3,w5,none,0,w4,Gr.nil,λb hb=>by obtain⟨a,e,_⟩:=hb;cases e⟩;have hA:∀D j,D<=6->j<=l->(zFL w (yU rs) (yU ts) D++zHD w (yU rs) (yU ts) D j).length<=450:=by
  intro D j hD hj;rw[List.length_append];have h1:=xBW (w:=w) (ros:=yU rs) (tru:=yU ts) (D:=D);have h2:=yIP (w:=w) (ros:=yU rs) (tru:=yU ts) (D:=D) (j:=j);have h3:5*w.L.length*D<=5*12*6:=Nat.mul_le_mul (by omega) hD;omega
 have l0:zJ tP s5 3 ⟨E.re.j,0,none⟩=some (iV w.J):=w1.ld zU rfl;have run:=wDA hn hn7 h hs hsh hr ht hro hts hA J0;rw[hs4]at cb;have R:zQ tP 50 [.agg ⟨wkc w.J p l c q m d w.rest w.run w.N⟩,.slice r l rc,.slice t l tc] E.re λv s=>New E.re s/\v=.slice none 0 0:=by
  refine xVQ cb (by rw[<- hs4];exact hs5 ▸ st) l0 run ?_
  rintro ms z ⟨Jz,hnd,hms⟩;rw[(List.append_eq_nil_iff.1 hE).1]at Jz;have lr:=wAX (E:=E) hm6 (by simp) (λy hy=>(hms y hy).2) Jz;refine yVA (Jz.wk.ld (k:=2) (by kernel_rfl) rfl) lr ?_
  rintro z2 ⟨J2,O2⟩;rw[List.nil_append,show m=w.M.length from hm.symm,(List.append_eq_nil_iff.1 hE).2]at J2;obtain⟨po,co,o,hg,hf⟩:=J2.out;have hpo:po=none/\co=0:=by
   have:=hg.app;cases this with
   |nil=>exact⟨rfl,rfl⟩
   |more _ _ _ _ _ hp _=>exact absurd hp (by simp)
  obtain⟨rfl,rfl⟩:=hpo;have hms2:∀y∈ms,yP z2.heap y=some .defd/\E.j+5<=y:=λy hy=>⟨by rw[O2.get y (hms y hy).2.2 (λhh=>hh hy)];exact(hms y hy).1,(hms y hy).2.1⟩
  have l1:zJ tP z2 76 ⟨E.j+3,0,none⟩=some (.slice none 0 0):=o.ld (k:=0) rfl wEP rfl;have st:=o.store (k:=0) (t:=76) (P:=tP) (v:=.slice none 0 0) (vs:=[.slice none 0 0]) (ds:=[.slice none 0 0]) rfl (by kernel_rfl) rfl (by simp) rfl;obtain⟨z3,k1,k2,k3,k4⟩:=zVU (ms:=ms) (E:=z2.own (E.j+3) [.slice none 0 0] 1) (λy hy=>by
   have:=(hms2 y hy);show yP (St.put _ _ _).heap y=_;rw[St.put_get,if_neg (by omega)];exact this.1) hnd
  have o2:Own z3 (E.j+3) [.slice none 0 0] 1:=o.put.at_ (k3 _ (λe=>by have:=(hms2 _ e).2;omega)) (by rw[k2];exact Nat.le_refl _);have N1:New E.re (z2.own (E.j+3) [.slice none 0 0] 1):=J2.new.own (by show E.j<=E.j+3;omega);exact yUX l1 xSN l1 st k1 (o2.ld (k:=0) rfl wEP rfl) ⟨⟨⟨by rw[k2];exact N1.le.j,λb hb=>by rw[k3 b (λe=>by have:=(hms2 _ e).2;have hb:b<E.j:=hb;omega)];exact N1.le.get b hb⟩,λm h1 h2=>k4 m (N1.low m h1 h2) (λy hy=>by have:=(hms2 y hy).2;have h2:m<=E.j:=h2;omega)⟩,rfl⟩
 obtain⟨v,E',q1,q2,rfl⟩:=R.new (by rintro v s s' e hle;exact e) (by rintro v s hr e;exact e);exact⟨E',q1,q2⟩
end
section
noncomputable section
variable(BA BB:Nat)(s1 slices:oAa)(o:lVa)(dN aX eh ba:Nat)(ar aP:Int)(s2 dO:oAa)(qC:(Option Addr)->Nat->Nat->St->Prop)(q7:Int->Int->St->Prop)(qB:(Option Addr)->Nat->Nat->Int->St->Prop)(dT dP eA dR:Nat)(aH bf eY:Int)(q4:St->Prop)(q0:Int->St->Prop)(E:St)(Nx Qr:Int->St->Prop)(Q:vPa)(qE:(Option Addr)->Nat->Nat->Int->St->Prop)(q8:Int->Int->St->Prop)(Q0:St->Prop)(Q2:(Option Addr)->Nat->Nat->St->Prop)(q9:Int->St->Prop)
def xCT:Code:=(Code.part [1,0,1,0,0] (zV tP 111))
def zWP:lNa:=[(2,pq BA 0),(4,pq BB 0),(7,qf o),(8,iV ar)]
def xUM:Alt:=⟨Int,.normal,λt=>zWP BA BB o t,λt=>[],λt E=>q0 t E⟩
def yID(BA BB:Nat)(o:lVa):lNa:=[(2,pq BA 0),(4,pq BB 0)]
def zTD:Alt:=⟨Unit,(.exit 0),λt=>yID BA BB o,λt=>[],λt E=>q4 E⟩
def yIF:Prop:=yT tP (zZ tP) none xCT 20 (zWP BA BB o ar) [] [xUM BA BB o Nx,zTD BA BB o Q0] E
def xCU:Prop:=yW tP (zZ tP) none xCT 20 (zWP BA BB o ar) [] [zTD BA BB o Q0] E
def yIE:Prop:=kZ (zZ tP) (zV tP 111) [1,0,1,0] (kFn tP 111 Q) (.exit 0) 20 (yID BA BB o) E
def yIX:Code:=(Code.part [1,0,1,0,0] (zV tP 140))
def zFU:lNa:=[(0,.slice s1 dN eh),(1,.slice s2 dT eA),(9,.slice s1 dN eh),(10,iV (dN:Int)),(11,iV aH)]
def xDR:Alt:=⟨Int,.normal,λt=>zFU s1 dN eh s2 dT eA t,λt=>[],λt E=>q0 t E⟩
def zWV(s1:oAa)(dN eh:Nat)(s2:oAa)(dT eA:Nat)(bf:Int):lNa:=[(4,iV bf)]
def zLF:Alt:=⟨Int,.ret,λt=>zWV s1 dN eh s2 dT eA t,λt=>[],λt E=>q0 t E⟩
def zWW:lNa:=[(0,.slice s1 dN eh),(1,.slice s2 dT eA)]
def zLG:Alt:=⟨Unit,(.exit 0),λt=>zWW s1 dN eh s2 dT eA,λt=>[],λt E=>q4 E⟩
def zLH:Prop:=yT tP (zZ tP) none yIX 36 (zFU s1 dN eh s2 dT eA aH) [] [xDR s1 dN eh s2 dT eA Nx,zLF s1 dN eh s2 dT eA Qr,zLG s1 dN eh s2 dT eA Q0] E
def yIY:Prop:=yW tP (zZ tP) none yIX 36 (zFU s1 dN eh s2 dT eA aH) [] [zLF s1 dN eh s2 dT eA Qr,zLG s1 dN eh s2 dT eA Q0] E
def zWX:Prop:=kZ (zZ tP) (zV tP 140) [1,0,1,0] (kFn tP 140 Q) .ret 36 (zWV s1 dN eh s2 dT eA bf) E
def zWY:Prop:=kZ (zZ tP) (zV tP 140) [1,0,1,0] (kFn tP 140 Q) (.exit 0) 36 (zWW s1 dN eh s2 dT eA) E
def xDM:Code:=(Code.part [1,1,0,1,0,0] (zV tP 113))
def zOT:lNa:=[(0,.slice slices aX ba),(3,iV aP),(9,.slice slices aX ba),(10,iV (aX:Int)),(11,iV aH)]
def xVH:Alt:=⟨Int×Int,.normal,λt=>zOT slices aX ba t.1 t.2,λt=>[],λt E=>q7 t.1 t.2 E⟩
def yIS:lNa:=[(0,.slice slices aX ba),(3,iV aP)]
def zTH:Alt:=⟨Int,(.exit 0),λt=>yIS slices aX ba t,λt=>[],λt E=>q0 t E⟩
def yIW:Prop:=yT tP (zZ tP) none xDM 36 (zOT slices aX ba aP aH) [] [xVH slices aX ba q8,zTH slices aX ba q9] E
def xDO:Prop:=yW tP (zZ tP) none xDM 36 (zOT slices aX ba aP aH) [] [zTH slices aX ba q9] E
def yIU:Prop:=kZ (zZ tP) (zV tP 113) [1,1,0,1,0] (kFn tP 113 Q) (.exit 0) 36 (yIS slices aX ba aP) E
def xDL:Code:=(Code.part [1,1,1,1,0,1,0,0] (zV tP 113))
def zOS:lNa:=[(6,.slice dO dP dR),(25,.slice slices aX ba),(26,iV (aX:Int)),(27,iV eY)]
def xVG:Alt:=⟨(Option Addr)×Nat×Nat×Int,.normal,λt=>zOS slices aX ba t.1 t.2.1 t.2.2.1 t.2.2.2,λt=>[],λt E=>qB t.1 t.2.1 t.2.2.1 t.2.2.2 E⟩
def yIR(slices:oAa)(aX ba:Nat)(dO:oAa)(dP dR:Nat):lNa:=[(6,.slice dO dP dR)]
def zTG:Alt:=⟨(Option Addr)×Nat×Nat,(.exit 2),λt=>yIR slices aX ba t.1 t.2.1 t.2.2,λt=>[],λt E=>qC t.1 t.2.1 t.2.2 E⟩
def yIV:Prop:=yT tP (zZ tP) none xDL 36 (zOS slices aX ba dO dP dR eY) [] [xVG slices aX ba qE,zTG slices aX ba Q2] E
def xDN:Prop:=yW tP (zZ tP) none xDL 36 (zOS slices aX ba dO dP dR eY) [] [zTG slices aX ba Q2] E
def yIT:Prop:=kZ (zZ tP) (zV tP 113) [1,1,1,1,0,1,0] (kFn tP 113 Q) (.exit 2) 36 (yIR slices aX ba dO dP dR) E
end
variable{BA BB l1 c1 l2 c2 dN eh dT eA aX ba lA cA dP dR lI cI lG cC lP cW s_l s_c l3 c3 l5 c5 l6 c6:Nat}{o g_0 cs1838 cs1840:lVa}{Inv:Nat->Int->St->Prop}{Q0 P0:St->Prop}{ar nH nJ n3 aH nD bf x y aP eY n n1 n2:Int}{EL E EG ECB V4:St}{Nx Qr Pr:Int->St->Prop}{Q:vPa}{q1 q2 s1 s2 slices qA dO qH qD qY s q3 q5 q6:oAa}{s1_a s2_a hZ:Addr}{Q2 P2:(Option Addr)->Nat->Nat->St->Prop}
theorem xCS(hb:∀k ar E,Inv k ar E->yIF BA BB o ar E (NX1 Inv k) Q0):∀k ar E,Inv k ar E->xCU BA BB o ar E Q0 :=
 xE (ai (wF 0) trivial) hb
theorem xUL(h1:zTB tP 126 (qf o) (iV ar)=some (iV nH))(h2:LDz E 3 ⟨BA,0+Int.toNat ar*1,none⟩ (iV nJ))(h3:SOz E 3 ⟨BA,0+Int.toNat ar*1,none⟩ (iV (nJ+nH)) EL)(nx:Nx (ar+1) EL)(u1:ar<6:=by omega)(u2:Ix ar 6:=by omega)(u3:I6 (nJ+nH):=by omega)(u4:I6 (ar+1):=by omega):yIF BA BB o ar E Nx Q0 :=
 eO 0 (ar+1) [.b (zT u1),.g,.v h1,.g3,.i u2,.l h2,.g,.w u3,.i u2,.e h3,.w u4,.g] nx
theorem xUK(nx:Q0 E)(u1:¬ar<6:=by omega):yIF BA BB o ar E Nx Q0 :=
 eO 1 () [.b (zY u1)] nx
theorem wCA:let y0:=((E.row g_0 1).row o 1).row (zS 0 0 0 0 0 0) 1;∀(h1:LDz y0 126 ⟨(E.j+1),0,none⟩ (qf o)) (hL:xCU E.j (E.j+2) o 0 y0 P0) (k0:∀E',P0 E'->yIE E.j (E.j+2) o E' Q),zQ tP 111 [qf g_0,qf o] E Q :=
 let s1:=zWP E.j (E.j+2) o 0;λh1 hL k0=>eQ [.g3,.l h1,.g,.k (.lf 20 s1 [zTD E.j (E.j+2) o P0])] (ai (ai tt (ai (arf s1) hL)) (ai (kz0 k0) trivial))
theorem xCR(h1:LDz E 126 (qe BA 0) (qf cs1838))(h2:SOz E 126 (qe BB 0) (qf cs1838) EG)(h3:LDz EG 126 (qe BB 0) (qf cs1840))(nx:Q (qf cs1840) EG):yIE BA BB o E Q :=
 eK [.l h1,.e h2,.l h3] nx
@[reducible] def Ha5(E:St)(g_0 o:lVa)(q1 q2:oAa)(l1 c1 l2 c2:Nat)(n3:Int):Prop:=LDz ((E.row g_0 1).row o 1) 126 ⟨E.j,0,none⟩ (.agg ⟨g_0⟩)/\(LDz ((E.row g_0 1).row o 1) 126 ⟨(E.j+1),0,none⟩ (.agg ⟨o⟩))/\wW tP .neq 126 (.tmp 5) (.tmp 6) (.agg ⟨g_0⟩) (.agg ⟨o⟩)=some (.bool true)/\uM tP ((E.row g_0 1).row o 1) 126 (.pointer (some ⟨E.j,0,none⟩)) none none none=some (.slice q1 l1 c1)/\(uM tP ((E.row g_0 1).row o 1) 126 (.pointer (some ⟨(E.j+1),0,none⟩)) none none none=some (.slice q2 l2 c2))/\CPz 140 [.slice q1 l1 c1,.slice q2 l2 c2] ((E.row g_0 1).row o 1) (iV n3)
theorem wCD(H:Ha5 E g_0 o q1 q2 l1 c1 l2 c2 n3)(nx:Q (.bool true) ((E.row g_0 1).row o 1))(u1:0<n3:=by omega):zQ tP 112 [qf g_0,qf o] E Q :=
 match H with|⟨h1,h2,h3,h4,h5,h6⟩=>eQ [.g3,.l h1,.l h2,.v h3,.g,.v h4,.v h5,.c h6,.b (zT u1),.g2] nx
theorem wCC(H:Ha5 E g_0 o q1 q2 l1 c1 l2 c2 n3)(nx:Q (.bool false) ((E.row g_0 1).row o 1))(u1:¬0<n3:=by omega):zQ tP 112 [qf g_0,qf o] E Q :=
 match H with|⟨h1,h2,h3,h4,h5,h6⟩=>eQ [.g3,.l h1,.l h2,.v h3,.g,.v h4,.v h5,.c h6,.b (zY u1),.g2] nx
theorem wCB:let y0:=(E.row g_0 1).row o 1;∀(h1:LDz y0 126 (qe E.j 0) (qf g_0)) (h2:LDz y0 126 ⟨(E.j+1),0,none⟩ (qf o)) (h3:wW tP .neq 126 (.tmp 5) (.tmp 6) (qf g_0) (qf o)=some (.bool false)) (nx:Q (.bool false) y0),zQ tP 112 [qf g_0,qf o] E Q :=
 λh1 h2 h3 nx=>eQ [.g3,.l h1,.l h2,.v h3,.g3] nx
theorem yLW(hb:∀k aH E,Inv k aH E->zLH s1 dN eh s2 dT eA aH E (NX1 Inv k) Qr Q0):∀k aH E,Inv k aH E->yIY s1 dN eh s2 dT eA aH E Qr Q0 :=
 xE (ai wX (ai (wF 0) trivial)) hb
theorem yCF(h1:LDz E 3 (zO s1_a (Int.toNat aH*1)) (iV nH))(h2:LDz E 3 (zO s2_a (Int.toNat aH*1)) (iV nJ))(h3:CPz 164 [iV nH,iV nJ] E (iV nD))(nx:Qr nD E)(u1:aH<(dN:Int):=by omega)(u2:Ix aH dN:=by omega)(u3:¬(dT:Int)<=aH:=by omega)(u4:Ix aH dT:=by omega)(u5:¬nD=0:=by omega):zLH (some s1_a) dN eh (some s2_a) dT eA aH E Nx Qr Q0 :=
 eO 1 nD [.b (zT u1),.g,.i u2,.l h1,.g5,.b (xX u3),.g2,.i u4,.l h2,.g3,.c h3,.g2,.b (uA u5),.g2] nx
theorem xDQ(h1:LDz E 3 (zO s1_a (Int.toNat aH*1)) (iV nH))(h2:LDz E 3 (zO s2_a (Int.toNat aH*1)) (iV nJ))(h3:CPz 164 [iV nH,iV nJ] E (iV nD))(nx:Nx (aH+1) E)(u1:aH<(dN:Int):=by omega)(u2:Ix aH dN:=by omega)(u3:¬(dT:Int)<=aH:=by omega)(u4:Ix aH dT:=by omega)(u5:nD=0:=by omega)(u6:I6 (aH+1):=by omega):zLH (some s1_a) dN eh (some s2_a) dT eA aH E Nx Qr Q0 :=
 eO 0 (aH+1) [.b (zT u1),.g,.i u2,.l h1,.g5,.b (xX u3),.g2,.i u4,.l h2,.g3,.c h3,.g2,.b (yY u5),.w u6,.g] nx
theorem xDP(nx:Q0 E)(u1:¬aH<(dN:Int):=by omega):zLH s1 dN eh s2 dT eA aH E Nx Qr Q0 :=
 eO 2 () [.b (zY u1)] nx
theorem xLH(hL:yIY s1 dN eh s2 dT eA 0 E Pr P0)(kr:∀i4_1' E',Pr i4_1' E'->zWX s1 dN eh s2 dT eA i4_1' E' Q)(k0:∀E',P0 E'->zWY s1 dN eh s2 dT eA E' Q):zQ tP 140 [.slice s1 dN eh,.slice s2 dT eA] E Q :=
 eQ [.g4,.k (.lf 36 (zFU s1 dN eh s2 dT eA 0) [zLF s1 dN eh s2 dT eA Pr,zLG s1 dN eh s2 dT eA P0])] (ai (ai tt (ai (arf (zFU s1 dN eh s2 dT eA 0)) hL)) (ai (kz1 kr) (ai (kz0 k0) trivial)))
theorem yLU(nx:Q (iV bf) E):zWX s1 dN eh s2 dT eA bf E Q :=
 eK [] nx
theorem yLV(nx:Q (iV 0) E)(u1:¬(dN:Int)<(dT:Int):=by omega):zWY s1 dN eh s2 dT eA E Q :=
 eK [.g4,.b (zY u1),.g] nx
theorem wJE(h1:CPz 174 [iV x] E (.bool false))(h2:CPz 174 [iV y] E (.bool false))(nx:Q (iV (-1)) E)(u1:x<y:=by omega):zQ tP 164 [iV x,iV y] E Q :=
 eQ [.g2,.c h1,.g2,.c h2,.g5,.b (zT u1),.g] nx
theorem wJD(h1:CPz 174 [iV x] E (.bool false))(h2:CPz 174 [iV y] E (.bool false))(nx:Q (iV 1) E)(u1:¬x<y:=by omega)(u2:y<x:=by omega):zQ tP 164 [iV x,iV y] E Q :=
 eQ [.g2,.c h1,.g2,.c h2,.g5,.b (zY u1),.g2,.b (zT u2),.g] nx
theorem wJC(h1:CPz 174 [iV x] E (.bool false))(h2:CPz 174 [iV y] E (.bool false))(nx:Q (iV 0) E)(u1:¬x<y:=by omega)(u2:¬y<x:=by omega):zQ tP 164 [iV x,iV y] E Q :=
 eQ [.g2,.c h1,.g2,.c h2,.g5,.b (zY u1),.g2,.b (zY u2),.g] nx
theorem wBC(nx:Q (.bool false) E)(u1:x=x:=by omega):zQ tP 174 [iV x] E Q :=
 eQ [.g3,.b (yY u1),.g] nx
theorem xDK{Inv:Nat->Int->Int->St->Prop}{Q0:Int->St->Prop}(hb:∀k aP aH E,Inv k aP aH E->yIW slices aX ba aP aH E (NX2 Inv k) Q0):∀k aP aH E,Inv k aP aH E->xDO slices aX ba aP aH E Q0 :=
 zFM (ai (wF 0) trivial) hb
theorem xVF{Nx:Int->Int->St->Prop}{Q0:Int->St->Prop}(h1:LDz E 48 (zO hZ (Int.toNat aH*1)) (.slice qA lA cA))(nx:Nx (aP+(lA:Int)) (aH+1) E)(u1:aH<(aX:Int):=by omega)(u2:Ix aH aX:=by omega)(u3:I6 (aP+(lA:Int)):=by omega)(u4:¬(aP+(lA:Int))<0:=by omega)(u5:I6 (aH+1):=by omega):yIW (some hZ) aX ba aP aH E Nx Q0 :=
 eO 0 ((aP+(lA:Int)),aH+1) [.b (zT u1),.i u2,.l h1,.g4,.w u3,.g2,.b (zY u4),.w u5,.g] nx
theorem xVE{Nx:Int->Int->St->Prop}{Q0:Int->St->Prop}(nx:Q0 aP E)(u1:¬aH<(aX:Int):=by omega):yIW slices aX ba aP aH E Nx Q0 :=
 eO 1 aP [.b (zY u1)] nx
theorem wDH{P0:Int->St->Prop}(hL:xDO slices aX ba 0 0 E P0)(k0:∀i3_1' E',P0 i3_1' E'->yIU slices aX ba i3_1' E' Q):zQ tP 113 [.slice slices aX ba] E Q :=
 eQ [.g5,.k (.lf 36 (zOT slices aX ba 0 0) [zTH slices aX ba P0])] (ai (ai tt (ai (arf (zOT slices aX ba 0 0)) hL)) (ai (kz1 k0) trivial))
theorem xDJ{Inv:Nat->(Option Addr)->Nat->Nat->Int->St->Prop}(hb:∀k dO dP dR eY E,Inv k dO dP dR eY E->yIV slices aX ba dO dP dR eY E (NX4 Inv k) Q2):∀k dO dP dR eY E,Inv k dO dP dR eY E->xDN slices aX ba dO dP dR eY E Q2 :=
 zKS (ai (wF 2) trivial) hb
theorem xVD{Nx:(Option Addr)->Nat->Nat->Int->St->Prop}(h1:LDz E 48 (zO hZ (Int.toNat eY*1)) (.slice qH lI cI))(h2:APz 48 48 (.slice dO dP dR) (.slice qH lI cI) E (.slice qD lG cC) ECB)(nx:Nx qD lG cC (eY+1) ECB)(u1:eY<(aX:Int):=by omega)(u2:Ix eY aX:=by omega)(u3:I6 (eY+1):=by omega):yIV (some hZ) aX ba dO dP dR eY E Nx Q2 :=
 eO 0 (qD,lG,cC,eY+1) [.b (zT u1),.i u2,.l h1,.g3,.e h2,.g,.w u3,.g] nx
theorem xVC{Nx:(Option Addr)->Nat->Nat->Int->St->Prop}(nx:Q2 dO dP dR E)(u1:¬eY<(aX:Int):=by omega):yIV slices aX ba dO dP dR eY E Nx Q2 :=
 eO 1 (dO,dP,dR) [.b (zY u1)] nx
theorem xDI(h1:CAz 141 [.slice none 0 0,iV aP] E (.slice qY lP cW) EG)(hL:xDN slices aX ba qY lP cW 0 EG P2)(k2:∀p6_2' l6_2' c6_2' E',P2 p6_2' l6_2' c6_2' E'->yIT slices aX ba p6_2' l6_2' c6_2' E' Q):yIU slices aX ba aP E Q :=
 eK [.g,.c h1,.g4,.k (.lf 36 (zOS slices aX ba qY lP cW 0) [zTG slices aX ba P2])] (ai (ai tt (ai (arf (zOS slices aX ba qY lP cW 0)) hL)) (ai (kz3 k2) trivial))
theorem xDH(nx:Q (.slice dO dP dR) E):yIT slices aX ba dO dP dR E Q :=
 eK [.g2] nx
theorem wBY(h1:wA tP (evL [.slice s s_l s_c]) E (.call { callee:=.builtin .cap,args:=⟨wT 1⟩,argTypes:=⟨[48]⟩ })=some (iV n1))(h2:wA tP (evL [.slice s s_l s_c]) E (.call { callee:=.builtin .cap,args:=⟨wT 1⟩,argTypes:=⟨[48]⟩ })=some (iV n2))(h3:uM tP E 48 (.slice s s_l s_c) none (some (iV n2)) none=some (.slice q3 l3 c3))(h4:APz 48 3 (.slice q3 l3 c3) (iV (n-(n1-(s_l:Int)))) E (.slice q5 l5 c5) V4)(h5:uM tP V4 48 (.slice q5 l5 c5) none (some (iV (s_l:Int))) none=some (.slice q6 l6 c6))(nx:Q (.slice q6 l6 c6) V4)(u1:¬n<0:=by omega)(u2:I6 (n1-(s_l:Int)):=by omega)(u3:I6 (n-(n1-(s_l:Int))):=by omega)(u4:0<(n-(n1-(s_l:Int))):=by omega):zQ tP 141 [.slice s s_l s_c,iV n] E Q :=
 eQ [.g2,.b (zY u1),.g2,.v h1,.g2,.w u2,.w u3,.g2,.b (zT u4),.g2,.v h2,.v h3,.g,.e h4,.g2,.v h5,.g3] nx
theorem wBX(h1:wA tP (evL [.slice s s_l s_c]) E (.call { callee:=.builtin .cap,args:=⟨wT 1⟩,argTypes:=⟨[48]⟩ })=some (iV n1))(nx:Q (.slice s s_l s_c) E)(u1:¬n<0:=by omega)(u2:I6 (n1-(s_l:Int)):=by omega)(u3:I6 (n-(n1-(s_l:Int))):=by omega)(u4:¬0<(n-(n1-(s_l:Int))):=by omega):zQ tP 141 [.slice s s_l s_c,iV n] E Q :=
 eQ [.g2,.b (zY u1),.g2,.v h1,.g2,.w u2,.w u3,.g2,.b (zY u4),.g2] nx
end
section
variable{t d i b c:Nat}{D x y:Int}{f:Nat->Int}{a v:List Int}
section
variable{P:Program}
theorem xZL{e sz d:Nat}{xs ys:Array Value}{R:Nat->Bool}:∀(L:List Nat),(∀i∈L,∃a b,yL P (part e xs (i*sz))=some a/\yL P (part e ys (i*sz))=some b/\yL P (Op.equalIn d e a b)=some (R i)) ->
  yL P (forIn L ((none,()):Option Bool×Unit) λi __s=>do
    let a <- part e xs (i*sz)
    let b <- part e ys (i*sz)
    let r <- Op.equalIn d e a b
    if(!r)=true then pure (ForInStep.done (some false,()))else pure (ForInStep.yield (none,())))=some (if ∀i∈L,R i=true then(none,())else(some false,()))
 |[],_=>by simp;rfl
 |i::L,h=>by
  obtain⟨a,b,h1,h2,h3⟩:=h i List.mem_cons_self;rw[List.forIn_cons,xT,xT,h1];simp only[Option.bind_some];rw[xT,h2];simp only[Option.bind_some];rw[xT,h3];simp only[Option.bind_some];cases e1:R i with
  |true =>
   simp only[Bool.not_true,Bool.false_eq_true,if_false,zWB,Option.bind_some];rw[xZL L (λj hj=>h j (List.mem_cons_of_mem _ hj))];by_cases e2:∀j∈L,R j=true
   .rw[if_pos e2,if_pos (λj hj=>by rcases List.mem_cons.1 hj with rfl|hj;exact e1;exact e2 j hj)]
   .rw[if_neg e2,if_neg (λh=>e2 λj hj=>h j (List.mem_cons_of_mem _ hj))]
  |false =>
   simp only[Bool.not_false,if_true,zWB,Option.bind_some];rw[if_neg (λh=>by rw[h i List.mem_cons_self]at e1;cases e1)]
theorem xZM{e n sz:Nat}(hu:P.underlying t=some (.array n e))(hs:yL P (sizeOf e)=some sz){xs ys:Array Value}{R:Nat->Bool}(h:∀i,i<n->∃a b,yL P (part e xs (i*sz))=some a/\yL P (part e ys (i*sz))=some b/\yL P (Op.equalIn d e a b)=some (R i)) :
  yL P (Op.equalIn (d+1) t (.agg xs) (.agg ys))=some ((List.range n).all R):=by
 have key:=xZL (P:=P) (e:=e) (sz:=sz) (d:=d) (xs:=xs) (ys:=ys) (R:=R) (List.range' 0 n) (λi hi=>h i (by simpa using hi));unfold Op.equalIn;rw[xT,zOA hu];simp only[Option.bind_some];rw[xT,hs];simp only[Option.bind_some];rw[xT,Std.Legacy.Range.forIn_eq_forIn_range'];simp only[Std.Legacy.Range.size,Nat.sub_zero,Nat.add_sub_cancel,Nat.div_one];rw[key];simp only[Option.bind_some];cases e:(List.range n).all R with
 |true=>rw[if_pos (λi hi=>List.all_eq_true.1 e i (by simpa using hi))];rfl
 |false=>rw[if_neg (λh=>by rw[List.all_eq_true.2 λi hi=>h i (by simpa using hi)]at e;cases e)];rfl
theorem wMN {f1 f2:Field} (hu : P.underlying t = some (.struct #[f1, f2])) (hh : P.stoodInHeld t = false) (n1 : f1.name ≠ "_") (n2 : f2.name ≠ "_") {xs ys : Array Value} {a1 b1 a2 b2 : Value} {r1 r2 : Bool}
  (h1:yL P (part f1.type xs f1.offset)=some a1) (h2:yL P (part f1.type ys f1.offset)=some b1) (e1:yL P (Op.equalIn d f1.type a1 b1)=some r1)
  (h3:yL P (part f2.type xs f2.offset)=some a2) (h4:yL P (part f2.type ys f2.offset)=some b2) (e2:yL P (Op.equalIn d f2.type a2 b2)=some r2) :
  yL P (Op.equalIn (d+1) t (.agg xs) (.agg ys))=some (r1&&r2):=by
 unfold Op.equalIn;rw[xT,zOA hu];simp only[Option.bind_some];rw[xT,yTL];simp only[Option.bind_some,hh,Bool.false_eq_true,if_false];rw[xT,<- Array.forIn_toList];show(yL P (forIn [f1,f2] _ _)).bind _=_;rw[List.forIn_cons,xT];simp only[if_pos n1];rw[xT,h1];simp only[Option.bind_some];rw[xT,h2];simp only[Option.bind_some];rw[xT,e1];simp only[Option.bind_some];cases r1 with
 |false=>rfl
 |true =>
  simp only[Bool.not_true,Bool.false_eq_true,if_false,zWB,Option.bind_some];rw[List.forIn_cons,xT];simp only[if_pos n2];rw[xT,h3];simp only[Option.bind_some];rw[xT,h4];simp only[Option.bind_some];rw[xT,e2];simp only[Option.bind_some];cases r2 <;> rfl
end
theorem wMO(d:Nat)(s t:Std):yL tP (Op.equalIn (d+2) 175 (zQN s) (zQN t))=some (decide (s=t)):=by
 have h:yL tP (Op.equalIn (d+2) 175 (.agg ⟨[s.free,s.row,s.used,s.day].map λx=>iV x⟩) (.agg ⟨[t.free,t.row,t.used,t.day].map λx=>iV x⟩))=some (decide ([s.free,s.row,s.used,s.day]=[t.free,t.row,t.used,t.day])):=wMP (n:=4) (by kernel_rfl) rfl rfl;have e:decide ([s.free,s.row,s.used,s.day]=[t.free,t.row,t.used,t.day])=decide (s=t):=by
  refine decide_eq_decide.2 ?_
  cases s;cases t
  simp
 rw[<- e];exact h
theorem xBV(f:Nat->Std){i:Nat}(hi:i<6):yL tP (part 175 ⟨stL f⟩ (i*4))=some (zQN (f i)):=by
 match i,hi with
 |0,_=>show _=_;kernel_rfl
 |1,_=>show _=_;kernel_rfl
 |2,_=>show _=_;kernel_rfl
 |3,_=>show _=_;kernel_rfl
 |4,_=>show _=_;kernel_rfl
 |5,_=>show _=_;kernel_rfl
theorem xTJ(d:Nat)(f g:Nat->Std):yL tP (Op.equalIn (d+3) 177 (.agg ⟨stL f⟩) (.agg ⟨stL g⟩))=some ((List.range 6).all λi=>decide (f i=g i)) :=
 xZM (P:=tP) (t:=177) (e:=175) (n:=6) (sz:=4) (d:=d+2) (by kernel_rfl) (by kernel_rfl) (xs:=⟨stL f⟩) (ys:=⟨stL g⟩) (R:=λi=>decide (f i=g i)) (λi hi=>⟨_,_,xBV f hi,xBV g hi,wMO d _ _⟩)
structure Key where
 day:Int
 l:List Std
 h:l.length=6
 deriving DecidableEq
def zKV(k:Key)(i:Nat):Std:=k.l.getD i yCT
def xCJ(k:Key):Value:=.agg ⟨iV k.day::stL (zKV k)⟩
def zOE(D:Int)(f:Nat->Std):Key:=⟨D,(List.range 6).map f,by simp⟩
theorem zDC{f:Nat->Std}(hi:i<6):zKV (zOE D f) i=f i:=by
 unfold zKV zOE;simp[hi]
theorem yTX(D:Int)(f:Nat->Std):xCJ (zOE D f)=.agg ⟨iV D::stL f⟩:=by
 unfold xCJ stL;rw[zDC (by omega),zDC (by omega),zDC (by omega),zDC (by omega),zDC (by omega),zDC (by omega)];rfl
theorem wBA{a b:Key}:a=b↔a.day=b.day/\∀i,i<6->zKV a i=zKV b i:=by
 constructor
 .rintro rfl;exact⟨rfl,λ_ _=>rfl⟩
 .rintro⟨h1,h2⟩;obtain⟨d,l,hl⟩:=a;obtain⟨e,m,hm⟩:=b;have:l=m:=by
   apply List.ext_getElem (by omega);intro i g1 g2;have:=h2 i (by omega);simpa [zKV,g1,g2] using this
  subst this;simp only at h1;subst h1;rfl
theorem wBB{E2:Int}{f g:Nat->Std}:zOE D f=zOE E2 g↔D=E2/\∀i,i<6->f i=g i:=by
 rw[wBA];refine and_congr_right λ_=>⟨λh i hi=>?_,λh i hi=>?_⟩
 .have:=h i hi;rwa [zDC hi,zDC hi]at this
 .rw[zDC hi,zDC hi];exact h i hi
theorem xZI(a b:Key):yL tP (Op.equal 180 (xCJ a) (xCJ b))=some (decide (a=b)):=by
 have e:decide (a=b)=((a.day == b.day)&&(List.range 6).all λi=>decide (zKV a i=zKV b i)):=by
  rw[Bool.eq_iff_iff,decide_eq_true_eq,Bool.and_eq_true,beq_iff_eq,zHV,wBA];exact and_congr_right λ_=>⟨λh i hi=>decide_eq_true (h i hi),λh i hi=>of_decide_eq_true (h i hi)⟩
 rw [e];have hu : ∃ f1 f2 : Field, tP.underlying 180 = some (.struct #[f1, f2]) ∧ f1.type = 3 ∧ f1.offset = 0 ∧ f1.name ≠ "_" ∧ f2.type = 177 ∧ f2.offset = 1 ∧ f2.name ≠ "_" := ⟨_, _, Tryz.underlying180, rfl, rfl, by decide, rfl, rfl, by decide⟩
 obtain⟨f1,f2,hu,t1,o1,n1,t2,o2,n2⟩:=hu;refine wMN (P:=tP) (t:=180) (d:=9999) hu (by kernel_rfl) n1 n2 (xs:=⟨iV a.day::stL (zKV a)⟩) (ys:=⟨iV b.day::stL (zKV b)⟩)
  (a1:=iV a.day) (b1:=iV b.day) (a2:=.agg ⟨stL (zKV a)⟩) (b2:=.agg ⟨stL (zKV b)⟩) (r1:=a.day == b.day) (r2:=(List.range 6).all λi=>decide (zKV a i=zKV b i)) ?_ ?_ ?_ ?_ ?_ ?_
 .rw[t1,o1];kernel_rfl
 .rw[t1,o1];kernel_rfl
 .rw[t1];exact zKM (d:=9998) (k:=.i64) (by kernel_rfl) _ _ _
 .rw[t2,o2];kernel_rfl
 .rw[t2,o2];kernel_rfl
 .rw[t2];exact xTJ 9996 _ _
theorem yLR:∀(n:Nat) (xs:List Int),Instr.sameBits (n+2) (.agg ⟨xs.map yK⟩) (.agg ⟨xs.map yK⟩)=true:=by
 intro n xs;simp[Instr.sameBits];intro x y hxy;have key:∀(m:List Int),(x,y)∈(m.map yK).zip (m.map yK)->∃c,x=yK c/\y=yK c:=by
  intro m;induction m with
  |nil=>intro h;cases h
  |cons c m ih =>
   intro h;simp only[List.map_cons,List.zip_cons_cons,List.mem_cons,Prod.mk.injEq]at h;rcases h with h|h
   .exact⟨c,h.1,h.2⟩
   .exact ih h
 obtain⟨c,rfl,rfl⟩:=key xs hxy;simp[Instr.sameBits]
def wQE(k:Key):List Int:=k.day::(List.range 6).flatMap λi=>[(zKV k i).free,(zKV k i).row,(zKV k i).used,(zKV k i).day]
theorem zFR:KeyT tP 180 xCJ:=by
 refine⟨xZI,λe a=>?_,λa=>?_⟩
 .have h:∀(e:Bool) (D:Int) (f:Nat->Std),zIF tP e 180 (.agg ⟨iV D::stL f⟩)=true:=λe D f=>by kernel_rfl
  exact h e a.day (zKV a)
 .have:xCJ a=.agg ⟨(wQE a).map yK⟩:=rfl;rw[this];exact yLR 9998 _
theorem wAU:zCH tP 168=some (180,172):=by kernel_rfl
def six(v:List Int):List Value:=vI 6 λi=>v.getD i 0
theorem zAY(v:List Int):six v=zS (v.getD 0 0) (v.getD 1 0) (v.getD 2 0) (v.getD 3 0) (v.getD 4 0) (v.getD 5 0):=rfl
section
variable{E:St}
theorem wGV(hi:i<6):zTB tP 126 (.agg ⟨vI 6 f⟩) (iV (i:Int))=some (iV (f i)):=by
 match i,hi with
 |0,_=>show _=_;kernel_rfl
 |1,_=>show _=_;kernel_rfl
 |2,_=>show _=_;kernel_rfl
 |3,_=>show _=_;kernel_rfl
 |4,_=>show _=_;kernel_rfl
 |5,_=>show _=_;kernel_rfl
theorem wLR(o:Own E b (vI 6 f) 1)(hi:i<6):zJ tP E 3 ⟨b,0+Int.toNat (i:Int)*1,none⟩=some (iV (f i)):=by
 have:=o.ldI (P:=tP) (t:=3) (i:=i) zU (yGN hi);simpa [zO] using this
theorem xXX(o:Own E b (vI 6 f) 1)(hi:i<6):yN tP (evL [.pointer (some ⟨b,0+Int.toNat (i:Int)*1,none⟩),iV x]) E (.store 3 (.tmp 0) (.tmp 1))=some (undef,E.own b (vI 6 λs=>if s=i then x else f s) 1):=by
 have:=o.stI (P:=tP) (t:=3) (v:=iV x) (i:=i) rfl vL rfl (by rw[zBV];exact hi);rw[xXY hi]at this;simpa [zO] using this
theorem zKF(o:Own E b (vI 6 f) 1):zJ tP E 126 ⟨b,0,none⟩=some (.agg ⟨vI 6 f⟩):=o.ldN (k:=0) zAQ wK (ds:=vI 6 f) rfl rfl (by rw[zBV];decide)
theorem xMZ{g:Nat->Int}(o:Own E b (vI 6 f) 1):yN tP (evL [.pointer (some ⟨b,0,none⟩),.agg ⟨vI 6 g⟩]) E (.store 126 (.tmp 0) (.tmp 1))=some (undef,E.own b (vI 6 g) 1) :=
 o.store (k:=0) (vs:=vI 6 g) rfl wK (by simp[vI];intro x _;rfl) (by rw[zBV,zBV];decide) (by simp[zBV,List.drop_eq_nil_of_le])
theorem xTL{b:List Int}(ha:a.length=6)(hb:b.length=6)(hi:i<6):(zAM a b).getD i 0=a.getD i 0+b.getD i 0:=by
 unfold zAM;rw[List.getD_eq_getElem?_getD,List.getD_eq_getElem?_getD,List.getD_eq_getElem?_getD,List.getElem?_zipWith,List.getElem?_eq_getElem (by omega:i<a.length),List.getElem?_eq_getElem (by omega:i<b.length)];rfl
def Bd(n:Int)(v:List Int):Prop:=∀x∈v,0<=x/\x<=n
theorem Bd.get{n:Int}(h:Bd n v)(hn:0<=n)(i:Nat):0<=v.getD i 0/\v.getD i 0<=n:=by
 rw[List.getD_eq_getElem?_getD];cases hx:v[i]? with
 |none=>exact⟨Int.le_refl _,hn⟩
 |some x=>exact h x (List.mem_of_getElem? hx)
theorem wMQ{b:List Int}(ha:a.length=6)(hb:b.length=6)(h1:Bd 1000000 a)(h2:Bd 1000000 b):zW tP 111 [.agg ⟨six a⟩,.agg ⟨six b⟩] E (.agg ⟨six (zAM a b)⟩) E:=by
 obtain⟨O0,hE0⟩:∃O0,O0=((E.re.row (six a) 1).row (six b) 1).row (zS 0 0 0 0 0 0) 1:=⟨_,rfl⟩;have N0:New E.re O0:=by rw[hE0];exact((New.row _ _ _).row').row'
 have o1:Own O0 E.j (six a) 1:=by rw[hE0];exact(zX E.re (six a) 1).row.row
 have o2:Own O0 (E.j+1) (six b) 1:=by rw[hE0];exact(zX (E.re.row (six a) 1) (six b) 1).row
 have o3:Own O0 (E.j+2) (vI 6 λ_=>0) 1:=by rw[hE0];exact zX ((E.re.row (six a) 1).row (six b) 1) (zS 0 0 0 0 0 0) 1
 have l1:=zKF o2;rw[hE0]at l1;refine(wCA l1 (xCS (Inv:=λk i O=>New E.re O/\∃j:Nat,i=j/\j+k=6/\Own O E.j (vI 6 λs=>if s<j then a.getD s 0+b.getD s 0 else a.getD s 0) 1/\Own O (E.j+2) (vI 6 λ_=>0) 1)
  (Q0:=λO=>New E.re O/\Own O E.j (six (zAM a b)) 1/\Own O (E.j+2) (vI 6 λ_=>0) 1) ?_ 6 0 _ ⟨by rw[<- hE0];exact N0,0,rfl,rfl,by rw[<- hE0];exact o1,by rw[<- hE0];exact o3⟩) ?_).pure
 .rintro k i O ⟨hN,j,rfl,hk,w1,w2⟩;by_cases hj:j<6
  .have hid:=wGV (f:=λi=>b.getD i 0) hj;have hl:=wLR w1 hj;rw[if_neg (by omega)]at hl;have b1:=h1.get (by decide) j;have b2:=h2.get (by decide) j;have st:=xXX (x:=a.getD j 0+b.getD j 0) w1 hj;have hlt:=w2.lt;refine xUL hid hl st ⟨k-1,by omega,hN.own (by show E.j<=E.j;omega),j+1,by omega,by omega, ?_,w2.own (by omega)⟩;have e:(vI 6 λs=>if s=j then a.getD j 0+b.getD j 0 else if s<j then a.getD s 0+b.getD s 0 else a.getD s 0)=vI 6 λs=>if s<j+1 then a.getD s 0+b.getD s 0 else a.getD s 0:=by
    refine zFC λs hs=>?_
    by_cases e1:s=j
    .subst e1;rw[if_pos rfl,if_pos (by omega)]
    .rw[if_neg e1];by_cases e2:s<j
     .rw[if_pos e2,if_pos (by omega)]
     .rw[if_neg e2,if_neg (by omega)]
   rw[<- e];exact w1.put
  .have:j=6:=by omega
   subst this;refine xUK ⟨hN, ?_,w2⟩;have e:(vI 6 λs=>if s<6 then a.getD s 0+b.getD s 0 else a.getD s 0)=six (zAM a b):=by
    refine zFC λs hs=>?_
    rw[if_pos hs,xTL ha hb hs]
   rw[<- e];exact w1
 .rintro O ⟨hN,w1,w2⟩;exact xCR (zKF w1) (xMZ w2) (zKF w2.put) ⟨rfl,(hN.own (b:=E.j+2) (n:=1) (cs:=six (zAM a b)) (by show E.j<=E.j+2;omega)).lw⟩
theorem yOA:zW tP 174 [iV x] E (.bool false) E:=(wBC ⟨rfl,Nat.le_refl _⟩).pure
theorem wNQ:zW tP 164 [iV x,iV y] E (iV (if x<y then -1 else if y<x then 1 else 0)) E:=by
 by_cases h1:x<y
 .rw[if_pos h1];exact(wJE yOA yOA ⟨rfl,Nat.le_refl _⟩).pure
 .rw[if_neg h1];by_cases h2:y<x
  .rw[if_pos h2];exact(wJD yOA yOA ⟨rfl,Nat.le_refl _⟩).pure
  .rw[if_neg h2];exact(wJC yOA yOA ⟨rfl,Nat.le_refl _⟩).pure
def zXA:List Int->List Int->Int
 |a::l,b::m=>if a<b then -1 else if b<a then 1 else zXA l m
 |_,_=>0
theorem zYX:∀{a b:List Int},(0<zXA a b↔zGL a b=true)
 |[],b=>by simp[zXA,zGL]
 |a::l,[]=>by simp[zXA,zGL]
 |a::l,b::m=>by
  unfold zXA zGL;by_cases h1:a<b
  .rw[if_pos h1,if_neg (by omega),decide_eq_false (by omega)];simp
  .rw[if_neg h1];by_cases h2:b<a
   .rw[if_pos h2,if_neg (by omega),decide_eq_true h2];simp
   .rw[if_neg h2,if_pos (by omega)];exact zYX
theorem xVL{b:List Int}{j:Nat}(hx:a[j]?=some x)(hy:b[j]?=some y):zXA (a.drop j) (b.drop j)=if x<y then -1 else if y<x then 1 else zXA (a.drop (j+1)) (b.drop (j+1)):=by
 obtain⟨h1,rfl⟩:=List.getElem?_eq_some_iff.1 hx;obtain⟨h2,rfl⟩:=List.getElem?_eq_some_iff.1 hy;rw[List.drop_eq_getElem_cons h1,List.drop_eq_getElem_cons h2,zXA]
theorem xVI{p q:Option Addr}{l:Nat}{b:List Int}(h1:yM E p l a)(h2:yM E q l b)(hl:l<=1000):zW tP 140 [.slice p l c,.slice q l d] E (iV (zXA a b)) E:=by
 have e1:=h1.len;have e2:=h2.len;have h1:=h1.re;have h2:=h2.re;refine(xLH (yLW (Inv:=λk i O=>O=E.re/\∃j:Nat,i=j/\j+k=l/\zXA a b=zXA (a.drop j) (b.drop j)) (Qr:=λx O=>O=E.re/\x=zXA a b) (Q0:=λO=>O=E.re/\zXA a b=0) ?_ l 0 E.re ⟨rfl,0,rfl,by omega,rfl⟩) ?_ ?_).pure
 .rintro k i O ⟨rfl,j,rfl,hk,he⟩;by_cases hj:j<l
  .obtain⟨a1,rfl,x,hx,l1⟩:=xA h1 hj;obtain⟨a2,rfl,y,hy,l2⟩:=xA h2 hj;have hd:=xVL hx hy;have cc:=wNQ (E:=E.re) (x:=x) (y:=y);by_cases g1:x<y
   .rw[if_pos g1]at cc hd;exact yCF l1 l2 cc ⟨rfl,by rw[he,hd]⟩
   .rw[if_neg g1]at cc hd;by_cases g2:y<x
    .rw[if_pos g2]at cc hd;exact yCF l1 l2 cc ⟨rfl,by rw[he,hd]⟩
    .rw[if_neg g2]at cc hd;exact xDQ l1 l2 cc ⟨k-1,by omega,rfl,j+1,by omega,by omega,by rw[he,hd]⟩
  .refine xDP ⟨rfl, ?_⟩;rw[he,List.drop_eq_nil_of_le (by omega)];rfl
 .rintro x O ⟨rfl,rfl⟩;exact yLU ⟨rfl,Nat.le_refl _⟩
 .rintro O ⟨rfl,e⟩;exact yLV ⟨by rw[e],Nat.le_refl _⟩
theorem wPC{b:List Int}(ha:a.length=6)(hb:b.length=6){o1 o2:Operand}:wW tP .neq 126 o1 o2 (.agg ⟨six a⟩) (.agg ⟨six b⟩)=some (.bool (!decide (a=b))):=by
 have e:∀(f g:Nat->Int),wW tP .neq 126 o1 o2 (.agg ⟨vI 6 f⟩) (.agg ⟨vI 6 g⟩)=(yL tP (do eqGuard .neq 126 o1 o2 (.agg ⟨vI 6 f⟩) (.agg ⟨vI 6 g⟩);binOp .neq 126 (.agg ⟨vI 6 f⟩) (.agg ⟨vI 6 g⟩))).filter (yI RD):=λ_ _=>by kernel_rfl
 have e1:∀(f g:Nat->Int),yL tP (eqGuard .neq 126 o1 o2 (.agg ⟨vI 6 f⟩) (.agg ⟨vI 6 g⟩))=some ():=λ_ _=>by kernel_rfl
 have e2:∀x y:List Value,binOp .neq 126 (.agg ⟨x⟩) (.agg ⟨y⟩)=(do let r <- Op.equal 126 (.agg ⟨x⟩) (.agg ⟨y⟩);pure (.bool (!r))):=λ_ _=>rfl
 have hp:∀(f:Nat->Int) {i:Nat},i<6->yL tP (part 3 ⟨vI 6 f⟩ (i*1))=some (iV (f i)):=by
  intro f i hi;match i,hi with
  |0,_=>show _=_;kernel_rfl
  |1,_=>show _=_;kernel_rfl
  |2,_=>show _=_;kernel_rfl
  |3,_=>show _=_;kernel_rfl
  |4,_=>show _=_;kernel_rfl
  |5,_=>show _=_;kernel_rfl
 have h:=xZM (P:=tP) (t:=126) (e:=3) (n:=6) (sz:=1) (d:=9999) (by kernel_rfl) (by kernel_rfl) (xs:=⟨six a⟩) (ys:=⟨six b⟩) (R:=λi=>a.getD i 0 == b.getD i 0) (λi hi=>⟨_,_,hp _ hi,hp _ hi,zKM (d:=9998) (k:=.i64) (by kernel_rfl) _ _ _⟩);have e3:((List.range 6).all λi=>a.getD i 0 == b.getD i 0)=decide (a=b):=by
  rw[Bool.eq_iff_iff,decide_eq_true_eq,zHV];refine⟨λh=>?_,λh i hi=>by rw[h];simp⟩
  apply List.ext_getElem (by omega);intro i g1 g2;have:=h i (by omega);rw[beq_iff_eq,List.getD_eq_getElem?_getD,List.getD_eq_getElem?_getD,List.getElem?_eq_getElem g1,List.getElem?_eq_getElem g2]at this;exact this
 rw[e3]at h;have h:yL tP (Op.equal 126 (.agg ⟨six a⟩) (.agg ⟨six b⟩))=some (decide (a=b)):=h;unfold six at h ⊢;rw[e,xT,e1];simp only[Option.bind_some];rw[e2,xT,h];rfl
theorem xYN(o:Own E b (six v) 1):uM tP E 126 (.pointer (some ⟨b,0,none⟩)) none none none=some (.slice (some ⟨b,0,none⟩) 6 6):=by
 have hu:tP.underlying 126=some (.array 6 3):=by kernel_rfl
 have ha:yCP E ⟨b,0,none⟩ (6*1) 1=true:=by unfold yCP;simp only[o.get];rfl
 unfold uM;simp only[hu,vL,ha,cond_true];rfl
theorem xAY(hv:v.length=6)(o:Own E b (six v) 1):yM E (some ⟨b,0,none⟩) 6 v:=by
 have e:six v=v.map yK:=by
  apply List.ext_getElem (by rw[six,zBV,List.length_map,hv]);intro i g1 g2;have g3:i<v.length:=by simpa using g2
  simp[six,vI,g3]
 refine⟨?_,by simpa using hv,λx hx=>?_⟩
 .rw[zAJ v .i64,<- e];exact⟨rfl,o.rw⟩
 .obtain⟨x,_,rfl⟩:=List.mem_map.1 hx;exact vU x
theorem wMX{b:List Int}(ha:a.length=6)(hb:b.length=6):zW tP 112 [.agg ⟨six a⟩,.agg ⟨six b⟩] E (.bool (zGL a b)) E:=by
 obtain⟨O0,hE0⟩:∃O0,O0=(E.re.row (six a) 1).row (six b) 1:=⟨_,rfl⟩;have o1:Own O0 E.j (six a) 1:=by rw[hE0];exact(zX E.re (six a) 1).row
 have o2:Own O0 (E.j+1) (six b) 1:=by rw[hE0];exact zX (E.re.row (six a) 1) (six b) 1
 have hne:=wPC ha hb (o1:=.tmp 5) (o2:=.tmp 6);have l1:=zKF o1;have l2:=zKF o2;have hlow:E.j<=O0.low:=by rw[hE0];exact Nat.le_refl _
 have s1:=xYN o1;have s2:=xYN o2;have cc:=xVI (c:=6) (d:=6) (xAY ha o1) (xAY hb o2) (by omega);rw[hE0]at l1 l2 hlow s1 s2 cc;by_cases e:a=b
 .rw[decide_eq_true e]at hne;have:zGL a b=false:=by rw[e];exact zWF b
  rw[this];exact(wCB l1 l2 hne ⟨rfl,hlow⟩).pure
 .rw[decide_eq_false e]at hne;by_cases h:0<zXA a b
  .rw[zYX.1 h];exact(wCD ⟨l1,l2,hne,s1,s2,cc⟩ ⟨rfl,hlow⟩).pure
  .have:zGL a b=false:=by rw[<- Bool.not_eq_true];exact λk=>h (zYX.2 k)
   rw[this];exact(wCC ⟨l1,l2,hne,s1,s2,cc⟩ ⟨rfl,hlow⟩).pure
theorem wAZ(h:Row E ⟨b,0,none⟩ [iV x,iV y]):zW tP 139 [.slice (some ⟨b,0,none⟩) 2 c] E (iV (max x y)) E:=by
 have key:∀w:St,Row w ⟨b,0,none⟩ [iV x,iV y]->zW tP 126 [.slice (some ⟨b,0,none⟩) 2 c] w (iV (max x y)) w:=λw hw=>by
  refine zQ.pure ?_
  have h0:=hw.le (le0 w);have l0:zJ tP w.re 3 ⟨b,0,none⟩=some (iV x):=by simpa [zO] using h0.load1 (t:=3) zU (k:=0) rfl
  have l1:zJ tP w.re 3 (zO ⟨b,0,none⟩ (Int.toNat ((1:Nat):Int)*1))=some (iV y):=h0.load1 (t:=3) zU (k:=1) rfl;refine xNE (P0:=λn O=>O=w.re/\n=max x y) l0 (yGV (Inv:=λk n i O=>∃s:Nat,i=s/\s+k=2/\O=w.re/\((s=1/\n=x)\/(s=2/\n=max x y))) ?_ 1 x 1 w.re ⟨1,rfl,rfl,rfl,.inl ⟨rfl,rfl⟩⟩) (λn O h=>yGU ⟨by rw[h.2],by rw[h.1];exact Nat.le_refl _⟩);rintro k n i O ⟨s,rfl,hk,rfl,⟨rfl,rfl⟩|⟨rfl,rfl⟩⟩
  .exact xAX l1 zWH ⟨k-1,by omega,2,rfl,by omega,rfl,.inr ⟨rfl,rfl⟩⟩
  .exact xAW ⟨rfl,rfl⟩
 refine zQ.pure ?_
 exact xUB (key _ (h.le (le0 E))) ⟨rfl,Nat.le_refl _⟩
end
end
section
variable{D bq g:Nat}{st:Nat->Std}{gc:List Value}{R:Nat->Bool}
@[reducible] def yBV(w:Wk)(p:Option Addr)(l c:Nat)(q:Option Addr)(m d:Nat)(leaves:Bool)(wfv:Value)(bm:Nat):List Value:=[iV w.J,.slice p l c,.slice q m d,iV w.rest,iV w.run,iV w.N,.bool leaves,wfv,.map (some bm)]
section
variable{E:St}{b n:Nat}{f:Nat->Std}
theorem xND(o:Own E b (stL f) n){i k:Nat}{x:Int}(hi:i<6)(hx:[(f i).free,(f i).row,(f i).used,(f i).day][k]?=some x):zJ tP E 3 ⟨b,0+Int.toNat (i:Int)*4+k,none⟩=some (yK x):=by
 rw[Int.toNat_natCast];have hk:k<4:=by have:=(List.getElem?_eq_some_iff.1 hx).1;simpa using this
 have key:(stL f)[0+i*4+k]?=some (yK x):=by
  match i,hi,k,hk with
  |0,_,0,_=>exact congrArg (Option.map yK) hx
  |0,_,1,_=>exact congrArg (Option.map yK) hx
  |0,_,2,_=>exact congrArg (Option.map yK) hx
  |0,_,3,_=>exact congrArg (Option.map yK) hx
  |1,_,0,_=>exact congrArg (Option.map yK) hx
  |1,_,1,_=>exact congrArg (Option.map yK) hx
  |1,_,2,_=>exact congrArg (Option.map yK) hx
  |1,_,3,_=>exact congrArg (Option.map yK) hx
  |2,_,0,_=>exact congrArg (Option.map yK) hx
  |2,_,1,_=>exact congrArg (Option.map yK) hx
  |2,_,2,_=>exact congrArg (Option.map yK) hx
  |2,_,3,_=>exact congrArg (Option.map yK) hx
  |3,_,0,_=>exact congrArg (Option.map yK) hx
  |3,_,1,_=>exact congrArg (Option.map yK) hx
  |3,_,2,_=>exact congrArg (Option.map yK) hx
  |3,_,3,_=>exact congrArg (Option.map yK) hx
  |4,_,0,_=>exact congrArg (Option.map yK) hx
  |4,_,1,_=>exact congrArg (Option.map yK) hx
  |4,_,2,_=>exact congrArg (Option.map yK) hx
  |4,_,3,_=>exact congrArg (Option.map yK) hx
  |5,_,0,_=>exact congrArg (Option.map yK) hx
  |5,_,1,_=>exact congrArg (Option.map yK) hx
  |5,_,2,_=>exact congrArg (Option.map yK) hx
  |5,_,3,_=>exact congrArg (Option.map yK) hx
 exact o.ld rfl zU key
theorem wGK(o:Own E b (stL f) n){i:Nat}(hi:i<6)(x:Int):yN tP (evL [.pointer (some ⟨b,0+Int.toNat (i:Int)*4+1,none⟩),yK x]) E (.store 3 (.tmp 0) (.tmp 1))=some (undef,E.own b (stL (upd f i ⟨(f i).free,x,(f i).used,(f i).day⟩)) n):=by
 rw[Int.toNat_natCast];match i,hi with
 |0,_=>exact o.store (k:=1) (vs:=[yK x]) rfl vL rfl (by simp[stL]) rfl
 |1,_=>exact o.store (k:=5) (vs:=[yK x]) rfl vL rfl (by simp[stL]) rfl
 |2,_=>exact o.store (k:=9) (vs:=[yK x]) rfl vL rfl (by simp[stL]) rfl
 |3,_=>exact o.store (k:=13) (vs:=[yK x]) rfl vL rfl (by simp[stL]) rfl
 |4,_=>exact o.store (k:=17) (vs:=[yK x]) rfl vL rfl (by simp[stL]) rfl
 |5,_=>exact o.store (k:=21) (vs:=[yK x]) rfl vL rfl (by simp[stL]) rfl
theorem xYH(o:Own E b (stL f) n){i:Nat}(hi:i<6)(x:Int):yN tP (evL [.pointer (some ⟨b,0+Int.toNat (i:Int)*4+0,none⟩),yK x]) E (.store 3 (.tmp 0) (.tmp 1))=some (undef,E.own b (stL (upd f i ⟨x,(f i).row,(f i).used,(f i).day⟩)) n):=by
 rw[Int.toNat_natCast];match i,hi with
 |0,_=>exact o.store (k:=0) (vs:=[yK x]) rfl vL rfl (by simp[stL]) rfl
 |1,_=>exact o.store (k:=4) (vs:=[yK x]) rfl vL rfl (by simp[stL]) rfl
 |2,_=>exact o.store (k:=8) (vs:=[yK x]) rfl vL rfl (by simp[stL]) rfl
 |3,_=>exact o.store (k:=12) (vs:=[yK x]) rfl vL rfl (by simp[stL]) rfl
 |4,_=>exact o.store (k:=16) (vs:=[yK x]) rfl vL rfl (by simp[stL]) rfl
 |5,_=>exact o.store (k:=20) (vs:=[yK x]) rfl vL rfl (by simp[stL]) rfl
end
section
variable{E:St}{w:Wk}{p q:Option Addr}{l m c d Bp bm:Nat}{leaves:Bool}{wfv:Value}
def vH(w:Wk)(D j:Nat)(st:Nat->Std):Nat->Std:=λk=>if k<j then zWC w D (st k)else st k
theorem xNS{j:Nat}:upd (vH w D j st) j (zWC w D (st j))=vH w D (j+1) st:=by
 funext k;unfold upd vH;by_cases e:k=j
 .subst e;rw[if_pos rfl,if_pos (by omega)]
 .rw[if_neg e];by_cases h:k<j
  .rw[if_pos h,if_pos (by omega)]
  .rw[if_neg h,if_neg (by omega)]
theorem xTR(hm:w.M.length=m):vH w D m st=zDN w D st:=by
 funext k;unfold vH zDN;rw[hm]
theorem wMT(hp:Row E ⟨Bp,0,none⟩ (yBV w p l c q m d leaves wfv bm))(hm:w.M.length=m)(hm6:m<=6)(hD:D<=7)(hrest:0<=w.rest/\w.rest<=3000):zW tP 110 [.pointer (some ⟨Bp,0,none⟩),iV (D:Int),.agg ⟨stL st⟩] E (.agg ⟨stL (zDN w D st)⟩) E:=by
 obtain⟨O0,hE0⟩:∃O0,O0=(E.re.row (stL st) 4).row zGR 4:=⟨_,rfl⟩;have N0:New E.re O0:=by rw[hE0];exact(New.row _ _ _).row'
 have o1:Own O0 E.j (stL st) 4:=by rw[hE0];exact(zX E.re (stL st) 4).row
 have o2:Own O0 (E.j+1) (stL λ_=>yCT) 4:=by rw[hE0,<- yMJ];exact zX (E.re.row (stL st) 4) zGR 4
 have hp':∀{O},Le E O->Row O ⟨Bp,0,none⟩ (yBV w p l c q m d leaves wfv bm):=λh=>hp.le h
 have hr0:Row O0 ⟨Bp,0,none⟩ (yBV w p l c q m d leaves wfv bm):=hp' ((le0 E).trans N0.le);have l1:zJ tP O0 70 (zO ⟨Bp,0,none⟩ 2)=some (.slice q m d):=hr0.load1 zLW rfl;rw[hE0]at l1;have e0:stL st=stL (vH w D 0 st):=by congr 1
 refine(wHH l1 (xJU (Inv:=λk i O=>New E.re O/\∃j:Nat,i=j/\j+k=m/\Own O E.j (stL (vH w D j st)) 4/\Own O (E.j+1) (stL λ_=>yCT) 4)
  (Q0:=λO=>New E.re O/\Own O E.j (stL (zDN w D st)) 4/\Own O (E.j+1) (stL λ_=>yCT) 4) ?_ m 0 _ ⟨by rw[<- yMJ]at *;exact hE0 ▸ N0,0,rfl,by omega,by rw[<- e0];exact hE0 ▸ o1,hE0 ▸ o2⟩) ?_).pure
 .rintro k i O ⟨hN,j,rfl,hk,w1,w2⟩;have hlt:=w2.lt;by_cases hj:j<m
  .have hj6:j<6:=by omega
   have ej:vH w D j st j=st j:=by unfold vH;rw[if_neg (by omega)]
   have ld:=xND (k:=3) (x:=(st j).day) w1 hj6 (by rw[ej];rfl);by_cases hd:(st j).day=(D:Int)
   .refine wAB ld ⟨k-1,by omega,hN,j+1,by omega,by omega, ?_,w2⟩;have e1:vH w D (j+1) st=vH w D j st:=by
     rw[<- xNS];funext k';unfold upd;by_cases e:k'=j
     .subst e;rw[if_pos rfl,ej];unfold zWC;rw[if_pos hd]
     .rw[if_neg e]
    rw[e1];exact w1
   .have st1:=wGK w1 hj6 0;have k1:Own (O.own E.j (stL (upd (vH w D j st) j ⟨(vH w D j st j).free,0,(vH w D j st j).used,(vH w D j st j).day⟩)) 4) E.j (stL (upd (vH w D j st) j ⟨(vH w D j st j).free,0,(vH w D j st j).used,(vH w D j st j).day⟩)) 4:=w1.put;obtain⟨be,hO1⟩:∃be,be=O.own E.j (stL (upd (vH w D j st) j ⟨(vH w D j st j).free,0,(vH w D j st j).used,(vH w D j st j).day⟩)) 4:=⟨_,rfl⟩;rw[<- hO1]at st1 k1;have N1:New E.re be:=by rw[hO1];exact hN.own (by show E.j<=E.j;omega)
    have u2:Own be (E.j+1) (stL λ_=>yCT) 4:=by rw[hO1];exact w2.own (by omega)
    have eu:upd (vH w D j st) j ⟨(vH w D j st j).free,0,(vH w D j st j).used,(vH w D j st j).day⟩ j=⟨(st j).free,0,(st j).used,(st j).day⟩:=by unfold upd;rw[if_pos rfl,ej]
    have ld2:=xND (k:=0) (x:=(st j).free) k1 hj6 (by rw[eu];rfl);have ld3:zJ tP be 3 (zO ⟨Bp,0,none⟩ 3)=some (iV w.rest):=(hp' ((le0 E).trans N1.le)).load1 zU rfl;have kr:Row (be.row [iV (st j).free,iV (((D:Int)+1)*1440-w.rest)] 1) ⟨be.j,0,none⟩ [iV (st j).free,iV (((D:Int)+1)*1440-w.rest)]:=wB _ _ _;have cl:=wAZ (c:=2) kr;have st2:=xYH (k1.row (ds:=[iV (st j).free,iV (((D:Int)+1)*1440-w.rest)]) (m:=1)) hj6 (max (st j).free (((D:Int)+1)*1440-w.rest));rw[eu]at st2;refine wAC ld st1 ld2 ld3 cl st2 ⟨k-1,by omega,N1.row'.own (by show E.j<=E.j;omega),j+1,by omega,by omega, ?_,(u2.row (ds:=[iV (st j).free,iV (((D:Int)+1)*1440-w.rest)]) (m:=1)).own (by omega)⟩;have e2:upd (upd (vH w D j st) j ⟨(vH w D j st j).free,0,(vH w D j st j).used,(vH w D j st j).day⟩) j ⟨max (st j).free (((D:Int)+1)*1440-w.rest),0,(st j).used,(st j).day⟩=vH w D (j+1) st:=by
     rw[<- xNS];funext k';unfold upd;by_cases e:k'=j
     .rw[if_pos e,if_pos e];unfold zWC;rw[if_neg hd]
     .rw[if_neg e,if_neg e,if_neg e]
    rw[<- e2];exact(k1.row (ds:=[iV (st j).free,iV (((D:Int)+1)*1440-w.rest)]) (m:=1)).put
  .have:j=m:=by omega
   subst this;exact wAA ⟨hN,by rw[<- xTR hm];exact w1,w2⟩
 .rintro O ⟨hN,w1,w2⟩;exact xJT (uS w1) (yCZ w2 _) (uS w2.put) ⟨rfl,(hN.own (b:=E.j+1) (n:=4) (cs:=stL (zDN w D st)) (by show E.j<=E.j+1;omega)).lw⟩
theorem wNH(hq:Row E ⟨bq,0,none⟩ yNV)(hc:∀j:Nat,j<5->∀O,Le E O->zW tP g (.agg ⟨[.int .u8 (j:Int),.func (.func (117+j)) ⟨[]⟩ ⟨[]⟩]⟩::gc) O (.bool (R j)) O) :
  ∃n:Int,zW tP 173 [.slice (some ⟨bq,0,none⟩) 5 5,.func (.func g) ⟨[]⟩ ⟨gc⟩] E (iV n) E/\(0<=n↔(List.range 5).any R=true):=by
 have hq0:=hq.re;by_cases h:(List.range 5).any R=true
 .have hex:∃j,j<5/\R j=true/\∀i,i<j->R i=false:=by
   have:∃j,j<5/\R j=true:=by
    obtain⟨j,hj,e⟩:=List.any_eq_true.1 h;exact⟨j,List.mem_range.1 hj,e⟩
   obtain⟨j0,hj0,e0⟩:=this;have key:∀n,(∃j,j<n/\j<5/\R j=true)->∃j,j<5/\R j=true/\∀i,i<j->R i=false:=by
    intro n;induction n with
    |zero=>rintro⟨j,h,_⟩;omega
    |succ n ih =>
     rintro⟨j,h1,h2,h3⟩;by_cases hx:∃j,j<n/\j<5/\R j=true
     .exact ih hx
     .have:j=n:=by
       by_cases e:j<n
       .exact absurd ⟨j,e,h2,h3⟩ hx
       .omega
      subst this;refine⟨j,h2,h3,λi hi=>?_⟩
      cases e:R i with
      |false=>rfl
      |true=>exact absurd ⟨i,hi,by omega,e⟩ hx
   exact key 5 ⟨j0,hj0,hj0,e0⟩
  obtain⟨j0,hj0,e0,hb⟩:=hex;refine⟨(j0:Int),(xOJ (yIA (Inv:=λk i O=>O=E.re/\∃j:Nat,i=j/\j+k=5/\j<=j0) (Qr:=λx O=>O=E.re/\x=(j0:Int)) (Q0:=λO=>False) ?_ 5 0 E.re ⟨rfl,0,rfl,by omega,by omega⟩) (λx O h=>xKM ⟨by rw[h.2],by rw[h.1];exact Nat.le_refl _⟩) (λO h=>h.elim)).pure,⟨λ_=>h,λ_=>by omega⟩⟩
  rintro k i O ⟨rfl,j,rfl,hk,hj⟩;have ld:=yDA hq0 (show j<5 by omega);have cc:=hc j (by omega) E.re (le0 E);by_cases e:j=j0
  .subst e;rw[e0]at cc;exact wBM ld cc ⟨rfl,rfl⟩
  .rw[hb j (by omega)]at cc;exact xCP ld cc ⟨k-1,by omega,rfl,j+1,by omega,by omega,by omega⟩
 .have hb:∀i,i<5->R i=false:=λi hi=>by
   cases e:R i with
   |false=>rfl
   |true=>exact absurd (List.any_eq_true.2 ⟨i,List.mem_range.2 hi,e⟩) h
  refine⟨-1,(xOJ (yIA (Inv:=λk i O=>O=E.re/\∃j:Nat,i=j/\j+k=5) (Qr:=λx O=>False) (Q0:=λO=>O=E.re) ?_ 5 0 E.re ⟨rfl,0,rfl,by omega⟩) (λx O h=>h.elim) (λO h=>xKN ⟨rfl,by rw[h];exact Nat.le_refl _⟩)).pure,⟨λe=>absurd e (by omega),λe=>absurd e h⟩⟩
  rintro k i O ⟨rfl,j,rfl,hk⟩;by_cases hj:j<5
  .have ld:=yDA hq0 hj;have cc:=hc j hj E.re (le0 E);rw[hb j hj]at cc;exact xCP ld cc ⟨k-1,by omega,rfl,j+1,by omega,by omega⟩
  .exact wBL rfl
theorem wNO(hq:Row E ⟨bq,0,none⟩ yNV)(hc:∀j:Nat,j<5->∀O,Le E O->zW tP g (.agg ⟨[.int .u8 (j:Int),.func (.func (117+j)) ⟨[]⟩ ⟨[]⟩]⟩::gc) O (.bool (R j)) O) :
  zW tP 162 [.slice (some ⟨bq,0,none⟩) 5 5,.func (.func g) ⟨[]⟩ ⟨gc⟩] E (.bool ((List.range 5).any R)) E:=by
 obtain⟨n,c1,hn⟩:=wNH (E:=E.re) (gc:=gc) hq.re (λj hj O iq=>hc j hj O ((le0 E).trans iq));cases e:(List.range 5).any R with
 |true=>exact(wIW c1 ⟨rfl,Nat.le_refl _⟩ (hn.2 e)).pure
 |false=>exact(wIV c1 ⟨rfl,Nat.le_refl _⟩ (λh=>by rw[hn.1 h]at e;cases e)).pure
theorem wNX(hq:Row E ⟨bq,0,none⟩ yNV)(hc:∀j:Nat,j<5->∀O,Le E O->zW tP g (.agg ⟨[.int .u8 (j:Int),.func (.func (117+j)) ⟨[]⟩ ⟨[]⟩]⟩::gc) O (.bool (R j)) O) :
  zW tP 137 [.slice (some ⟨bq,0,none⟩) 5 5,.func (.func g) ⟨[]⟩ ⟨gc⟩] E (.bool ((List.range 5).all R)) E:=by
 obtain⟨O0,hE0⟩:∃O0,O0=E.re.row [.func (.func g) ⟨[]⟩ ⟨gc⟩] 1:=⟨_,rfl⟩;have N0:New E.re O0:=by rw[hE0];exact New.row _ _ _
 have o0:Row O0 ⟨E.j,0,none⟩ [.func (.func g) ⟨[]⟩ ⟨gc⟩]:=by rw[hE0];exact wB _ _ _
 have L0:Le E O0:=(le0 E).trans N0.le;have c1:=wNO (E:=O0) (g:=163) (gc:=[.pointer (some ⟨E.j,0,none⟩)]) (R:=λj=>!R j) (hq.le L0) (λj hj O iq=>by
  have L1:Le O0 (O.re.row [.int .u8 (j:Int),.func (.func (117+j)) ⟨[]⟩ ⟨[]⟩] 2):=(iq.trans (le0 O)).trans (Le.row _ _ _);have ld:zJ tP (O.re.row [.int .u8 (j:Int),.func (.func (117+j)) ⟨[]⟩ ⟨[]⟩] 2) 224 ⟨E.j,0,none⟩=some (.func (.func g) ⟨[]⟩ ⟨gc⟩):=(o0.le L1).ld wOA rfl;have cc:=hc j hj _ (L0.trans L1);cases e:R j with
  |true=>rw[e]at cc;exact(wEK ld cc ⟨rfl,Nat.le_refl _⟩).pure
  |false=>rw[e]at cc;exact(wEJ ld cc ⟨rfl,Nat.le_refl _⟩).pure)
 have hall:(List.range 5).all R=!(List.range 5).any λj=>!R j:=by
  rw[List.all_eq_not_any_not]
 rw[hall];rw[hE0]at c1;cases e:(List.range 5).any λj=>!R j with
 |true=>rw[e]at c1;exact(wJW c1 ⟨rfl,Nat.le_refl _⟩).pure
 |false=>rw[e]at c1;exact(wJV c1 ⟨rfl,Nat.le_refl _⟩).pure
theorem wPE{k i:Nat}{s:Std}(hp:Row E ⟨Bp,0,none⟩ (yBV w p l c q m d leaves wfv bm))(h:WkP E 93 94 w p l q m)(hsh:zCE w)(hk:k<m)(hi:i<l)(hs:StOk s)(hx:DtOk (dty w i))(he:0<=(dty w i).hi/\(dty w i).hi<=1000000) :
  ∃s',zW tP 108 [.pointer (some ⟨Bp,0,none⟩),iV (k:Int),iV (i:Int),zQN s] E (.tuple ⟨[zQN s',.bool (zHB w k i s)]⟩) E/\(zHB w k i s=true->s'=take s (dty w i) (dty w i).hi):=by
 have hln:=h.len.1;obtain⟨t0,ht0⟩:∃t0,t0=((((E.re.row [.pointer (some ⟨Bp,0,none⟩)] 1).row [iV (k:Int)] 1).row (zK s.free s.row s.used s.day) 4).row (zK 0 0 0 0) 4):=⟨_,rfl⟩;have N0:New E.re t0:=by rw[ht0];exact(((New.row _ _ _).row').row').row'
 have x0:t0.j=E.j+4:=by rw[ht0];rfl
 have L0:Le E t0:=(le0 E).trans N0.le;obtain⟨t1,ht1⟩:∃t1,t1=(t0.row (zP 0 0 0 0 0) 5).own (E.j+4) (zP (dty w i).day (dty w i).on (dty w i).lo (dty w i).hi (dty w i).route) 5:=⟨_,rfl⟩;have N1:New E.re t1:=by rw[ht1];exact N0.row'.own (by show E.j<=E.j+4;omega)
 have L1:Le E t1:=(le0 E).trans N1.le;have x1:t1.j=E.j+5:=by rw[ht1];show t0.j+1=_;omega
 have r0:Row t0 ⟨Bp,0,none⟩ (yBV w p l c q m d leaves wfv bm):=hp.le L0;have oA:Row t1 ⟨E.j,0,none⟩ [.pointer (some ⟨Bp,0,none⟩)]:=by rw[ht1,ht0];exact(wB E.re [.pointer (some ⟨Bp,0,none⟩)] 1).row.row.row.row.own (by show E.j≠_;omega)
 have oB:Row t1 ⟨E.j+1,0,none⟩ [iV (k:Int)]:=by rw[ht1,ht0];exact(wB (E.re.row [.pointer (some ⟨Bp,0,none⟩)] 1) [iV (k:Int)] 1).row.row.row.own (by show E.j+1≠_;omega)
 have oC:Own t1 (E.j+2) (zK s.free s.row s.used s.day) 4:=by rw[ht1,ht0];exact(zX ((E.re.row [.pointer (some ⟨Bp,0,none⟩)] 1).row [iV (k:Int)] 1) (zK s.free s.row s.used s.day) 4).row.row.own (by show E.j+2≠_;omega)
 have oD:Own t1 (E.j+3) (zK 0 0 0 0) 4:=by rw[ht1,ht0];exact(zX (((E.re.row [.pointer (some ⟨Bp,0,none⟩)] 1).row [iV (k:Int)] 1).row (zK s.free s.row s.used s.day) 4) (zK 0 0 0 0) 4).row.own (by show E.j+3≠_;omega)
 have oE:Row t1 ⟨E.j+4,0,none⟩ (zP (dty w i).day (dty w i).on (dty w i).lo (dty w i).hi (dty w i).route):=by
  rw[ht1,<- x0];exact((zX t0 (zP 0 0 0 0 0) 5).put).rw
 obtain⟨a,rfl,y,hy,ly⟩:=xA (SlV.le h.dty L0) hi;have gy:dty w i=y:=by unfold dty;rw[List.getD_eq_getElem?_getD,hy];rfl
 rw[<- gy]at ly;have l1:zJ tP t0 69 (zO ⟨Bp,0,none⟩ 1)=some (.slice (some a) l c):=r0.load1 zXG rfl;obtain⟨bq,t2,kq,n2,hbq,rq⟩:=yBU (E:=t1);have N2:New E.re t2:=N1.trans n2;have L2:Le E t2:=(le0 E).trans N2.le;have oA2:=oA.le n2.le;have oB2:=oB.le n2.le;have oC2:=oC.le n2.le;have oD2:=oD.le n2.le;have oE2:=oE.le n2.le;have nx2:=n2.nx;have ca:=wNX (E:=t2) (g:=138) (gc:=[.pointer (some ⟨E.j,0,none⟩),.pointer (some ⟨E.j+1,0,none⟩),.pointer (some ⟨E.j+4,0,none⟩),.pointer (some ⟨E.j+2,0,none⟩)]) (R:=λj=>holds w j (drQ w k) (dty w i) s) rq (λj hj O iq=>by
  have LT:Le t2 (O.re.row [.int .u8 (j:Int),.func (.func (117+j)) ⟨[]⟩ ⟨[]⟩] 2):=(iq.trans (le0 O)).trans (Le.row _ _ _);have LS:=L2.trans LT;have q1:zJ tP (O.re.row [.int .u8 (j:Int),.func (.func (117+j)) ⟨[]⟩ ⟨[]⟩] 2) 167 ⟨E.j,0,none⟩=some (.pointer (some ⟨Bp,0,none⟩)):=(oA2.le LT).ld zAE rfl;have q2:zJ tP (O.re.row [.int .u8 (j:Int),.func (.func (117+j)) ⟨[]⟩ ⟨[]⟩] 2) 72 ⟨Bp,0,none⟩=some (.agg ⟨wkc w.J (some a) l c q m d w.rest w.run w.N⟩):=(hp.le LS).ldN (k:=0) zAD vB (ds:=wkc w.J (some a) l c q m d w.rest w.run w.N) rfl rfl (by simp);have q3:zJ tP (O.re.row [.int .u8 (j:Int),.func (.func (117+j)) ⟨[]⟩ ⟨[]⟩] 2) 3 ⟨E.j+1,0,none⟩=some (iV (k:Int)):=(oB2.le LT).ld zU rfl;have q4:zJ tP (O.re.row [.int .u8 (j:Int),.func (.func (117+j)) ⟨[]⟩ ⟨[]⟩] 2) 93 ⟨E.j+4,0,none⟩=some (.agg ⟨zP (dty w i).day (dty w i).on (dty w i).lo (dty w i).hi (dty w i).route⟩):=(oE2.le LT).ldN (k:=0) zXF zAN rfl rfl (by simp);have q5:zJ tP (O.re.row [.int .u8 (j:Int),.func (.func (117+j)) ⟨[]⟩ ⟨[]⟩] 2) 175 ⟨E.j+2,0,none⟩=some (.agg ⟨zK s.free s.row s.used s.day⟩):=(oC2.le LT).ldN (k:=0) uI xS rfl rfl (by simp);have ck:=wLA (c:=c) (d:=d) (h.le LS) hsh hk hs hx hj;exact(wHT q1 q2 q3 q4 q5 ck ⟨rfl,Nat.le_refl _⟩).pure)
 have q5:zJ tP t2 175 ⟨E.j+2,0,none⟩=some (.agg ⟨zK s.free s.row s.used s.day⟩):=oC2.ldN (k:=0) uI xS rfl rfl (by simp);have stD:∀{z:St} {x:Std},Own z (E.j+3) (zK 0 0 0 0) 4->yN tP (evL [.pointer (some ⟨E.j+3,0,none⟩),.agg ⟨zK x.free x.row x.used x.day⟩]) z (.store 175 (.tmp 0) (.tmp 1))=some (undef,z.own (E.j+3) (zK x.free x.row x.used x.day) 4):=λ{z x} o =>
  o.store (k:=0) (vs:=zK x.free x.row x.used x.day) rfl xS rfl (by simp) rfl
 have ht0':=ht0;rw[ht1]at kq;rw[ht0]at l1 ly kq;cases hall:(List.range 5).all (λj=>holds w j (drQ w k) (dty w i) s)with
 |false =>
  rw[hall]at ca;have em:zHB w k i s=false:=by unfold zHB;rw[hall];rfl
  rw[em];have oD3:=oD2.put (ds:=zK s.free s.row s.used s.day);refine⟨s,(wMY l1 ly kq ca q5 (stD oD2) (oD3.ldN (k:=0) uI xS rfl rfl (by simp)) ⟨rfl,(N2.own (b:=E.j+3) (n:=4) (cs:=zK s.free s.row s.used s.day) (by show E.j<=E.j+3;omega)).lw⟩ (by omega)).pure,λe=>by cases e⟩
 |true =>
  rw[hall]at ca;have q6:zJ tP t2 93 ⟨E.j+4,0,none⟩=some (.agg ⟨zP (dty w i).day (dty w i).on (dty w i).lo (dty w i).hi (dty w i).route⟩):=oE2.ldN (k:=0) zXF zAN rfl rfl (by simp);have q7:zJ tP t2 3 ⟨E.j+4,3,none⟩=some (iV (dty w i).hi):=oE2.ld zU rfl;have ck:=ySK (E:=t2) (x:=dty w i) (e:=(dty w i).hi) hs hx (by omega);obtain⟨s',hs'⟩:∃s',s'=take s (dty w i) (dty w i).hi:=⟨_,rfl⟩;rw[<- hs']at ck;have st2:yN tP (evL [.pointer (some ⟨E.j+2,0,none⟩),.agg ⟨zK s'.free s'.row s'.used s'.day⟩]) t2 (.store 175 (.tmp 0) (.tmp 1))=some (undef,t2.own (E.j+2) (zK s'.free s'.row s'.used s'.day) 4) :=
   oC2.store (k:=0) (vs:=zK s'.free s'.row s'.used s'.day) rfl xS rfl (by simp) rfl
  obtain⟨t3,ht3⟩:∃t3,t3=t2.own (E.j+2) (zK s'.free s'.row s'.used s'.day) 4:=⟨_,rfl⟩;have oC3:Own t3 (E.j+2) (zK s'.free s'.row s'.used s'.day) 4:=by rw[ht3];exact oC2.put
  have oA3:Row t3 ⟨E.j,0,none⟩ [.pointer (some ⟨Bp,0,none⟩)]:=by rw[ht3];exact oA2.own (by show E.j≠_;omega)
  have oD3:Own t3 (E.j+3) (zK 0 0 0 0) 4:=by rw[ht3];exact oD2.own (by omega)
  have N3:New E.re t3:=by rw[ht3];exact N2.own (by show E.j<=E.j+2;omega)
  have p3:Row t3 ⟨Bp,0,none⟩ (yBV w (some a) l c q m d leaves wfv bm):=hp.le ((le0 E).trans N3.le);rw[<- ht3]at st2;obtain⟨t4,ht4⟩:∃t4,t4=t3.own (E.j+3) (zK s'.free s'.row s'.used s'.day) 4:=⟨_,rfl⟩;have oD4:Own t4 (E.j+3) (zK s'.free s'.row s'.used s'.day) 4:=by rw[ht4];exact oD3.put
  have oC4:Own t4 (E.j+2) (zK s'.free s'.row s'.used s'.day) 4:=by rw[ht4];exact oC3.own (by omega)
  have oA4:Row t4 ⟨E.j,0,none⟩ [.pointer (some ⟨Bp,0,none⟩)]:=by rw[ht4];exact oA3.own (by show E.j≠_;omega)
  have N4:New E.re t4:=by rw[ht4];exact N3.own (by show E.j<=E.j+3;omega)
  have p4:Row t4 ⟨Bp,0,none⟩ (yBV w (some a) l c q m d leaves wfv bm):=hp.le ((le0 E).trans N4.le);have st4:=stD (x:=s') oD3;rw[<- ht4]at st4;have x23:t3.j=t2.j:=by rw[ht3];rfl
  have x3:E.j+5<=t3.j:=by omega
  have x4:t4.j=t3.j:=by rw[ht4];rfl
  have hBp:=hp.lt;have hBp':Bp<E.j:=hBp;have u3:zJ tP t3 3 (zO ⟨Bp,0,none⟩ 5)=some (iV w.N):=p3.load1 zU rfl;have u4:zJ tP t4 3 (zO ⟨Bp,0,none⟩ 5)=some (iV w.N):=p4.load1 zU rfl;have v3:zJ tP t3 3 ⟨E.j+2,2,none⟩=some (iV s'.used):=oC3.rw.ld zU rfl;have v4:zJ tP t4 3 ⟨E.j+2,2,none⟩=some (iV s'.used):=oC4.rw.ld zU rfl;have w3:zJ tP t3 167 ⟨E.j,0,none⟩=some (.pointer (some ⟨Bp,0,none⟩)):=oA3.ld zAE rfl;have w4:zJ tP t4 167 ⟨E.j,0,none⟩=some (.pointer (some ⟨Bp,0,none⟩)):=oA4.ld zAE rfl;have em:zHB w k i s=decide (s'.used<=w.N):=by unfold zHB;rw[hall,hs'];rfl
  rw[em];have lC:zJ tP t3 175 ⟨E.j+2,0,none⟩=some (.agg ⟨zK s'.free s'.row s'.used s'.day⟩):=oC3.ldN (k:=0) uI xS rfl rfl (by simp);have lD:zJ tP t4 175 ⟨E.j+3,0,none⟩=some (.agg ⟨zK s'.free s'.row s'.used s'.day⟩):=oD4.ldN (k:=0) uI xS rfl rfl (by simp);have b1:∀{x:Addr},x.block<t3.j->zL t3.j [.pointer (some x)]:=λh=>zI (zR h) zM
  have b2:zL t3.j [.pointer (some ⟨E.j+3,0,none⟩),.agg ⟨zK s'.free s'.row s'.used s'.day⟩]:=zI (zR (by show E.j+3<_;omega)) (zI (yX rfl) zM);by_cases hu:s'.used<=w.N
  .rw[decide_eq_true hu];exact⟨s',(wNA ⟨l1,ly,kq,ca,q5,q6,q7,ck,st2,lC,v3,w3,u3,st4,(b1 (by show E.j+2<_;omega)),(b1 (by show E.j+2<_;omega)),(b1 (by show E.j<_;omega)),(b1 (by show Bp<_;omega)),b2,⟨⟨by show E.j+2<_;omega,rfl⟩,v3⟩,⟨⟨by show E.j+2<_;omega,rfl⟩,v4⟩,⟨⟨by show E.j<_;omega,rfl⟩,w3⟩,⟨⟨by show E.j<_;omega,rfl⟩,w4⟩,⟨⟨by show Bp<_;omega,rfl⟩,u3⟩,⟨⟨by show Bp<_;omega,rfl⟩,u4⟩,lD⟩ ⟨rfl,N4.lw⟩).pure,λ_=>hs'⟩
  .rw[decide_eq_false hu];exact⟨s',(wMZ ⟨l1,ly,kq,ca,q5,q6,q7,ck,st2,lC,v3,w3,u3,st4,(b1 (by show E.j+2<_;omega)),(b1 (by show E.j+2<_;omega)),(b1 (by show E.j<_;omega)),(b1 (by show Bp<_;omega)),b2,⟨⟨by show E.j+2<_;omega,rfl⟩,v3⟩,⟨⟨by show E.j+2<_;omega,rfl⟩,v4⟩,⟨⟨by show E.j<_;omega,rfl⟩,w3⟩,⟨⟨by show E.j<_;omega,rfl⟩,w4⟩,⟨⟨by show Bp<_;omega,rfl⟩,u3⟩,⟨⟨by show Bp<_;omega,rfl⟩,u4⟩,lD⟩ ⟨rfl,N4.lw⟩).pure,λe=>by cases e⟩
end
end
section
variable{p:Option Addr}{l:Nat}{rs:List (List Int)}
def zXN(E:St)(p:Option Addr)(l:Nat)(rs:List (List Int)):Prop:=∃vs:List Value,SlV tP E 48 1 p l vs/\rs.length=l/\∀(i:Nat) (r:List Int),rs[i]?=some r->∃q c,vs[i]?=some (Value.slice q r.length c)/\yM E q r.length r
section
variable{E:St}
theorem zXN.le{E':St}{p:Option Addr}{l:Nat}{rs:List (List Int)}(h:zXN E p l rs)(k:Le E E'):zXN E' p l rs:=by
 obtain⟨vs,h1,h2,h3⟩:=h;exact⟨vs,h1.le k,h2,λi r hi=>by obtain⟨q,c,g1,g2⟩:=h3 i r hi;exact⟨q,c,g1,g2.le k⟩⟩
theorem zXN.len(h:zXN E p l rs):rs.length=l:=h.choose_spec.2.1
theorem zXN.row{i:Nat}(h:zXN E p l rs)(hi:i<l):∃a,p=some a/\∃r q c,rs[i]?=some r/\(∀O,Le E O->zJ tP O 48 (zO a (Int.toNat (i:Int)*1))=some (.slice q r.length c))/\yM E q r.length r:=by
 obtain⟨vs,h1,h2,h3⟩:=h;obtain⟨a,rfl,_⟩:=h1.some hi;obtain⟨q,c,g1,g2⟩:=h3 i rs[i] (by simp);exact⟨a,rfl,rs[i],q,c,by simp,λO iq=>(h1.le iq).at rfl g1,g2⟩
theorem yEU(zs:List Value):∀N,(xL zs N).length=N*zs.length
 |0=>by simp[xL]
 |N+1=>by simp[xL,yEU zs N,Nat.add_mul];omega
theorem zZZ{zs:List Value}(h:zs.all cellB=true):∀N,(xL zs N).all cellB=true
 |0=>by simp[xL]
 |N+1=>by simp only[xL,List.all_append,zZZ h N,h,Bool.and_self]
theorem wCK{U:Type}{f:U->Value}(hf:∀x,(f x).cells.toList.all cellB=true)(r:List U):(wD (r.map f)).all cellB=true:=by
 induction r with
 |nil=>rfl
 |cons x r ih=>rw[List.map_cons,show f x::r.map f=[f x]++r.map f from rfl,zBJ,List.all_append,ih,Bool.and_true];simpa [wD] using hf x

theorem wIE{N:Nat}(hN:N<=1073741824):∃p c E',zW tP 141 [.slice none 0 0,iV (N:Int)] E (.slice p 0 c) E'/\New E E'/\Buf E' E.j 1 N p 0 c []:=by
 have k0:wA tP (evL [.slice none 0 0]) E.re (.call { callee:=.builtin .cap,args:=⟨wT 1⟩,argTypes:=⟨[48]⟩ })=some (iV 0):=by kernel_rfl
 suffices hmain:zQ tP 141 [.slice none 0 0,iV (N:Int)] E.re λv s=>New E.re s/\∃p c,v=.slice p 0 c/\Buf s E.j 1 N p 0 c [] by
  obtain⟨v,E',h1,h2,p,c,rfl,h3⟩:=zQ.new hmain (by rintro v s s' ⟨p,c,rfl,h⟩ hl;exact⟨p,c,rfl,h.le hl⟩) (by
   rintro v s hr ⟨p,c,rfl,h⟩;refine⟨p,c,rfl, ?_⟩
   rcases h with ⟨rfl,e1,_,e2,_⟩|⟨b,bc,rfl,_⟩
   .exact .inl ⟨rfl,e1,rfl,e2,rfl⟩
   .exact Bool.noConfusion (show false=true from hr))
  exact⟨p,c,E',h1,h2,h3⟩
 rcases Nat.eq_zero_or_pos N with h0|h0
 .subst h0;exact wBX k0 ⟨New.refl _,none,0,rfl,Buf.nil⟩
 have hz:∃ei z,tP.info? 3=some ei/\ei.zero=some z/\ei.bytes<=4096/\yI RD z=true/\Nat.beq z.cells.toList.length 1=true/\z.cells.toList=[iV 0]:=⟨_,_,rfl,rfl,by decide,rfl,rfl,rfl⟩;obtain⟨ei,z,hei,hz,hby,hrz,hzl,hzz⟩:=hz;have hzc:(xL z.cells.toList N).length=N*1:=by rw[hzz];exact yEU _ N
 have hcb:(xL z.cells.toList N).all cellB=true:=by rw[hzz];exact zZZ rfl N
 have g:=wBW (P:=tP) (E:=E.re) (st:=48) (xt:=3) (e:=3) (n:=1) (N:=N) (k:=.i64) (q:=.i64) (z:=z) (by kernel_rfl) (by kernel_rfl) hei hz hby hrz hzl (by omega) hN h0 hzc hcb;have o:Own (E.re.row (xL z.cells.toList N) 1) E.j (xL z.cells.toList N) 1:=zX _ _ _;have s3:uM tP E.re 48 (.slice none 0 0) none (some (iV 0)) none=some (.slice none 0 0):=by kernel_rfl
 obtain⟨c6,s6,e6⟩:=xIC (P:=tP) (t:=48) (e:=3) (N:=N) (c:=N+uQ) (q:=.i64) (by kernel_rfl) (by kernel_rfl) o h0 (zBK N) (zHF N);exact wBY k0 k0 s3 (by simpa using g) (by simpa using s6) ⟨New.row _ _ _,some ⟨E.j,0,none⟩,c6,rfl,.inr ⟨E.j,_,rfl,e6,o,hzc,Nat.zero_le _,by simp,Nat.le_refl _,h0⟩⟩
theorem wIT{c:Nat}(h:zXN E p l rs)(hl:l<=1073741824)(hN:rs.flatten.length<=1073741824) :
  ∃p' c' E',zW tP 113 [.slice p l c] E (.slice p' rs.flatten.length c') E'/\New E E'/\yM E' p' rs.flatten.length rs.flatten/\∀b,AtP p' b->E.j<=b:=by
 have hlen:=h.len;have h0:=h.le (le0 E);have hsum:∀s,((rs.take s).flatten).length<=rs.flatten.length:=λs=>by
  have e:rs.flatten.length=((rs.take s).flatten).length+((rs.drop s).flatten).length:=by rw[<- List.length_append,<- List.flatten_append,List.take_append_drop]
  omega
 refine zQ.newSl (wDH (P0:=λn O=>O=E.re/\n=(rs.flatten.length:Int)) (xDK (Inv:=λk n i O=>∃s:Nat,i=s/\s+k=l/\O=E.re/\n=(((rs.take s).flatten).length:Int)) ?_ l 0 0 E.re ⟨0,rfl,by omega,rfl,by simp⟩) ?_)
 .rintro k n i O ⟨s,rfl,hk,rfl,rfl⟩;by_cases hs:s<l;rotate_left
  .exact xVE ⟨rfl,by rw[List.take_of_length_le (by omega)]⟩
  obtain⟨a,rfl,r,q,d,hr,ld,hq⟩:=h0.row hs;have e1:((rs.take (s+1)).flatten).length=((rs.take s).flatten).length+r.length:=by rw[wE hr];simp
  have:=hsum (s+1);exact xVF (ld _ (Le.refl _)) ⟨k-1,by omega,s+1,by omega,by omega,rfl,by rw[e1];omega⟩
 .rintro n O ⟨rfl,rfl⟩;obtain⟨p1,c1,E1,k1,n1,b1⟩:=wIE (E:=E.re) (N:=rs.flatten.length) hN;refine xDI k1 (P2:=λp' l' c' O=>l'=rs.flatten.length/\New E.re O/\Buf O E.j 1 rs.flatten.length p' l' c' (wD (rs.flatten.map yK))) (xDJ (Inv:=λk p' l' c' i O=>∃s:Nat,i=s/\s+k=l/\l'=((rs.take s).flatten).length/\New E.re O/\Buf O E.j 1 rs.flatten.length p' l' c' (wD (((rs.take s).flatten).map yK))) ?_ l p1 0 c1 0 E1 ⟨0,rfl,by omega,rfl,n1,by simpa [wD] using b1⟩) ?_
  .rintro k p' l' c' i O ⟨s,rfl,hk,rfl,hNw,hb⟩;by_cases hs:s<l;rotate_left
   .rw[List.take_of_length_le (by omega)]at hb ⊢;exact xVC ⟨rfl,hNw,hb⟩
   obtain⟨a,rfl,r,q,d,hr,ld,hq⟩:=(h0.le hNw.le).row hs;have e1:((rs.take (s+1)).flatten).length=((rs.take s).flatten).length+r.length:=by rw[wE hr];simp
   have:=hsum (s+1);obtain⟨V2,g1,g2,g3,g4,g5⟩:=hb.push (P:=tP) (st:=48) (xt:=48) (e:=3) (m:=r.length) (d:=d) (q:=q) (xs:=wD (r.map yK)) (zAW (by kernel_rfl)) hq.1 (by omega) hN (wCK (λ_=>rfl) r);have N2:New E.re V2:=hNw.of_only g3 (λb hbb=>(hb.bd b hbb).1);refine xVD (ld _ (Le.refl _)) g1 ⟨k-1,by omega,s+1,by omega,by omega,by rw[e1],N2, ?_⟩;rw[wE hr,List.flatten_append,List.map_append,zBJ];simpa using g2
  .rintro p' l' c' O ⟨rfl,hNw,hb⟩;exact xDH ⟨hNw,p',c',rfl,hb.slv (List.length_map _) (by intro v hv;obtain⟨x,_,rfl⟩:=List.mem_map.1 hv;exact vU x),λb hbb=>(hb.bd b hbb).1⟩
end
end
def zSW(xs:List Nat):List Int:=xs.map λi:Nat=>(i:Int)
section
variable{E:St}{w:Wk}{p q:Option Addr}{l m c d D:Nat}
theorem xDE(h:WkP E 93 94 w p l q m)(hl:l<=1000):∃p' c' E',zW tP 76 [.agg ⟨wkc w.J p l c q m d w.rest w.run w.N⟩,iV (D:Int)] E (.slice p' (yS w D l).length c') E'/\New E E'/\yM E' p' (yS w D l).length (zSW (yS w D l))/\∀b,AtP p' b->E.j<=b:=by
 have hln:=h.len.1;have hle:∀s,(yS w D s).length<=s:=λs=>by
  unfold yS;have:=List.length_filter_le (λi=>decide ((dty w i).day=(D:Int))) (List.range s);simpa using this
 obtain⟨E1,hE1⟩:∃E1,E1=(E.re.row (wkc w.J p l c q m d w.rest w.run w.N) 6).row [.slice none 0 0] 1:=⟨_,rfl⟩;have N1:New E.re E1:=by rw[hE1];exact(New.row _ _ _).row'
 have x1:E1.j=E.j+2:=by rw[hE1];rfl
 have o1:Own E1 (E.j+1) [.slice none 0 0] 1:=by rw[hE1];exact zX (E.re.row (wkc w.J p l c q m d w.rest w.run w.N) 6) [.slice none 0 0] 1
 obtain⟨a1,a2,O,k1,n1,ha2,r1,r2⟩:=wPA (E:=E1) (w:=w) (p:=p) (q:=q) (l:=l) (m:=m) (c:=c) (d:=d) (D:=D);have N2:=N1.trans n1;have L2:Le E O:=(le0 E).trans N2.le;have nx2:=n1.nx;have hd2:yQD O 93 p l w.L:=SlV.le h.dty L2;have hpb:∀a,p=some a->a.block<E.j:=xW h.dty;have ha2t:a2<O.j:=r2.lt;rw[hE1]at k1;let J:Nat->St->Prop:=λs z=>Row z ⟨a2,0,none⟩ [yK D]/\yQD z 93 p l w.L/\O.j<=z.j/\∃p' c',Own z (E.j+1) [.slice p' (yS w D s).length c'] 1/\Gr tP z (O.j+2) 3 1 p' (yS w D s).length c' ((zSW (yS w D s)).map yK)/\Le E z
 refine zQ.newSl (xUV k1 (Pn:=λz=>J l z/\yP z.heap O.j=some .defd/\O.j<z.j/\∀m,m<=E.j->m<=O.low->m<=z.low) (yCA (zf:=λz _=>z) (λz _=>Le.refl z) (λz _=>Nat.le_refl _) (w:=w) (pp:=p) (q:=q) (l:=l) (m:=m) (c:=c) (d:=d) (D:=D) (a1:=a1) (a2:=a2) (n0:=E.j) (J:=λs z=>J s z) (λg0=>rfl) r1 (by omega) (by omega) (λs z hz=>⟨hz.1,hz.2.1⟩) ⟨r2,hd2,Nat.le_refl _,none,0,o1.le n1.le,by simpa [yS,zSW] using Gr.nil,L2⟩ ?_ ?_ ?_ ?_) ?_)
 .rintro s z z' ⟨h1,h2,h3,p',c',h4,h5,h6⟩ hk;refine⟨hk.rw h1,hk.slv h2,Nat.le_trans h3 hk.j,p',c',hk.own h4,hk.gr h5,⟨Nat.le_trans h6.j hk.j,λb hb=>by rw[hk.old b hb];exact h6.get b hb⟩⟩
 .rintro s z hs hd ⟨h1,h2,h3,p',c',h4,h5,h6⟩;have e:yS w D (s+1)=yS w D s:=by rw[yUK,if_neg hd]
  refine⟨h1,h2,h3,p',c', ?_, ?_,h6⟩
  .rw[e];exact h4
  .rw[e];exact h5
 .rintro s z z1 lo g0 db hs hd hlo hlp hz1 ⟨h1,h2,h3,p',c',h4,h5,h6⟩ hnx;have e:yS w D (s+1)=yS w D s++[s]:=by rw[yUK,if_pos hd]
  have hlt:lo<z.j:=by omega
  have k01:Only (λy=>y=lo) z z1:=by
   rw[hz1];exact(Only.re (S:=λy=>y=lo) z).trans' (Only.put (S:=λy=>y=lo) (.inr rfl)) (λb _ e=>.inl e)
  have u1:Own z1 (E.j+1) [.slice p' (yS w D s).length c'] 1:=k01.own' h4 (by omega);have v1:Gr tP z1 (O.j+2) 3 1 p' (yS w D s).length c' ((zSW (yS w D s)).map yK):=h5.only k01 (λb hb e=>by have:=(h5.bd hb).1;omega);have nx1:=k01.j;have hs2:=hle s;obtain⟨p2,c2,z2,g1,g2,g3,g4⟩:=zGM (yK (s:Int)) uH v1 (Le.refl z1) (vU _) (by omega) (by omega);have hS:∀b,AtP p' b->O.j+2<=b:=λb hb=>(v1.bd hb).1
  have k12:Only (AtP p') z1 z2:=(Only.row z1 [yK (s:Int)] 1).trans' g3 (λb _ e=>.inl e);have u2:=k12.own' u1 (λhb=>by have:=hS _ hb;omega);have st:=u2.store (P:=tP) (k:=0) (t:=48) (v:=.slice p2 ((yS w D s).length+1) c2) (vs:=[.slice p2 ((yS w D s).length+1) c2]) (ds:=[.slice p2 ((yS w D s).length+1) c2]) rfl ySR rfl (by simp) rfl;obtain⟨z3,hz3⟩:∃z3,z3=z2.own (E.j+1) [.slice p2 ((yS w D s).length+1) c2] 1:=⟨_,rfl⟩;rw[<- hz3]at st;have k23:Only (λy=>y=E.j+1) z2 z3:=by rw[hz3];exact Only.own (.inr rfl)
  have k13:Only (λy=>y=E.j+1\/AtP p' y) z1 z3:=(k12.mono (λ_ _ e=>.inr e)).trans' k23 (λb _ e=>.inl (.inl e));have k03:Only (λy=>y=lo\/y=E.j+1\/AtP p' y) z z3:=(k01.mono (λ_ _ e=>.inl e)).trans' k13 (λb _ e=>.inl (.inr e));refine⟨z3,xKZ hlp hz1 (u1.ld (k:=0) rfl xF rfl) g1 st rfl,⟨k03.rw' h1 ?_,k03.slv' h2 ?_,by have:=k03.j;omega,p2,c2, ?_, ?_, ?_⟩,_,k13, ?_⟩
  .rintro(hb|hb|hb)
   .have hb:a2=lo:=hb;omega
   .have hb:a2=E.j+1:=hb;omega
   .have:=hS _ hb;have:O.j+2<=a2:=this;omega
  .rintro a ea (hb|hb|hb)
   .have:=hpb a ea;omega
   .have:=hpb a ea;omega
   .have:=hS _ hb;have:=hpb a ea;omega
  .rw[e,List.length_append,hz3];exact u2.put
  .rw[e,List.length_append];have e2:(zSW (yS w D s++[s])).map yK=(zSW (yS w D s)).map yK++[yK (s:Int)]:=by simp[zSW]
   rw[e2];exact g2.only k23 (λb hb e=>by have:=(g2.bd hb).1;omega)
  .refine⟨Nat.le_trans h6.j k03.j,λb hb=>?_⟩
   rw[k03.get b (by omega) ?_]
   .exact h6.get b hb
   .rintro(e|e|e)
    .omega
    .omega
    .have:=hS _ e;omega
  .rintro y (e|e)
   .exact⟨by omega,by omega,by omega⟩
   .have:=hS _ e;exact⟨by omega,by omega,by omega⟩
 .rintro z h1 h2 h3 h4;exact⟨h1,h2,h3,h4⟩
 .rintro z ⟨⟨h1,h2,h3,p',c',h4,h5,h6⟩,h7,h8,h9⟩;have st:=h4.store (P:=tP) (k:=0) (t:=48) (v:=.slice p' (yS w D l).length c') (vs:=[.slice p' (yS w D l).length c']) (ds:=[.slice p' (yS w D l).length c']) rfl ySR rfl (by simp) rfl;have hB:E.j+1<O.j:=by omega
  obtain⟨z2,k1,k2,k3,k4⟩:=zVU (ms:=[O.j]) (E:=z.own (E.j+1) [.slice p' (yS w D l).length c'] 1) (λy hy=>by
   rcases List.mem_singleton.1 hy with rfl;show yP (St.put _ _ _).heap _=_;rw[St.put_get,if_neg (by omega)];exact h7) (by simp)
  have o2:Own z2 (E.j+1) [.slice p' (yS w D l).length c'] 1:=h4.put.at_ (k3 _ (λe=>by have:=List.mem_singleton.1 e;omega)) (by rw[k2];exact Nat.le_refl _);have g2:Gr tP (z.own (E.j+1) [.slice p' (yS w D l).length c'] 1) (O.j+2) 3 1 p' (yS w D l).length c' ((zSW (yS w D l)).map yK):=h5.only (S:=(·=E.j+1)) (Only.own (.inr rfl)) (λb hb e=>by have:=(h5.bd hb).1;omega);have sl:yM z2 p' (yS w D l).length (zSW (yS w D l)):=by
   have:=g2.slv;refine⟨⟨this.1.1, ?_⟩,this.2⟩
   cases p' with
   |none=>exact this.1.2
   |some a =>
    have hr:=this.1.2;have hb:=(h5.bd ⟨a,rfl,rfl⟩);refine⟨?_,by rw[k2];exact hr.lt⟩
    have e:yP z2.heap a.block=yP (z.own (E.j+1) [.slice (some a) (yS w D l).length c'] 1).heap a.block:=k3 _ (λe=>by have:=List.mem_singleton.1 e;omega);have:=hr.rd;unfold xG at this ⊢;rw[e];exact this
  have N:New E.re z2:=by
   refine⟨⟨by rw[k2];exact h6.j,λb hb=>?_⟩,λm g1 g2=>k4 m ?_ (λy hy=>by have:=List.mem_singleton.1 hy;have g2:m<=E.j:=g2;omega)⟩
   .have hb:b<E.j:=hb;rw[k3 b (λe=>by have:=List.mem_singleton.1 e;omega)];show yP (St.put _ _ _).heap b=_;rw[St.put_get,if_neg (by omega)];exact h6.get b hb
   .have g2:m<=E.j:=g2;have:=h9 m g2 (N2.low m g1 g2);show m<=min _ _;omega
  exact yUL (h4.ld (k:=0) rfl xF rfl) st k1 (o2.ld (k:=0) rfl xF rfl) ⟨N,p',c',rfl,sl,λb hb=>by have:=(h5.bd hb).1;show E.j<=b;omega⟩
end
section
noncomputable section
variable(day:Int)(who:oAa)(aW bh BA:Nat)(q13 q1:oAa)(l13 l1 c13 c1 BB BC:Nat)(n14 aH di:Int)(q0:St->Prop)(qI:oAa)(lM cH:Nat)(q3:Int->St->Prop)(dQ dZ:Int)(Q:Int->Int->St->Prop)(E:St)(Nx:Int->Int->St->Prop)(q4:vPa)(q5 Q2:Int->St->Prop)(Q0:St->Prop)
def xIF:Code:=(Code.part [1,1,1,1,1,0,1,0,0] (zV tP 43))
def ySW:lNa:=[(3,pq BA 0),(6,.slice q13 l13 c13),(7,pq BB 0),(10,pq BC 0),(11,iV aH),(31,iV n14),(32,iV di)]
def xNJ:Alt:=⟨Int×Int,.normal,λt=>ySW BA q13 l13 c13 BB BC n14 t.1 t.2,λt=>[],λt E=>Q t.1 t.2 E⟩
def xBB(BA:Nat)(q13:oAa)(l13 c13 BB BC:Nat)(n14:Int):lNa:=[(6,.slice q13 l13 c13),(7,pq BB 0),(10,pq BC 0)]
def zVW:Alt:=⟨Unit,(.exit 0),λt=>xBB BA q13 l13 c13 BB BC n14,λt=>[],λt E=>q0 E⟩
def xIH:Prop:=yT tP (zZ tP) none xIF 62 (ySW BA q13 l13 c13 BB BC n14 aH di) [] [xNJ BA q13 l13 c13 BB BC n14 Nx,zVW BA q13 l13 c13 BB BC n14 Q0] E
def xIG:Prop:=yW tP (zZ tP) none xIF 62 (ySW BA q13 l13 c13 BB BC n14 aH di) [] [zVW BA q13 l13 c13 BB BC n14 Q0] E
def xYY:Code:=(Code.part [1,1,1,1,1,0,1,0,0,1,1,0,0,1,1,0,0] (zV tP 43))
def yHB:lNa:=[(3,pq BA 0),(6,.slice q13 l13 c13),(7,pq BB 0),(10,pq BC 0),(11,iV dQ),(31,iV n14),(32,iV di),(37,.slice qI lM cH),(38,iV (lM:Int)),(39,iV dZ)]
def wHC:Alt:=⟨Int×Int,.normal,λt=>yHB BA q13 l13 c13 BB BC n14 di qI lM cH t.1 t.2,λt=>[],λt E=>Q t.1 t.2 E⟩
def xBA(BA:Nat)(q13:oAa)(l13 c13 BB BC:Nat)(n14 di:Int)(qI:oAa)(lM cH:Nat)(dQ:Int):lNa:=[(3,pq BA 0),(6,.slice q13 l13 c13),(7,pq BB 0),(10,pq BC 0),(11,iV dQ),(31,iV n14),(32,iV di)]
def yHC:Alt:=⟨Int,(.exit 2),λt=>xBA BA q13 l13 c13 BB BC n14 di qI lM cH t,λt=>[],λt E=>q3 t E⟩
def ySX:Prop:=yT tP (zZ tP) none xYY 62 (yHB BA q13 l13 c13 BB BC n14 di qI lM cH dQ dZ) [] [wHC BA q13 l13 c13 BB BC n14 di qI lM cH Nx,yHC BA q13 l13 c13 BB BC n14 di qI lM cH Q2] E
def xYZ:Prop:=yW tP (zZ tP) none xYY 62 (yHB BA q13 l13 c13 BB BC n14 di qI lM cH dQ dZ) [] [yHC BA q13 l13 c13 BB BC n14 di qI lM cH Q2] E
def xBC:Prop:=kZ (zZ tP) xIF [1,1,0,0,1,1,0] (zHG 62 [xNJ BA q13 l13 c13 BB BC n14 Nx,zVW BA q13 l13 c13 BB BC n14 Q0]) (.exit 2) 62 (xBA BA q13 l13 c13 BB BC n14 di qI lM cH dQ) E
def yHD:Prop:=kZ (zZ tP) (zV tP 43) [1,1,1,1,1,0,1,0] (kFn tP 43 q4) (.exit 0) 62 (xBB BA q13 l13 c13 BB BC n14) E
def xFA:Code:=(Code.part [1,0,1,0,0] (zV tP 41))
def zPK:lNa:=[(0,iV day),(1,.slice who aW bh),(5,pq BA 0),(9,.slice q1 l1 c1),(10,iV (l1:Int)),(11,iV aH)]
def xWN:Alt:=⟨Int,.normal,λt=>zPK day who aW bh BA q1 l1 c1 t,λt=>[],λt E=>q3 t E⟩
def yJV(day:Int)(who:oAa)(aW bh BA:Nat)(q1:oAa)(l1 c1:Nat):lNa:=[(5,pq BA 0)]
def zTR:Alt:=⟨Unit,(.exit 0),λt=>yJV day who aW bh BA q1 l1 c1,λt=>[],λt E=>q0 E⟩
def zPL:Prop:=yT tP (zZ tP) none xFA 30 (zPK day who aW bh BA q1 l1 c1 aH) [] [xWN day who aW bh BA q1 l1 c1 q5,zTR day who aW bh BA q1 l1 c1 Q0] E
def xFB:Prop:=yW tP (zZ tP) none xFA 30 (zPK day who aW bh BA q1 l1 c1 aH) [] [zTR day who aW bh BA q1 l1 c1 Q0] E
def yJW:Prop:=kZ (zZ tP) (zV tP 41) [1,0,1,0] (kFn tP 41 q4) (.exit 0) 30 (yJV day who aW bh BA q1 l1 c1) E
end
variable{BA l13 c13 BB BC lM cH lG cC lE cD lK cF ae af aa ac l8 c8 l11 c11 l2 c2 l12 c12 aW bh l1 c1 lA cA:Nat}{q13 qI qC qG ah ag q8 q11 q2 q12 who q1 qA:oAa}{n14 di dQ dZ nFB nT aH nH nE nF nB ak ao au aj n2 n3 n4 n5 n6 n7 nHB nLB nCB nDB nOB nIC nBC nBV nBW nCC nDC nBU n1 n8 day nBT x0:Int}{Inv:Nat->Int->Int->St->Prop}{Q0 P0:St->Prop}{Q2 P2:Int->St->Prop}{qI_a qD_a q13_a eR v0:Addr}{EDB E EE E10 E12 ER E14 EBH EV:St}{Nx:Int->Int->St->Prop}{leaves b9 bA:Bool}{worth:FuncId}{worth_c:lVa}{f1:Nat->Std}{Q:vPa}
theorem xSS(hb:∀k aH di E,Inv k aH di E->xIH BA q13 l13 c13 BB BC n14 aH di E (NX2 Inv k) Q0):∀k aH di E,Inv k aH di E->xIG BA q13 l13 c13 BB BC n14 aH di E Q0 :=
 zFM (ai (wF 0) trivial) hb
theorem xSR(hb:∀k dQ dZ E,Inv k dQ dZ E->ySX BA q13 l13 c13 BB BC n14 di qI lM cH dQ dZ E (NX2 Inv k) Q2):∀k dQ dZ E,Inv k dQ dZ E->xYZ BA q13 l13 c13 BB BC n14 di qI lM cH dQ dZ E Q2 :=
 zFM (ai (wF 2) trivial) hb
theorem wGZ(h1:LDz E 3 (zO qI_a (Int.toNat dZ*1)) (iV nFB))(h2:LDz E 4 (qe BC 7) (.bool true))(h3:LDz E 48 (qe BC 6) (.slice (some qD_a) lG cC))(h4:LDz E 3 (zO qD_a (Int.toNat dQ*1)) (iV nT))(h5:SOz E 3 (zO q13_a (Int.toNat nFB*1)) (iV nT) EDB)(nx:Nx (dQ+1) (dZ+1) EDB)(u1:dZ<(lM:Int):=by omega)(u2:Ix dZ lM:=by omega)(u3:Ix dQ lG:=by omega)(u4:Ix nFB l13:=by omega)(u5:I6 (dQ+1):=by omega)(u6:I6 (dZ+1):=by omega):ySX BA (some q13_a) l13 c13 BB BC n14 di (some qI_a) lM cH dQ dZ E Nx Q2 :=
 eO 0 (dQ+1,dZ+1) [.b (zT u1),.i u2,.l h1,.g2,.l h2,.g3,.l h3,.g,.i u3,.l h4,.i u4,.e h5,.g,.w u5,.g,.w u6,.g] nx
theorem wGY(h1:LDz E 3 (zO qI_a (Int.toNat dZ*1)) (iV nFB))(h2:LDz E 4 (qe BC 7) (.bool false))(nx:Nx dQ (dZ+1) E)(u1:dZ<(lM:Int):=by omega)(u2:Ix dZ lM:=by omega)(u3:I6 (dZ+1):=by omega):ySX BA q13 l13 c13 BB BC n14 di (some qI_a) lM cH dQ dZ E Nx Q2 :=
 eO 0 (dQ,dZ+1) [.b (zT u1),.i u2,.l h1,.g2,.l h2,.w u3,.g] nx
theorem wGX(nx:Q2 dQ E)(u1:¬dZ<(lM:Int):=by omega):ySX BA q13 l13 c13 BB BC n14 di qI lM cH dQ dZ E Nx Q2 :=
 eO 1 dQ [.b (zY u1)] nx
theorem wHB(h1:LDz E 72 (qe BA 0) (qf (wkc nH qC lE cD qG lK cF nE nF nB)))(h2:CAz 76 [qf (wkc nH qC lE cD qG lK cF nE nF nB),iV di] E (.slice qI lM cH) EE)(hL:xYZ BA q13 l13 c13 BB BC n14 di qI lM cH aH 0 EE P2)(k2:∀i11_2' E',P2 i11_2' E'->xBC BA q13 l13 c13 BB BC n14 di qI lM cH i11_2' E' Nx Q0)(u1:di<n14:=by omega):xIH BA q13 l13 c13 BB BC n14 aH di E Nx Q0 :=
 eB [.b (zT u1),.g2,.l h1,.g,.c h2,.g2,.k (.lf 62 (yHB BA q13 l13 c13 BB BC n14 di qI lM cH aH 0) [yHC BA q13 l13 c13 BB BC n14 di qI lM cH P2])] (ai (ai tt (ai (arf (yHB BA q13 l13 c13 BB BC n14 di qI lM cH aH 0)) hL)) (ai (kz1 k2) trivial))
theorem wHA(nx:Q0 E)(u1:¬di<n14:=by omega):xIH BA q13 l13 c13 BB BC n14 aH di E Nx Q0 :=
 eO 1 () [.b (zY u1)] nx
theorem xSP(nx:Nx dQ (di+1) E)(u1:I6 (di+1):=by omega):xBC BA q13 l13 c13 BB BC n14 di qI lM cH dQ E Nx Q0 :=
 eF 0 (dQ,di+1) [.w u1,.g] nx
theorem wMG:let y2:=wkc ak ah ae af ag aa ac ao au aj;let y0:=(((E.row y2 6).row (zS 0 0 0 0 0 0) 1).add (.map [])).row [iV ak,.slice ah ae af,.slice ag aa ac,iV ao,iV au,iV aj,.bool leaves,.func (.func worth) ⟨[]⟩ ⟨worth_c⟩,.map (some (E.j+2))] 9;let y1:=(E10.row [iV 0,iV 0,iV 0,iV 0,iV 0,iV 0,.slice none 0 0,.bool false] 8).own E10.j [iV n2,iV n3,iV n4,iV n5,iV n6,iV n7,.slice q8 l8 c8,.bool b9] 8;∀(h1:CPz 75 [qf y2] y0 (qf (stL f1))) (h2:CAz 74 [pq ((E.j+3)) 0,qf (iV 0::(stL f1))] y0 (qf [iV n2,iV n3,iV n4,iV n5,iV n6,iV n7,.slice q8 l8 c8,.bool b9]) E10) (h3:LDz y1 69 (qe E.j 1) (.slice q11 l11 c11)) (h4:yN tP (evL [iV (l11:Int),iV (l11:Int)]) y1 (.makeSlice 48 (.tmp 0) (.tmp 1))=some (.slice q13 l13 c13,E12)) (h5:LDz E12 3 (qe E.j 0) (iV n14)) (hL:xIG E.j q13 l13 c13 (E.j+1) E10.j n14 0 0 E12 P0) (k0:∀E',P0 E'->yHD E.j q13 l13 c13 (E.j+1) E10.j n14 E' Q),zQ tP 43 [qf y2,.bool leaves,.func (.func worth) ⟨[]⟩ ⟨worth_c⟩] E Q :=
 let s1:=ySW E.j q13 l13 c13 (E.j+1) E10.j n14 0 0;let y2:=wkc ak ah ae af ag aa ac ao au aj;let y0:=(((E.row y2 6).row (zS 0 0 0 0 0 0) 1).add (.map [])).row [iV ak,.slice ah ae af,.slice ag aa ac,iV ao,iV au,iV aj,.bool leaves,.func (.func worth) ⟨[]⟩ ⟨worth_c⟩,.map (some (E.j+2))] 9;λh1 h2 h3 h4 h5 hL k0=>let ch1:List Bs:=[.r (zS 0 0 0 0 0 0) 1,.r y2 6];let ch2:List Bs:=[.r [iV 0,iV 0,iV 0,iV 0,iV 0,iV 0,.slice none 0 0,.bool false] 8];eQ [.g4,.F E ch1 0 0 zAD vB,.g7,.l ((zX _ _ _).row.add.row.rw.ldN zAD vB (k:=0) rfl rfl (nle rfl):zJ tP y0 72 (qe E.j 0)=some (qf y2)),.c h1,.g,.c h2,.g,.s E10 ch2 0 0 uN (qf [iV n2,iV n3,iV n4,iV n5,iV n6,iV n7,.slice q8 l8 c8,.bool b9]),.g,.l h3,.g,.e h4,.g3,.l h5,.g,.k (.lf 62 s1 [zVW E.j q13 l13 c13 (E.j+1) E10.j n14 P0])] (ai (ai tt (ai (arf s1) hL)) (ai (kz0 k0) trivial))
theorem xSQ(h1:LDz E 126 (qe BC 0) (qf (zS nHB nLB nCB nDB nOB nIC)))(h2:LDz E 4 (qe BC 7) (.bool bA))(h3:SOz E 126 (qe BB 0) (qf (zS nHB nLB nCB nDB nOB nIC)) ER)(h4:(zLq ER 4 (qe BC 7) (.bool bA)))(h5:LDz ER 126 (qe BB 0) (qf (zS nBC nBV nBW nCC nDC nBU)))(nx:Q (.tuple ⟨[.slice q13 l13 c13,qf (zS nBC nBV nBW nCC nDC nBU),.bool bA]⟩) ER)(b_BC:BC<E.j:=by omega)(b_BB:BB<E.j:=by omega):yHD BA q13 l13 c13 BB BC n14 E Q :=
 eK [.g2,.l h1,.g,.l h2,.g,.e h3,.g,.p ((zI (zR b_BC) zM):zL E.j [pq BC 0]),.p ((zI (zR b_BC) zM):zL E.j [pq BC 7]),.p ((zI (zR b_BB) (zI (yX rfl) zM)):zL E.j [pq BB 0,qf (zS nHB nLB nCB nDB nOB nIC)]),.p (⟨⟨b_BC,rfl⟩,h2⟩:(zLq E 4 (qe BC 7) (.bool bA))),.p h4,.l h5] nx
theorem wKH:let Y1:=E10.row (zS 0 0 0 0 0 0) 1;let Y2:=Y1.own E10.j (zS n3 n4 n5 n6 n7 n8) 1;∀(h1:CPz 40 [qf (wkc ak ah ae af ag aa ac ao au aj)] (E.row (wkc ak ah ae af ag aa ac ao au aj) 6) (iV n1)) (h2:CAz 43 [qf (wkc ak ah ae af ag aa ac ao au aj),.bool false,.func (.func 41) ⟨[]⟩ ⟨[pq E.j 0]⟩] (E.row (wkc ak ah ae af ag aa ac ao au aj) 6) (.tuple ⟨[.slice q2 l2 c2,qf (zS n3 n4 n5 n6 n7 n8),.bool true]⟩) E10) (h3:LDz Y2 70 (qe E.j 2) (.slice q11 l11 c11)) (h4:uM tP Y2 126 (pq E10.j 0) none (some (iV (l11:Int))) none=some (.slice q12 l12 c12)) (h5:CAz 44 [.slice q12 l12 c12] Y2 (.slice q13 l13 c13) E14) (nx:Q (.tuple ⟨[.slice q2 l2 c2,.slice q13 l13 c13,iV 0]⟩) E14) (u1:n1=0:=by omega),zQ tP 17 [qf (wkc ak ah ae af ag aa ac ao au aj)] E Q:=
 λh1 h2 h3 h4 h5 nx u1=>let ch1:List Bs:=[.r (wkc ak ah ae af ag aa ac ao au aj) 6];let ch2:List Bs:=[.r (zS 0 0 0 0 0 0) 1];eQ [.g4,.F E ch1 0 0 zAD vB,.c h1,.g2,.b (yY u1),.g2,.F E ch1 0 0 zAD vB,.g,.c h2,.g6,.s E10 ch2 0 0 wK (qf (zS n3 n4 n5 n6 n7 n8)),.g5,.l h3,.g,.v h4,.c h5,.g3] nx
theorem wKG:let y0:=wkc ak ah ae af ag aa ac ao au aj;∀(h1:CPz 40 [qf y0] (E.row y0 6) (iV n1)) (h2:CAz 43 [qf y0,.bool false,.func (.func 41) ⟨[]⟩ ⟨[pq E.j 0]⟩] (E.row y0 6) (.tuple ⟨[.slice q2 l2 c2,qf (zS n3 n4 n5 n6 n7 n8),.bool false]⟩) E10) (nx:Q (.tuple ⟨[.slice none 0 0,.slice none 0 0,iV 9]⟩) ((E10.row (zS 0 0 0 0 0 0) 1).own E10.j (zS n3 n4 n5 n6 n7 n8) 1)) (u1:n1=0:=by omega),zQ tP 17 [qf y0] E Q :=
 let y0:=wkc ak ah ae af ag aa ac ao au aj;λh1 h2 nx u1=>let ch1:List Bs:=[.r y0 6];let ch2:List Bs:=[.r (zS 0 0 0 0 0 0) 1];eQ [.g4,.F E ch1 0 0 zAD vB,.c h1,.g2,.b (yY u1),.g2,.F E ch1 0 0 zAD vB,.g,.c h2,.g6,.s E10 ch2 0 0 wK (qf (zS n3 n4 n5 n6 n7 n8)),.g6] nx
theorem xEZ{Inv:Nat->Int->St->Prop}(hb:∀k aH E,Inv k aH E->zPL day who aW bh BA q1 l1 c1 aH E (NX1 Inv k) Q0):∀k aH E,Inv k aH E->xFB day who aW bh BA q1 l1 c1 aH E Q0 :=
 xE (ai (wF 0) trivial) hb
theorem xWM{Nx:Int->St->Prop}:let Y1:=E.row (yH none 0 0 none 0 0 none 0 0 0 0 0) 6;let Y2:=Y1.own E.j (yH qA lA cA qC lE cD qG lK cF nE nF nB) 6;let y0:=yH qA lA cA qC lE cD qG lK cF nE nF nB;∀(h1:LDz E 94 (zO eR (Int.toNat aH*6)) (qf y0)) (h2:CPz 42 [.slice qG lK cF,iV day] Y2 (.bool true)) (h3:CPz 42 [.slice who aW bh,iV aH] Y2 (.bool true)) (nx:Nx (aH+1) Y2) (u1:aH<(l1:Int):=by omega) (u2:Ix aH l1:=by omega) (u3:I6 (aH+1):=by omega),zPL day who aW bh BA (some eR) l1 c1 aH E Nx Q0:=
 let y0:=yH qA lA cA qC lE cD qG lK cF nE nF nB;λh1 h2 h3 nx u1 u2 u3=>let ch1:List Bs:=[.r (yH none 0 0 none 0 0 none 0 0 0 0 0) 6];let ch2:List Bs:=.o 0 y0 6::ch1;eO 0 (aH+1) [.b (zT u1),.g,.i u2,.l h1,.g2,.s E ch1 0 0 zKH (qf y0),.g,.f E ch2 0 2 xF,.g,.c h2,.g3,.c h3,.g2,.w u3,.g] nx
theorem xWL{Nx:Int->St->Prop}:let Y1:=E.row (yH none 0 0 none 0 0 none 0 0 0 0 0) 6;let Y2:=Y1.own E.j (yH qA lA cA qC lE cD qG lK cF nE nF nB) 6;let y0:=yH qA lA cA qC lE cD qG lK cF nE nF nB;∀(h1:LDz E 94 (zO eR (Int.toNat aH*6)) (qf y0)) (h2:CPz 42 [.slice qG lK cF,iV day] Y2 (.bool true)) (h3:CPz 42 [.slice who aW bh,iV aH] Y2 (.bool false)) (h4:SOz Y2 3 ⟨BA,0+Int.toNat aH*1,none⟩ (iV 1) EBH) (nx:Nx (aH+1) EBH) (u1:aH<(l1:Int):=by omega) (u2:Ix aH l1:=by omega) (u3:Ix aH 6:=by omega) (u4:I6 (aH+1):=by omega),zPL day who aW bh BA (some eR) l1 c1 aH E Nx Q0:=
 let y0:=yH qA lA cA qC lE cD qG lK cF nE nF nB;λh1 h2 h3 h4 nx u1 u2 u3 u4=>let ch1:List Bs:=[.r (yH none 0 0 none 0 0 none 0 0 0 0 0) 6];let ch2:List Bs:=.o 0 y0 6::ch1;eO 0 (aH+1) [.b (zT u1),.g,.i u2,.l h1,.g2,.s E ch1 0 0 zKH (qf y0),.g,.f E ch2 0 2 xF,.g,.c h2,.g3,.c h3,.g3,.i u3,.e h4,.w u4,.g] nx
theorem xWK{Nx:Int->St->Prop}:let y0:=yH qA lA cA qC lE cD qG lK cF nE nF nB;let y1:=(E.row (yH none 0 0 none 0 0 none 0 0 0 0 0) 6).own E.j y0 6;∀(h1:LDz E 94 (zO eR (Int.toNat aH*6)) (qf y0)) (h2:CPz 42 [.slice qG lK cF,iV day] y1 (.bool false)) (nx:Nx (aH+1) y1) (u1:aH<(l1:Int):=by omega) (u2:Ix aH l1:=by omega) (u3:I6 (aH+1):=by omega),zPL day who aW bh BA (some eR) l1 c1 aH E Nx Q0 :=
 let y0:=yH qA lA cA qC lE cD qG lK cF nE nF nB;λh1 h2 nx u1 u2 u3=>let ch1:List Bs:=[.r (yH none 0 0 none 0 0 none 0 0 0 0 0) 6];let ch2:List Bs:=.o 0 y0 6::ch1;eO 0 (aH+1) [.b (zT u1),.g,.i u2,.l h1,.g2,.s E ch1 0 0 zKH (qf y0),.g,.f E ch2 0 2 xF,.g,.c h2,.g2,.w u3,.g] nx
theorem xWJ{Nx:Int->St->Prop}(nx:Q0 E)(u1:¬aH<(l1:Int):=by omega):zPL day who aW bh BA q1 l1 c1 aH E Nx Q0 :=
 eO 1 () [.b (zY u1)] nx
theorem wFQ(h1:LDz (E.row (zS 0 0 0 0 0 0) 1) 70 (zO v0 2) (.slice q1 l1 c1))(hL:xFB day who aW bh E.j q1 l1 c1 0 (E.row (zS 0 0 0 0 0 0) 1) P0)(k0:∀E',P0 E'->yJW day who aW bh E.j q1 l1 c1 E' Q):zQ tP 41 [iV day,.slice who aW bh,pz v0] E Q :=
 eQ [.g2,.l h1,.g2,.k (.lf 30 (zPK day who aW bh E.j q1 l1 c1 0) [zTR day who aW bh E.j q1 l1 c1 P0])] (ai (ai tt (ai (arf (zPK day who aW bh E.j q1 l1 c1 0)) hL)) (ai (kz0 k0) trivial))
theorem xEY:let y0:=qf (zS nHB nLB nCB nDB nOB nIC);let y1:=qf (zS nBT nBC nBV nBW nCC nDC);∀(h1:LDz E 126 (qe BA 0) y0) (h2:SOz E 126 (qe BA 0) y0 EV) (h3:LDz EV 126 (qe BA 0) y1) (nx:Q y1 EV),yJW day who aW bh BA q1 l1 c1 E Q :=
 λh1 h2 h3 nx=>eK [.l h1,.e h2,.l h3] nx
theorem wKD:let y0:=wkc ak ah ae af ag aa ac ao au aj;let y1:=zS n3 n4 n5 n6 n7 n8;∀(h1:CPz 40 [qf y0] (E.row y0 6) (iV n1)) (h2:CAz 43 [qf y0,.bool true,.func (.func 46) ⟨[]⟩ ⟨[]⟩] (E.row y0 6) (.tuple ⟨[.slice q2 l2 c2,qf y1,.bool b9]⟩) E10) (nx:Q (.tuple ⟨[.slice q2 l2 c2,iV n3,iV 0]⟩) ((E10.row (zS 0 0 0 0 0 0) 1).own E10.j y1 1)) (u1:n1=0:=by omega),zQ tP 19 [qf y0] E Q :=
 let y0:=wkc ak ah ae af ag aa ac ao au aj;let y1:=zS n3 n4 n5 n6 n7 n8;λh1 h2 nx u1=>let ch1:List Bs:=[.r y0 6];let ch2:List Bs:=[.r (zS 0 0 0 0 0 0) 1];let ch3:List Bs:=.o 0 y1 1::ch2;eQ [.g4,.F E ch1 0 0 zAD vB,.c h1,.g2,.b (yY u1),.g,.F E ch1 0 0 zAD vB,.g,.c h2,.g6,.s E10 ch2 0 0 wK (qf y1),.g2,.i (⟨by decide,by decide⟩:xCQ 0 6),.f E10 ch3 0 0 zU,.g3] nx
theorem wFK:let y0:=E.row (zS 0 0 0 0 0 0) 1;let y1:=zS n1 0 0 0 0 0;∀(h1:CPz 47 [.slice who aW bh] y0 (iV n1)) (nx:Q (qf y1) (y0.own E.j y1 1)),zQ tP 46 [iV x0,.slice who aW bh] E Q :=
 let y1:=zS n1 0 0 0 0 0;λh1 nx=>let ch1:List Bs:=[.r (zS 0 0 0 0 0 0) 1];let ch2:List Bs:=.o 0 y1 1::ch1;eQ [.g2,.c h1,.g,.s E ch1 0 0 wK (qf y1),.F E ch2 0 0 zAQ wK] nx
end
section
variable{E:St}{w:Wk}{p q pw:Option Addr}{l m c d D Bw lw cw:Nat}{who:List Int}
theorem yOV{k:Nat}(hk:k<6):(zBY w D who).getD k 0=if k<w.M.length/\(drQ w k).qc.contains (D:Int)=true/\who.contains (k:Int)=false then 1 else 0:=by
 unfold zBY;rw[List.getD_eq_getElem?_getD,List.getElem?_map,List.getElem?_range hk];rfl
theorem xUQ:(zBY w D who).length=6:=by simp[zBY]
theorem wKI(hw:Row E ⟨Bw,0,none⟩ (wkc w.J p l c q m d w.rest w.run w.N))(h:WkP E 93 94 w p l q m)(hm6:m<=6)(hsh:zCE w)(hi:yM E pw lw who)(hl:lw<=1000):zW tP 41 [iV (D:Int),.slice pw lw cw,.pointer (some ⟨Bw,0,none⟩)] E (.agg ⟨six (zBY w D who)⟩) E:=by
 have hmm:=h.len.2;obtain⟨O0,hE0⟩:∃O0,O0=E.re.row (zS 0 0 0 0 0 0) 1:=⟨_,rfl⟩;have N0:New E.re O0:=by rw[hE0];exact New.row _ _ _
 have L0:Le E O0:=(le0 E).trans N0.le;have o0:Own O0 E.j (vI 6 λ_=>0) 1:=by rw[hE0];exact zX E.re (zS 0 0 0 0 0 0) 1
 have l1:zJ tP O0 70 (zO ⟨Bw,0,none⟩ 2)=some (.slice q m d):=(hw.le L0).load1 zLW rfl;rw[hE0]at l1;refine(wFQ l1 (xEZ (Inv:=λk i O=>New E.re O/\∃j:Nat,i=j/\j+k=m/\Own O E.j (vI 6 λs=>if s<j then(zBY w D who).getD s 0 else 0) 1)
  (Q0:=λO=>New E.re O/\Own O E.j (six (zBY w D who)) 1) ?_ m 0 _ ⟨hE0 ▸ N0,0,rfl,by omega,by simpa using hE0 ▸ o0⟩) ?_).pure
 .rintro k i O ⟨hN,j,rfl,hk,w1⟩;by_cases hj:j<m;rotate_left
  .have:j=m:=by omega
   subst this;refine xWJ ⟨hN, ?_⟩;have e:(vI 6 λs=>if s<j then(zBY w D who).getD s 0 else 0)=six (zBY w D who):=by
    refine zFC λs hs=>?_
    by_cases e1:s<j
    .rw[if_pos e1]
    .rw[if_neg e1,yOV hs,if_neg (by omega)]
   rw[<- e];exact w1
  have LL:=(le0 E).trans hN.le;obtain⟨a,rfl,p',l',c',r',n',d',s',j',e',ld,hkn,hlv,hws,_⟩:=(h.le LL).vld xEL zKH hj;have N2:New O ((O.row (yH none 0 0 none 0 0 none 0 0 0 0 0) 6).own O.j (yH p' l' c' r' n' d' s' j' e' (drQ w j).off (drQ w j).row (drQ w j).used) 6):=(New.row _ _ _).own (Nat.le_refl _);have hwl:=(hsh _ (zWU (by omega:j<w.M.length))).2.2;have eln:=hws.len;have c1:=yUS (c:=e') (n:=(D:Int)) (SlV.le hws N2.le) (by omega);have c2:=yUS (c:=cw) (n:=(j:Int)) (SlV.le hi (LL.trans N2.le)) (by omega);have o2:=w1.le N2.le;have hj6:j<6:=by omega
  have hg:=yOV (w:=w) (D:=D) (who:=who) hj6;have same:(zBY w D who).getD j 0=0->(vI 6 λs=>if s<j then(zBY w D who).getD s 0 else 0)=vI 6 λs=>if s<j+1 then(zBY w D who).getD s 0 else 0:=λh0=>by
   refine zFC λs hs=>?_
   by_cases e1:s<j
   .rw[if_pos e1,if_pos (by omega)]
   .rw[if_neg e1];by_cases e2:s=j
    .subst e2;rw[if_pos (by omega),h0]
    .rw[if_neg (by omega)]
  cases b1:(drQ w j).qc.contains (D:Int)with
  |false =>
   rw[b1]at c1 hg;rw[if_neg (by simp)]at hg;exact xWK ld c1 ⟨k-1,by omega,hN.trans N2,j+1,by omega,by omega,by rw[<- same hg];exact o2⟩ (by omega) (by omega) (by omega)
  |true =>
  cases b2:who.contains (j:Int)with
  |true =>
   rw[b1]at c1;rw[b2]at c2 hg;rw[if_neg (by simp)]at hg;exact xWM ld c1 c2 ⟨k-1,by omega,hN.trans N2,j+1,by omega,by omega,by rw[<- same hg];exact o2⟩ (by omega) (by omega) (by omega)
  |false =>
   rw[b1]at c1 hg;rw[b2]at c2 hg;rw[if_pos ⟨by omega,rfl,rfl⟩]at hg;have st:=xXX (x:=1) o2 hj6;refine xWL ld c1 c2 st ⟨k-1,by omega,(hN.trans N2).own (by show E.j<=E.j;omega),j+1,by omega,by omega, ?_⟩ (by omega) (by omega) (by omega) (by omega);have e:(vI 6 λs=>if s=j then 1 else if s<j then(zBY w D who).getD s 0 else 0)=vI 6 λs=>if s<j+1 then(zBY w D who).getD s 0 else 0:=by
    refine zFC λs hs=>?_
    by_cases e2:s=j
    .subst e2;rw[if_pos rfl,if_pos (by omega),hg]
    .rw[if_neg e2];by_cases e1:s<j
     .rw[if_pos e1,if_pos (by omega)]
     .rw[if_neg e1,if_neg (by omega)]
   rw[<- e];exact o2.put
 .rintro O ⟨hN,w1⟩;generalize zBY w D who=v at w1 ⊢;have g1:zJ tP O 126 ⟨E.j,0,none⟩=some (.agg ⟨zS (v.getD 0 0) (v.getD 1 0) (v.getD 2 0) (v.getD 3 0) (v.getD 4 0) (v.getD 5 0)⟩):=by rw[<- zAY];exact zKF w1
  have g2:yN tP (evL [.pointer (some ⟨E.j,0,none⟩),.agg ⟨zS (v.getD 0 0) (v.getD 1 0) (v.getD 2 0) (v.getD 3 0) (v.getD 4 0) (v.getD 5 0)⟩]) O (.store 126 (.tmp 0) (.tmp 1))=some (undef,O.own E.j (six v) 1):=by rw[<- zAY];exact xMZ w1
  have g3:zJ tP (O.own E.j (six v) 1) 126 ⟨E.j,0,none⟩=some (.agg ⟨zS (v.getD 0 0) (v.getD 1 0) (v.getD 2 0) (v.getD 3 0) (v.getD 4 0) (v.getD 5 0)⟩):=by rw[<- zAY];exact zKF (w1.put)
  exact xEY g1 g2 g3 ⟨by rw[zAY],(hN.own (b:=E.j) (n:=1) (cs:=six v) (by show E.j<=E.j;omega)).lw⟩
theorem wKE(hi:yM E pw lw who)(hl:lw<=1073741824):zW tP 46 [iV (D:Int),.slice pw lw cw] E (.agg ⟨six (zFT D who)⟩) E:=by
 have L0:Le E (E.re.row (zS 0 0 0 0 0 0) 1):=(le0 E).trans (Le.row _ _ _);have cc:=wDF (c:=cw) (SlV.le hi L0) hl;have e:six (zFT D who)=zS (((who.filter λx=>decide (x≠-1)).length:Nat):Int) 0 0 0 0 0:=by rw[zAY];rfl
 rw[e];exact(wFK cc ⟨rfl,((New.row E.re (zS 0 0 0 0 0 0) 1).own (b:=E.j) (n:=1) (by show E.j<=E.j;omega)).lw⟩).pure
end
section
variable{D:Nat}{o:Option (List Int×List Int)}{s:Std}{z:St}{X:Nat->Prop}
section
variable{w:Wk}{leaves:Bool}{wf:Nat->List Int->List Int}
theorem zOO:∀{l:List Nat} {who:List Int} {st st' u:Nat->Std},(∀k,k<w.M.length->st k=st' k)->zAT w leaves l who st=some u->∃u',zAT w leaves l who st'=some u'/\∀k,k<w.M.length->u k=u' k
 |[],[],st,st',u,h,e=>by
  have e:some st=some u:=e;cases e
  exact⟨st',rfl,h⟩
 |[],_::_,_,_,_,_,e=>by cases e
 |_::_,[],_,_,_,_,e=>by cases e
 |i::l,r::who,st,st',u,h,e=>by
  unfold zAT at e ⊢;split at e
  .rename_i e1;split at e
   .rename_i hl;rw[if_pos e1,if_pos hl];exact zOO h e
   .cases e
  .rename_i e1;split at e
   .rename_i g;obtain⟨g1,g2,g3⟩:=g;have hk:r.toNat<w.M.length:=by omega
    rw[if_neg e1,if_pos ⟨g1,g2,by rw[<- h _ hk];exact g3⟩];refine zOO (λk hk2=>?_) e;unfold yGQ upd;by_cases e2:k=r.toNat
    .rw[if_pos e2,if_pos e2,h _ hk]
    .rw[if_neg e2,if_neg e2];exact h k hk2
   .cases e
theorem yJU:∀{r D:Nat} {st st':Nat->Std} {c v:List Int},(∀k,k<w.M.length->st k=st' k)->Ch w leaves wf r D st c v->Ch w leaves wf r D st' c v
 |0,_,_,_,_,_,_,h=>h
 |r+1,D,st,st',c,v,hs,h=>by
  obtain⟨a,b,u,x,h1,h2,h3,h4⟩:=h;obtain⟨u',g1,g2⟩:=zOO hs h1;refine⟨a,b,u',x,g1,yJU (λk hk=>?_) h2,h3,h4⟩
  unfold zDN;rw[if_pos hk,if_pos hk,g2 k hk]
theorem yVR{r:Nat}{st st':Nat->Std}(h:∀k,k<w.M.length->st k=st' k)(hb:wN 6 (Ch w leaves wf r D st) o):wN 6 (Ch w leaves wf r D st') o :=
 hb.iff λa v=>⟨yJU h,yJU λk hk=>(h k hk).symm⟩
theorem Bd.plus{m n:Int}:∀{a b:List Int},Bd m a->Bd n b->Bd (m+n) (zAM a b)
 |[],_,_,_=>λx hx=>by simp[zAM]at hx
 |_::_,[],_,_=>λx hx=>by simp[zAM]at hx
 |a::l,b::o,h1,h2=>by
  intro x hx;have hx:x∈(a+b)::zAM l o:=hx;rcases List.mem_cons.1 hx with rfl|hx
  .have:=h1 a List.mem_cons_self;have:=h2 b List.mem_cons_self;omega
  .exact Bd.plus (λy hy=>h1 y (List.mem_cons_of_mem _ hy)) (λy hy=>h2 y (List.mem_cons_of_mem _ hy)) x hx
theorem Bd.mono{m n:Int}{a:List Int}(h:Bd m a)(k:m<=n):Bd n a:=λx hx=>by have:=h x hx;omega
theorem zEH{j:Nat}:(yS w D j).length<=j:=by
 unfold yS;have:=List.length_filter_le (λi=>decide ((dty w i).day=(D:Int))) (List.range j);simpa using this
theorem wLH(hw:∀D a,a.length<=12->Bd 12 (wf D a))(hl:w.L.length<=12):∀{r D:Nat} {st:Nat->Std} {c v:List Int},Ch w leaves wf r D st c v->Bd (12*(r:Int)) v
 |0,_,_,_,_,h=>by
  rw[h.2];intro x hx;simp[zEM]at hx;omega
 |r+1,D,st,c,v,h=>by
  obtain⟨a,b,u,x,h1,h2,h3,h4⟩:=h;have:=(zEI h1).1;have hd:=zEH (w:=w) (D:=D) (j:=w.L.length);rw[h4];exact(Bd.plus (wLH hw hl h2) (hw D a (by omega))).mono (by omega)
theorem yOY:∀{r D:Nat},(xP w r D).length<=r*w.L.length
 |0,_=>by simp[xP]
 |r+1,D=>by
  have:=zEH (w:=w) (D:=D) (j:=w.L.length);have:=yOY (r:=r) (D:=D+1);unfold xP;rw[List.length_append,Nat.add_mul,Nat.one_mul];omega
structure StG(s:Std):Prop where
 free:-20000<=s.free/\s.free<=20000
 row:0<=s.row/\s.row<=15+s.day
 used:0<=s.used/\s.used<=20000
 day:-1<=s.day/\s.day<=6
theorem StG.ok(h:StG s):StOk s:=by
 have h1:=h.free;have h2:=h.row;have h3:=h.used;have h4:=h.day;exact⟨by omega,by omega,by omega,by omega⟩
theorem StG.past(h:StG s){D:Nat}(hD:D<=6)(hr:0<=w.rest/\w.rest<=3000):StG (zWC w D s):=by
 have h1:=h.free;have h2:=h.row;have h3:=h.used;have h4:=h.day;unfold zWC;split
 .exact h
 .refine⟨?_, ?_,h3,h4⟩
  .simp only;omega
  .simp only;omega
theorem StG.take{s:Std}(h:StG s){d:Dty}(hd:0<=d.day/\d.day<=6)(ho:0<=d.on/\d.on<=1439)(he:d.on<=d.hi/\d.hi<=d.on+1440)(hu:(YtflfajphjmajpaaGreat.take s d d.hi).used<=20000):StG (YtflfajphjmajpaaGreat.take s d d.hi):=by
 have h1:=h.free;have h2:=h.row;have h3:=h.used;have h4:=h.day;have hu':(YtflfajphjmajpaaGreat.take s d d.hi).used=s.used+(d.hi-d.on):=by unfold YtflfajphjmajpaaGreat.take;split <;> rfl
 rw[hu']at hu;unfold YtflfajphjmajpaaGreat.take;split
 .exact⟨h1,h2,by simp only;omega,h4⟩
 .refine⟨by simp only;omega, ?_,by simp only;omega,by simp only;omega⟩
  simp only;split <;> omega
theorem StG.before{d:Drv}(ho:-10080<=d.off/\d.off<=1440)(hr:0<=d.row/\d.row<=14)(hu:0<=d.used/\d.used<=20000):StG (YtflfajphjmajpaaGreat.before d) :=
 ⟨by unfold YtflfajphjmajpaaGreat.before;simp only;omega,by unfold YtflfajphjmajpaaGreat.before;simp only;omega,by unfold YtflfajphjmajpaaGreat.before;simp only;omega,by unfold YtflfajphjmajpaaGreat.before;simp only;omega⟩
end
structure EndR where
 v:List Int
 p:Option Addr
 l:Nat
 c:Nat
 can:Bool
@[reducible] def wIK(a0 a1 a2 a3 a4 a5:Int)(p:Option Addr)(l c:Nat)(b:Bool):List Value:=[iV a0,iV a1,iV a2,iV a3,iV a4,iV a5,.slice p l c,.bool b]
@[reducible] def zGC(e:EndR):List Value:=wIK (e.v.getD 0 0) (e.v.getD 1 0) (e.v.getD 2 0) (e.v.getD 3 0) (e.v.getD 4 0) (e.v.getD 5 0) e.p e.l e.c e.can
def zEE(e:EndR):Value:=.agg ⟨zGC e⟩
structure EndP(z:St)(X:Nat->Prop)(e:EndR)(o:Option (List Int×List Int)):Prop where
 len:e.v.length=6
 bd:Bd 100 e.v
 bl:∀b,AtP e.p b->X b
 tell:match o with
  |none=>e.can=false
  |some (who,v)=>e.can=true/\e.v=v/\yM z e.p e.l who
theorem EndP.only{z':St}{S:Nat->Prop}{e:EndR}(h:EndP z X e o)(k:Only S z z')(hX:∀b,X b->¬S b):EndP z' X e o:=by
 refine⟨h.len,h.bd,h.bl, ?_⟩
 have ht:=h.tell;cases o with
 |none=>exact ht
 |some p =>
  obtain⟨who,v⟩:=p;exact⟨ht.1,ht.2.1,k.slv' ht.2.2 (λa e=>hX _ (h.bl _ ⟨a,e,rfl⟩))⟩
theorem EndP.le{z z':St}{X:Nat->Prop}{e:EndR}{o:Option (List Int×List Int)}(h:EndP z X e o)(k:Le z z'):EndP z' X e o:=by
 refine⟨h.len,h.bd,h.bl, ?_⟩
 have ht:=h.tell;cases o with
 |none=>exact ht
 |some p =>
  obtain⟨who,v⟩:=p;exact⟨ht.1,ht.2.1,SlV.le ht.2.2 k⟩
theorem EndP.mono{Y:Nat->Prop}{e:EndR}(h:EndP z X e o)(k:∀b,X b->Y b):EndP z Y e o:=⟨h.len,h.bd,λb hb=>k b (h.bl b hb),h.tell⟩
structure PlK where
 Ef:St
 Bp:Nat
 bm:Nat
 w:Wk
 p:Option Addr
 l:Nat
 c:Nat
 q:Option Addr
 m:Nat
 d:Nat
 leaves:Bool
 fw:FuncId
 fa:List Value
 fc:List Value
 wf:Nat->List Int->List Int
 n:Nat
abbrev PlK.wfv(K:PlK):Value:=.func (.func K.fw) ⟨K.fa⟩ ⟨K.fc⟩
abbrev PlK.row(K:PlK):List Value:=yBV K.w K.p K.l K.c K.q K.m K.d K.leaves K.wfv K.bm
structure PlK.Ok(K:PlK):Prop where
 wk:WkP K.Ef 93 94 K.w K.p K.l K.q K.m
 sh:zCE K.w
 sn:Sane K.w K.l K.m
 dn:K.w.J=(K.n:Int)
 n7:K.n<=7
 vd:Days K.w K.n
 b1:K.Ef.j<=K.bm
 b2:K.bm≠K.Bp
 wfc:∀z,Le K.Ef z->∀(D:Nat) (pw:Option Addr) (lw cw:Nat) (who:List Int),yM z pw lw who->lw<=12->zW tP K.fw (K.fa++(iV (D:Int)::.slice pw lw cw::K.fc)) z (.agg ⟨six (K.wf D who)⟩) z
 wfl:∀D a,(K.wf D a).length=6
 wfb:∀D a,a.length<=12->Bd 12 (K.wf D a)
 dl:K.w.L.length<=12
 bel:∀n,K.Ef.j<=n->yQ RD n K.wfv=true
 good:zN RD K.wfv=true
abbrev PlK.ch(K:PlK)(r D:Nat)(st:Nat->Std):zLZ:=Ch K.w K.leaves K.wf r D st
structure PlW(K:PlK)(z:St)(F:Key->Option EndR)(X:Nat->Prop):Prop where
 fl:Le K.Ef z
 pr:Row z ⟨K.Bp,0,none⟩ K.row
 mp:zAR tP z K.bm xCJ zEE F
 xb:∀b,X b->b<z.j/\b≠K.bm
 kn:∀(D:Nat) st e,F (zOE D st)=some e->∀r,D+r=K.n->∃o,EndP z X e o/\wN 6 (K.ch r D st) o
section
variable{K:PlK}{z z':St}{F:Key->Option EndR}{X:Nat->Prop}
theorem PlW.le(h:PlW K z F X)(k:Le z z'):PlW K z' F X :=
 ⟨h.fl.trans k,h.pr.le k,h.mp.le k,λb hb=>⟨Nat.lt_of_lt_of_le (h.xb b hb).1 k.j,(h.xb b hb).2⟩,λD st e he r hr=>by
  obtain⟨o,h1,h2⟩:=h.kn D st e he r hr;exact⟨o,h1.le k,h2⟩⟩
theorem PlW.only{S:Nat->Prop}(h:PlW K z F X)(k:Only S z z')(h0:∀b,S b->K.Ef.j<=b)(h1:¬S K.Bp)(h2:¬S K.bm)(h3:∀b,X b->¬S b):PlW K z' F X :=
 ⟨⟨Nat.le_trans h.fl.j k.j,λb hb=>(k.get b (Nat.lt_of_lt_of_le hb h.fl.j) (λe=>by have:=h0 b e;omega)).trans (h.fl.get b hb)⟩,k.rw' h.pr h1,h.mp.at_ (k.get _ h.mp.1 h2) k.j,λb hb=>⟨Nat.lt_of_lt_of_le (h.xb b hb).1 k.j,(h.xb b hb).2⟩,λD st e he r hr=>by
  obtain⟨o,g1,g2⟩:=h.kn D st e he r hr;exact⟨o,g1.only k h3,g2⟩⟩
theorem PlW.mono{Y:Nat->Prop}(h:PlW K z F X)(k:∀b,X b->Y b)(hy:∀b,Y b->b<z.j/\b≠K.bm):PlW K z F Y :=
 ⟨h.fl,h.pr,h.mp,hy,λD st e he r hr=>by
  obtain⟨o,g1,g2⟩:=h.kn D st e he r hr;exact⟨o,g1.mono k,g2⟩⟩
theorem PlW.set(ok:K.Ok)(h:PlW K z F X){D:Nat}{st:Nat->Std}{e:EndR}{r:Nat}{o:Option (List Int×List Int)}(hr:D+r=K.n)(he:EndP z X e o)(hb:wN 6 (K.ch r D st) o) :
  ∃z',yN tP (evL [.map (some K.bm),.agg ⟨iV (D:Int)::stL st⟩,zEE e]) z (.mapUpdate 168 (.tmp 0) (.tmp 1) (.tmp 2))=some (undef,z')/\Only (·=K.bm) z z'/\z'.low<=K.bm/\z'.low<=z.low/\PlW K z' (λk=>if k=zOE D st then some e else F k) X:=by
 obtain⟨es,e1,e2⟩:=h.mp.put zFR wAU (zOE D st) e;rw[yTX]at e1;have kk:Only (·=K.bm) z (z.put K.bm (.map es)):=Only.put (.inr rfl);have hm6:=ok.sn.m6;have hm:=ok.wk.len.2;refine⟨_,e1,kk,by simp;omega,by simp;omega,⟨⟨Nat.le_trans h.fl.j kk.j,λb hb=>(kk.get b (Nat.lt_of_lt_of_le hb h.fl.j) (by have:=ok.b1;show b≠K.bm;omega)).trans (h.fl.get b hb)⟩,kk.rw' h.pr (λe=>ok.b2 e.symm),e2,λb hb=>⟨Nat.lt_of_lt_of_le (h.xb b hb).1 kk.j,(h.xb b hb).2⟩,λD' st' e' he' r' hr'=>?_⟩⟩
 have hXm:∀b,X b->¬b=K.bm:=λb hb=>(h.xb b hb).2
 by_cases ek:zOE (D':Int) st'=zOE (D:Int) st
 .rw[if_pos ek]at he';cases he'
  obtain⟨k1,k2⟩:=wBB.1 ek;have:D'=D:=by omega
  subst this;have:r'=r:=by omega
  subst this;exact⟨o,he.only kk hXm,yVR (λk hk=>(k2 k (by omega)).symm) hb⟩
 .rw[if_neg ek]at he';obtain⟨o',g1,g2⟩:=h.kn D' st' e' he' r' hr';exact⟨o',g1.only kk hXm,g2⟩
end
end
end Go.Proofs.YtflfajphjmajpaaGreat
