import Derived.Test.YtflfajphjmajpaaGreatTy
import Derived.Test.YtflfajphjmajpaaGreatLayD
import Derived.Test.YtflfajphjmajpaaGreatEG
import Derived.Test.YtflfajphjmajpaaGreatXA
set_option linter.unusedVariables false
set_option maxRecDepth 20000
set_option linter.unusedSimpArgs false
namespace Go.Proofs.YtflfajphjmajpaaGreat
open Go Go.Lay
section
noncomputable section
variable(l:oAa)(l_l l_c BA BB BC:Nat)(aV:oAa)(bJ:Int)(aO aR:Nat)(dO:oAa)(q3:(Option Addr)->Nat->Nat->St->Prop)(q2:(Option Addr)->Nat->Nat->Int->St->Prop)(de aT cj:Int)(dP dR:Nat)(q0:St->Prop)(Q:Int->St->Prop)(gt:Int)(E:St)(Nx:Int->St->Prop)(q6:vPa)(q4:(Option Addr)->Nat->Nat->Int->St->Prop)(Q4 Q0 Q2:St->Prop)(q5 q7:(Option Addr)->Nat->Nat->St->Prop)
def yFY:Code:=(Code.part [1,1,1,0,1,0,0] (zV tP 11))
def zVL:lNa:=[(1,pq BA 0),(2,pq BB 0),(4,pq BC 0),(5,iV bJ)]
def yMV:Alt:=⟨Int,.normal,λt=>zVL BA BB BC t,λt=>[],λt E=>Q t E⟩
def yFX(BA BB BC:Nat):lNa:=[(2,pq BB 0),(4,pq BC 0)]
def zJX:Alt:=⟨Unit,(.exit 0),λt=>yFX BA BB BC,λt=>[],λt E=>q0 E⟩
def yGC:Prop:=yT tP (zZ tP) none yFY 77 (zVL BA BB BC bJ) [] [yMV BA BB BC Nx,zJX BA BB BC Q0] E
def xAA:Prop:=yW tP (zZ tP) none yFY 77 (zVL BA BB BC bJ) [] [zJX BA BB BC Q0] E
def yZY:Code:=(Code.part [1,1,1,0,1,0,0,1,0,0,1,0,1,0,0] (zV tP 11))
def zNA:lNa:=[(1,pq BA 0),(2,pq BB 0),(4,pq BC 0),(5,iV bJ),(6,.slice dO dP dR),(7,iV gt)]
def xRO:Alt:=⟨(Option Addr)×Nat×Nat×Int,.normal,λt=>zNA BA BB BC bJ t.1 t.2.1 t.2.2.1 t.2.2.2,λt=>[],λt E=>q2 t.1 t.2.1 t.2.2.1 t.2.2.2 E⟩
def yFW:lNa:=[(1,pq BA 0),(2,pq BB 0),(4,pq BC 0),(5,iV bJ),(6,.slice dO dP dR)]
def zSL:Alt:=⟨(Option Addr)×Nat×Nat,(.exit 2),λt=>yFW BA BB BC bJ t.1 t.2.1 t.2.2,λt=>[],λt E=>q3 t.1 t.2.1 t.2.2 E⟩
def yGB:Prop:=yT tP (zZ tP) none yZY 77 (zNA BA BB BC bJ dO dP dR gt) [] [xRO BA BB BC bJ q4,zSL BA BB BC bJ q5] E
def yZZ:Prop:=yW tP (zZ tP) none yZY 77 (zNA BA BB BC bJ dO dP dR gt) [] [zSL BA BB BC bJ q5] E
def yFZ:Prop:=kZ (zZ tP) yFY [1,0,0,1,0,1,0] (zHG 77 [yMV BA BB BC Nx,zJX BA BB BC Q0]) (.exit 2) 77 (yFW BA BB BC bJ dO dP dR) E
def yGA:Prop:=kZ (zZ tP) (zV tP 11) [1,1,1,0,1,0] (kFn tP 11 q6) (.exit 0) 77 (yFX BA BB BC) E
def yAN:Code:=(Code.part [1,1,0,1,0,0] (zV tP 14))
def zDK:lNa:=[(1,.slice l l_l l_c),(2,pq BA 0),(5,.slice aV aO aR),(6,iV aT)]
def yRU:Alt:=⟨(Option Addr)×Nat×Nat×Int,.normal,λt=>zDK l l_l l_c BA t.1 t.2.1 t.2.2.1 t.2.2.2,λt=>[],λt E=>q2 t.1 t.2.1 t.2.2.1 t.2.2.2 E⟩
def zQV(l:oAa)(l_l l_c BA:Nat)(aV:oAa)(aO aR:Nat):lNa:=[(2,pq BA 0),(5,.slice aV aO aR)]
def zGT:Alt:=⟨(Option Addr)×Nat×Nat,(.exit 0),λt=>zQV l l_l l_c BA t.1 t.2.1 t.2.2,λt=>[],λt E=>q3 t.1 t.2.1 t.2.2 E⟩
def zBD:Prop:=yT tP (zZ tP) none yAN 113 (zDK l l_l l_c BA aV aO aR aT) [] [yRU l l_l l_c BA q4,zGT l l_l l_c BA q7] E
def yAQ:Prop:=yW tP (zZ tP) none yAN 113 (zDK l l_l l_c BA aV aO aR aT) [] [zGT l l_l l_c BA q7] E
def zQY:Prop:=kZ (zZ tP) (zV tP 14) [1,1,0,1,0] (kFn tP 14 q6) (.exit 0) 113 (zQV l l_l l_c BA aV aO aR) E
def zMW:Code:=(Code.part [1,1,1,0,1,0,0] (zV tP 14))
def zDJ:lNa:=[(2,pq BA 0),(5,.slice aV aO aR),(10,iV de)]
def zUR:Alt:=⟨Int,.normal,λt=>zDJ BA aV aO aR t,λt=>[],λt E=>Q t E⟩
def zQU(BA:Nat)(aV:oAa)(aO aR:Nat):lNa:=[(5,.slice aV aO aR)]
def zDB:Alt:=⟨Unit,(.exit 2),λt=>zQU BA aV aO aR,λt=>[],λt E=>q0 E⟩
def zMX:Prop:=yT tP (zZ tP) none zMW 113 (zDJ BA aV aO aR de) [] [zUR BA aV aO aR Nx,zDB BA aV aO aR Q2] E
def yAP:Prop:=yW tP (zZ tP) none zMW 113 (zDJ BA aV aO aR de) [] [zDB BA aV aO aR Q2] E
def yAM:Code:=(Code.part [1,1,1,0,1,0,0,1,0,0,1,0,0] (zV tP 14))
def zDI:lNa:=[(2,pq BA 0),(5,.slice aV aO aR),(10,iV de),(11,iV cj)]
def yRT:Alt:=⟨Int,.normal,λt=>zDI BA aV aO aR de t,λt=>[],λt E=>Q t E⟩
def zQT:lNa:=[(2,pq BA 0),(5,.slice aV aO aR),(10,iV de)]
def zGS:Alt:=⟨Unit,(.exit 4),λt=>zQT BA aV aO aR de,λt=>[],λt E=>q0 E⟩
def zGE:Prop:=yT tP (zZ tP) none yAM 113 (zDI BA aV aO aR de cj) [] [yRT BA aV aO aR de Nx,zGS BA aV aO aR de Q4] E
def yAO:Prop:=yW tP (zZ tP) none yAM 113 (zDI BA aV aO aR de cj) [] [zGS BA aV aO aR de Q4] E
def zQW:Prop:=kZ (zZ tP) zMW [1,0,0,1,0] (zHG 113 [zUR BA aV aO aR Nx,zDB BA aV aO aR Q2]) (.exit 4) 113 (zQT BA aV aO aR de) E
def zQX:Prop:=kZ (zZ tP) (zV tP 14) [1,1,1,0,1,0] (kFn tP 14 q6) (.exit 2) 113 (zQU BA aV aO aR) E
end
variable{BA BB BC dP dR lI cI lB cB lJC cDC lA cA lBO cBI lBP cBJ ax az aI aK l1 c1 dH_bl dH_bc dH_kl dH_kc dI_bl dI_bc dI_kl dI_kc l_l l_c aO aR gK gL gI gJ lCB cT lHB cZ lM cH dE_bl dE_bc dE_kl dE_kc:Nat}{Inv:Nat->Int->St->Prop}{Q0 P2:(Option Addr)->Nat->Nat->St->Prop}{bJ gt aT nD nE nF nB nC de cj:Int}{Q2 P0 Q4 P4:St->Prop}{dO qDC qB qA qBI qBJ d_b d_k q1 dH_b dH_k dI_b dI_k l dA_b dA_k qU aV qEB qI dE_b dE_k:oAa}{eS gM l_a dG:Addr}{rC:Rl}{EP E EAC EBC ik EZ EE EO EA ECC EDC:St}{Nx:Int->St->Prop}{d_L L1838 L1841 L1501 L3501:Lw}{Q:vPa}{yE yF:Pd}
theorem yZX{Q0:St->Prop}(hb:∀k bJ E,Inv k bJ E->yGC BA BB BC bJ E (NX1 Inv k) Q0):∀k bJ E,Inv k bJ E->xAA BA BB BC bJ E Q0 :=
 xE (ai (wF 0) trivial) hb
theorem yZW{Inv:Nat->(Option Addr)->Nat->Nat->Int->St->Prop}{Q2:(Option Addr)->Nat->Nat->St->Prop}(hb:∀k dO dP dR gt E,Inv k dO dP dR gt E->yGB BA BB BC bJ dO dP dR gt E (NX4 Inv k) Q2):∀k dO dP dR gt E,Inv k dO dP dR gt E->yZZ BA BB BC bJ dO dP dR gt E Q2 :=
 zKS (ai (wF 2) trivial) hb
theorem xRL{Nx:(Option Addr)->Nat->Nat->Int->St->Prop}{Q2:(Option Addr)->Nat->Nat->St->Prop}(h1:LDz E 24 (qe BA 8) (.slice (some eS) lI cI))(h2:LDz E 59 (zO eS (Int.toNat bJ*1)) (.slice (some gM) lB cB))(h3:LDz E 58 (zO gM (Int.toNat gt*3)) (qf (rlL rC)))(h4:APz 90 90 (.slice dO dP dR) (.slice (some ⟨(E.j+1),0,none⟩) 1 1) (((E.row [iV 0,iV 0,iV 0] 3).own E.j (rlL rC) 3).row (rlL rC) 3) (.slice qDC lJC cDC) EP)(nx:Nx qDC lJC cDC (gt+1) EP)(u1:Ix bJ lI:=by omega)(u2:gt<(lB:Int):=by omega)(u3:Ix gt lB:=by omega)(u4:I6 (gt+1):=by omega):yGB BA BB BC bJ dO dP dR gt E Nx Q2 :=
 let ch1:List Bs:=[.r [iV 0,iV 0,iV 0] 3];let ch2:List Bs:=.o 0 (rlL rC) 3::ch1;eO 0 (qDC,lJC,cDC,gt+1) [.g2,.l h1,.g,.i u1,.l h2,.g,.b (zT u2),.g,.l h1,.g,.i u1,.l h2,.g,.i u3,.l h3,.g,.s E ch1 0 0 xYR (qf (rlL rC)),.g2,.f E ch2 0 0 zU,.g2,.f E ch2 0 1 zU,.g2,.f E ch2 0 2 zU,.g3,.e h4,.g2,.w u4,.g] nx
theorem xRK{Nx:(Option Addr)->Nat->Nat->Int->St->Prop}{Q2:(Option Addr)->Nat->Nat->St->Prop}(h1:LDz E 24 (qe BA 8) (.slice (some eS) lI cI))(h2:LDz E 59 (zO eS (Int.toNat bJ*1)) (.slice qB lB cB))(nx:Q2 dO dP dR E)(u1:Ix bJ lI:=by omega)(u2:¬gt<(lB:Int):=by omega):yGB BA BB BC bJ dO dP dR gt E Nx Q2 :=
 eO 1 (dO,dP,dR) [.g2,.l h1,.g,.i u1,.l h2,.g,.b (zY u2)] nx
theorem xRN{Q0:St->Prop}(h1:LDz E 24 (qe BA 8) (.slice qA lA cA))(hL:yZZ BA BB BC bJ none 0 0 0 E P2)(k2:∀p6_2' l6_2' c6_2' E',P2 p6_2' l6_2' c6_2' E'->yFZ BA BB BC bJ p6_2' l6_2' c6_2' E' Nx Q0)(u1:bJ<(lA:Int):=by omega):yGC BA BB BC bJ E Nx Q0 :=
 eB [.g2,.l h1,.g,.b (zT u1),.g2,.k (.lf 77 (zNA BA BB BC bJ none 0 0 0) [zSL BA BB BC bJ P2])] (ai (ai tt (ai (arf (zNA BA BB BC bJ none 0 0 0)) hL)) (ai (kz3 k2) trivial))
theorem xRM{Q0:St->Prop}(h1:LDz E 24 (qe BA 8) (.slice qA lA cA))(nx:Q0 E)(u1:¬bJ<(lA:Int):=by omega):yGC BA BB BC bJ E Nx Q0 :=
 eO 1 () [.g2,.l h1,.g,.b (zY u1)] nx
theorem yZU{Q0:St->Prop}(h1:LDz E 43 (qe BC 8) (.slice qBI lBO cBI))(h2:APz 43 43 (.slice qBI lBO cBI) (.slice (some (qe E.j 0)) 1 1) (E.row [.slice dO dP dR] 1) (.slice qBJ lBP cBJ) EAC)(h3:SOz EAC 43 (qe BC 8) (.slice qBJ lBP cBJ) EBC)(nx:Nx (bJ+1) EBC)(u1:I6 (bJ+1):=by omega):yFZ BA BB BC bJ dO dP dR E Nx Q0 :=
 eF 0 (bJ+1) [.g,.l h1,.g2,.e h2,.g,.e h3,.g,.w u1,.g] nx
theorem xXE:let s1:=E.row (dnc d_L d_b ax az d_k aI aK) 10;let s2:=s1.row [iV 0,iV 0,iV 0,iV 0,iV 0,iV 0,iV 0,iV 0,.slice none 0 0,.slice none 0 0] 10;let s3:=s2.row (zLV 0 0 0 0 0 0 0 0) 8;let s4:=s3.own (E.j+2) (lwL d_L) 8;let Y1:=ik.row [iV 0,iV 0,iV 0,iV 0,iV 0,iV 0,iV 0,iV 0,.slice none 0 0,.slice none 0 0] 10;∀(h1:CAz 31 [.slice d_k aI aK] s4 (.slice q1 l1 c1) ik) (h2:zL Y1.j [pq ik.j 0,qf (dnc d_L none 0 0 q1 l1 c1)]) (h3:(zLq ik 3 ⟨(E.j+2),0,none⟩ (iV d_L.p))) (h4:(zLq Y1 3 ⟨(E.j+2),0,none⟩ (iV d_L.p))) (h5:(zLq ik 3 ⟨(E.j+2),1,none⟩ (iV d_L.d))) (h6:(zLq Y1 3 ⟨(E.j+2),1,none⟩ (iV d_L.d))) (h7:(zLq ik 3 ⟨(E.j+2),2,none⟩ (iV d_L.s))) (h8:(zLq Y1 3 ⟨(E.j+2),2,none⟩ (iV d_L.s))) (h9:(zLq ik 3 ⟨(E.j+2),3,none⟩ (iV d_L.b))) (h10:(zLq Y1 3 ⟨(E.j+2),3,none⟩ (iV d_L.b))) (h11:(zLq ik 3 ⟨(E.j+2),4,none⟩ (iV d_L.o))) (h12:(zLq Y1 3 ⟨(E.j+2),4,none⟩ (iV d_L.o))) (h13:(zLq ik 3 ⟨(E.j+2),5,none⟩ (iV d_L.f))) (h14:(zLq Y1 3 ⟨(E.j+2),5,none⟩ (iV d_L.f))) (h15:(zLq ik 3 ⟨(E.j+2),6,none⟩ (iV d_L.l))) (h16:(zLq Y1 3 ⟨(E.j+2),6,none⟩ (iV d_L.l))) (h17:(zLq ik 3 ⟨(E.j+2),7,none⟩ (iV d_L.n))) (h18:(zLq Y1 3 ⟨(E.j+2),7,none⟩ (iV d_L.n))) (h19:(zLq ik 25 (qe E.j 9) (.slice d_k aI aK))) (h20:(zLq Y1 25 (qe E.j 9) (.slice d_k aI aK))) (b_d_k:∀a,d_k=some a->a.block<E.j) (hL:xAA E.j (E.j+1) ik.j 0 (Y1.own ik.j (dnc d_L none 0 0 q1 l1 c1) 10) P0) (k0:∀E',P0 E'->yGA E.j (E.j+1) ik.j E' Q),zQ tP 11 [qf (dnc d_L d_b ax az d_k aI aK)] E Q:=
 let s1:=E.row (dnc d_L d_b ax az d_k aI aK) 10;let s2:=s1.row [iV 0,iV 0,iV 0,iV 0,iV 0,iV 0,iV 0,iV 0,.slice none 0 0,.slice none 0 0] 10;let s3:=s2.row (zLV 0 0 0 0 0 0 0 0) 8;let s4:=s3.own (E.j+2) (lwL d_L) 8;let s5:=zVL E.j (E.j+1) ik.j 0;λh1 h2 h3 h4 h5 h6 h7 h8 h9 h10 h11 h12 h13 h14 h15 h16 h17 h18 h19 h20 b_d_k hL k0=>let ch1:List Bs:=[.r [iV 0,iV 0,iV 0,iV 0,iV 0,iV 0,iV 0,iV 0,.slice none 0 0,.slice none 0 0] 10,.r (dnc d_L d_b ax az d_k aI aK) 10];let ch2:List Bs:=.r (zLV 0 0 0 0 0 0 0 0) 8::ch1;let ch3:List Bs:=.o 2 (lwL d_L) 8::ch2;let ch4:List Bs:=[.r [iV 0,iV 0,iV 0,iV 0,iV 0,iV 0,iV 0,iV 0,.slice none 0 0,.slice none 0 0] 10];eQ [.g3,.F E ch1 0 0 wLF ySS,.g,.s E ch2 2 0 ySS (qf (lwL d_L)),.g,.f E ch3 2 0 zU,.g,.f E ch3 2 1 zU,.g,.f E ch3 2 2 zU,.g,.f E ch3 2 3 zU,.g,.f E ch3 2 4 zU,.g,.f E ch3 2 5 zU,.g,.f E ch3 2 6 zU,.g,.f E ch3 2 7 zU,.g2,.l (((zX _ _ _).row.row.own (nne E.j 0 2 rfl)).rw.ld zPF (k:=9) rfl:zJ tP s4 25 (qe E.j 9)=some (.slice d_k aI aK)),.c h1,.g2,.s ik ch4 0 0 zAO (qf (dnc d_L none 0 0 q1 l1 c1)),.g,.q E ch3 2 0,.q E ch3 2 1,.q E ch3 2 2,.q E ch3 2 3,.q E ch3 2 4,.q E ch3 2 5,.q E ch3 2 6,.q E ch3 2 7,.q E ch3 0 9,.p ((zI (zFY b_d_k 3) zM):zL s4.j [.slice d_k aI aK]),.p h2,.u E ch3 2 0 zU,.p h3,.p h3,.p h4,.u E ch3 2 1 zU,.p h5,.p h5,.p h6,.u E ch3 2 2 zU,.p h7,.p h7,.p h8,.u E ch3 2 3 zU,.p h9,.p h9,.p h10,.u E ch3 2 4 zU,.p h11,.p h11,.p h12,.u E ch3 2 5 zU,.p h13,.p h13,.p h14,.u E ch3 2 6 zU,.p h15,.p h15,.p h16,.u E ch3 2 7 zU,.p h17,.p h17,.p h18,.p h19,.p h20,.k (.lf 77 s5 [zJX E.j (E.j+1) ik.j P0])] (ai (ai tt (ai (arf s5) hL)) (ai (kz0 k0) trivial))
theorem yZV:let y0:=qf (dnc L1838 dH_b dH_bl dH_bc dH_k dH_kl dH_kc);let y1:=qf (dnc L1841 dI_b dI_bl dI_bc dI_k dI_kl dI_kc);∀(h1:LDz E 45 (qe BC 0) y0) (h2:SOz E 45 (qe BB 0) y0 EZ) (h3:LDz EZ 45 (qe BB 0) y1) (nx:Q y1 EZ),yGA BA BB BC E Q :=
 λh1 h2 h3 nx=>eK [.l h1,.e h2,.l h3] nx
theorem yFL{Inv:Nat->(Option Addr)->Nat->Nat->Int->St->Prop}(hb:∀k aV aO aR aT E,Inv k aV aO aR aT E->zBD l l_l l_c BA aV aO aR aT E (NX4 Inv k) Q0):∀k aV aO aR aT E,Inv k aV aO aR aT E->yAQ l l_l l_c BA aV aO aR aT E Q0 :=
 zKS (ai (wF 0) trivial) hb
theorem yRS{Nx:(Option Addr)->Nat->Nat->Int->St->Prop}(h1:LDz E 27 (qe BA 0) (qf (dnc L1501 dA_b gK gL dA_k gI gJ)))(h2:LDz E 3 (zO l_a (Int.toNat aT*1)) (iV nD))(h3:CPz 32 [qf (dnc L1501 dA_b gK gL dA_k gI gJ),iV nD] E (.tuple ⟨[iV nE,iV nF]⟩))(h4:LDz E 3 (zO l_a (Int.toNat (aT-1)*1)) (iV nB))(h5:LDz E 3 (zO dG ((Int.toNat ((aO:Int)-1)*4)+0)) (iV nC))(h6:SOz E 3 (zO dG ((Int.toNat ((aO:Int)-1)*4)+2)) (iV (nF+1)) EE)(nx:Nx (some dG) aO aR (aT+1) EE)(u1:aT<(l_l:Int):=by omega)(u2:Ix aT l_l:=by omega)(u3:I6 ((aO:Int)-1):=by omega)(u4:0<aT:=by omega)(u5:I6 (aT-1):=by omega)(u6:Ix (aT-1) l_l:=by omega)(u7:I6 (nD-1):=by omega)(u8:nB=(nD-1):=by omega)(u9:Ix ((aO:Int)-1) aO:=by omega)(u10:nC=nE:=by omega)(u11:I6 (nF+1):=by omega)(u12:I6 (aT+1):=by omega):zBD (some l_a) l_l l_c BA (some dG) aO aR aT E Nx Q0 :=
 eO 0 (some dG,aO,aR,aT+1) [.g3,.b (zT u1),.l h1,.g2,.i u2,.l h2,.c h3,.g7,.w u3,.g2,.b (zT u4),.g3,.w u5,.i u6,.l h4,.g2,.i u2,.l h2,.w u7,.b (wU u8),.g4,.i u9,.g,.l h5,.g,.b (wU u10),.g4,.w u11,.i u9,.g,.e h6,.g,.w u12,.g] nx
theorem yRR{Nx:(Option Addr)->Nat->Nat->Int->St->Prop}(h1:LDz E 27 (qe BA 0) (qf (dnc L1501 dA_b gK gL dA_k gI gJ)))(h2:LDz E 3 (zO l_a (Int.toNat aT*1)) (iV nD))(h3:CPz 32 [qf (dnc L1501 dA_b gK gL dA_k gI gJ),iV nD] E (.tuple ⟨[iV nE,iV nF]⟩))(h4:LDz E 3 (zO l_a (Int.toNat (aT-1)*1)) (iV nB))(h5:LDz E 3 (zO dG ((Int.toNat ((aO:Int)-1)*4)+0)) (iV nC))(h6:APz 50 50 (.slice (some dG) aO aR) (.slice (some (qe E.j 0)) 1 1) (E.row (zK nE nF (nF+1) nD) 4) (.slice qU lCB cT) EE)(nx:Nx qU lCB cT (aT+1) EE)(u1:aT<(l_l:Int):=by omega)(u2:Ix aT l_l:=by omega)(u3:I6 ((aO:Int)-1):=by omega)(u4:0<aT:=by omega)(u5:I6 (aT-1):=by omega)(u6:Ix (aT-1) l_l:=by omega)(u7:I6 (nD-1):=by omega)(u8:nB=(nD-1):=by omega)(u9:Ix ((aO:Int)-1) aO:=by omega)(u10:¬nC=nE:=by omega)(u11:I6 (nF+1):=by omega)(u12:I6 (aT+1):=by omega):zBD (some l_a) l_l l_c BA (some dG) aO aR aT E Nx Q0 :=
 eO 0 (qU,lCB,cT,aT+1) [.g3,.b (zT u1),.l h1,.g2,.i u2,.l h2,.c h3,.g7,.w u3,.g2,.b (zT u4),.g3,.w u5,.i u6,.l h4,.g2,.i u2,.l h2,.w u7,.b (wU u8),.g4,.i u9,.g,.l h5,.g,.b (wG u10),.g5,.w u11,.g2,.i u2,.l h2,.g2,.e h6,.g2,.w u12,.g] nx
theorem yRQ{Nx:(Option Addr)->Nat->Nat->Int->St->Prop}(h1:LDz E 27 (qe BA 0) (qf (dnc L1501 dA_b gK gL dA_k gI gJ)))(h2:LDz E 3 (zO l_a (Int.toNat aT*1)) (iV nD))(h3:CPz 32 [qf (dnc L1501 dA_b gK gL dA_k gI gJ),iV nD] E (.tuple ⟨[iV nE,iV nF]⟩))(h4:LDz E 3 (zO l_a (Int.toNat (aT-1)*1)) (iV nB))(h5:APz 50 50 (.slice aV aO aR) (.slice (some (qe E.j 0)) 1 1) (E.row (zK nE nF (nF+1) nD) 4) (.slice qEB lHB cZ) EO)(nx:Nx qEB lHB cZ (aT+1) EO)(u1:aT<(l_l:Int):=by omega)(u2:Ix aT l_l:=by omega)(u3:I6 ((aO:Int)-1):=by omega)(u4:0<aT:=by omega)(u5:I6 (aT-1):=by omega)(u6:Ix (aT-1) l_l:=by omega)(u7:I6 (nD-1):=by omega)(u8:¬nB=(nD-1):=by omega)(u9:I6 (nF+1):=by omega)(u10:I6 (aT+1):=by omega):zBD (some l_a) l_l l_c BA aV aO aR aT E Nx Q0 :=
 eO 0 (qEB,lHB,cZ,aT+1) [.g3,.b (zT u1),.l h1,.g2,.i u2,.l h2,.c h3,.g7,.w u3,.g2,.b (zT u4),.g3,.w u5,.i u6,.l h4,.g2,.i u2,.l h2,.w u7,.b (wG u8),.g7,.w u9,.g2,.i u2,.l h2,.g2,.e h5,.g2,.w u10,.g] nx
theorem yRP{Nx:(Option Addr)->Nat->Nat->Int->St->Prop}(h1:LDz E 27 (qe BA 0) (qf (dnc L1501 dA_b gK gL dA_k gI gJ)))(h2:LDz E 3 (zO l_a (Int.toNat aT*1)) (iV nD))(h3:CPz 32 [qf (dnc L1501 dA_b gK gL dA_k gI gJ),iV nD] E (.tuple ⟨[iV nE,iV nF]⟩))(h4:APz 50 50 (.slice aV aO aR) (.slice (some (qe E.j 0)) 1 1) (E.row (zK nE nF (nF+1) nD) 4) (.slice qI lM cH) EA)(nx:Nx qI lM cH (aT+1) EA)(u1:aT<(l_l:Int):=by omega)(u2:Ix aT l_l:=by omega)(u3:I6 ((aO:Int)-1):=by omega)(u4:¬0<aT:=by omega)(u5:I6 (nF+1):=by omega)(u6:I6 (aT+1):=by omega):zBD (some l_a) l_l l_c BA aV aO aR aT E Nx Q0 :=
 eO 0 (qI,lM,cH,aT+1) [.g3,.b (zT u1),.l h1,.g2,.i u2,.l h2,.c h3,.g7,.w u3,.g2,.b (zY u4),.g7,.g,.w u5,.g2,.i u2,.l h2,.g2,.e h4,.g2,.w u6,.g] nx
theorem yRO{Nx:(Option Addr)->Nat->Nat->Int->St->Prop}(nx:Q0 aV aO aR E)(u1:¬aT<(l_l:Int):=by omega):zBD l l_l l_c BA aV aO aR aT E Nx Q0 :=
 eO 1 (aV,aO,aR) [.g3,.b (zY u1)] nx
theorem yYU{P0:(Option Addr)->Nat->Nat->St->Prop}(hL:yAQ l l_l l_c E.j none 0 0 0 (E.row (dnc d_L d_b ax az d_k aI aK) 10) P0)(k0:∀p5_1' l5_1' c5_1' E',P0 p5_1' l5_1' c5_1' E'->zQY l l_l l_c E.j p5_1' l5_1' c5_1' E' Q):zQ tP 14 [qf (dnc d_L d_b ax az d_k aI aK),.slice l l_l l_c] E Q :=
 eQ [.g4,.k (.lf 113 (zDK l l_l l_c E.j none 0 0 0) [zGT l l_l l_c E.j P0])] (ai (ai tt (ai (arf (zDK l l_l l_c E.j none 0 0 0)) hL)) (ai (kz3 k0) trivial))
theorem yFK(hb:∀k de E,Inv k de E->zMX BA aV aO aR de E (NX1 Inv k) Q2):∀k de E,Inv k de E->yAP BA aV aO aR de E Q2 :=
 xE (ai (wF 2) trivial) hb
theorem yFJ(hb:∀k cj E,Inv k cj E->zGE BA aV aO aR de cj E (NX1 Inv k) Q4):∀k cj E,Inv k cj E->yAO BA aV aO aR de cj E Q4 :=
 xE (ai (wF 4) trivial) hb
theorem yRL:let y0:=dnc L3501 dE_b dE_bl dE_bc dE_k dE_kl dE_kc;let y1:=zO dG (Int.toNat (cj-1)*4);let y2:=zO dG (Int.toNat cj*4);∀(h1:LDz E 27 (qe BA 0) (qf y0)) (h2:LDz E 53 y2 (qf (pdL yE))) (h3:LDz E 53 y1 (qf (pdL yF))) (h4:CPz 33 [qf y0,qf (pdL yE),qf (pdL yF)] E (.bool true)) (h5:SOz E 53 y2 (qf (pdL yF)) ECC) (h6:SOz ECC 53 y1 (qf (pdL yE)) EDC) (nx:Nx (cj-1) EDC) (u1:0<cj:=by omega) (u2:Ix cj aO:=by omega) (u3:I6 (cj-1):=by omega) (u4:Ix (cj-1) aO:=by omega),zGE BA (some dG) aO aR de cj E Nx Q4 :=
 λh1 h2 h3 h4 h5 h6 nx u1 u2 u3 u4=>eO 0 (cj-1) [.g,.b (zT u1),.g,.l h1,.g2,.i u2,.l h2,.g2,.w u3,.i u4,.l h3,.c h4,.g5,.w u3,.g2,.w u3,.i u4,.l h3,.g2,.i u2,.l h2,.i u2,.e h5,.i u4,.e h6,.g,.w u3,.g] nx
theorem yRK(h1:LDz E 27 (qe BA 0) (qf (dnc L3501 dE_b dE_bl dE_bc dE_k dE_kl dE_kc)))(h2:LDz E 53 (zO dG (Int.toNat cj*4)) (qf (pdL yE)))(h3:LDz E 53 (zO dG (Int.toNat (cj-1)*4)) (qf (pdL yF)))(h4:CPz 33 [qf (dnc L3501 dE_b dE_bl dE_bc dE_k dE_kl dE_kc),qf (pdL yE),qf (pdL yF)] E (.bool false))(nx:Q4 E)(u1:0<cj:=by omega)(u2:Ix cj aO:=by omega)(u3:I6 (cj-1):=by omega)(u4:Ix (cj-1) aO:=by omega):zGE BA (some dG) aO aR de cj E Nx Q4 :=
 eO 1 () [.g,.b (zT u1),.g,.l h1,.g2,.i u2,.l h2,.g2,.w u3,.i u4,.l h3,.c h4,.g] nx
theorem yRJ(nx:Q4 E)(u1:¬0<cj:=by omega):zGE BA aV aO aR de cj E Nx Q4 :=
 eO 1 () [.g,.b (zY u1),.g2] nx
theorem yRN(hL:yAO BA aV aO aR de de E P4)(k4:∀E',P4 E'->zQW BA aV aO aR de E' Nx Q2)(u1:de<(aO:Int):=by omega):zMX BA aV aO aR de E Nx Q2 :=
 eB [.g3,.b (zT u1),.g2,.k (.lf 113 (zDI BA aV aO aR de de) [zGS BA aV aO aR de P4])] (ai (ai tt (ai (arf (zDI BA aV aO aR de de)) hL)) (ai (kz0 k4) trivial))
theorem yRM(nx:Q2 E)(u1:¬de<(aO:Int):=by omega):zMX BA aV aO aR de E Nx Q2 :=
 eO 1 () [.g3,.b (zY u1)] nx
theorem yFG(nx:Nx (de+1) E)(u1:I6 (de+1):=by omega):zQW BA aV aO aR de E Nx Q2 :=
 eF 0 (de+1) [.g,.w u1,.g] nx
theorem yFI{P2:St->Prop}(hL:yAP BA aV aO aR 0 E P2)(k2:∀E',P2 E'->zQX BA aV aO aR E' Q):zQY l l_l l_c BA aV aO aR E Q :=
 eK [.g,.k (.lf 113 (zDJ BA aV aO aR 0) [zDB BA aV aO aR P2])] (ai (ai tt (ai (arf (zDJ BA aV aO aR 0)) hL)) (ai (kz0 k2) trivial))
theorem yFH(nx:Q (.slice aV aO aR) E):zQX BA aV aO aR E Q :=
 eK [.g2] nx
end
theorem zZH:AppT tP 25 25 48 1:=zAW (by kernel_rfl)
theorem xWG:AppT tP 43 43 90 1:=zAW (by kernel_rfl)
theorem xWD:AppT tP 90 90 89 3:=zAW (by kernel_rfl)
theorem wIM(r:Rl):zDV tP 89 3 (rlV r):=.inr ⟨wLD,ySP,_,rfl,rfl⟩
def zCF{U:Type}(E:St)(n0 ts te n:Nat)(f:U->Value)(p:Option Addr)(l:Nat)(R:List (List U)):Prop :=
 ∃vs:List Value,SlV tP E ts 1 p l vs/\R.length=l/\(∀b,AtP p b->n0<=b)/\∀(i:Nat) r,R[i]?=some r->∃q c,vs[i]?=some (Value.slice q r.length c)/\SlV tP E te n q r.length (r.map f)/\∀b,AtP q b->n0<=b
def zIO{U:Type}(O:St)(n0 ts te n:Nat)(f:U->Value)(p:Option Addr)(l c:Nat)(R:List (List U)):Prop :=
 R.length=l/\∃vs,Gr tP O n0 ts 1 p l c vs/\∀(j:Nat) r,R[j]?=some r->∃q d,vs[j]?=some (Value.slice q r.length d)/\SlV tP O te n q r.length (r.map f)/\∀b,AtP q b->¬AtP p b/\n0<=b
section
variable{E E' O be:St}{U:Type}{f:U->Value}{st ts te n n0 n1 l c d:Nat}{p q:Option Addr}{R:List (List U)}{r:List U}
theorem zCF.rows(h:zCF E n0 ts te n f p l R):zDR E ts te n f p l R:=by
 obtain⟨vs,h1,h2,_,h3⟩:=h;exact⟨vs,h1,h2,λi r hi=>by obtain⟨q,c,e1,e2,_⟩:=h3 i r hi;exact⟨q,c,e1,e2⟩⟩
theorem zCF.le(h:zCF E n0 ts te n f p l R)(k:Le E E'):zCF E' n0 ts te n f p l R:=by
 obtain⟨vs,h1,h2,h0,h3⟩:=h;exact⟨vs,h1.le k,h2,h0,λi r hi=>by obtain⟨q,c,e1,e2,e3⟩:=h3 i r hi;exact⟨q,c,e1,e2.le k,e3⟩⟩
theorem zCF.only{S:Nat->Prop}(h:zCF E n0 ts te n f p l R)(k:Only S E E')(hs:∀b,n0<=b->¬S b):zCF E' n0 ts te n f p l R:=by
 obtain⟨vs,h1,h2,h0,h3⟩:=h;exact⟨vs,k.slv' h1 λa e=>hs _ (h0 _ ⟨a,e,rfl⟩),h2,h0,λi r hi=>by obtain⟨q,c,e1,e2,e3⟩:=h3 i r hi;exact⟨q,c,e1,k.slv' e2 λa e=>hs _ (e3 _ ⟨a,e,rfl⟩),e3⟩⟩
theorem zCF.none_any(h:zCF E n0 ts te n f none l R):zCF E' n0 ts te n f none l R:=by
 obtain⟨vs,g1,g2,_,g3⟩:=h;have hl0:l=0:=by have:=g1.1.2;simpa using this
 subst hl0;refine⟨vs,uX g1,g2,λb hb=>(AtP.none hb).elim,λi r hi=>?_⟩
 have:R=[]:=by simpa using g2
 subst this;simp at hi
theorem zIO.nil:zIO O n0 ts te n f none 0 0 ([]:List (List U)):=⟨rfl,[],Gr.nil,λj r h=>by simp at h⟩
theorem zIO.rowsF(h:zIO O n0 ts te n f p l c R):zCF O n0 ts te n f p l R:=by
 obtain⟨h0,vs,hg,hrow⟩:=h;exact⟨vs,hg.slv,h0,λb hb=>(hg.bd hb).1,λj r hj=>by obtain⟨q,d,e1,e2,e3⟩:=hrow j r hj;exact⟨q,d,e1,e2,λb hb=>(e3 b hb).2⟩⟩
theorem zIO.only{S:Nat->Prop}(h:zIO E n0 ts te n f p l c R)(k:Only S E E')(hs:∀b,n0<=b->¬S b):zIO E' n0 ts te n f p l c R:=by
 obtain⟨h1,vs,h2,h3⟩:=h;exact⟨h1,vs,h2.only k λb hb=>hs b (h2.bd hb).1,λi r hi=>by obtain⟨q,c,e1,e2,e3⟩:=h3 i r hi;exact⟨q,c,e1,k.slv' e2 λa e=>hs _ (e3 _ ⟨a,e,rfl⟩).2,e3⟩⟩
theorem zIO.push(T:AppT tP st st ts 1)(ha:xI tP ts=some false)(h:zIO O n0 ts te n f p l c R)(n1:New O be)(hn:n0<=O.j)(s1:SlV tP be te n q r.length (r.map f))(f1:∀b,AtP q b->O.j<=b)(hl:l<=100000) :
  ∃p4 c4 V2,xO tP st st (.slice p l c) (.slice (some ⟨be.j,0,none⟩) 1 1) (be.row [.slice q r.length d] 1)=some (.slice p4 (l+1) c4,V2)/\zIO V2 n0 ts te n f p4 (l+1) c4 (R++[r])/\Only (AtP p) O V2:=by
 obtain⟨h0,vs,hg,hrow⟩:=h;obtain⟨p4,c4,V2,g1,g2,g4,g5⟩:=zGM (.slice q r.length d) T hg n1.le (.inl ⟨ha,rfl,rfl⟩) (by omega) hn;have s2:SlV tP V2 te n q r.length (r.map f):=g4.slv' s1.row (λa e hb=>by
  have:=f1 a.block ⟨a,e,rfl⟩;have:=(hg.bd hb).2;omega)
 refine⟨p4,c4,V2,g1,⟨by simp[h0],_,g2,λj x hx=>?_⟩,((n1.row').only (S:=AtP p)).trans' g4 λb _ h=>.inl h⟩
 have hvl:=hg.len_eq;by_cases hjl:j=l
 .subst hjl;rw[List.getElem?_append_right (by omega),h0]at hx;simp at hx;subst hx;refine⟨q,d,by rw[List.getElem?_append_right (by omega)];simp[hvl],s2,λb hb=>⟨λh4=>?_,by have:=f1 b hb;omega⟩⟩
  have hb1:=f1 b hb;have hb2:b<be.j:=by obtain⟨a,e,rfl⟩:=hb;exact xW s1 a e
  rcases g5 b h4 with h5|h5
  .have:=(hg.bd h5).2;omega
  .omega
 .have hj:j<l:=by
   have:=(List.getElem?_eq_some_iff.1 hx).1;simp[h0]at this;omega
  rw[List.getElem?_append_left (by omega)]at hx;obtain⟨q2,d2,e1,e2,e3⟩:=hrow j x hx;have e4:∀b,AtP q2 b->b<O.j:=λb hb=>by obtain⟨a,e,rfl⟩:=hb;exact xW e2 a e
  refine⟨q2,d2,by rw[List.getElem?_append_left (by omega)];exact e1,g4.slv' ((e2.le n1.le).row) (λa e hb=>(e3 a.block ⟨a,e,rfl⟩).1 hb),λb hb=>⟨λh4=>?_,(e3 b hb).2⟩⟩
  rcases g5 b h4 with h5|h5
  .exact(e3 b hb).1 h5
  .have:=e4 b hb;have:=n1.nx;omega
theorem zIO.at_(h:zIO O n0 ts te n f p l c R){b:Nat}(hb:AtP p b):n0<=b/\b<O.j:=by
 obtain⟨_,vs,hg,_⟩:=h;exact hg.bd hb
end
section
variable{E:St}{bl bc kl kc:Nat}{b k:Option Addr}{B:List (List Rl)}{K:List (List Int)}{L:Lw}
theorem wIP{p:Option Addr}{l c:Nat}{xs:List Int}(h:yM E p l xs)(hl:l<=1073741824) :
  ∃p' c' E',zW tP 61 [.slice p l c] E (.slice p' l c') E'/\New E E'/\yM E' p' l xs/\∀b,AtP p' b->E.j<=b:=by
 have hc:(wD (xs.map yK)).all cellB=true:=by rw[zAJ xs .i64];simp[List.all_eq_true];intro a _;rfl
 have N1:New E.re (E.re.row [] 1):=New.row _ _ _;obtain⟨p6,c6,s5,ap1,A6,O6,b6⟩:=Ax.append (P:=tP) (k:=c) (n0:=E.re.j) uH (Ax.lit (len:=0) (zX E.re [] 1) rfl ((xN 0).2 uF) (Nat.le_refl _)) (SlV.le h ((le0 E).trans N1.le)).1 (by omega) hc N1.nx;rw[Nat.zero_add]at ap1 A6;have N5:New E.re s5:=N1.of_only O6 (by rintro b ⟨a,e,rfl⟩;cases e;exact Nat.le_refl _);exact zQ.newSl (xRH ap1 ⟨N5,p6,c6,rfl,Ax.slv (by simpa using A6) (by simpa using h.2.1) h.2.2,λb hb=>(A6.bd b hb).1⟩)
theorem wIN(h:zIP E k kl K)(hl:kl<=100)(hr:∀r∈K,r.length<=1000) :
  ∃p' c' E',zW tP 31 [.slice k kl kc] E (.slice p' kl c') E'/\New E E'/\zCF E' E.j 48 3 1 yK p' kl K:=by
 have hlen:=h.len;have hr0:zIP E.re k kl K:=zDR.le h (le0 E);have key:zQ tP 31 [.slice k kl kc] E.re λv s=>New E.re s/\∃p' c',v=.slice p' kl c'/\zCF s E.j 48 3 1 yK p' kl K:=by
  refine xRE (yQW (Inv:=λk' p3 l3 c3 i4 O=>New E.re O/\∃i:Nat,i4=i/\i+k'=kl/\l3=i/\zIO O E.j 48 3 1 yK p3 i c3 (K.take i))
   (Q0:=λp3 l3 c3 O=>New E.re O/\l3=kl/\zCF O E.j 48 3 1 yK p3 kl K) ?_ kl none 0 0 0 E.re ⟨New.refl _,0,rfl,by omega,rfl,zIO.nil⟩) ?_
  .rintro k' p3 l3 c3 i4 O ⟨hN,i,rfl,hk,rfl,hg⟩;by_cases hi:l3<kl
   .obtain⟨a,rfl,r,q,d,hri,hld,hq⟩:=(zDR.le hr0 hN.le).at hi;obtain⟨q',d',be,c1,n1,s1,f1⟩:=wIP (c:=d) hq (by have:=hr r (List.mem_of_getElem? hri);omega);obtain⟨p4,c4,V2,g1,g2,g3⟩:=hg.push (d:=d') zZH xF n1 hN.nx s1 f1 (by omega);rw[<- wE hri]at g2;exact xFZ hld c1 g1 ⟨k' - 1,by omega,hN.of_only g3 λb hb=>(hg.at_ hb).1,l3+1,by omega,by omega,rfl,g2⟩
   .have:l3=kl:=by omega
    subst this;rw[List.take_of_length_le (by omega)]at hg;exact xFY ⟨hN,rfl,hg.rowsF⟩
  .rintro p3 l3 c3 O ⟨hN,rfl,hR⟩;exact yQV ⟨hN,p3,c3,rfl,hR⟩
 obtain⟨v,E',h1,h2,p',c',rfl,h3⟩:=zQ.new (Q:=λv s=>∃p' c',v=.slice p' kl c'/\zCF s E.j 48 3 1 yK p' kl K) key (by rintro v s s' ⟨p',c',rfl,g⟩ hle;exact⟨p',c',rfl,g.le hle⟩) (by
  rintro v s hv ⟨p',c',rfl,g⟩;cases p' with
  |none=>exact⟨none,c',rfl,g.none_any⟩
  |some a=>exact Bool.noConfusion (show false=true from hv))
 exact⟨p',c',E',h1,h2,h3⟩
end
def zAL(B:List (List Rl))(i:Nat):List Rl:=B.getD i []
def wI(B:List (List Rl))(i j:Nat):List (Nat×Nat):=((List.range i).flatMap λi=>(List.range ((zAL B i).length-1)).map λj=>(i,j))++(List.range j).map λj=>(i,j)
def wO(B:List (List Rl)):List (Nat×Nat):=wI B B.length 0
abbrev sgL(g:Nat×Nat):List Value:=zK (g.1:Int) (g.2:Int) (g.1:Int) ((g.2+1:Nat):Int)
abbrev sgV(g:Nat×Nat):Value:=.agg ⟨sgL g⟩
theorem wIL(g:Nat×Nat):zDV tP 143 4 (sgV g):=.inr ⟨xMH,zKJ,_,rfl,rfl⟩
theorem xWC:AppT tP 139 139 143 4:=zAW (by kernel_rfl)
structure Pv where
 b:Option Addr
 bl:Nat
 bc:Nat
 k:Option Addr
 kl:Nat
 kc:Nat
 g:Option Addr
 gl:Nat
 gc:Nat
structure PlP(E:St)(o:Nat)(v:Pv)(L:Lw)(B:List (List Rl))(K:List (List Int)):Prop where
 own:Own E o (pgc L v.b v.bl v.bc v.k v.kl v.kc v.g v.gl v.gc) 11
 bs:wLI E 90 89 v.b v.bl B
 ks:zIP E v.k v.kl K
 gs:SlV tP E 143 4 v.g v.gl ((wO B).map sgV)
section
variable{B:List (List Rl)}{i j:Nat}
theorem xYV:wI B i (j+1)=wI B i j++[(i,j)]:=by
 unfold wI;rw[List.range_succ,List.map_append,List.append_assoc];rfl
theorem xYW:wI B (i+1) 0=wI B i ((zAL B i).length-1):=by
 unfold wI;rw[List.range_succ,List.flatMap_append];simp
theorem zOZ{r:List Rl}(h:B[i]?=some r):zAL B i=r:=by unfold zAL;rw[List.getD_eq_getElem?_getD,h];rfl
theorem yGY:∀{i:Nat},(wI B i 0).length=((B.map λx=>x.length-1).take i).sum
 |0=>rfl
 |i+1=>by
  have ih:=yGY (i:=i);have e:(wI B (i+1) 0).length=(wI B i 0).length+((zAL B i).length-1):=by rw[xYW];unfold wI;simp
  rw[e,ih];by_cases hi:i<B.length
  .have hx:(B.map λx=>x.length-1)[i]?=some ((zAL B i).length-1):=by rw[List.getElem?_map,List.getElem?_eq_getElem hi,zOZ (List.getElem?_eq_getElem hi)];rfl
   rw[zFE hx]
  .rw[List.take_of_length_le (by simp;omega),List.take_of_length_le (by simp;omega)];unfold zAL;rw[List.getD_eq_getElem?_getD,List.getElem?_eq_none (by omega)];rfl
theorem xNI:(wO B).length=yZ B:=by unfold wO yZ;rw[yGY,List.take_of_length_le (by simp)]
theorem wGW{g:Nat×Nat}(h:g∈wO B):g.1<B.length/\g.2+1<(zAL B g.1).length:=by
 unfold wO wI at h;simp only[List.range_zero,List.map_nil,List.append_nil,List.mem_flatMap,List.mem_map,List.mem_range]at h;obtain⟨i,h1,j,h2,rfl⟩:=h;refine⟨h1, ?_⟩
 show j+1<(zAL B i).length;omega
end
section
variable{E E':St}{o bl bc kl kc:Nat}{b k:Option Addr}{B:List (List Rl)}{K:List (List Int)}{L:Lw}{v:Pv}
theorem PlP.le(h:PlP E o v L B K)(g:Le E E'):PlP E' o v L B K:=⟨h.own.le g,h.bs.le g,h.ks.le g,SlV.le h.gs g⟩
theorem PlP.gl(h:PlP E o v L B K):v.gl=yZ B:=by have:=h.gs.2.1;rw[List.length_map,xNI]at this;exact this.symm
theorem PlP.rel(h:PlP E o v L B K){i j:Nat}{r:Rl}(hi:i<B.length)(hj:(zAL B i)[j]?=some r):∃a q c,v.b=some a/\zJ tP E 90 (zO a (Int.toNat (i:Int)*1))=some (.slice (some q) (zAL B i).length c)/\i<v.bl/\j<(zAL B i).length /\
  ∀(k:Nat) (x:Value),(rlL r)[k]?=some x->zJ tP E 3 (zO q (Int.toNat (j:Int)*3+k))=some x:=by
 have hl:=h.bs.len;obtain⟨a,e,x,q,c,hx,ld,hq⟩:=h.bs.at (i:=i) (by omega)
 rw[zOZ hx]at hj ⊢;have hjl:=(List.getElem?_eq_some_iff.1 hj).1;obtain⟨q',rfl,_⟩:=hq.some hjl;exact⟨a,q',c,e,ld,by omega,hjl,λk x hk=>zPU hq (by rw[List.getElem?_map,hj];rfl) hk zU⟩
theorem xZR(h:DnP E 90 89 b bl k kl B K)(hl:bl<=100)(hB:∀r∈B,r.length<=1000):∃o g gl gc E',zW tP 27 [.agg ⟨dnc L b bl bc k kl kc⟩] E (.pointer (some ⟨o,0,none⟩)) E'/\New E E'/\E.j<=o/\PlP E' o ⟨b,bl,bc,k,kl,kc,g,gl,gc⟩ L B K:=by
 have eB:=h.bs.len;obtain⟨s1,hs⟩:∃s1,s1=(E.re.row (dnc L b bl bc k kl kc) 10).row (pgc L b bl bc k kl kc none 0 0) 11:=⟨_,rfl⟩;have N1:New E.re s1:=by rw[hs];exact(New.row _ _ _).row'
 have n1:s1.j=E.j+2:=by rw[hs];rfl
 have o1:Own s1 (E.j+1) (pgc L b bl bc k kl kc none 0 0) 11:=by rw[hs];exact zX (E.re.row (dnc L b bl bc k kl kc) 10) _ _
 have slen:∀{i j:Nat},i<=bl->j<=1000->(wI B i j).length<=100000+1000:=λ{i j} hi hj=>by
  have e:(wI B i j).length=(wI B i 0).length+j:=by unfold wI;simp
  rw[e,yGY];have:∀i,i<=bl->((B.map λx=>x.length-1).take i).sum<=1000*i:=by
   intro i;induction i with
   |zero=>simp
   |succ i ih =>
    intro hi;have hx:(B.map λx=>x.length-1)[i]?=some (B[i].length-1):=by rw[List.getElem?_map,List.getElem?_eq_getElem (by omega)];rfl
    rw[zFE hx];have:=hB B[i] (List.getElem_mem _);have:=ih (by omega);omega
  have:=this i hi;omega
 obtain⟨w,E',h1,h2,o,g,gl,gc,rfl,h3,h4⟩:=zQ.new (P:=tP) (f:=27) (args:=[.agg ⟨dnc L b bl bc k kl kc⟩]) (E:=E) (Q:=λv s=>∃o g gl gc,v=.pointer (some ⟨o,0,none⟩)/\E.j<=o/\PlP s o ⟨b,bl,bc,k,kl,kc,g,gl,gc⟩ L B K) (by
  refine xWP (P0:=λO=>New E.re O/\∃g gc,Own O (E.j+1) (pgc L b bl bc k kl kc g (wO B).length gc) 11/\SlV tP O 143 4 g (wO B).length ((wO B).map sgV)) (by
   rw[<- hs];refine yWD (Inv:=λk' i O=>New E.re O/\∃j:Nat,i=j/\j+k'=bl/\∃g gc,Own O (E.j+1) (pgc L b bl bc k kl kc g (wI B j 0).length gc) 11/\Gr tP O s1.j 143 4 g (wI B j 0).length gc ((wI B j 0).map sgV)) ?_ bl 0 s1 ⟨N1,0,rfl,by omega,none,0,o1,Gr.nil⟩;rintro k' i O ⟨hN,j,rfl,hk',g,gc,o,hg⟩;by_cases hj:j<bl;rotate_left
   .have:j=B.length:=by omega
    subst this;exact xPQ ⟨hN,g,gc,o,hg.slv⟩
   obtain⟨a,rfl,x,q,c,hxj,ld,_⟩:=((h.le (le0 E)).le hN.le).bs.at hj;have hx:=hB x (List.mem_of_getElem? hxj);have eb:=zOZ hxj;refine xPR (P2:=λz=>New E.re z/\∃g gc,Own z (E.j+1) (pgc L (some a) bl bc k kl kc g (wI B (j+1) 0).length gc) 11/\Gr tP z s1.j 143 4 g (wI B (j+1) 0).length gc ((wI B (j+1) 0).map sgV)) ld (yWC (Inv:=λk2 i2 z=>New E.re z/\∃t:Nat,i2=((t+1:Nat):Int)/\t+k2=x.length-1/\∃g gc,Own z (E.j+1) (pgc L (some a) bl bc k kl kc g (wI B j t).length gc) 11/\Gr tP z s1.j 143 4 g (wI B j t).length gc ((wI B j t).map sgV)) ?_ (x.length-1) 1 O ⟨hN,0,rfl,by omega,g,gc,o,hg⟩) ?_
   .rintro k2 i2 z ⟨hz,t,rfl,hk2,g,gc,o,hgr⟩;by_cases ht:t<x.length-1;rotate_left
    .refine xPO ⟨hz,g,gc, ?_⟩;rw[xYW,eb,show x.length-1=t by omega];exact⟨o,hgr⟩
    have hsl:=slen (i:=j) (j:=t) (by omega) (by omega);obtain⟨p4,c4,V2,g1,g2,g3,g4⟩:=zGM (sgV (j,t)) xWC hgr (Le.refl _) (wIL _) (by omega) (by have:=o.lt;omega);have hO:Only (AtP g) z V2:=((New.row z (sgL (j,t)) 4).only (S:=AtP g)).trans' g3 λb _ h=>.inl h
    have oo:=hO.own' o λhb=>by have:=(hgr.bd hb).1;omega
    have e3:(wI B j (t+1)).length=(wI B j t).length+1:=by rw[xYV];simp
    have st:=oo.store (P:=tP) (k:=10) (t:=139) (v:=.slice p4 (wI B j (t+1)).length c4) (vs:=[.slice p4 (wI B j (t+1)).length c4]) (ds:=pgc L (some a) bl bc k kl kc p4 (wI B j (t+1)).length c4) rfl wGU rfl (by simp) rfl;have kk:Only (·=E.j+1) V2 (V2.own (E.j+1) (pgc L (some a) bl bc k kl kc p4 (wI B j (t+1)).length c4) 11):=Only.own (.inr rfl);have e1:(((t+1:Nat):Int)-1)=(t:Nat):=by omega
    refine xPP (o.ld rfl yVK rfl) (by rw[e1];exact g1) (by rw[e3]at st;exact st) ⟨k2-1,by omega, ?_⟩;rw[<- e3];refine⟨(hz.of_only hO λb hb=>by have:=(hgr.bd hb).1;show E.j<=b;omega).own (by show E.j<=E.j+1;omega),t+1,by omega,by omega,p4,c4,oo.put, ?_⟩
    have g2':Gr tP V2 s1.j 143 4 p4 (wI B j (t+1)).length c4 ((wI B j (t+1)).map sgV):=by rw[e3,xYV,List.map_append];exact g2
    exact g2'.only kk λb hb e=>by have:=(g2'.bd hb).1;omega
   .rintro z ⟨hz,g,gc,o,hgr⟩;exact yWA ⟨k' - 1,by omega,hz,j+1,by omega,by omega,g,gc,o,hgr⟩) ?_
  rintro O ⟨hN,g,gc,o,hg⟩;have h2:=(h.le (le0 E)).le hN.le;exact yWB ⟨hN,_,g,_,gc,rfl,Nat.le_succ _,o,h2.bs,h2.ks,hg⟩) (by rintro v s s' ⟨_,_,_,_,rfl,g1,g2⟩ hle;exact⟨_,_,_,_,rfl,g1,g2.le hle⟩) (by rintro v s hr ⟨_,_,_,_,rfl,_⟩;cases hr)
 exact⟨o,g,gl,gc,E',h1,h2,h3,h4⟩
end
section
noncomputable section
variable(data:oAa)(aJ aL:Nat)(dm:FuncId)(aU:lVa)(dB bk aP:Int)(Q:Int->Int->Int->Bool->Bool->St->Prop)(q0:St->Prop)(eg ee:Bool)(E:St)(Nx:Int->Int->Int->Bool->Bool->St->Prop)(q1:vPa)(Qr:St->Prop)
def yWP:Code:=(Code.part [1,1,0,0] (zV tP 131))
def zMF:lNa:=[(0,.slice data aJ aL),(1,iV dB),(2,iV bk),(3,iV aP),(4,.func (.func dm) ⟨[]⟩ ⟨aU⟩),(10,.bool eg),(11,.bool ee)]
def xPV:Alt:=⟨Int×Int×Int×Bool×Bool,.normal,λt=>zMF data aJ aL dm aU t.1 t.2.1 t.2.2.1 t.2.2.2.1 t.2.2.2.2,λt=>[],λt E=>Q t.1 t.2.1 t.2.2.1 t.2.2.2.1 t.2.2.2.2 E⟩
def yDY(data:oAa)(aJ aL:Nat)(dm:FuncId)(aU:lVa):lNa:=[]
def zRZ:Alt:=⟨Unit,.ret,λt=>yDY data aJ aL dm aU,λt=>[],λt E=>q0 E⟩
def yWR:Prop:=yT tP (zZ tP) none yWP 148 (zMF data aJ aL dm aU dB bk aP eg ee) [] [xPV data aJ aL dm aU Nx,zRZ data aJ aL dm aU Qr] E
def yWQ:Prop:=yW tP (zZ tP) none yWP 148 (zMF data aJ aL dm aU dB bk aP eg ee) [] [zRZ data aJ aL dm aU Qr] E
def yDZ:Prop:=kZ (zZ tP) (zV tP 131) [1,1,0] (kFn tP 131 q1) .ret 148 (yDY data aJ aL dm aU) E
end
variable{data:oAa}{aJ aL:Nat}{dm:FuncId}{aU:lVa}{Inv:Nat->Int->Int->Int->Bool->Bool->St->Prop}{Qr Pr:St->Prop}{dB bk aP a_1 b limit:Int}{eg ee:Bool}{EEB E:St}{Nx:Int->Int->Int->Bool->Bool->St->Prop}{Q:vPa}
theorem yWO(hb:∀k dB bk aP eg ee E,Inv k dB bk aP eg ee E->yWR data aJ aL dm aU dB bk aP eg ee E (NX5 Inv k) Qr):∀k dB bk aP eg ee E,Inv k dB bk aP eg ee E->yWQ data aJ aL dm aU dB bk aP eg ee E Qr :=
 xKA (ai wX trivial) hb
theorem xPU(h1:CAz 154 [.slice data aJ aL,iV dB,iV bk,.func (.func dm) ⟨[]⟩ ⟨aU⟩] E (.tuple ⟨[]⟩) EEB)(nx:Qr EEB)(u1:I6 (bk-dB):=by omega)(u2:(bk-dB)<=12:=by omega):yWR data aJ aL dm aU dB bk aP eg ee E Nx Qr :=
 eO 1 () [.g2,.w u1,.g2,.b (xV u2),.g4,.c h1] nx
theorem xWQ(hL:yWQ data aJ aL dm aU a_1 b limit true true E Pr)(kr:∀E',Pr E'->yDZ data aJ aL dm aU E' Q):zQ tP 131 [.slice data aJ aL,iV a_1,iV b,iV limit,.func (.func dm) ⟨[]⟩ ⟨aU⟩] E Q :=
 eQ [.g2,.k (.lf 148 (zMF data aJ aL dm aU a_1 b limit true true) [zRZ data aJ aL dm aU Pr])] (ai (ai tt (ai (arf (zMF data aJ aL dm aU a_1 b limit true true)) hL)) (ai (kz0 kr) trivial))
theorem yWN(nx:Q (.tuple ⟨[]⟩) E):yDZ data aJ aL dm aU E Q :=
 eK [] nx
end
section
variable{x z1 n2 n1:Int}{E:St}{Q:vPa}
theorem xHG(h1:vG .u8 (x)=z1)(h2:zTB tP 9 (.string ⟨#[0,1,2,2,3,3,3,3,4,4,4,4,4,4,4,4,5,5,5,5,5,5,5,5,5,5,5,5,5,5,5,5,6,6,6,6,6,6,6,6,6,6,6,6,6,6,6,6,6,6,6,6,6,6,6,6,6,6,6,6,6,6,6,6,7,7,7,7,7,7,7,7,7,7,7,7,7,7,7,7,7,7,7,7,7,7,7,7,7,7,7,7,7,7,7,7,7,7,7,7,7,7,7,7,7,7,7,7,7,7,7,7,7,7,7,7,7,7,7,7,7,7,7,7,7,7,7,7,8,8,8,8,8,8,8,8,8,8,8,8,8,8,8,8,8,8,8,8,8,8,8,8,8,8,8,8,8,8,8,8,8,8,8,8,8,8,8,8,8,8,8,8,8,8,8,8,8,8,8,8,8,8,8,8,8,8,8,8,8,8,8,8,8,8,8,8,8,8,8,8,8,8,8,8,8,8,8,8,8,8,8,8,8,8,8,8,8,8,8,8,8,8,8,8,8,8,8,8,8,8,8,8,8,8,8,8,8,8,8,8,8,8,8,8,8,8,8,8,8,8,8,8,8,8,8,8]⟩) (.int .u8 z1)=some (.int .u8 n2))(nx:Q (iV (0+n2)) E)(u1:¬4294967296<=x:=by omega)(u2:¬65536<=x:=by omega)(u3:¬256<=x:=by omega)(u4:I6 n2:=by omega)(u5:I6 (0+n2):=by omega):zQ tP 152 [.int .u64 x] E Q :=
 eQ [.g2,.b (xX u1),.g,.b (xX u2),.g,.b (xX u3),.g2,.n h1,.v h2,.w u4,.w u5,.g] nx
theorem xXK(h1:CPz 152 [.int .u64 x] E (iV n1))(nx:Q (iV n1) E):zQ tP 123 [.int .u64 x] E Q :=
 eQ [.g2,.c h1,.g] nx
end
def xEQ(B:List (List Rl))(y:Pc):Prop:=∃i a e n:Nat,y=⟨i,a,i,e,n⟩/\i<B.length/\a<e/\e<(zAL B i).length/\n<=100
def vJ(B:List (List Rl))(i a:Int):Rl:=(zAL B i.toNat).getD a.toNat default
def wMU(B:List (List Rl))(x y:Pc):Int:=if(vJ B x.b x.a).lo-(vJ B y.b y.a).lo=0 then x.f-y.f else(vJ B x.b x.a).lo-(vJ B y.b y.a).lo
def zWI(B:List (List Rl))(x y:Pc):Bool:=decide (wMU B x y<0)
def zGI(x n:Nat)(g:Nat×Nat)(l:List Pc):List Pc :=
 if x.testBit n then(match l.getLast? with
  |some y=>if y.c=(g.1:Int)/\y.e=(g.2:Int)then l.dropLast++[{ y with c:=(g.1:Int),e:=((g.2+1:Nat):Int) }]else l++[⟨g.1,g.2,g.1,((g.2+1:Nat):Int),n⟩]
  |none=>l++[⟨g.1,g.2,g.1,((g.2+1:Nat):Int),n⟩])else l
def xU(x:Nat)(G:List (Nat×Nat)):Nat->List Pc
 |0=>[]
 |n+1=>match G[n]? with
  |some g=>zGI x n g (xU x G n)
  |none=>xU x G n
def wC(B:List (List Rl))(x:Nat):List Pc:=(Go.Sort.insertionSort (zWI B) (xU x (wO B) (yZ B)).toArray 0 (xU x (wO B) (yZ B)).length).toList
section
variable{B:List (List Rl)}{x n:Nat}{y:Pc}
theorem zQA:∀{n:Nat},(xU x (wO B) n).length<=n
 |0=>Nat.le_refl _
 |n+1=>by
  have ih:=zQA (n:=n);unfold xU;cases e:(wO B)[n]? with
  |none=>exact Nat.le_succ_of_le ih
  |some g =>
   show(zGI x n g (xU x (wO B) n)).length<=n+1;unfold zGI;split
   .split
    .rename_i y hy;have h0:0<(xU x (wO B) n).length:=by
      cases hl:xU x (wO B) n with
      |nil=>rw[hl]at hy;cases hy
      |cons a l=>simp
     split <;> simp <;> omega
    .simp;omega
   .omega
theorem xZX(hn:n<=yZ B)(h100:yZ B<=100):∀y∈xU x (wO B) n,xEQ B y:=by
 induction n with
 |zero=>intro y hy;cases hy
 |succ n ih =>
  have ih:=ih (by omega);unfold xU;cases e:(wO B)[n]? with
  |none=>exact ih
  |some g =>
   have hg:=wGW (List.mem_of_getElem? e);have new:xEQ B ⟨g.1,g.2,g.1,((g.2+1:Nat):Int),n⟩:=⟨g.1,g.2,g.2+1,n,rfl,hg.1,Nat.lt_succ_self _,hg.2,by omega⟩;show ∀y∈zGI x n g (xU x (wO B) n),xEQ B y;unfold zGI;split
   .split
    .rename_i y hy;have hmem:y∈xU x (wO B) n:=List.mem_of_getLast? hy;split
     .rename_i hc;intro z hz;rcases List.mem_append.1 hz with hz|hz
      .exact ih z ((List.dropLast_subset _) hz)
      .obtain rfl:=List.mem_singleton.1 hz;obtain⟨i,a,e',m,rfl,h1,h2,h3,h4⟩:=ih y hmem;have c1:(i:Int)=g.1:=hc.1;have c2:(e':Int)=g.2:=hc.2;have c1:i=g.1:=by omega
       subst c1;exact⟨g.1,a,g.2+1,m,rfl,h1,by omega,hg.2,h4⟩
     .intro z hz;rcases List.mem_append.1 hz with hz|hz
      .exact ih z hz
      .obtain rfl:=List.mem_singleton.1 hz;exact new
    .intro z hz;rcases List.mem_append.1 hz with hz|hz
     .exact ih z hz
     .obtain rfl:=List.mem_singleton.1 hz;exact new
   .exact ih
theorem wMS{m:Nat}(hm:m<n)(hn:n<=yZ B)(hx:x.testBit m=true):xU x (wO B) n≠[]:=by
 induction n with
 |zero=>omega
 |succ n ih =>
  have hlt:n<(wO B).length:=by rw[xNI];omega
  unfold xU;rw[List.getElem?_eq_getElem hlt];show zGI x n _ (xU x (wO B) n)≠[];by_cases e:m=n
  .subst e;unfold zGI;rw[if_pos hx];split
   .split <;> simp
   .simp
  .have ih:=ih (by omega) (by omega);unfold zGI;split
   .split
    .split <;> simp
    .simp
   .exact ih
theorem zKX{lt:Pc->Pc->Bool}{a C:Nat}{V:Pc->Prop}:∀(k j:Nat) (d:Array Pc),C-j=k->C<=d.size->yJX V d->yJX V (Go.Sort.insOuter lt a C j d)/\(Go.Sort.insOuter lt a C j d).size=d.size
 |0,j,d,hk,hC,h=>by
  rw[Go.Sort.insOuter,if_neg (by omega)];exact⟨h,rfl⟩
 |k+1,j,d,hk,hC,h=>by
  rw[Go.Sort.insOuter,if_pos (by omega)];have h2:=zKX (lt:=lt) (a:=a) (C:=C) (V:=V) k (j+1) (Go.Sort.insInner lt a j d) (by omega) (by rw[zDD];exact hC) (zKY _ _ _ _ (by omega) h);exact⟨h2.1,by rw[h2.2,zDD]⟩
theorem zIB:(wC B x).length=(xU x (wO B) (yZ B)).length:=by
 unfold wC Go.Sort.insertionSort;have:=(zKX (lt:=zWI B) (a:=0) (C:=(xU x (wO B) (yZ B)).length) (V:=λ_=>True) _ 1 (xU x (wO B) (yZ B)).toArray rfl (by simp) (λ_ _=>trivial)).2;simpa using this
theorem zGJ(h:yZ B<=100):∀y∈wC B x,xEQ B y:=by
 intro y hy;unfold wC Go.Sort.insertionSort at hy;have h2:=zKX (lt:=zWI B) (a:=0) (C:=(xU x (wO B) (yZ B)).length) (V:=xEQ B) _ 1 (xU x (wO B) (yZ B)).toArray rfl (by simp) (λi hi=>by
  rw[getElem!_pos _ i hi];refine xZX (n:=yZ B) (x:=x) (Nat.le_refl _) h _ ?_
  simp)
 obtain⟨i,hi,rfl⟩:=List.getElem_of_mem hy;have h3:=h2.1 i (by simpa using hi);rw[getElem!_pos _ i (by simpa using hi)]at h3;simpa using h3
end
section
variable{E:St}
theorem wDK{x y:Int}{b c:Nat}(o:Own E b [iV x,iV y] 1):zW tP 84 [.slice (some ⟨b,0,none⟩) 2 c] E (iV (if x=0 then y else x)) E:=by
 have h0:=o.re;have l0:=h0.ldI (P:=tP) (t:=3) (i:=0) (v:=iV x) zU rfl;have l1:=h0.ldI (P:=tP) (t:=3) (i:=1) (v:=iV y) zU rfl;refine zQ.pure (wDJ (Pr:=λn O=>O=E.re/\n=if x=0 then y else x) (P0:=λO=>O=E.re/\x=0/\y=0)
  (xDU (Inv:=λk i O=>O=E.re/\((i=0/\k=2)\/(i=1/\k=1/\x=0)\/(i=2/\x=0/\y=0))) ?_ 2 0 E.re ⟨rfl,.inl ⟨rfl,rfl⟩⟩)
  (λn O h=>xDS ⟨by rw[h.2],by rw[h.1];exact Nat.le_refl _⟩) (λO h=>xDT ⟨by simp[h.2.1,h.2.2],by rw[h.1];exact Nat.le_refl _⟩))
 rintro k i O ⟨rfl,⟨rfl,rfl⟩|⟨rfl,rfl,hx⟩|⟨rfl,hx,hy⟩⟩
 .by_cases hx:x=0
  .exact yPK l0 ⟨1,by omega,rfl,.inr (.inl ⟨rfl,rfl,hx⟩)⟩
  .exact yPL l0 ⟨rfl,by rw[if_neg hx]⟩
 .by_cases hy:y=0
  .exact yPK l1 ⟨0,by omega,rfl,.inr (.inr ⟨rfl,hx,hy⟩)⟩
  .exact yPL l1 ⟨rfl,by rw[if_pos hx]⟩
 .exact xVJ ⟨rfl,hx,hy⟩
theorem wEA{n:Nat}(hn:n<=6):∃m:Int,zW tP 123 [.int .u64 (n:Int)] E (iV m) E:=by
 refine⟨0+([0,1,2,2,3,3,3]:List Int).getD n 0, ?_⟩
 match n,hn with
 |0,_|1,_|2,_|3,_|4,_|5,_|6,_=>exact(xXK (xHG (u4:=by decide) (u5:=by decide) rfl (by kernel_rfl) ⟨rfl,Nat.le_refl _⟩).pure ⟨rfl,Nat.le_refl _⟩).pure
end
section
variable{B:List (List Rl)}{i a:Nat}
theorem zNS(h:a<(zAL B i).length):(zAL B i)[a]?=some (vJ B i a):=by
 unfold vJ;rw[Int.toNat_natCast,Int.toNat_natCast,List.getD_eq_getElem?_getD,List.getElem?_eq_getElem h];rfl
theorem zBX{kl:Nat}(hok:∀x∈B,zLY kl x)(hi:i<B.length)(h:a<(zAL B i).length):zRT kl (vJ B i a):=by
 have hm:zAL B i∈B:=by rw[zOZ (List.getElem?_eq_getElem hi)];exact List.getElem_mem _
 exact(hok _ hm).2.1 _ (List.mem_of_getElem? (zNS h))
theorem zFQ{E0 E O:St}{S:Nat->Prop}(h:Only S E O)(k:Le E0 E)(hs:∀b,S b->E0.j<=b):Le E0 O :=
 ⟨Nat.le_trans k.j h.j,λb hb=>(h.get b (Nat.lt_of_lt_of_le hb k.j) (λhS=>by have:=hs b hS;omega)).trans (k.get b hb)⟩
section
variable{E0 E O:St}{o b c vb kl m:Nat}{s:Option Nat}{d:Array Pc}{v:Pv}{L:Lw}{B:List (List Rl)}{K:List (List Int)}{x:Nat}
theorem wNP(hP:PlP E0 o v L B K)(hle:Le E0 E)(hb:E0.j<=b)(hok:∀x∈B,zLY kl x)(ob:Own E vb [.pointer (some ⟨o,0,none⟩)] 1)(hne:vb≠b):Cmp E b 94 [.pointer (some ⟨vb,0,none⟩)] (zWI B) (xEQ B):=by
 rintro O y z ho ⟨i,a,e,n,rfl,h1,h2,h3,h4⟩ ⟨j,a',e',n',rfl,k1,k2,k3,k4⟩;refine⟨wMU B ⟨i,a,i,e,n⟩ ⟨j,a',j,e',n'⟩, ?_,by unfold zWI;simp⟩
 have o1:Own O vb [.pointer (some ⟨o,0,none⟩)] 1:=ho.own' ob.re hne;have hL:Le E0 O:=zFQ ho (hle.trans (le0 E)) (λb e=>by subst e;exact hb);have N:New O.re ((O.re.row (pcL ⟨i,a,i,e,n⟩) 5).row (pcL ⟨j,a',j,e',n'⟩) 5):=(New.row _ _ _).row';have hP':=hP.le (hL.trans ((le0 O).trans N.le));obtain⟨p,q,c1,e1,l1,b1,b2,f1⟩:=hP'.rel h1 (zNS (by omega:a<_));obtain⟨p',q',c2,e2,l2,b3,b4,f2⟩:=hP'.rel k1 (zNS (by omega:a' < _));rw[e1]at e2;cases e2;have r1:=zBX hok h1 (by omega:a<_);have r2:=zBX hok k1 (by omega:a' < _);obtain⟨_,_,r3,r4,r5⟩:=r1;obtain⟨_,_,r6,r7,r8⟩:=r2;have lb:zJ tP ((O.re.row (pcL ⟨i,a,i,e,n⟩) 5).row (pcL ⟨j,a',j,e',n'⟩) 5) 43 (zO ⟨o,0,none⟩ 8)=some (.slice (some p) v.bl v.bc):=by
  have:=hP'.own.ld (k:=8) rfl zXH rfl;rw[e1]at this;simpa [zO] using this
 have q1:Ix (i:Int) v.bl:=⟨by omega,by omega⟩;have q2:Ix (a:Int) (zAL B i).length:=⟨by omega,by omega⟩;have q3:Ix (j:Int) v.bl:=⟨by omega,by omega⟩;have q4:Ix (a':Int) (zAL B j).length:=⟨by omega,by omega⟩;have q5:I6 ((vJ B i a).lo-(vJ B j a').lo):=⟨by omega,by omega⟩;have q6:I6 ((n:Int)-n'):=⟨by omega,by omega⟩;unfold wMU;exact(xXJ ((o1.re.row.row).ld rfl zPD rfl) lb l1 (f1 1 _ rfl) l2 (f2 1 _ rfl) (wDK (zX _ _ _)) ⟨rfl,(N.row').lw⟩ q1 q2 q3 q4 q5 q6).pure
theorem wGL(hP:PlP E0 o v L B K)(hle:Le E0 E)(hb:E0.j<=b)(hok:∀x∈B,zLY kl x)(ob:Own E vb [.pointer (some ⟨o,0,none⟩)] 1)(hne:vb≠b)(hd:Dt E b s d)(hv:yJX (xEQ B) d)(hn:d.size<=6) :
  zXM 93 [.slice (some ⟨b,0,s⟩) d.size c,.func (.func 94) ⟨[]⟩ ⟨[.pointer (some ⟨vb,0,none⟩)]⟩] (.tuple ⟨[]⟩) E b s d (Go.Sort.insertionSort (zWI B) d 0 d.size):=by
 obtain⟨n2,hbl⟩:=wEA (E:=E.re) hn;have w0:W E E.re b s d d:=W.start hd;have c1:zXM 131 [.slice (some ⟨b,0,s⟩) d.size c,iV 0,iV (d.size:Int),iV n2,.func (.func 94) ⟨[]⟩ ⟨[.pointer (some ⟨vb,0,none⟩)]⟩] (.tuple ⟨[]⟩) E.re b s d (Go.Sort.insertionSort (zWI B) d 0 d.size):=by
  have hd1:Dt E.re b s d:=w0.dt;refine zXM.of hd1 (xWQ (Pr:=λO=>W E.re O b s d (Go.Sort.insertionSort (zWI B) d 0 d.size)) (yWO (Inv:=λk i1 i2 i3 t1 t2 O=>i1=0/\i2=(d.size:Int)/\O=E.re.re) ?_ 0 _ _ _ _ _ _ ⟨rfl,rfl,rfl⟩) λO hw=>yWN ⟨rfl,hw⟩);rintro k i1 i2 i3 t1 t2 O ⟨rfl,rfl,rfl⟩;have w1:W E.re E.re.re b s d d:=W.start hd1;have hd2:Dt E.re.re b s d:=w1.dt;obtain⟨O',k1,w2⟩:=w1.call (wNE (E:=E.re.re) (c:=c) (a:=0) (B:=d.size) hd2 (wNP hP (hle.trans ((le0 E).trans (le0 _))) hb hok ob.re.re hne) hv (Nat.le_refl _) (by omega) (by omega));exact xPU k1 w2
 obtain⟨O',k1,w1⟩:=w0.call c1;exact zXM.of hd (xPI (z1:=(d.size:Int)) (by rw[zVM];omega) hbl k1 ⟨rfl,w1⟩)
theorem xZK(a b c d:Int):yL tP (Op.equal 115 (.agg ⟨[iV a,iV b]⟩) (.agg ⟨[iV c,iV d]⟩))=some (decide ([a,b]=[c,d])) :=
 xNK (P:=tP) (t:=115) (n:=2) (d:=9998) (λ_=>.i64) (by kernel_rfl) («as»:=[a,b]) (bs:=[c,d]) (xs:=⟨[iV a,iV b]⟩) (ys:=⟨[iV c,iV d]⟩) rfl rfl
  (by intro j x h;rcases j with _|_|j <;> simp_all) (by intro j x h;rcases j with _|_|j <;> simp_all)
theorem wNL{a b c d:Int}{o1 o2:Operand}:wW tP .eql 115 o1 o2 (.agg ⟨[iV a,iV b]⟩) (.agg ⟨[iV c,iV d]⟩)=some (.bool (decide ([a,b]=[c,d]))):=by
 have e:∀(x1 x2 y1 y2:Int),wW tP .eql 115 o1 o2 (.agg ⟨[iV x1,iV x2]⟩) (.agg ⟨[iV y1,iV y2]⟩)=(yL tP (do eqGuard .eql 115 o1 o2 (.agg ⟨[iV x1,iV x2]⟩) (.agg ⟨[iV y1,iV y2]⟩);binOp .eql 115 (.agg ⟨[iV x1,iV x2]⟩) (.agg ⟨[iV y1,iV y2]⟩))).filter (yI RD):=λ_ _ _ _=>by kernel_rfl
 have e1:∀(x1 x2 y1 y2:Int),yL tP (eqGuard .eql 115 o1 o2 (.agg ⟨[iV x1,iV x2]⟩) (.agg ⟨[iV y1,iV y2]⟩))=some ():=λ_ _ _ _=>by kernel_rfl
 have e2:∀x y:List Value,binOp .eql 115 (.agg ⟨x⟩) (.agg ⟨y⟩)=(do let r <- Op.equal 115 (.agg ⟨x⟩) (.agg ⟨y⟩);pure (.bool r)):=λ_ _=>rfl
 rw[e,xT,e1];simp only[Option.bind_some];rw[e2,xT,xZK];rfl
theorem wIF{n0 l c:Nat}{p:Option Addr}{Q:List Pc}{y:Pc}(u w:Int)(h:Gr tP O n0 154 5 p l c ((Q++[y]).map pcV)) :
  ∃a O',p=some a/\yN tP (evL [.pointer (some (zO a (((Int.toNat ((l:Int)-1)*5)+0)+2))),.agg ⟨[iV u,iV w]⟩]) O (.store 115 (.tmp 0) (.tmp 1))=some (undef,O')/\Gr tP O' n0 154 5 p l c ((Q++[{ y with c:=u,e:=w }]).map pcV)/\Only (AtP p) O O':=by
 have hL:=h.len_eq;have hl:l=Q.length+1:=by simpa using hL.symm
 have hi:(((Int.toNat ((l:Int)-1)*5)+0)+2)=Q.length*5+2:=by rw[hl];omega
 have ha:=h.app;rw[zOH]at ha;have e1:∀z:Pc,(Q++[z]).flatMap pcL=Q.flatMap pcL++pcL z:=λz=>by simp
 have hq:(Q.flatMap pcL).length=Q.length*5:=zIA _;obtain⟨cs,hcs⟩:∃cs,cs=(Q++[y]).flatMap pcL:=⟨_,rfl⟩;have hcl:cs.length=Q.length*5+5:=by rw[hcs,zIA];simp;omega
 rw[<- hcs]at ha;cases ha with
 |nil=>omega
 |more h1 h2 h3 h4 h5 h6 h7 =>
  rename_i b s0 nx sp log;subst h2;have e:cs.take (Q.length*5+2)++([iV u,iV w]++cs.drop (Q.length*5+2+2))=(Q++[{ y with c:=u,e:=w }]).flatMap pcL:=by
   rw[hcs,e1,e1,List.take_append,List.drop_append,hq,List.take_of_length_le (by omega),List.drop_of_length_le (by omega),show Q.length*5+2-Q.length*5=2 by omega,show Q.length*5+2+2-Q.length*5=4 by omega,List.append_assoc];rfl
  have hw:wS O ⟨b,0+(Q.length*5+2),sp⟩ [iV u,iV w]=some (O.put b (.cells ((Q++[{ y with c:=u,e:=w }]).flatMap pcL) 5 [(sp.getD 0,cs.length)] nx false)):=by
   have hcc:(Nat.beq (sp.getD 0) (sp.getD 0)&&Nat.ble (0+(Q.length*5+2)+2) cs.length&&!false&&[Value.int .i64 u,iV w].all cellB)=true:=by
    rw[Nat.beq_refl,(yJ _ _).2 (show 0+(Q.length*5+2)+2<=cs.length by omega)];rfl
   have e6:[Value.int .i64 u,iV w].length=2:=rfl;unfold wS;simp only[h1,yO,e6,hcc,cond_true,zCV,St.write_eq];rw[Nat.zero_add,e]
  refine⟨⟨b,0,sp⟩,O.put b (.cells ((Q++[{ y with c:=u,e:=w }]).flatMap pcL) 5 [(sp.getD 0,cs.length)] nx false),rfl, ?_,⟨?_,by simp[hl], ?_⟩,Only.put (.inr ⟨_,rfl,rfl⟩)⟩
  rotate_left
  .rw[zOH];have e2:((Q++[{ y with c:=u,e:=w }]).flatMap pcL).length=cs.length:=by rw[zIA,hcl];simp;omega
   refine .more (log:=[]) (nx:=nx) (s:=sp.getD 0) ?_ rfl h3 h4 (by rw[e2];omega) h6 h7;rw[St.put_get,if_pos rfl,e2]
  .intro v hv;obtain⟨y,_,rfl⟩:=List.mem_map.1 hv;exact yUJ y
  .rw[hi];have e0:yN tP (evL [.pointer (some (zO ⟨b,0,sp⟩ (Q.length*5+2))),.agg ⟨[iV u,iV w]⟩]) O (.store 115 (.tmp 0) (.tmp 1))=(wS O ⟨b,0+(Q.length*5+2),sp⟩ [iV u,iV w]).map λE'=>(undef,E'):=by
    have e1:∀l:List Value,evL l (.tmp 0)=l.getD 0 undef:=λ_=>rfl
    have e2:∀l:List Value,evL l (.tmp 1)=l.getD 1 undef:=λ_=>rfl
    have e3:yR tP 115=some 2:=zAV;unfold yN;simp only[e1,e2,List.getD_cons_zero,List.getD_cons_succ,zCN,e3];rfl
   rw[e0,hw];rfl
end
end
theorem wEG:AppT tP 200 200 154 5:=zAW (by kernel_rfl)
theorem xJR{x n:Nat}{g:Nat×Nat}{Q:List Pc}{y:Pc}(h:x.testBit n=true):zGI x n g (Q++[y])=if y.c=(g.1:Int)/\y.e=(g.2:Int)then Q++[{ y with c:=(g.1:Int),e:=((g.2+1:Nat):Int) }]else(Q++[y])++[⟨g.1,g.2,g.1,((g.2+1:Nat):Int),n⟩]:=by
 unfold zGI;rw[if_pos h];simp
section
variable{E:St}{o kl:Nat}{v:Pv}{L:Lw}{B:List (List Rl)}{K:List (List Int)}{x:Nat}
theorem xZS(hP:PlP E o v L B K)(hok:∀x∈B,zLY kl x)(hs6:yZ B<=6)(hx:x<65536)(hne:xU x (wO B) (yZ B)≠[]) :
  ∃vb b s c E',zW tP 63 [.pointer (some ⟨o,0,none⟩),.int .u16 (x:Int)] E (.func (.func 132) ⟨[]⟩ ⟨[.pointer (some ⟨vb,0,none⟩)]⟩) E'/\New E E'/\E.j<=vb/\Own E' vb [.slice (some ⟨b,0,s⟩) (wC B x).length c] 1/\SlV tP E' 154 5 (some ⟨b,0,s⟩) (wC B x).length ((wC B x).map pcV)/\E.j<=b:=by
 have hgl:=hP.gl;obtain⟨s1,hs⟩:∃s1,s1=E.re.row [.pointer (some ⟨o,0,none⟩)] 1:=⟨_,rfl⟩;have N1:New E.re s1:=by rw[hs];exact New.row _ _ _
 have n1:s1.j=E.j+1:=by rw[hs];rfl
 have o1:Own s1 E.j [.pointer (some ⟨o,0,none⟩)] 1:=by rw[hs];exact zX E.re _ _
 have P1:=(hP.le (le0 E)).le N1.le;obtain⟨w,E',h1,h2,vb,b,s,c,rfl,h3,h4,h5⟩:=zQ.new (P:=tP) (f:=63) (args:=[.pointer (some ⟨o,0,none⟩),.int .u16 (x:Int)]) (E:=E)
  (Q:=λw t=>∃vb b s c,w=.func (.func 132) ⟨[]⟩ ⟨[.pointer (some ⟨vb,0,none⟩)]⟩/\E.j<=vb/\Own t vb [.slice (some ⟨b,0,s⟩) (wC B x).length c] 1/\SlV tP t 154 5 (some ⟨b,0,s⟩) (wC B x).length ((wC B x).map pcV)/\E.j<=b) (by
  refine xFJ (P0:=λp l c O=>New E.re O/\Own O E.j [.pointer (some ⟨o,0,none⟩)] 1/\l=(xU x (wO B) (yZ B)).length/\Gr tP O (E.j+1) 154 5 p l c ((xU x (wO B) (yZ B)).map pcV))
   (by have:=P1.own.ld (k:=10) rfl yVK rfl;rw[<- hs];simpa [zO] using this) (by
   rw[<- hs]
   refine yKA (Inv:=λk' p l c i O=>New E.re O/\Own O E.j [.pointer (some ⟨o,0,none⟩)] 1/\∃j:Nat,i=j/\j+k'=yZ B/\l=(xU x (wO B) j).length/\Gr tP O (E.j+1) 154 5 p l c ((xU x (wO B) j).map pcV)) ?_ (yZ B) none 0 0 0 s1 ⟨N1,o1,0,rfl,by omega,rfl,Gr.nil⟩
   rintro k' p l c i O ⟨hN,ob,j,rfl,hk',rfl,hg⟩
   have hlen:=zQA (B:=B) (x:=x) (n:=j)
   by_cases hj:j<yZ B
   rotate_left
   .have:j=yZ B:=by omega
    subst this;exact yWH ⟨hN,ob,rfl,hg⟩
   have Pt:=(hP.le (le0 E)).le hN.le
   obtain⟨a,e,g,hgj,ld⟩:=xA Pt.gs (i:=j) (by omega)
   rw[e]
   have nx1:=ob.lt
   have hcp:New O ((O.row (zK 0 0 0 0) 4).own O.j (sgL g) 4):=(New.row _ _ _).own (Nat.le_refl _)
   have hh:=wKW (E:=(O.row (zK 0 0 0 0) 4).own O.j (sgL g) 4) (n:=j) hx (by omega)
   have es:xU x (wO B) (j+1)=zGI x j g (xU x (wO B) j):=by show(match (wO B)[j]? with|some g=>zGI x j g (xU x (wO B) j)|none=>_)=_;rw[hgj]
   have b1:Ix (j:Int) v.gl:=⟨by omega,by omega⟩
   have b2:I6 ((j:Int)+1):=⟨by omega,by omega⟩
   cases hb:x.testBit j with
   |false =>
    rw[hb]at hh;have es2:xU x (wO B) (j+1)=xU x (wO B) j:=by rw[es];unfold zGI;rw[hb];rfl
    exact yWI ld hh ⟨k' - 1,by omega,hN.trans hcp,ob.le hcp.le,j+1,by omega,by omega,by rw[es2],by rw[es2];exact hg.le hcp.le⟩ (by omega) b1 b2
   |true =>
   rw[hb]at hh
   have fresh:∀{Q:List Pc},Q=xU x (wO B) j->(xU x (wO B) (j+1)=Q++[⟨g.1,g.2,g.1,((g.2+1:Nat):Int),j⟩])->∃p4 c4 V2,xO tP 200 200 (.slice p (xU x (wO B) j).length c) (.slice (some ⟨O.j+1,0,none⟩) 1 1) (((O.row (zK 0 0 0 0) 4).own O.j (sgL g) 4).row (zP g.1 g.2 g.1 ((g.2+1:Nat):Int) j) 5)=some (.slice p4 ((xU x (wO B) j).length+1) c4,V2)/\NX4 (λk' p l c (i:Int) O=>New E.re O/\Own O E.j [.pointer (some ⟨o,0,none⟩)] 1/\∃j:Nat,i=j/\j+k'=yZ B/\l=(xU x (wO B) j).length/\Gr tP O (E.j+1) 154 5 p l c ((xU x (wO B) j).map pcV)) k' p4 ((xU x (wO B) j).length+1) c4 ((j:Int)+1) V2:=by
    rintro Q rfl e2;obtain⟨p4,c4,V2,g1,g2,g3,g4⟩:=zGM (pcV ⟨g.1,g.2,g.1,((g.2+1:Nat):Int),j⟩) wEG hg hcp.le (yUJ _) (by omega) (by omega);have hO:Only (AtP p) O V2:=((hcp.row').only (S:=AtP p)).trans' g3 λb _ h=>.inl h
    exact⟨p4,c4,V2,g1,k' - 1,by omega,hN.of_only hO λb hb=>by have:=(hg.bd hb).1;show E.j<=b;omega,hO.own' ob λhb=>by have:=(hg.bd hb).1;omega,j+1,by omega,by omega,by rw[e2];simp,by rw[e2,List.map_append];exact g2⟩
   rcases List.eq_nil_or_concat (xU x (wO B) j)with hq|⟨Q,y,hq⟩
   .obtain⟨p4,c4,V2,g1,nx⟩:=fresh rfl (by rw[es,hq];unfold zGI;rw[if_pos hb];rfl);exact yWJ ld hh g1 nx (by omega) b1 (by rw[hq];decide) b2
   .rw[List.concat_eq_append]at hq;have hQ:(xU x (wO B) j).length=Q.length+1:=by rw[hq];simp
    have es2:=es;rw[hq,xJR hb]at es2;have hg2:=hg.le hcp.le;have ly:(xU x (wO B) j)[Q.length]?=some y:=by rw[hq];simp
    obtain⟨a2,ea,y',hy',_⟩:=xA (i:=Q.length) hg2.slv (by omega);rw[ly]at hy';cases hy';subst ea;have e1:(((xU x (wO B) j).length:Int)-1)=(Q.length:Nat):=by omega
    have l2:zJ tP ((O.row (zK 0 0 0 0) 4).own O.j (sgL g) 4) 115 (zO a2 (((Int.toNat (((xU x (wO B) j).length:Int)-1)*5)+0)+2))=some (.agg ⟨[iV y.c,iV y.e]⟩):=by
     rw[e1];exact zVT (t':=115) (m:=2) hg2.slv (by rw[List.getElem?_map,ly];rfl) (k:=2) (ds:=[iV y.c,iV y.e]) rfl rfl (by omega) zLQ zAV
    have b3:I6 (((xU x (wO B) j).length:Int)-1):=⟨by omega,by omega⟩;have b4:Ix (((xU x (wO B) j).length:Int)-1) (xU x (wO B) j).length:=⟨by omega,by omega⟩;have q:=wNL (a:=y.c) (b:=y.e) (c:=(g.1:Int)) (d:=(g.2:Int)) (o1:=.tmp 34) (o2:=.tmp 36);by_cases hc:y.c=(g.1:Int)/\y.e=(g.2:Int)
    .rw[if_pos hc]at es2;rw[decide_eq_true (by simp[hc])]at q;obtain⟨a3,V2,e3,g1,g2,g3⟩:=wIF (Q:=Q) (y:=y) (g.1:Int) ((g.2+1:Nat):Int) (by rw[<- hq];exact hg2);cases e3
     have hO:Only (AtP (some a2)) O V2:=(hcp.only (S:=AtP (some a2))).trans' g3 λb _ h=>.inl h
     exact yWL ld hh l2 q g1 ⟨k' - 1,by omega,hN.of_only hO λb hb=>by have:=(hg.bd hb).1;show E.j<=b;omega,hO.own' ob λhb=>by have:=(hg.bd hb).1;omega,j+1,by omega,by omega,by rw[es2,hQ];simp,by rw[es2];exact g2⟩ (by omega) b1 (by omega) b3 b4 b2
    .rw[if_neg hc]at es2;rw[decide_eq_false (by simpa using hc)]at q;obtain⟨p4,c4,V2,g1,nx⟩:=fresh rfl (by rw[es2,hq]);exact yWK ld hh l2 q g1 nx (by omega) b1 (by omega) b3 b4 b2) ?_
  rintro p l c O ⟨hN,ob,rfl,hg⟩
  obtain⟨b,s,rfl,hb,hd⟩:=wCV hg hne
  have hLe:Le E O:=(le0 E).trans hN.le
  have hlen:=zQA (B:=B) (x:=x) (n:=yZ B)
  obtain⟨be,k1,ho,hd1,_⟩:=wGL (c:=c) hP hLe (by omega) hok ob (by omega:E.j≠b) hd (λi hi=>by
   rw[getElem!_pos _ i hi];refine xZX (n:=yZ B) (x:=x) (Nat.le_refl _) (by omega) _ ?_
   simp) (by simpa using Nat.le_trans hlen hs6)
  have hsl:=xTQ hd1
  have eo:(Go.Sort.insertionSort (zWI B) (xU x (wO B) (yZ B)).toArray 0 (xU x (wO B) (yZ B)).toArray.size).toList=wC B x:=by unfold wC;simp
  rw[eo,<- Array.length_toList,eo]at hsl
  have N2:New E.re be:=hN.of_only ho λb' e=>by subst e;show E.j<=_;omega
  have hl:(xU x (wO B) (yZ B)).toArray.size=(xU x (wO B) (yZ B)).length:=by simp
  rw[hl]at k1
  obtain⟨w,V2,k2,m2,vb,rfl,hv1,hv2⟩:=zQ.new (P:=tP) (f:=95) (args:=[.slice (some ⟨b,0,s⟩) (xU x (wO B) (yZ B)).length c]) (E:=be) (Q:=λw t=>∃vb,w=.func (.func 132) ⟨[]⟩ ⟨[.pointer (some ⟨vb,0,none⟩)]⟩/\be.j<=vb/\Own t vb [.slice (some ⟨b,0,s⟩) (xU x (wO B) (yZ B)).length c] 1)
   (xFH ⟨New.row _ _ _,be.re.j,rfl,Nat.le_refl _,zX _ _ _⟩) (by rintro v s s' ⟨vb,rfl,g1,g2⟩ hle;exact⟨vb,rfl,g1,g2.le hle⟩) (by rintro v s hr ⟨vb,rfl,_⟩;cases hr)
  have hn:=N2.nx
  rw[<- zIB (B:=B) (x:=x)]at hv2
  exact yJZ k1 k2 ⟨N2.trans m2,vb,b,s,c,rfl,Nat.le_trans hn hv1,hv2,SlV.le hsl m2.le,by omega⟩) (by rintro w t t' ⟨_,_,_,_,rfl,g1,g2,g3,g4⟩ hle;exact⟨_,_,_,_,rfl,g1,g2.le hle,SlV.le g3 hle,g4⟩) (by rintro w t hr ⟨_,_,_,_,rfl,_⟩;cases hr)
 exact⟨vb,b,s,c,E',h1,h2,h3,h4,h5⟩
end
abbrev zQN(s:Std):Value:=.agg ⟨zK s.free s.row s.used s.day⟩
structure StOk(s:Std):Prop where
 free:-1000000<=s.free/\s.free<=1000000
 row:0<=s.row/\s.row<=1000000
 used:-1000000<=s.used/\s.used<=1000000
 day:-1<=s.day/\s.day<=6
structure DtOk(d:Dty):Prop where
 day:0<=d.day/\d.day<=6
 on:0<=d.on/\d.on<=1439
section
variable{E:St}{w:Wk}{p q:Option Addr}{l m c d:Nat}{k:Nat}
theorem yUS{p:Option Addr}{l c:Nat}{xs:List Int}{n:Int}(h:yM E p l xs)(hl:l<=1073741824):zW tP 42 [.slice p l c,iV n] E (.bool (xs.contains n)) E:=by
 have h1:=(SlV.re h).re;have e1:=h.len;have ci:∃r:Int,zW tP 73 [.slice p l c,iV n] E.re (iV r) E.re/\(0<=r↔n∈xs):=by
  have key:zQ tP 73 [.slice p l c,iV n] E.re.re λv s=>(∃r:Int,v=iV r/\(0<=r↔n∈xs))/\s=E.re.re:=by
   refine wBH (xCM (Inv:=λk i O=>O=E.re.re/\∃j:Nat,i=j/\j+k=l/\n ∉ xs.take j) (Qr:=λi O=>O=E.re.re/\0<=i/\n∈xs) (Q0:=λO=>O=E.re.re/\n ∉ xs) ?_ l 0 _ ⟨rfl,0,rfl,by omega,by simp⟩) ?_ ?_
   .rintro k i O ⟨rfl,j,rfl,hk,he⟩;by_cases hj:j<l
    .obtain⟨a,rfl,x,hx,l1⟩:=xA h1 hj;by_cases hxy:n=x
     .exact xUG l1 ⟨rfl,by omega,hxy ▸ List.mem_of_getElem? hx⟩
     .exact xUF l1 ⟨k-1,by omega,rfl,j+1,by omega,by omega,by rw[wE hx,List.mem_append];simp;exact⟨he,hxy⟩⟩
    .rw[List.take_of_length_le (by omega)]at he;exact xUE ⟨rfl,he⟩
   .rintro i O ⟨rfl,h2,hn⟩;exact xCK ⟨⟨i,rfl,by simp[h2,hn]⟩,rfl⟩
   .rintro O ⟨rfl,hn⟩;exact xCL ⟨⟨-1,rfl,by simp[hn]⟩,rfl⟩
  obtain⟨v,s,h3,⟨r,rfl,h2⟩,rfl⟩:=key;exact⟨r,zYC h3 (Nat.le_refl _) rfl,h2⟩
 obtain⟨r,c1,c2⟩:=ci;by_cases hn:n∈xs
 .rw[show xs.contains n=true by simp[hn]];exact(wJA c1 ⟨rfl,Nat.le_refl _⟩ (c2.2 hn)).pure
 .rw[show xs.contains n=false by simp[hn]];exact(wIZ c1 ⟨rfl,Nat.le_refl _⟩ (λh=>hn (c2.1 h))).pure
theorem ySK{s:Std}{x:Dty}{e:Int}(hs:StOk s)(hx:DtOk x)(he:-1000000<=e/\e<=1000000):zW tP 81 [zQN s,zBB x,iV e] E (zQN (take s x e)) E:=by
 have h1:=hs.used;have h2:=hs.row;have h3:=hs.day;have h4:=hx.day;have h5:=hx.on;unfold take;by_cases e1:s.day=x.day
 .rw[if_pos e1];exact(xYF ⟨rfl,by simp⟩ (by omega) (by omega) e1).pure
 .rw[if_neg e1];by_cases e2:s.day=x.day-1
  .rw[if_pos e2];exact(xYD ⟨rfl,by simp⟩ (by omega) (by omega) e1 (by omega) e2 (by omega) (by omega) (by omega)).pure
  .rw[if_neg e2];exact(xYE ⟨rfl,by simp⟩ (by omega) (by omega) e1 (by omega) e2 (by omega) (by omega)).pure
theorem wLA(h:WkP E 93 94 w p l q m)(hsh:zCE w)(hk:k<m){s:Std}{x:Dty}(hs:StOk s)(hx:DtOk x){n:Nat}(hn:n<5):zW tP (117+n) [.agg ⟨wkc w.J p l c q m d w.rest w.run w.N⟩,iV (k:Int),zBB x,zQN s] E (.bool (holds w n (drQ w k) x s)) E:=by
 have h1:=hs.free;have h4:=hx.day;have h5:=hx.on;have L:Le E (((E.re.row (wkc w.J p l c q m d w.rest w.run w.N) 6).row (zP x.day x.on x.lo x.hi x.route) 5).row (zK s.free s.row s.used s.day) 4):=(((le0 E).trans (Le.row _ _ _)).trans (Le.row _ _ _)).trans (Le.row _ _ _);obtain⟨a,rfl,p',l',c',r',n',d',s',j',e',_,hkn,hlv,_,hf⟩:=(h.le L).vld xEL zKH hk;have hm:=h.len.2;have hmem:drQ w k∈w.M:=by
  unfold drQ;rw[List.getD_eq_getElem?_getD,List.getElem?_eq_getElem (by omega)];exact List.getElem_mem _
 have hsx:=hsh _ hmem;match n,hn with
 |0,_=>exact(xTF (hf 0 _ rfl 48 xF) (yUS hkn (by have:=hkn.len;omega)) ⟨rfl,Nat.le_refl _⟩ (by omega)).pure
 |1,_ =>
  have cc:=yUS (c:=d') (n:=x.day) hlv (by have:=hlv.len;omega);show zW tP 118 _ E (.bool (!(drQ w k).qb.contains x.day)) E;cases hc:(drQ w k).qb.contains x.day with
  |true=>rw[hc]at cc;exact(xZH (hf 1 _ rfl 48 xF) cc ⟨rfl,Nat.le_refl _⟩ (by omega)).pure
  |false=>rw[hc]at cc;exact(xZG (hf 1 _ rfl 48 xF) cc ⟨rfl,Nat.le_refl _⟩ (by omega)).pure
 |2,_ =>
  show zW tP 119 _ E (.bool (decide (s.day≠x.day))) E;by_cases e:s.day=x.day
  .rw[decide_eq_false (by simp[e])];exact(xJM ⟨rfl,Nat.le_refl _⟩).pure
  .rw[decide_eq_true e];exact(xJN ⟨rfl,Nat.le_refl _⟩).pure
 |3,_ =>
  show zW tP 120 _ E (.bool (decide (s.day=x.day)||decide (w.rest<=x.day*1440+x.on-s.free))) E;by_cases e:s.day=x.day
  .rw[decide_eq_true e];exact(xJQ ⟨rfl,Nat.le_refl _⟩).pure
  .rw[decide_eq_false e,Bool.false_or];by_cases e2:w.rest<=x.day*1440+x.on-s.free
   .rw[decide_eq_true e2];exact(xJP ⟨rfl,Nat.le_refl _⟩).pure
   .rw[decide_eq_false e2];exact(xJO ⟨rfl,Nat.le_refl _⟩).pure
 |4,_ =>
  show zW tP 121 _ E (.bool (decide (s.day=x.day)||decide ((take s x x.on).row<=w.run))) E;by_cases e:s.day=x.day
  .rw[decide_eq_true e];exact(xTI ⟨rfl,Nat.le_refl _⟩).pure
  .rw[decide_eq_false e,Bool.false_or];have ct:=ySK (E:=((E.re.row (wkc w.J p l c (some a) m d w.rest w.run w.N) 6).row (zP x.day x.on x.lo x.hi x.route) 5).row (zK s.free s.row s.used s.day) 4) (e:=x.on) hs hx (by omega);by_cases e2:(take s x x.on).row<=w.run
   .rw[decide_eq_true e2];exact(xTH ct ⟨rfl,Nat.le_refl _⟩ e e2).pure
   .rw[decide_eq_false e2];exact(xTG ct ⟨rfl,Nat.le_refl _⟩ e e2).pure
end
abbrev zGX(s:Std):List Value:=zK s.free s.row s.used s.day
def stL(f:Nat->Std):List Value:=zGX (f 0)++(zGX (f 1)++(zGX (f 2)++(zGX (f 3)++(zGX (f 4)++zGX (f 5)))))
def zGR:List Value:=[yK 0,yK 0,yK 0,yK 0,yK 0,yK 0,yK 0,yK 0,yK 0,yK 0,yK 0,yK 0,yK 0,yK 0,yK 0,yK 0,yK 0,yK 0,yK 0,yK 0,yK 0,yK 0,yK 0,yK 0]
def yCT:Std:=⟨0,0,0,0⟩
theorem yMJ:zGR=stL λ_=>yCT:=rfl
section
variable{E:St}{b n:Nat}{f:Nat->Std}
theorem ySL(o:Own E b (stL f) n){i:Nat}(hi:i<6):zJ tP E 175 ⟨b,0+Int.toNat (i:Int)*4,none⟩=some (zQN (f i)):=by
 rw[Int.toNat_natCast];match i,hi with
 |0,_=>exact o.ldN (k:=0) uI xS (ds:=zGX (f 0)) rfl rfl (by simp[stL])
 |1,_=>exact o.ldN (k:=4) uI xS (ds:=zGX (f 1)) rfl rfl (by simp[stL])
 |2,_=>exact o.ldN (k:=8) uI xS (ds:=zGX (f 2)) rfl rfl (by simp[stL])
 |3,_=>exact o.ldN (k:=12) uI xS (ds:=zGX (f 3)) rfl rfl (by simp[stL])
 |4,_=>exact o.ldN (k:=16) uI xS (ds:=zGX (f 4)) rfl rfl (by simp[stL])
 |5,_=>exact o.ldN (k:=20) uI xS (ds:=zGX (f 5)) rfl rfl (by simp[stL])
theorem xYG(o:Own E b (stL f) n){i:Nat}(hi:i<6):zJ tP E 3 ⟨b,0+Int.toNat (i:Int)*4+2,none⟩=some (yK (f i).used):=by
 rw[Int.toNat_natCast];match i,hi with
 |0,_=>exact o.ld (k:=2) rfl zU rfl
 |1,_=>exact o.ld (k:=6) rfl zU rfl
 |2,_=>exact o.ld (k:=10) rfl zU rfl
 |3,_=>exact o.ld (k:=14) rfl zU rfl
 |4,_=>exact o.ld (k:=18) rfl zU rfl
 |5,_=>exact o.ld (k:=22) rfl zU rfl
theorem uS(o:Own E b (stL f) n):zJ tP E 177 ⟨b,0,none⟩=some (.agg ⟨stL f⟩):=o.ldN (k:=0) wER yST (ds:=stL f) rfl rfl (by simp[stL])
theorem xIB(o:Own E b (stL f) n){i:Nat}(hi:i<6)(s:Std):yN tP (evL [.pointer (some ⟨b,0+Int.toNat (i:Int)*4,none⟩),zQN s]) E (.store 175 (.tmp 0) (.tmp 1))=some (undef,E.own b (stL (upd f i s)) n):=by
 rw[Int.toNat_natCast];match i,hi with
 |0,_=>exact o.store (k:=0) (vs:=zGX s) rfl xS rfl (by simp[stL]) rfl
 |1,_=>exact o.store (k:=4) (vs:=zGX s) rfl xS rfl (by simp[stL]) rfl
 |2,_=>exact o.store (k:=8) (vs:=zGX s) rfl xS rfl (by simp[stL]) rfl
 |3,_=>exact o.store (k:=12) (vs:=zGX s) rfl xS rfl (by simp[stL]) rfl
 |4,_=>exact o.store (k:=16) (vs:=zGX s) rfl xS rfl (by simp[stL]) rfl
 |5,_=>exact o.store (k:=20) (vs:=zGX s) rfl xS rfl (by simp[stL]) rfl
theorem yCZ(o:Own E b (stL f) n)(g:Nat->Std):yN tP (evL [.pointer (some ⟨b,0,none⟩),.agg ⟨stL g⟩]) E (.store 177 (.tmp 0) (.tmp 1))=some (undef,E.own b (stL g) n) :=
 o.store (k:=0) (vs:=stL g) rfl yST rfl (by simp[stL]) rfl
def st0(w:Wk)(j:Nat):Nat->Std:=λk=>if k<j then before (drQ w k)else yCT
theorem wOY{w:Wk}{j:Nat}:upd (st0 w j) j (before (drQ w j))=st0 w (j+1):=by
 funext k;unfold upd st0;by_cases e:k=j
 .subst e;rw[if_pos rfl,if_pos (by omega)]
 .rw[if_neg e];by_cases h:k<j
  .rw[if_pos h,if_pos (by omega)]
  .rw[if_neg h,if_neg (by omega)]
variable{w:Wk}{p q:Option Addr}{l m c d:Nat}
theorem yNH(h:WkP E 93 94 w p l q m)(hm:m<=6):zW tP 75 [.agg ⟨wkc w.J p l c q m d w.rest w.run w.N⟩] E (.agg ⟨stL (st0 w m)⟩) E:=by
 have hmm:=h.len.2;obtain⟨E1,hE1⟩:∃E1,E1=(E.re.row (wkc w.J p l c q m d w.rest w.run w.N) 6).row zGR 4:=⟨_,rfl⟩;have N1:New E.re E1:=by rw[hE1];exact(New.row _ _ _).row'
 have L1:Le E E1:=(le0 E).trans N1.le;have o1:Own E1 (E.j+1) (stL (st0 w 0)) 4:=by
  rw[hE1];exact zX (E.re.row (wkc w.J p l c q m d w.rest w.run w.N) 6) zGR 4
 have hr:yI RD (.agg ⟨stL (st0 w m)⟩)=true:=rfl;refine zQ.pure (hv:=hr) (xHX (yLM (Inv:=λk i O=>New E.re O/\∃j:Nat,i=j/\j+k=m/\Own O (E.j+1) (stL (st0 w j)) 4) (Q0:=λO=>New E.re O/\Own O (E.j+1) (stL (st0 w m)) 4) ?_ m 0 E1 ⟨N1,0,rfl,by omega,o1⟩ |> λh=>by rw[hE1]at h;exact h) ?_)
 .rintro k i O ⟨hN,j,rfl,hk,o⟩;by_cases hj:j<m;rotate_left
  .have:j=m:=by omega
   subst this;exact xAM ⟨hN,o⟩
  have LL:=(le0 E).trans hN.le;obtain⟨a,rfl,p',l',c',r',n',d',s',j',e',lx,_,_,_,_⟩:=(h.le LL).vld xEL zKH hj;have hN2:New E.re ((O.row (yH none 0 0 none 0 0 none 0 0 0 0 0) 6).own O.j (yH p' l' c' r' n' d' s' j' e' (drQ w j).off (drQ w j).row (drQ w j).used) 6):=hN.row'.own hN.le.j;have o2:Own ((O.row (yH none 0 0 none 0 0 none 0 0 0 0 0) 6).own O.j (yH p' l' c' r' n' d' s' j' e' (drQ w j).off (drQ w j).row (drQ w j).used) 6) (E.j+1) (stL (st0 w j)) 4:=o.row.own (by have:=o.lt;omega);refine xAN lx (xIB o2 (i:=j) (by omega) (before (drQ w j))) ⟨k-1,by omega,hN2.own (by show E.j<=E.j+1;omega),j+1,by omega,by omega, ?_⟩ (by omega) (by omega) (by omega) (by omega);rw[<- wOY];exact o2.put
 .rintro O ⟨hN,o⟩;exact yLL (uS o) (yCZ o _) (uS o.put) ⟨rfl,(hN.own (by show E.j<=E.j+1;omega)).lw⟩
theorem yBU:∃b E',zW tP 80 [] E (.slice (some ⟨b,0,none⟩) 5 5) E'/\New E E'/\E.j<=b/\Row E' ⟨b,0,none⟩ [.int .u8 0,.func (.func 117) ⟨[]⟩ ⟨[]⟩,.int .u8 1,.func (.func 118) ⟨[]⟩ ⟨[]⟩,.int .u8 2,.func (.func 119) ⟨[]⟩ ⟨[]⟩,.int .u8 3,.func (.func 120) ⟨[]⟩ ⟨[]⟩,.int .u8 4,.func (.func 121) ⟨[]⟩ ⟨[]⟩]:=by
 obtain⟨v,E',h1,h2,b,rfl,h3,h4⟩:=zQ.new (E:=E) (P:=tP) (f:=80) (args:=[]) (Q:=λv s=>∃b,v=.slice (some ⟨b,0,none⟩) 5 5/\E.j<=b/\Row s ⟨b,0,none⟩ [.int .u8 0,.func (.func 117) ⟨[]⟩ ⟨[]⟩,.int .u8 1,.func (.func 118) ⟨[]⟩ ⟨[]⟩,.int .u8 2,.func (.func 119) ⟨[]⟩ ⟨[]⟩,.int .u8 3,.func (.func 120) ⟨[]⟩ ⟨[]⟩,.int .u8 4,.func (.func 121) ⟨[]⟩ ⟨[]⟩])
  (yTK ⟨New.row _ _ _,E.re.j,rfl,Nat.le_refl _,wB _ _ _⟩) (by rintro v s s' ⟨b,rfl,g1,g2⟩ hle;exact⟨b,rfl,g1,g2.le hle⟩) (by rintro v s hr ⟨b,rfl,_⟩;cases hr)
 exact⟨b,E',h1,h2,h3,h4⟩
end
section
noncomputable section
variable(lo l BA BB BC BD BE lP:Nat)(v1:Addr)(ak y dz:Int)(fu ft:List Nat)(q1:oAa)(q2:(List Nat)->St->Prop)(q0:Int->(List Nat)->St->Prop)(BG l1 c1:Nat)(fD:FuncId)(dV nN bT:Int)(gj:lVa)(qK:oAa)(g:Nat->Value)(ms:List Nat)(lQ cK:Nat)(st:LoopState)(q4:Int->St->Prop)(Q:St->Prop)(d6:Int)(pend:Option Code)(E:St)(db:Nat)(Nx:Int->St->Prop)(q3:Int->(List Nat)->St->Prop)(q5:vPa)(Qn Q4 Q6 Qr q6:St->Prop)(Q0:(List Nat)->St->Prop)
def zZA:Code:=(Code.part [1,1,0,1,0,0] (zV tP 50))
def zIM(BA BB BC BD BE:Nat)(ak dz:Int)(ft:List Nat):lNa:=[(3,pq BA 0),(4,pq BB 0),(5,pq BC 0),(6,pq BD 0),(7,pq BE 0),(18,iV ak),(19,iV dz)]
def yJG:Alt:=⟨Int×(List Nat),.normal,λt=>zIM BA BB BC BD BE ak t.1 t.2,λt=>t.2,λt E=>q0 t.1 t.2 E⟩
def yCK(BA BB BC BD BE:Nat)(ak:Int)(ft:List Nat):lNa:=[(3,pq BA 0),(6,pq BD 0),(7,pq BE 0)]
def zGN:Alt:=⟨(List Nat),(.exit 0),λt=>yCK BA BB BC BD BE ak t,λt=>t,λt E=>q2 t E⟩
def zZE:Prop:=yT tP (zZ tP) none zZA 92 (zIM BA BB BC BD BE ak dz ft) ft [yJG BA BB BC BD BE ak q3,zGN BA BB BC BD BE ak Q0] E
def zZD:Prop:=yW tP (zZ tP) none zZA 92 (zIM BA BB BC BD BE ak dz ft) ft [zGN BA BB BC BD BE ak Q0] E
def zCC:Code:=(Code.part [1,1,0,1,0,0,1,1,0,0,1,1,0,0] (zV tP 50))
def zAK:Code:=(Code.part [1,1,0,1,0,0,1,1,0,0,1,1,0,1] (zV tP 50))
def zBL:lNa:=[(3,pq BA 0),(4,pq BB 0),(5,pq BC 0),(6,pq BD 0),(7,pq BE 0),(18,iV ak),(19,iV dz),(24,.func (.func fD) ⟨[]⟩ ⟨gj⟩)]
def zCY:Blk:=.loop (Fm 92 (ov (zBL BA BB BC BD BE ak dz fD gj) g)) [25,26] zCC zAK st pend db
def yPQ:Prop:=zPI tP (zZ tP) (.tmp 24) ⟨[25,26]⟩ zCC zAK 92 (zBL BA BB BC BD BE ak dz fD gj) [(.normal,Qn)] E
def yPP:Code:=(Code.part [1,1,0,1,0,0,1,1,0,0,1,1,0,1,0,1,1,0,1,0,0] (zV tP 50))
def zIL(lo BA BC BD BE:Nat)(y:Int)(BG:Nat)(nN:Int)(qK:oAa)(lQ cK:Nat)(d6:Int):lNa:=[(3,pq BA 0),(5,pq BC 0),(6,pq BD 0),(7,pq BE 0),(9,iV y),(10,pq BG 0),(11,iV nN),(33,.slice qK lQ cK),(34,iV (lQ:Int)),(35,iV d6)]
def xLX:Alt:=⟨Int,.normal,λt=>zIL lo BA BC BD BE y BG nN qK lQ cK t,λt=>[],λt E=>q4 t E⟩
def yCJ(lo BA BC BD BE:Nat)(y:Int)(BG:Nat)(nN:Int)(qK:oAa)(lQ cK:Nat):lNa:=[(5,pq BC 0),(7,pq BE 0),(9,iV y),(10,pq BG 0),(11,iV nN)]
def zOX:Alt:=⟨Unit,(.exit 4),λt=>yCJ lo BA BC BD BE y BG nN qK lQ cK,λt=>[],λt E=>Q E⟩
def zQL:Prop:=yT tP (zZ tP) (some lo) yPP 92 (zIL lo BA BC BD BE y BG nN qK lQ cK d6) [] [xLX lo BA BC BD BE y BG nN qK lQ cK Nx,zOX lo BA BC BD BE y BG nN qK lQ cK Q4] E
def zZC:Prop:=yW tP (zZ tP) (some lo) yPP 92 (zIL lo BA BC BD BE y BG nN qK lQ cK d6) [] [zOX lo BA BC BD BE y BG nN qK lQ cK Q4] E
def zOY(lo BA BC BD BE:Nat)(y:Int)(BG:Nat)(nN:Int)(qK:oAa)(lQ cK:Nat)(E:St)(Qn:St->Prop):Prop:=∀g:Nat->Value,∃an,Hid (kAt tP (zZ tP) (some lo) zAK [0,1,1,0,1,0] (xES [⟨Unit,.normal,λ_=>[],λ_=>[],λ_ E=>Qn E⟩]) (.exit 4) ⟨Fm 92 (ov (yCJ lo BA BC BD BE y BG nN qK lQ cK) g),[]⟩ E an)
def yCM:Prop:=∀g:Nat->Value,∃an,Hid (kAt tP (zZ tP) none zZA [1,1,0,0,1,1,0] (zHG 92 [yJG BA BB BC BD BE ak q3,zGN BA BB BC BD BE ak Q0]) .normal ⟨Fm 92 (ov (zBL BA BB BC BD BE ak dz fD gj) g),ms⟩ E an)
def yCN:Prop:=∀g:Nat->Value,∃an,Hid (kAt tP (zZ tP) none (zV tP 50) [1,1,0,1,0] (kFn tP 50 q5) (.exit 0) ⟨Fm 92 (ov (yCK BA BB BC BD BE ak ft) g),ft⟩ E an)
def yPO:Code:=(Code.part [1,1,1,0,1,0,0] (zV tP 50))
def zIK(BA BD BE lP:Nat)(fu:List Nat)(dV:Int):lNa:=[(3,pq BA 0),(6,pq BD 0),(7,pq BE 0),(72,iV (lP:Int)),(73,iV dV)]
def xLW:Alt:=⟨Int,.normal,λt=>zIK BA BD BE lP fu t,λt=>fu,λt E=>q4 t E⟩
def yCI(BA BD BE lP:Nat)(fu:List Nat):lNa:=[(6,pq BD 0)]
def zOW:Alt:=⟨Unit,(.exit 6),λt=>yCI BA BD BE lP fu,λt=>fu,λt E=>Q E⟩
def zQK:Prop:=yT tP (zZ tP) none yPO 92 (zIK BA BD BE lP fu dV) fu [xLW BA BD BE lP fu Nx,zOW BA BD BE lP fu Q6] E
def zZB:Prop:=yW tP (zZ tP) none yPO 92 (zIK BA BD BE lP fu dV) fu [zOW BA BD BE lP fu Q6] E
def yCL:Prop:=∀g:Nat->Value,∃an,Hid (kAt tP (zZ tP) none (zV tP 50) [1,1,1,0,1,0] (kFn tP 50 q5) (.exit 6) ⟨Fm 92 (ov (yCI BA BD BE lP fu) g),fu⟩ E an)
def wAM:Code:=(Code.part [1,0,0] (zV tP 116))
def yHQ:lNa:=[(0,.func (.yield l) ⟨[]⟩ ⟨[]⟩),(2,pz v1),(7,.slice q1 l1 c1),(8,iV (l1:Int)),(9,iV bT)]
def wHQ:Alt:=⟨Int,.normal,λt=>yHQ l v1 q1 l1 c1 t,λt=>[],λt E=>q4 t E⟩
def xCB(l:Nat)(v1:Addr)(q1:oAa)(l1 c1:Nat):lNa:=[]
def yHR:Alt:=⟨Unit,.ret,λt=>xCB l v1 q1 l1 c1,λt=>[],λt E=>Q E⟩
def xCC(l:Nat)(v1:Addr)(q1:oAa)(l1 c1:Nat):lNa:=[]
def yHS:Alt:=⟨Unit,(.exit 0),λt=>xCC l v1 q1 l1 c1,λt=>[],λt E=>Q E⟩
def yTR:Prop:=yT tP (zZ tP) none wAM 26 (yHQ l v1 q1 l1 c1 bT) [] [wHQ l v1 q1 l1 c1 Nx,yHR l v1 q1 l1 c1 Qr,yHS l v1 q1 l1 c1 q6] E
def wAN:Prop:=yW tP (zZ tP) none wAM 26 (yHQ l v1 q1 l1 c1 bT) [] [yHR l v1 q1 l1 c1 Qr,yHS l v1 q1 l1 c1 q6] E
def wAO:Prop:=kZ (zZ tP) (zV tP 116) [1,0] (kFn tP 116 q5) .ret 26 (xCB l v1 q1 l1 c1) E
def xCD:Prop:=kZ (zZ tP) (zV tP 116) [1,0] (kFn tP 116 q5) (.exit 0) 26 (xCC l v1 q1 l1 c1) E
end
variable{BA BB BC BD BE lo lIB cIB db BG lQ cK lUB cJB lVB cKB lBQ cBK lBR cBL lBS cBV lE cD lK cF ae af aa ac bn bL fg fh lP lBT cBM lBU cBN cW lBV cBO lBW cBP lWB cLB l l1 c1:Nat}{ak dz y aQ bt aM aN aS nN d6 nV nQB nBF nBG nBH nBI nBJ nBK nBL nBM nBN nBO nBP nBQ nBo nBp nBq nBr nBs nBt nBu nBv nBw nBx nBy nBz nB0 nB1 nH nE nF nB ao au aj dV nYB nUB bT nJ nD:Int}{Inv:Nat->Int->St->Prop}{Q0 P0:(List Nat)->St->Prop}{fD fE:FuncId}{gj gE cs1:lVa}{qFB_a qK_a qBM_a v1 eR v0:Addr}{g:Nat->Value}{O E EEC EFC ENB EGC EE ik EHC EIC EOB EJC fm:St}{Qn Q4 P4 Pn Q6 P6 Qr Pr:St->Prop}{qK qOB qPB qBK qBL qC qG ah ag dp gH qBN qBO qY qBP qBQ qQB q1:oAa}{Nx:Int->St->Prop}{ft ms fu:List Nat}{Q:vPa}
theorem yVD{Inv:Nat->Int->(List Nat)->St->Prop}(hb:∀k dz ft E,Inv k dz ft E->zZE BA BB BC BD BE ak dz ft E (NX2 Inv k) Q0):∀k dz ft E,Inv k dz ft E->zZD BA BB BC BD BE ak dz ft E Q0 :=
 zFM (ai (wF 0) trivial) hb
theorem xLN:let y0:=(O.re.row (zP 0 0 0 0 0) 5).own (O.re.j) (zP aQ bt aM aN aS) 5;let y1:=zCY BA BB BC BD BE ak dz fD gj g .ready none db;∀(hl:yP O.heap lo=some y1) (hl1:yP y0.heap lo=some y1) (iw:E=y0.put lo (zCY BA BB BC BD BE ak dz fD gj g .busy none db)) (h1:LDz E 48 (qe BB 0) (.slice (some qFB_a) lIB cIB)) (h2:LDz E 3 (zO qFB_a (Int.toNat y*1)) (iV nN)) (nx:Qn E) (u1:Ix y lIB:=by omega) (u2:nN=(-1):=by omega),zCG tP lo [iV y,qf (zP aQ bt aM aN aS)] O (Fm 92 (ov (zBL BA BB BC BD BE ak dz fD gj) g)) [25,26] zCC zAK db [⟨Unit,.normal,λ_=>[],λ_=>[],λ_ E=>Qn E⟩] :=
 let y0:=(O.re.row (zP 0 0 0 0 0) 5).own (O.re.j) (zP aQ bt aM aN aS) 5;λhl hl1 iw h1 h2 nx u1 u2=>zPV hl rfl hl1 iw [.g,.g,.e undef y0,.l (.slice (some qFB_a) lIB cIB),.g,.i,.l (iV nN),.g,.g,.b true,.fin ⟨Unit,.normal,λ_=>[],λ_=>[],λ_ E=>Qn E⟩ ()] (kc (by kernel_rfl) (ai ((zX _ _ _).store (vs:=(zP aQ bt aM aN aS)) rfl zAN rfl (nle rfl) rfl:yN tP (evL [pq O.re.j 0,qf (zP aQ bt aM aN aS)]) (O.re.row (zP 0 0 0 0 0) 5) (.store 93 (.tmp 0) (.tmp 1))=some (undef,y0)) (ai (ai (rfl:Exit.normal=Exit.normal) (rfl:y0=y0)) (ai h1 (ai u1 (ai h2 (ai (wU u2) (wCL (alts:=[⟨Unit,.normal,λ_=>[],λ_=>[],λ_ E=>Qn E⟩]) ⟨Unit,.normal,λ_=>[],λ_=>[],λ_ E=>Qn E⟩ () nx in0))))))))
theorem yVC(hb:∀k d6 E,Inv k d6 E->zQL lo BA BC BD BE y BG nN qK lQ cK d6 E (NX1 Inv k) Q4):∀k d6 E,Inv k d6 E->zZC lo BA BC BD BE y BG nN qK lQ cK d6 E Q4 :=
 xE (ai (wF 4) trivial) hb
theorem xLT:let Y1:=E.row [.int .u8 0,.nilFunc] 2;let Y2:=Y1.own E.j [.int .u8 nV,.func (.func fE) ⟨[]⟩ ⟨gE⟩] 2;∀(h1:LDz E 190 (zO qK_a (Int.toNat d6*2)) (qf [.int .u8 nV,.func (.func fE) ⟨[]⟩ ⟨gE⟩])) (h2:LDz Y2 72 (qe BA 0) (qf (wkc nQB qOB lUB cJB qPB lVB cKB nBF nBG nBH))) (h3:LDz Y2 93 (qe BG 0) (qf (zP nBI nBJ nBK nBL nBM))) (h4:LDz Y2 175 ⟨BE,0+Int.toNat nN*4,none⟩ (qf (zK nBN nBO nBP nBQ))) (h5:CPz fE (qf (wkc nQB qOB lUB cJB qPB lVB cKB nBF nBG nBH)::iV nN::(qf (zP nBI nBJ nBK nBL nBM))::(qf (zK nBN nBO nBP nBQ))::gE) Y2 (.bool true)) (nx:Nx (d6+1) Y2) (u1:d6<(lQ:Int):=by omega) (u2:Ix d6 lQ:=by omega) (u3:Ix nN 6:=by omega) (u4:I6 (d6+1):=by omega),zQL lo BA BC BD BE y BG nN (some qK_a) lQ cK d6 E Nx Q4:=
 λh1 h2 h3 h4 h5 nx u1 u2 u3 u4=>let ch1:List Bs:=[.r [.int .u8 0,.nilFunc] 2];let ch2:List Bs:=.o 0 [.int .u8 nV,.func (.func fE) ⟨[]⟩ ⟨gE⟩] 2::ch1;eO 0 (d6+1) [.b (zT u1),.i u2,.l h1,.g,.s E ch1 0 0 zEA (qf [.int .u8 nV,.func (.func fE) ⟨[]⟩ ⟨gE⟩]),.g,.f E ch2 0 1 xME,.l h2,.g,.l h3,.g,.i u3,.l h4,.c h5,.g,.w u4,.g] nx
theorem xLS:let Y1:=E.row [.int .u8 0,.nilFunc] 2;let Y2:=Y1.own E.j [.int .u8 nV,.func (.func fE) ⟨[]⟩ ⟨gE⟩] 2;∀(h1:LDz E 190 (zO qK_a (Int.toNat d6*2)) (qf [.int .u8 nV,.func (.func fE) ⟨[]⟩ ⟨gE⟩])) (h2:LDz Y2 72 (qe BA 0) (qf (wkc nQB qOB lUB cJB qPB lVB cKB nBF nBG nBH))) (h3:LDz Y2 93 (qe BG 0) (qf (zP nBI nBJ nBK nBL nBM))) (h4:LDz Y2 175 ⟨BE,0+Int.toNat nN*4,none⟩ (qf (zK nBN nBO nBP nBQ))) (h5:CPz fE (qf (wkc nQB qOB lUB cJB qPB lVB cKB nBF nBG nBH)::iV nN::(qf (zP nBI nBJ nBK nBL nBM))::(qf (zK nBN nBO nBP nBQ))::gE) Y2 (.bool false)) (h6:LDz Y2 76 (qe BD 0) (.slice qBK lBQ cBK)) (h7:APz 76 76 (.slice qBK lBQ cBK) (.slice (some ⟨(E.j+1),0,none⟩) 1 1) (Y2.row (rcd nV nN y) 3) (.slice qBL lBR cBL) EEC) (h8:SOz EEC 76 (qe BD 0) (.slice qBL lBR cBL) EFC) (nx:Nx (d6+1) EFC) (u1:d6<(lQ:Int):=by omega) (u2:Ix d6 lQ:=by omega) (u3:Ix nN 6:=by omega) (u4:I6 (d6+1):=by omega),zQL lo BA BC BD BE y BG nN (some qK_a) lQ cK d6 E Nx Q4:=
 λh1 h2 h3 h4 h5 h6 h7 h8 nx u1 u2 u3 u4=>let ch1:List Bs:=[.r [.int .u8 0,.nilFunc] 2];let ch2:List Bs:=.o 0 [.int .u8 nV,.func (.func fE) ⟨[]⟩ ⟨gE⟩] 2::ch1;eO 0 (d6+1) [.b (zT u1),.i u2,.l h1,.g,.s E ch1 0 0 zEA (qf [.int .u8 nV,.func (.func fE) ⟨[]⟩ ⟨gE⟩]),.g,.f E ch2 0 1 xME,.l h2,.g,.l h3,.g,.i u3,.l h4,.c h5,.g,.l h6,.g,.f E ch2 0 0 wQJ,.g4,.e h7,.e h8,.w u4,.g] nx
theorem xLR(nx:Q4 E)(u1:¬d6<(lQ:Int):=by omega):zQL lo BA BC BD BE y BG nN qK lQ cK d6 E Nx Q4 :=
 eO 1 () [.b (zY u1)] nx
theorem xLM:let y2:=O.re.j;let y0:=(O.re.row (zP 0 0 0 0 0) 5).own y2 (zP aQ bt aM aN aS) 5;let y1:=zCY BA BB BC BD BE ak dz fD gj g .ready none db;∀(hl:yP O.heap lo=some y1) (hl1:yP y0.heap lo=some y1) (iw:E=y0.put lo (zCY BA BB BC BD BE ak dz fD gj g .busy none db)) (h1:LDz E 48 (qe BB 0) (.slice (some qFB_a) lIB cIB)) (h2:LDz E 3 (zO qFB_a (Int.toNat y*1)) (iV nN)) (h3:CAz 80 [] E (.slice qK lQ cK) ENB) (hL:zZC lo BA BC BD BE y y2 nN qK lQ cK 0 ENB P4) (k4:∀E',P4 E'->zOY lo BA BC BD BE y y2 nN qK lQ cK E' Qn) (u1:Ix y lIB:=by omega) (u2:¬nN=(-1):=by omega),zCG tP lo [iV y,qf (zP aQ bt aM aN aS)] O (Fm 92 (ov (zBL BA BB BC BD BE ak dz fD gj) g)) [25,26] zCC zAK db [⟨Unit,.normal,λ_=>[],λ_=>[],λ_ E=>Qn E⟩] :=
 let y2:=O.re.j;let y0:=(O.re.row (zP 0 0 0 0 0) 5).own y2 (zP aQ bt aM aN aS) 5;λhl hl1 iw h1 h2 h3 hL k4 u1 u2=>zPV hl rfl hl1 iw [.g,.g,.e undef y0,.l (.slice (some qFB_a) lIB cIB),.g,.i,.l (iV nN),.g,.g,.b false,.c (.slice qK lQ cK) ENB,.g,.g,.lf 92 (zIL lo BA BC BD BE y y2 nN qK lQ cK 0) [zOX lo BA BC BD BE y y2 nN qK lQ cK P4]] (kc (by kernel_rfl) (ai ((zX _ _ _).store (vs:=(zP aQ bt aM aN aS)) rfl zAN rfl (nle rfl) rfl:yN tP (evL [pq O.re.j 0,qf (zP aQ bt aM aN aS)]) (O.re.row (zP 0 0 0 0 0) 5) (.store 93 (.tmp 0) (.tmp 1))=some (undef,y0)) (ai (ai (rfl:Exit.normal=Exit.normal) (rfl:y0=y0)) (ai h1 (ai u1 (ai h2 (ai (wG u2) (ai h3 (ai (ai tt (ai (arf (zIL lo BA BC BD BE y y2 nN qK lQ cK 0)) hL)) (ai (kz0 k4) trivial))))))))))
theorem yUY(h1:LDz E 175 ⟨BE,0+Int.toNat nN*4,none⟩ (qf (zK nBo nBp nBq nBr)))(h2:LDz E 93 (qe BG 0) (qf (zP nBs nBt nBu nBv nBw)))(h3:LDz E 48 (qe BC 0) (.slice (some qBM_a) lBS cBV))(h4:LDz E 3 (zO qBM_a (Int.toNat y*1)) (iV nBx))(h5:CPz 81 [qf (zK nBo nBp nBq nBr),qf (zP nBs nBt nBu nBv nBw),iV nBx] E (qf (zK nBy nBz nB0 nB1)))(h6:SOz E 175 ⟨BE,0+Int.toNat nN*4,none⟩ (qf (zK nBy nBz nB0 nB1)) EGC)(nx:Qn EGC)(u1:Ix nN 6:=by omega)(u2:Ix y lBS:=by omega):zOY lo BA BC BD BE y BG nN qK lQ cK E Qn :=
 eK [.g2,.i u1,.l h1,.l h2,.l h3,.g,.i u2,.l h4,.c h5,.i u1,.e h6,.k (.fin ⟨Unit,.normal,λ_=>[],λ_=>[],λ_ E=>Qn E⟩ ())] (wCL (alts:=[⟨Unit,.normal,λ_=>[],λ_=>[],λ_ E=>Qn E⟩]) ⟨Unit,.normal,λ_=>[],λ_=>[],λ_ E=>Qn E⟩ () nx in0)
theorem xLV{Nx:Int->(List Nat)->St->Prop}(h1:LDz E 72 (qe BA 0) (qf (wkc nH qC lE cD qG lK cF nE nF nB)))(h2:CAz 79 [qf (wkc nH qC lE cD qG lK cF nE nF nB),iV dz] E (.func (.func fD) ⟨[]⟩ ⟨gj⟩) EE)(hL:yPQ BA BB BC BD BE ak dz fD gj EE Pn)(kn:∀E',Pn E'->yCM BA BB BC BD BE ak dz fD gj (EE.j::ft) E' Nx Q0)(u1:dz<ak:=by omega):zZE BA BB BC BD BE ak dz ft E Nx Q0 :=
 eB [.b (zT u1),.g2,.l h1,.g,.c h2,.k (.rf 92 (zBL BA BB BC BD BE ak dz fD gj) [(.normal,Pn)])] (ai (ai tt (ai (arf (zBL BA BB BC BD BE ak dz fD gj)) hL)) (ai (kz kn) trivial))
theorem xLU{Nx:Int->(List Nat)->St->Prop}(nx:Q0 ft E)(u1:¬dz<ak:=by omega):zZE BA BB BC BD BE ak dz ft E Nx Q0 :=
 eO 1 ft [.b (zY u1)] nx
theorem yUZ{Nx:Int->(List Nat)->St->Prop}(nx:Nx (dz+1) ms E)(u1:I6 (dz+1):=by omega):yCM BA BB BC BD BE ak dz fD gj ms E Nx Q0 :=
 eF 0 (dz+1,ms) [.w u1,.g] nx
theorem xVQ:let y1:=wkc ak ah ae af ag aa ac ao au aj;let y0:=(((E.row y1 6).row [.slice dp bn bL] 1).row [.slice gH fg fh] 1).row [.slice none 0 0] 1;∀(h1:CPz 75 [qf y1] y0 (qf cs1)) (h2:SOz (y0.row [iV 0,iV 0,iV 0,iV 0,iV 0,iV 0,iV 0,iV 0,iV 0,iV 0,iV 0,iV 0,iV 0,iV 0,iV 0,iV 0,iV 0,iV 0,iV 0,iV 0,iV 0,iV 0,iV 0,iV 0] 4) 177 ⟨(E.j+4),0,none⟩ (qf cs1) ik) (h3:LDz ik 3 (qe E.j 0) (iV ak)) (hL:zZD E.j (E.j+1) (E.j+2) (E.j+3) (E.j+4) ak 0 [] ik P0) (k0:∀ms_1' E',P0 ms_1' E'->yCN E.j (E.j+1) (E.j+2) (E.j+3) (E.j+4) ak ms_1' E' Q),zQ tP 50 [qf y1,.slice dp bn bL,.slice gH fg fh] E Q :=
 let s1:=E.j+4;let s2:=E.j+3;let s3:=E.j+2;let s4:=E.j+1;let y1:=wkc ak ah ae af ag aa ac ao au aj;λh1 h2 h3 hL k0=>let ch1:List Bs:=[.r [.slice none 0 0] 1,.r [.slice gH fg fh] 1,.r [.slice dp bn bL] 1,.r y1 6];eQ [.g4,.F E ch1 0 0 zAD vB,.c h1,.g,.e h2,.g,.l h3,.g,.k (.lf 92 (zIM E.j s4 s3 s2 s1 ak 0 []) [zGN E.j s4 s3 s2 s1 ak P0])] (ai (ai tt (ai (arf (zIM E.j s4 s3 s2 s1 ak 0 [])) hL)) (ai (kz1 k0) trivial))
theorem yVB(hb:∀k dV E,Inv k dV E->zQK BA BD BE lP fu dV E (NX1 Inv k) Q6):∀k dV E,Inv k dV E->zZB BA BD BE lP fu dV E Q6 :=
 xE (ai (wF 6) trivial) hb
theorem xLQ(h1:LDz E 3 ⟨BE,0+Int.toNat dV*4+2,none⟩ (iV nYB))(h2:LDz E 3 (qe BA 5) (iV nUB))(h3:LDz E 76 (qe BD 0) (.slice qBN lBT cBM))(h4:APz 76 76 (.slice qBN lBT cBM) (.slice (some (qe E.j 0)) 1 1) (E.row (rcd 5 dV 0) 3) (.slice qBO lBU cBN) EHC)(h5:SOz EHC 76 (qe BD 0) (.slice qBO lBU cBN) EIC)(nx:Nx (dV+1) EIC)(u1:dV<(lP:Int):=by omega)(u2:Ix dV 6:=by omega)(u3:nUB<nYB:=by omega)(u4:I6 (dV+1):=by omega):zQK BA BD BE lP fu dV E Nx Q6 :=
 eO 0 (dV+1) [.b (zT u1),.g3,.i u2,.g,.l h1,.g,.l h2,.b (zT u3),.l h3,.g3,.e h4,.e h5,.w u4,.g] nx
theorem xLP(h1:LDz E 3 ⟨BE,0+Int.toNat dV*4+2,none⟩ (iV nYB))(h2:LDz E 3 (qe BA 5) (iV nUB))(nx:Nx (dV+1) E)(u1:dV<(lP:Int):=by omega)(u2:Ix dV 6:=by omega)(u3:¬nUB<nYB:=by omega)(u4:I6 (dV+1):=by omega):zQK BA BD BE lP fu dV E Nx Q6 :=
 eO 0 (dV+1) [.b (zT u1),.g3,.i u2,.g,.l h1,.g,.l h2,.b (zY u3),.w u4,.g] nx
theorem xLO(nx:Q6 E)(u1:¬dV<(lP:Int):=by omega):zQK BA BD BE lP fu dV E Nx Q6 :=
 eO 1 () [.b (zY u1)] nx
theorem yVA(h1:LDz E 70 (qe BA 2) (.slice qY lP cW))(hL:zZB BA BD BE lP ft 0 E P6)(k6:∀E',P6 E'->yCL BA BD BE lP ft E' Q):yCN BA BB BC BD BE ak ft E Q :=
 eK [.g,.l h1,.g2,.k (.lf 92 (zIK BA BD BE lP ft 0) [zOW BA BD BE lP ft P6])] (ai (ai tt (ai (arf (zIK BA BD BE lP ft 0)) hL)) (ai (kz0 k6) trivial))
theorem yUX(h1:LDz E 76 (qe BD 0) (.slice qBP lBV cBO))(h2:CAz 82 [.slice qBP lBV cBO,.func (.func 83) ⟨[]⟩ ⟨[]⟩] E (.tuple ⟨[]⟩) EOB)(h3:LDz EOB 76 (qe BD 0) (.slice qBQ lBW cBP))(h4:SOz EOB 76 (qe BD 0) (.slice qBQ lBW cBP) EJC)(h5:xEN fu EJC fm)(h6:LDz fm 76 (qe BD 0) (.slice qQB lWB cLB))(nx:Q (.slice qQB lWB cLB) fm):yCL BA BD BE lP fu E Q :=
 eK [.l h1,.c h2,.l h3,.e h4,.k (.l (.slice qQB lWB cLB))] (zKC (K:=(λfm=>zJ tP fm 76 (qe BD 0)=some (.slice qQB lWB cLB)/\Q (.slice qQB lWB cLB) fm)) h5 (ai h6 nx))
theorem xTT{Q0:St->Prop}(hb:∀k bT E,Inv k bT E->yTR l v1 q1 l1 c1 bT E (NX1 Inv k) Qr Q0):∀k bT E,Inv k bT E->wAN l v1 q1 l1 c1 bT E Qr Q0 :=
 xE (ai wX (ai (wF 0) trivial)) hb
theorem wHO{Q0:St->Prop}:let y0:=zP nH nJ nD nE nF;let y1:=(E.row (zP 0 0 0 0 0) 5).own E.j y0 5;∀(h1:LDz E 93 (zO eR (Int.toNat bT*5)) (qf y0)) (h2:LDz y1 3 v1 (iV nB)) (h3:zZN tP l [iV bT,qf y0] y1 (.bool true) EE) (nx:Nx (bT+1) EE) (u1:bT<(l1:Int):=by omega) (u2:Ix bT l1:=by omega) (u3:nH=nB:=by omega) (u4:I6 (bT+1):=by omega),yTR l v1 (some eR) l1 c1 bT E Nx Qr Q0 :=
 let y0:=zP nH nJ nD nE nF;λh1 h2 h3 nx u1 u2 u3 u4=>let ch1:List Bs:=[.r (zP 0 0 0 0 0) 5];let ch2:List Bs:=.o 0 y0 5::ch1;eO 0 (bT+1) [.b (zT u1),.g,.i u2,.l h1,.g2,.s E ch1 0 0 zAN (qf y0),.g,.f E ch2 0 0 zU,.l h2,.b (wU u3),.g3,.F E ch2 0 0 zXF zAN,.y h3,.g2,.w u4,.g] nx
theorem wHN{Q0:St->Prop}:let y0:=(E.row (zP 0 0 0 0 0) 5).own E.j (zP nH nJ nD nE nF) 5;∀(h1:LDz E 93 (zO eR (Int.toNat bT*5)) (qf (zP nH nJ nD nE nF))) (h2:LDz y0 3 v1 (iV nB)) (nx:Nx (bT+1) y0) (u1:bT<(l1:Int):=by omega) (u2:Ix bT l1:=by omega) (u3:¬nH=nB:=by omega) (u4:I6 (bT+1):=by omega),yTR l v1 (some eR) l1 c1 bT E Nx Qr Q0 :=
 λh1 h2 nx u1 u2 u3 u4=>let ch1:List Bs:=[.r (zP 0 0 0 0 0) 5];let ch2:List Bs:=.o 0 (zP nH nJ nD nE nF) 5::ch1;eO 0 (bT+1) [.b (zT u1),.g,.i u2,.l h1,.g2,.s E ch1 0 0 zAN (qf (zP nH nJ nD nE nF)),.g,.f E ch2 0 0 zU,.l h2,.b (wG u3),.g2,.w u4,.g] nx
theorem wHM{Q0:St->Prop}(nx:Q0 E)(u1:¬bT<(l1:Int):=by omega):yTR l v1 q1 l1 c1 bT E Nx Qr Q0 :=
 eO 2 () [.b (zY u1)] nx
theorem wMV{P0:St->Prop}(h1:LDz E 69 (zO v0 1) (.slice q1 l1 c1))(hL:wAN l v1 q1 l1 c1 0 E Pr P0)(kr:∀E',Pr E'->wAO l v1 q1 l1 c1 E' Q)(k0:∀E',P0 E'->xCD l v1 q1 l1 c1 E' Q):zQ tP 116 [.func (.yield l) ⟨[]⟩ ⟨[]⟩,pz v0,pz v1] E Q :=
 eQ [.g,.l h1,.g2,.k (.lf 26 (yHQ l v1 q1 l1 c1 0) [yHR l v1 q1 l1 c1 Pr,yHS l v1 q1 l1 c1 P0])] (ai (ai tt (ai (arf (yHQ l v1 q1 l1 c1 0)) hL)) (ai (kz0 kr) (ai (kz0 k0) trivial)))
theorem xTS(nx:Q (.tuple ⟨[]⟩) E):xCD l v1 q1 l1 c1 E Q :=
 eK [] nx
end
theorem wEH:AppT tP 76 76 192 3:=zAW (by kernel_rfl)
theorem wCT(b:Bch):zDV tP 192 3 (wDZ b):=.inr ⟨wOE,wGQ,_,rfl,rfl⟩
structure J(E:St)(wl:List Value)(rv tv:Value)(X:Nat->Prop)(f:Nat->Std)(A:List Bch)(O:St):Prop where
 new:New E.re O
 wk:Row O ⟨E.j,0,none⟩ wl
 ro:Row O ⟨E.j+1,0,none⟩ [rv]
 tr:Row O ⟨E.j+2,0,none⟩ [tv]
 nw:Own O (E.j+4) (stL f) 4
 out:∃po co,Own O (E.j+3) [.slice po A.length co] 1/\Gr tP O (E.j+5) 192 3 po A.length co (A.map wDZ)/\∀b,AtP po b->¬X b
section
variable{E O O':St}{wl:List Value}{rv tv:Value}{X:Nat->Prop}{f:Nat->Std}{A:List Bch}
theorem J.le(h:J E wl rv tv X f A O)(k:Le O O')(n:New E.re O'):J E wl rv tv X f A O':=by
 obtain⟨po,co,h1,h2,h3⟩:=h.out;exact⟨n,h.wk.le k,h.ro.le k,h.tr.le k,h.nw.le k,po,co,h1.le k,h2.le k,h3⟩
theorem J.mono{Y:Nat->Prop}(h:J E wl rv tv X f A O)(k:∀b,b<O.j->E.j+5<=b->Y b->X b):J E wl rv tv Y f A O:=by
 obtain⟨po,co,h1,h2,h3⟩:=h.out;exact⟨h.new,h.wk,h.ro,h.tr,h.nw,po,co,h1,h2,λb hb hy=>h3 b hb (k b (h2.bd hb).2 (h2.bd hb).1 hy)⟩
theorem J.push(h:J E wl rv tv X f A O)(k:Le O O')(n:New E.re O')(b:Bch)(hA:A.length<=1000)(hX3:¬ X (E.j+3))(hX:∀ x,X x->x<O.j) :
    ∃po co,zJ tP O' 76 ⟨E.j+3,0,none⟩=some (.slice po A.length co)/\∃p' c' V2,xO tP 76 76 (.slice po A.length co) (.slice (some ⟨O'.j,0,none⟩) 1 1) (O'.row (rcd b.kind b.drv b.dut) 3)=some (.slice p' (A++[b]).length c',V2) /\
      yN tP (evL [.pointer (some ⟨E.j+3,0,none⟩),.slice p' (A++[b]).length c']) V2 (.store 76 (.tmp 0) (.tmp 1))=some (undef,V2.own (E.j+3) [.slice p' (A++[b]).length c'] 1) /\
      J E wl rv tv X f (A++[b]) (V2.own (E.j+3) [.slice p' (A++[b]).length c'] 1)/\Only (λx=>¬X x) O' (V2.own (E.j+3) [.slice p' (A++[b]).length c'] 1):=by
  obtain⟨po,co,o,hg,hf⟩:=h.out;have hnx:E.j+5<=O.j:=by have:=h.nw.lt;omega
  obtain⟨p',c',V2,g1,g2,g3,g4⟩:=zGM (wDZ b) wEH hg k (wCT b) (by omega) hnx;have el:(A++[b]).length=A.length+1:=by simp
  rw[<- el]at g1;have g2':Gr tP V2 (E.j+5) 192 3 p' (A++[b]).length c' ((A++[b]).map wDZ):=by rw[el,List.map_append];exact g2
  have hpo:∀x,AtP po x->E.j+5<=x:=λx hx=>(hg.bd hx).1
  have O1:Only (AtP po) O' V2:=(Only.row O' _ _).trans' g3 (λb _ hb=>.inl hb);have o':Own O' (E.j+3) [.slice po A.length co] 1:=o.le k;have o2:Own V2 (E.j+3) [.slice po A.length co] 1:=O1.own' o' (λhx=>by have:=hpo _ hx;omega);have hp':∀x,AtP p' x->E.j+5<=x:=λx hx=>(g2'.bd hx).1
  have nkeep:∀{a:Addr} {cs:List Value},Row O a cs->a.block<E.j+3->Row (V2.own (E.j+3) [.slice p' (A++[b]).length c'] 1) a cs:=λhr hlt=>(O1.rw' (hr.le k) (λhx=>by have:=hpo _ hx;omega)).own (by omega)
  have O2:Only (λx=>¬X x) O' (V2.own (E.j+3) [.slice p' (A++[b]).length c'] 1):=by
    refine(O1.mono (T:=λx=>¬X x) (λx _ hx=>hf x hx)).trans' (Only.own (S:=(·=E.j+3)) (.inr rfl)) ?_
    rintro x _ rfl;exact .inl hX3
  refine⟨po,co,o'.ld (k:=0) rfl wEP rfl,p',c',V2,g1,o2.store (k:=0) (vs:=[.slice p' (A++[b]).length c']) rfl wLX rfl (by simp) rfl,⟨?_,nkeep h.wk (by show E.j<_;omega),nkeep h.ro (by show E.j+1<_;omega),nkeep h.tr (by show E.j+2<_;omega), ?_,p',c',o2.put, ?_, ?_⟩,O2⟩
  . exact(n.of_only O1 (λx hx=>by have:=hpo x hx;show E.j<=x;omega)).own (by show E.j<=E.j+3;omega)
  . exact(O1.own' (h.nw.le k) (λhx=>by have:=hpo _ hx;omega)).own (by omega)
  . exact g2'.only (Only.own (S:=(·=E.j+3)) (.inr rfl)) (λx hx e=>by have:=hp' x hx;omega)
  . intro x hx hXx;rcases g4 x hx with h1|h1
    . exact hf x h1 hXx
    . have:=hX x hXx;have:=k.j;omega
theorem J.take(h:J E wl rv tv X f A O){i:Nat}(hi:i<6)(s:Std)(hX4:¬ X (E.j+4)) :
    yN tP (evL [.pointer (some ⟨E.j+4,0+Int.toNat (i:Int)*4,none⟩),zQN s]) O (.store 175 (.tmp 0) (.tmp 1))=some (undef,O.own (E.j+4) (stL (upd f i s)) 4) /\
      J E wl rv tv X (upd f i s) A (O.own (E.j+4) (stL (upd f i s)) 4)/\Only (λx=>¬X x) O (O.own (E.j+4) (stL (upd f i s)) 4):=by
  obtain⟨po,co,o,hg,hf⟩:=h.out;refine⟨xIB h.nw hi s,⟨h.new.own (by show E.j<=E.j+4;omega),h.wk.own (by show E.j≠_;omega),h.ro.own (by show E.j+1≠_;omega),h.tr.own (by show E.j+2≠_;omega),h.nw.put,po,co,o.own (by omega), ?_,hf⟩, ?_⟩
  . exact hg.only (Only.own (S:=(·=E.j+4)) (.inr rfl)) (λx hx e=>by have:=(hg.bd hx).1;omega)
  . exact(Only.own (S:=(·=E.j+4)) (.inr rfl)).mono (λx _ e=>by rw[e];exact hX4)
end
section
variable{w:Wk}{k i j:Nat}{s:Std}
def zRQ(w:Wk)(k i:Nat)(s:Std)(j:Nat):List Bch:=(List.range j).filterMap λn=>if holds w n (drQ w k) (dty w i) s then none else some ⟨n,k,i⟩
theorem wJH:zRQ w k i s (j+1)=zRQ w k i s j++(if holds w j (drQ w k) (dty w i) s then[]else[⟨j,k,i⟩]):=by
 unfold zRQ;rw[List.range_succ,List.filterMap_append];simp only[List.filterMap_cons,List.filterMap_nil];split <;> simp_all
theorem xVO:(zRQ w k i s j).length<=j:=by
 unfold zRQ;have:=List.length_filterMap_le (λn=>if holds w n (drQ w k) (dty w i) s=true then none else some (⟨n,k,i⟩:Bch)) (List.range j);simpa using this
abbrev yNV:List Value:=[.int .u8 0,.func (.func 117) ⟨[]⟩ ⟨[]⟩,.int .u8 1,.func (.func 118) ⟨[]⟩ ⟨[]⟩,.int .u8 2,.func (.func 119) ⟨[]⟩ ⟨[]⟩,.int .u8 3,.func (.func 120) ⟨[]⟩ ⟨[]⟩,.int .u8 4,.func (.func 121) ⟨[]⟩ ⟨[]⟩]
section
variable{E O:St}{w:Wk}{p q:Option Addr}{l m c d:Nat}{rv tv:Value}{X:Nat->Prop}{f:Nat->Std}{A:List Bch}
theorem yDA{b:Nat}(h:Row O ⟨b,0,none⟩ yNV)(hj:j<5):zJ tP O 190 (zO ⟨b,0,none⟩ (Int.toNat (j:Int)*2))=some (.agg ⟨[.int .u8 (j:Int),.func (.func (117+j)) ⟨[]⟩ ⟨[]⟩]⟩):=by
 rw[Int.toNat_natCast];match j,hj with
 |0,_=>exact h.loadN (k:=0) zTN zEA rfl rfl (by simp)
 |1,_=>exact h.loadN (k:=2) zTN zEA rfl rfl (by simp)
 |2,_=>exact h.loadN (k:=4) zTN zEA rfl rfl (by simp)
 |3,_=>exact h.loadN (k:=6) zTN zEA rfl rfl (by simp)
 |4,_=>exact h.loadN (k:=8) zTN zEA rfl rfl (by simp)
theorem wEB{lo B3 bq:Nat}(h:WkP E 93 94 w p l q m)(hsh:zCE w)(hm:m<=6)(hk:k<m)(hi:i<l)(hs:StOk (f k))(hx:DtOk (dty w i))(hA:A.length<=500)
  (hJ:J E (wkc w.J p l c q m d w.rest w.run w.N) rv tv X f A O) (hB:Row O ⟨B3,0,none⟩ (zP (dty w i).day (dty w i).on (dty w i).lo (dty w i).hi (dty w i).route)) (hq:Row O ⟨bq,0,none⟩ yNV)
  (hXB:X B3) (hXq:X bq) (hX3:¬X (E.j+3)) (hX:∀x,X x->x<O.j) :
  zZC lo E.j (E.j+2) (E.j+3) (E.j+4) (i:Int) B3 (k:Int) (some ⟨bq,0,none⟩) 5 5 0 O (λz=>J E (wkc w.J p l c q m d w.rest w.run w.N) rv tv X f (A++zRQ w k i (f k) 5) z/\Only (λx=>¬X x) O z):=by
 refine yVC (Inv:=λk' i35 z=>∃j:Nat,i35=j/\j+k'=5/\J E (wkc w.J p l c q m d w.rest w.run w.N) rv tv X f (A++zRQ w k i (f k) j) z/\Only (λx=>¬X x) O z) ?_ 5 0 O ⟨0,rfl,rfl,by simpa [zRQ] using hJ,Only.refl _ _⟩;rintro k' i35 z ⟨j,rfl,hk',hJz,O7⟩;by_cases hj:j<5;rotate_left
 .have:j=5:=by omega
  subst this;exact xLR ⟨hJz,O7⟩
 have hqz:Row z ⟨bq,0,none⟩ yNV:=O7.rw' hq (λhh=>hh hXq);have hBz:=O7.rw' hB (λhh=>hh hXB);obtain⟨z1,hz1⟩:∃z1,z1=(z.row [.int .u8 0,.nilFunc] 2).own z.j [.int .u8 (j:Int),.func (.func (117+j)) ⟨[]⟩ ⟨[]⟩] 2:=⟨_,rfl⟩;have L1:Le z z1:=by rw[hz1];exact(Le.row z [.int .u8 0,.nilFunc] 2).own (Nat.le_refl _)
 have N1:New E.re z1:=by rw[hz1];exact hJz.new.row'.own hJz.new.le.j
 have O1:Only (λx=>¬X x) z z1:=by
  have:New z z1:=by rw[hz1];exact(New.row z [.int .u8 0,.nilFunc] 2).own (Nat.le_refl _)
  exact this.only
 have J1:=hJz.le L1 N1;have LS:Le E z1:=(le0 E).trans N1.le;have lw:zJ tP z1 72 ⟨E.j,0,none⟩=some (.agg ⟨wkc w.J p l c q m d w.rest w.run w.N⟩):=J1.wk.ldN (k:=0) zAD vB (ds:=wkc w.J p l c q m d w.rest w.run w.N) rfl rfl (by simp);have lb:zJ tP z1 93 ⟨B3,0,none⟩=some (zBB (dty w i)):=(hBz.le L1).ldN (k:=0) zXF zAN (ds:=zP (dty w i).day (dty w i).on (dty w i).lo (dty w i).hi (dty w i).route) rfl rfl (by simp);have ls:=ySL J1.nw (i:=k) (by omega);have ca:=wLA (c:=c) (d:=d) (h.le LS) hsh hk hs hx hj;have es:=wJH (w:=w) (k:=k) (i:=i) (s:=f k) (j:=j);have hcl:=xVO (w:=w) (k:=k) (i:=i) (s:=f k) (j:=j);cases hb:holds w j (drQ w k) (dty w i) (f k)with
 |true =>
  rw[hb]at ca es;rw[if_pos rfl,List.append_nil]at es;rw[hz1]at lw lb ls ca J1 O1;refine xLT (yDA hqz hj) lw lb ls ca ⟨k' - 1,by omega,j+1,by omega,by omega, ?_,O7.trans' O1 (λb _ hb=>.inl hb)⟩ (by omega) (by omega) (by omega) (by omega);rw[es];exact J1
 |false =>
  rw[hb]at ca es;rw[if_neg (by simp)]at es;obtain⟨po,co,g1,p',c',z2,g2,g3,g4,g5⟩:=hJz.push L1 N1 ⟨j,k,i⟩ (by rw[List.length_append];omega) hX3 (λx hx=>Nat.lt_of_lt_of_le (hX x hx) O7.j);rw[hz1]at lw lb ls ca g1 g2 O1 g5;refine xLS (yDA hqz hj) lw lb ls ca g1 g2 g3 ⟨k' - 1,by omega,j+1,by omega,by omega, ?_,(O7.trans' O1 (λb _ hb=>.inl hb)).trans' g5 (λb _ hb=>.inl hb)⟩ (by omega) (by omega) (by omega) (by omega);rw[es,<- List.append_assoc];exact g4
end
end
section
variable{E O:St}{w:Wk}{p q t:Option Addr}{l m c d tc:Nat}{rv:Value}{X:Nat->Prop}{f:Nat->Std}{A:List Bch}{ts:List Int}
theorem xSM{lo B3 bq k i:Nat}{wl:List Value}{qc qd:Nat}(ht:yM E t l ts)(hk:k<6)(hi:i<l)(hs:StOk (f k))(hx:DtOk (dty w i))(hu:-1000000<=yU ts i/\yU ts i<=1000000)
  (hJ:J E wl rv (.slice t l tc) X f A O) (hB:Row O ⟨B3,0,none⟩ (zP (dty w i).day (dty w i).on (dty w i).lo (dty w i).hi (dty w i).route)) (hX4:¬X (E.j+4)) {Qn:St->Prop}
  (hQ:∀z,J E wl rv (.slice t l tc) X (upd f k (take (f k) (dty w i) (yU ts i))) A z->Only (λx=>¬X x) O z->Qn z) :
  zOY lo E.j (E.j+2) (E.j+3) (E.j+4) (i:Int) B3 (k:Int) (some ⟨bq,0,none⟩) qc qd O Qn:=by
 have L:Le E O:=(le0 E).trans hJ.new.le;obtain⟨a,rfl,x,hxi,l4⟩:=xA (SlV.le ht L) hi;have gx:yU ts i=x:=xB hxi;rw[gx]at hu hQ;have l3:zJ tP O 48 ⟨E.j+2,0,none⟩=some (.slice (some a) l tc):=hJ.tr.ld xF rfl;have lb:zJ tP O 93 ⟨B3,0,none⟩=some (zBB (dty w i)):=hB.ldN (k:=0) zXF zAN (ds:=zP (dty w i).day (dty w i).on (dty w i).lo (dty w i).hi (dty w i).route) rfl rfl (by simp);obtain⟨g1,g2,g3⟩:=hJ.take hk (take (f k) (dty w i) x) hX4;exact yUY (ySL hJ.nw hk) lb l3 l4 (ySK hs hx hu) g1 (hQ _ g2 g3)
end
section
variable{n0 n t len c l m d a1 a2 D:Nat}{z z':St}{p q:Option Addr}{vs:List Value}{w:Wk}
structure Same(n0:Nat)(z z':St):Prop where
 j:z.j<=z'.j
 get:∀y,y<z.j->(∀tm ps a b st pend db,yP z.heap y≠some (.loop tm ps a b st pend db))->yP z'.heap y=yP z.heap y
 old:∀y,y<n0->yP z'.heap y=yP z.heap y
theorem Same.own{b:Nat}{cs:List Value}(h:Same n0 z z')(k:Own z b cs n):Own z' b cs n:=k.at_ (h.get b k.lt (λ_ _ _ _ _ _ _ e=>by rw[k.get]at e;cases e)) h.j
theorem Same.of_le(h:Le z z')(hn:n0<=z.j):Same n0 z z':=⟨h.j,λy hy _=>h.get y hy,λy hy=>h.get y (by omega)⟩
theorem Same.rw{n0:Nat}{z z':St}{a:Addr}{cs:List Value}(h:Same n0 z z')(k:Row z a cs):Row z' a cs:=by
 refine⟨?_,Nat.lt_of_lt_of_le k.lt h.j⟩
 have:=k.rd;unfold xG at this ⊢;rw[h.get a.block k.lt (λtm ps x y st pend db e=>by rw[e]at this;simp at this)];exact this
theorem Same.slv(h:Same n0 z z')(k:SlV tP z t n p len vs):SlV tP z' t n p len vs:=by
 refine⟨⟨k.1.1, ?_⟩,k.2⟩
 cases p with
 |none=>exact k.1.2
 |some a=>exact h.rw k.1.2
theorem Same.gr{m0:Nat}(h:Same n0 z z')(k:Gr tP z m0 t n p len c vs):Gr tP z' m0 t n p len c vs:=by
 have key:∀{v:Value} {cs:List Value},App z m0 n v len cs->App z' m0 n v len cs:=by
  intro v cs ka;cases ka with
  |nil=>exact .nil
  |more g1 g2 g3 g4 g5 g6 g7=>exact .more (by rw[h.get _ g4 (λ_ _ _ _ _ _ _ e=>by rw[g1]at e;cases e)];exact g1) g2 g3 (Nat.lt_of_lt_of_le g4 h.j) g5 g6 g7
 exact⟨key k.app,k.len_eq,k.el⟩
abbrev wPM(x:Dty):List Value:=zP x.day x.on x.lo x.hi x.route
abbrev yQK(z:St)(x:Dty):St:=(z.row (zP 0 0 0 0 0) 5).own z.j (wPM x) 5
theorem yCX(z:St)(x:Dty):Le z (yQK z x):=(Le.row z (zP 0 0 0 0 0) 5).own (Nat.le_refl _)
theorem wHP{E:St}{lo:Nat}(r1:Row E ⟨a1,0,none⟩ (wkc w.J p l c q m d w.rest w.run w.N))(hl:l<=100000){K:Nat->St->Prop}(h0:K 0 E)
  (hT:∀s z,K s z->Row z ⟨a2,0,none⟩ [yK D]/\yQD z 93 p l w.L) (hJ:∀s z,s<l->K s z->if(dty w s).day=(D:Int)then ∃z',zZN tP lo [iV (s:Int),zBB (dty w s)] (yQK z (dty w s)) (.bool true) z'/\K (s+1) z' else K (s+1) (yQK z (dty w s))) :
  zQ tP 116 [.func (.yield lo) ⟨[]⟩ ⟨[]⟩,.pointer (some ⟨a1,0,none⟩),.pointer (some ⟨a2,0,none⟩)] E λv s=>v=.tuple ⟨[]⟩/\K l s:=by
 have hn:w.L.length=l:=by have:=(hT 0 E h0).2.2.1;simpa using this
 refine wMV (Pr:=λ_=>False) (P0:=λO=>K l O) (r1.load1 zXG (k:=1) rfl)
  (xTT (Inv:=λk i O=>∃s:Nat,i=s/\s+k=l/\K s O) (Qr:=λ_=>False) (Q0:=λO=>K l O) ?_ l 0 E ⟨0,rfl,by omega,h0⟩) (λ_ h=>h.elim) (λO h=>xTS ⟨rfl,h⟩)
 rintro k i O ⟨s,rfl,hk,hj⟩;by_cases hs:s<l;rotate_left
 .have:s=l:=by omega
  subst this;exact wHM hj
 obtain⟨ra,hd⟩:=hT s O hj;obtain⟨a,rfl,x,hx,lx⟩:=xA hd hs;have ex:x=dty w s:=by
  unfold dty;rw[List.getD_eq_getElem?_getD,hx];rfl
 subst ex;have l2:zJ tP (yQK O (dty w s)) 3 ⟨a2,0,none⟩=some (iV (D:Int)):=(ra.le (yCX O (dty w s))).ld zU rfl;have h:=hJ s O hs hj;by_cases ht:(dty w s).day=(D:Int)
 .rw[if_pos ht]at h;obtain⟨O',h1,h2⟩:=h;exact wHO lx l2 h1 ⟨k-1,by omega,s+1,by omega,by omega,h2⟩ (by omega) (by omega) ht (by omega)
 .rw[if_neg ht]at h;exact wHN lx l2 ⟨k-1,by omega,s+1,by omega,by omega,h⟩ (by omega) (by omega) ht (by omega)
theorem yCA{zf:St->Dty->St}(hzf:∀(z:St) (x:Dty),Le z (zf z x))(hzl:∀(z:St) (x:Dty),z.j<=(zf z.re x).low){w:Wk}{pp q:Option Addr}{l m c d D:Nat}{gx:Operand}{ps:Array Tmp}{a b:Code}{n:Nat}{l0:List (Nat×Value)}{Qn:St->Prop}{O:St}{a1 a2 n0:Nat}{J:Nat->St->Prop}
  (hg:∀g0,yV (Fm n (ov l0 g0)) gx=.func (.func 116) ⟨[]⟩ ⟨[.pointer (some ⟨a1,0,none⟩),.pointer (some ⟨a2,0,none⟩)]⟩) (r1:Row O ⟨a1,0,none⟩ (wkc w.J pp l c q m d w.rest w.run w.N)) (hl:l<=100000) (hn0:n0<=O.j)
  (hT:∀s z,J s z->Row z ⟨a2,0,none⟩ [yK D]/\yQD z 93 pp l w.L) (h0:J 0 O) (hJ:∀s z z',J s z->Same n0 z z'->J s z') (hskip:∀s z,s<l->(dty w s).day≠(D:Int)->J s z->J (s+1) z)
  (hR:∀s z z1 lo g0 db,s<l->(dty w s).day=(D:Int)->lo=O.j+1->yP z.heap lo=some (.loop (Fm n (ov l0 g0)) ps.toList a b .ready none db)->z1=(zf z.re (dty w s)).put lo (.loop (Fm n (ov l0 g0)) ps.toList a b .busy none db)->J s z->O.j+2<=z.j ->
   ∃z4,zCG tP lo [iV (s:Int),zBB (dty w s)] z (Fm n (ov l0 g0)) ps.toList a b db [⟨Unit,.normal,λ_=>[],λ_=>[],λ_ z=>z=z4⟩]/\J (s+1) z4/\∃S,Only S z1 z4/\∀y,S y->n0<=y/\y≠O.j/\y≠O.j+1)
  (hQ:∀z,J l z->yP z.heap O.j=some .defd->O.j<z.j->(∀m,m<=n0->m<=O.low->m<=z.low)->Qn z):zPI tP (zZ tP) gx ps a b n l0 [(.normal,Qn)] O:=by
 refine yNO (fs:=[.pointer (some ⟨a1,0,none⟩),.pointer (some ⟨a2,0,none⟩)]) (f:=116) hg (λg0=>?_);obtain⟨Oa,hOa⟩:∃Oa,Oa=(O.add .defd).add (.loop (Fm n (ov l0 g0)) ps.toList a b .ready none O.j):=⟨_,rfl⟩;have hN:New O Oa:=by rw[hOa];exact(New.add _ _).trans (New.add _ _)
 have nxa:Oa.j=O.j+2:=by rw[hOa];rfl
 have Ld:yP Oa.heap O.j=some .defd:=by rw[hOa,St.add_get,if_neg (by simp),St.add_get,if_pos rfl]
 have Ll:yP Oa.heap (O.j+1)=some (.loop (Fm n (ov l0 g0)) ps.toList a b .ready none O.j):=by rw[hOa,St.add_get,if_pos (by simp)]
 have sm_re:∀z:St,Same n0 z z.re:=λz=>⟨Nat.le_refl _,λ_ _ _=>rfl,λ_ _=>rfl⟩
 let K:Nat->St->Prop:=λs z=>J s z/\yP z.heap O.j=some .defd/\yP z.heap (O.j+1)=some (.loop (Fm n (ov l0 g0)) ps.toList a b .ready none O.j)/\Oa.j<=z.j/\n0<=z.low/\((J s Oa.re/\New Oa.re z)\/z.low<=O.j+1)
 have J0:J 0 Oa.re:=hJ _ _ _ (hJ _ _ _ h0 (Same.of_le hN.le hn0)) (sm_re Oa);have hrun:zQ tP 116 [.func (.yield (O.j+1)) ⟨[]⟩ ⟨[]⟩,.pointer (some ⟨a1,0,none⟩),.pointer (some ⟨a2,0,none⟩)] Oa.re λv s=>v=.tuple ⟨[]⟩/\K l s:=by
  refine wHP (w:=w) (p:=pp) (D:=D) ((r1.le hN.le).le (le0 _)) hl (K:=K) ⟨J0,Ld,Ll,Nat.le_refl _,by show n0<=Oa.j;omega,.inl ⟨J0,New.refl _⟩⟩ (λs z h=>hT s z h.1) ?_
  rintro s z hs ⟨j1,j2,j3,j4,j5,j6⟩;have zl:=yCX z (dty w s);have zn:New z (yQK z (dty w s)):=(New.row z (zP 0 0 0 0 0) 5).own (Nat.le_refl _);have kz:K s (yQK z (dty w s)):=⟨hJ _ _ _ j1 (Same.of_le zl (by omega)),by rw[zl.get _ (by omega)];exact j2,by rw[zl.get _ (by omega)];exact j3,by have:=zl.j;omega,zn.low _ j5 (by omega),j6.imp (λh=>⟨h.1,h.2.trans zn⟩) (λh=>Nat.le_trans (Nat.min_le_left _ _) h)⟩;by_cases ht:(dty w s).day=(D:Int);rotate_left
  .rw[if_neg ht];obtain⟨k1,k2,k3,k4,k5,k6⟩:=kz;exact⟨hskip s _ hs ht k1,k2,k3,k4,k5,k6.imp (λh=>⟨hskip s _ hs ht h.1,h.2⟩) id⟩
  rw[if_pos ht];obtain⟨j1,j2,j3,j4,j5,j6⟩:=kz;obtain⟨z,hz⟩:∃z',z'=yQK z (dty w s):=⟨_,rfl⟩;rw[<- hz]at j1 j2 j3 j4 j5 j6 ⊢;obtain⟨z1,hz1⟩:∃z1,z1=(zf z.re (dty w s)).put (O.j+1) (.loop (Fm n (ov l0 g0)) ps.toList a b .busy none O.j):=⟨_,rfl⟩;have zl1:=hzf z.re (dty w s);have s0:Same n0 z (zf z.re (dty w s)):=⟨zl1.j,λy hy _=>zl1.get y hy,λy hy=>zl1.get y (by show y<z.j;omega)⟩;have j3':yP (zf z.re (dty w s)).heap (O.j+1)=some (.loop (Fm n (ov l0 g0)) ps.toList a b .ready none O.j):=by rw[zl1.get _ (by show _<z.j;omega)];exact j3
  have s1:Same n0 z z1:=⟨by rw[hz1];exact zl1.j,λy hy hne=>by
   rw[hz1,St.put_get,if_neg (λe=>by subst e;exact hne _ _ _ _ _ _ _ j3)];exact zl1.get y hy,λy hy=>by rw[hz1,St.put_get,if_neg (by omega)];exact zl1.get y (by show y<z.j;omega)⟩
  have nx1:z.j<=z1.j:=by rw[hz1];exact zl1.j
  have L1:yP z1.heap (O.j+1)=some (.loop (Fm n (ov l0 g0)) ps.toList a b .busy none O.j):=by rw[hz1,St.put_get,if_pos rfl]
  have D1:yP z1.heap O.j=some .defd:=by rw[hz1,St.put_get,if_neg (by omega),zl1.get _ (by show _<z.j;omega)];exact j2
  obtain⟨z4,hr,k1,S,k2,k3⟩:=hR s z z1 (O.j+1) g0 O.j hs ht rfl j3 hz1 j1 (by omega);have L4:yP z4.heap (O.j+1)=some (.loop (Fm n (ov l0 g0)) ps.toList a b .busy none O.j):=by
   rw[k2.get _ (by omega) (λh=>(k3 _ h).2.2 rfl)];exact L1
  have D4:yP z4.heap O.j=some .defd:=by
   rw[k2.get _ (by omega) (λh=>(k3 _ h).2.1 rfl)];exact D1
  have n4:=k2.j;obtain⟨e,z',⟨al,hal,rfl,t,hq⟩,hc⟩:=hr;simp only[In,or_false]at hal;subst hal;have hq:z'=z4:=hq;subst hq;have hcy:=hc (.inl rfl) (by omega) L4 (by omega);have hlow:n0<=z'.low:=k2.low n0 (by have:=hzl z (dty w s);rw[hz1];show n0<=min (zf z.re (dty w s)).low (O.j+1);omega) (by omega) (λy _ hy=>(k3 y hy).1);refine⟨_,hcy,hJ _ _ _ k1 ⟨Nat.le_refl _,λy hy hne=>?_,λy hy=>?_⟩, ?_, ?_, ?_, ?_,.inr ?_⟩
  .show yP (z'.put _ _).heap y=_;rw[St.put_get,if_neg (λe=>by subst e;exact hne _ _ _ _ _ _ _ L4)]
  .show yP (z'.put _ _).heap y=_;rw[St.put_get,if_neg (by omega)]
  .show yP (z'.put _ _).heap _=_;rw[St.put_get,if_neg (by omega)];exact D4
  .show yP (z'.put _ _).heap _=_;rw[St.put_get,if_pos rfl];rfl
  .show Oa.j<=z'.j;omega
  .show n0<=min _ _;omega
  .show min _ _<=_;omega
 obtain⟨v,s,h1,rfl,j1,j2,j3,j4,j5,j6⟩:=hrun;have fin:∀u z:St,J l u->yP u.heap O.j=some .defd->yP u.heap (O.j+1)=some (.loop (Fm n (ov l0 g0)) ps.toList a b .ready none O.j)->Oa.j<=u.j->z.heap=u.heap->z.j=u.j->(∀m,m<=n0->m<=O.low->m<=z.low)->yPZ [(.normal,Qn)] (xOR none) (z.put (O.j+1) (.loop (Fm n (ov l0 g0)) ps.toList a b .exhausted none O.j)):=by
  intro u z i1 i2 i3 i4 e1 e2 e3;refine .inl ⟨rfl,hQ _ (hJ _ _ _ i1 ⟨by show u.j<=z.j;omega,λy hy hne=>?_,λy hy=>?_⟩) ?_ (by show O.j<z.j;omega) (λm h1 h2=>?_)⟩
  .rw[St.put_get,if_neg (λe=>by subst e;exact hne _ _ _ _ _ _ _ i3),e1]
  .rw[St.put_get,if_neg (by omega),e1]
  .rw[St.put_get,if_neg (by omega),e1];exact i2
  .have:=e3 m h1 h2;show m<=min _ _;omega
 by_cases hlw:s.low<=O.j+1
 .refine⟨_,⟨s.heap,s.j,min Oa.low s.low⟩,.ready,none,by rw[<- hOa];exact wAS h1 j4 (by omega),j3,.inl ⟨rfl,rfl⟩,fin s _ j1 j2 j3 j4 rfl rfl (λm h1 h2=>?_)⟩
  have:=hN.low m h2 (by omega);show m<=min _ _;omega
 .rcases j6 with ⟨g1,g2⟩|e;rotate_left
  .exact absurd e hlw
  refine⟨_,Oa,.ready,none,by rw[<- hOa];exact zYC h1 (by omega) rfl,Ll,.inl ⟨rfl,rfl⟩,fin Oa.re Oa g1 Ld Ll (Nat.le_refl _) rfl rfl (λm h1 h2=>hN.low m h2 (by omega))⟩
theorem xKY{pp:Option Addr}{gx:Operand}{ps:Array Tmp}{a b:Code}{l0:List (Nat×Value)}{Qn:St->Prop}{O:St}{J:Nat->St->Prop}
  (hg:∀g0,yV (Fm n (ov l0 g0)) gx=.func (.func 116) ⟨[]⟩ ⟨[.pointer (some ⟨a1,0,none⟩),.pointer (some ⟨a2,0,none⟩)]⟩) (r1:Row O ⟨a1,0,none⟩ (wkc w.J pp l c q m d w.rest w.run w.N)) (hl:l<=100000) (hn0:n0<=O.j)
  (hT:∀s z,J s z->Row z ⟨a2,0,none⟩ [yK D]/\yQD z 93 pp l w.L) (h0:J 0 O) (hJ:∀s z z',J s z->Same n0 z z'->J s z') (hskip:∀s z,s<l->(dty w s).day≠(D:Int)->J s z->J (s+1) z)
  (hR:∀s z z1 lo g0 db,s<l->(dty w s).day=(D:Int)->lo=O.j+1->yP z.heap lo=some (.loop (Fm n (ov l0 g0)) ps.toList a b .ready none db)->z1=(yQK z.re (dty w s)).put lo (.loop (Fm n (ov l0 g0)) ps.toList a b .busy none db)->J s z->O.j+2<=z.j ->
   ∃z4,zCG tP lo [iV (s:Int),zBB (dty w s)] z (Fm n (ov l0 g0)) ps.toList a b db [⟨Unit,.normal,λ_=>[],λ_=>[],λ_ z=>z=z4⟩]/\J (s+1) z4/\∃S,Only S z1 z4/\∀y,S y->n0<=y/\y≠O.j/\y≠O.j+1)
  (hQ:∀z,J l z->yP z.heap O.j=some .defd->O.j<z.j->(∀m,m<=n0->m<=O.low->m<=z.low)->Qn z):zPI tP (zZ tP) gx ps a b n l0 [(.normal,Qn)] O :=
 yCA yCX (λz x=>by show z.j<=min z.j z.j;omega) hg r1 hl hn0 hT h0 hJ hskip hR hQ
end
section
variable{ys:List Pc}{l c a1:Nat}
abbrev zYD(z:St)(y:Pc):St:=(z.row (zP 0 0 0 0 0) 5).own z.j (pcL y) 5
theorem yTM(z:St)(y:Pc):Le z (zYD z y):=(Le.row z (zP 0 0 0 0 0) 5).own (Nat.le_refl _)
theorem xZP(z:St)(y:Pc):z.j<=(zYD z.re y).low:=by show z.j<=min z.j z.j;omega
theorem wGF{E:St}{p:Option Addr}{lo:Nat}(r1:Row E ⟨a1,0,none⟩ [.slice p l c])(hl:l<=100000){K:Nat->St->Prop}(h0:K 0 E)
  (hT:∀s z,K s z->SlV tP z 154 5 p l (ys.map pcV)) (hJ:∀s z y,ys[s]?=some y->K s z->∃z',zZN tP lo [pcV y] (zYD z y) (.bool true) z'/\K (s+1) z') :
  zQ tP 132 [.func (.yield lo) ⟨[]⟩ ⟨[]⟩,.pointer (some ⟨a1,0,none⟩)] E λv s=>v=.tuple ⟨[]⟩/\K l s:=by
 refine yVT (Pr:=λ_=>False) (P0:=λO=>K l O) (r1.ld1 wOC)
  (yDL (Inv:=λk i O=>∃s:Nat,i=s/\s+k=l/\K s O) (Qr:=λ_=>False) (Q0:=λO=>K l O) ?_ l 0 E ⟨0,rfl,by omega,h0⟩) (λ_ h=>h.elim) (λO h=>yDK ⟨rfl,h⟩)
 rintro k i O ⟨s,rfl,hk,hj⟩;by_cases hs:s<l;rotate_left
 .have:s=l:=by omega
  subst this;exact yQH hj
 obtain⟨a,rfl,x,hx,lx⟩:=xA (hT s O hj) hs;obtain⟨O',h1,h2⟩:=hJ s O x hx hj;exact yQI lx h1 ⟨k-1,by omega,s+1,by omega,by omega,h2⟩
theorem xTP{pp:Option Addr}{gx:Operand}{ps:Array Tmp}{a b:Code}{n:Nat}{l0:List (Nat×Value)}{Qn:St->Prop}{O:St}{n0:Nat}{J:Nat->St->Prop}
  (hg:∀g0,yV (Fm n (ov l0 g0)) gx=.func (.func 132) ⟨[]⟩ ⟨[.pointer (some ⟨a1,0,none⟩)]⟩) (r1:Row O ⟨a1,0,none⟩ [.slice pp l c]) (hl:l<=100000) (hn0:n0<=O.j)
  (hT:∀s z,J s z->SlV tP z 154 5 pp l (ys.map pcV)) (h0:J 0 O) (hJ:∀s z z',J s z->Same n0 z z'->J s z')
  (hR:∀s z z1 lo g0 db y,ys[s]?=some y->lo=O.j+1->yP z.heap lo=some (.loop (Fm n (ov l0 g0)) ps.toList a b .ready none db)->z1=(zYD z.re y).put lo (.loop (Fm n (ov l0 g0)) ps.toList a b .busy none db)->J s z->O.j+2<=z.j ->
   ∃z4,zCG tP lo [pcV y] z (Fm n (ov l0 g0)) ps.toList a b db [⟨Unit,.normal,λ_=>[],λ_=>[],λ_ z=>z=z4⟩]/\J (s+1) z4/\∃S,Only S z1 z4/\∀y,S y->n0<=y/\y≠O.j/\y≠O.j+1)
  (hQ:∀z,J l z->yP z.heap O.j=some .defd->O.j<z.j->(∀m,m<=n0->m<=O.low->m<=z.low)->Qn z):zPI tP (zZ tP) gx ps a b n l0 [(.normal,Qn)] O:=by
 refine yNO (fs:=[.pointer (some ⟨a1,0,none⟩)]) (f:=132) hg (λg0=>?_);obtain⟨Oa,hOa⟩:∃Oa,Oa=(O.add .defd).add (.loop (Fm n (ov l0 g0)) ps.toList a b .ready none O.j):=⟨_,rfl⟩;have hN:New O Oa:=by rw[hOa];exact(New.add _ _).trans (New.add _ _)
 have nxa:Oa.j=O.j+2:=by rw[hOa];rfl
 have Ld:yP Oa.heap O.j=some .defd:=by rw[hOa,St.add_get,if_neg (by simp),St.add_get,if_pos rfl]
 have Ll:yP Oa.heap (O.j+1)=some (.loop (Fm n (ov l0 g0)) ps.toList a b .ready none O.j):=by rw[hOa,St.add_get,if_pos (by simp)]
 have sm_re:∀z:St,Same n0 z z.re:=λz=>⟨Nat.le_refl _,λ_ _ _=>rfl,λ_ _=>rfl⟩
 let K:Nat->St->Prop:=λs z=>J s z/\yP z.heap O.j=some .defd/\yP z.heap (O.j+1)=some (.loop (Fm n (ov l0 g0)) ps.toList a b .ready none O.j)/\Oa.j<=z.j/\n0<=z.low/\((J s Oa.re/\New Oa.re z)\/z.low<=O.j+1)
 have J0:J 0 Oa.re:=hJ _ _ _ (hJ _ _ _ h0 (Same.of_le hN.le hn0)) (sm_re Oa);have hrun:zQ tP 132 [.func (.yield (O.j+1)) ⟨[]⟩ ⟨[]⟩,.pointer (some ⟨a1,0,none⟩)] Oa.re λv s=>v=.tuple ⟨[]⟩/\K l s:=by
  refine wGF ((r1.le hN.le).le (le0 _)) hl (K:=K) ⟨J0,Ld,Ll,Nat.le_refl _,by show n0<=Oa.j;omega,.inl ⟨J0,New.refl _⟩⟩ (λs z h=>hT s z h.1) ?_
  rintro s z y hs ⟨j1,j2,j3,j4,j5,j6⟩;have zl:=yTM z y;have zn:New z (zYD z y):=(New.row z (zP 0 0 0 0 0) 5).own (Nat.le_refl _);have kz:K s (zYD z y):=⟨hJ _ _ _ j1 (Same.of_le zl (by omega)),by rw[zl.get _ (by omega)];exact j2,by rw[zl.get _ (by omega)];exact j3,by have:=zl.j;omega,zn.low _ j5 (by omega),j6.imp (λh=>⟨h.1,h.2.trans zn⟩) (λh=>Nat.le_trans (Nat.min_le_left _ _) h)⟩;obtain⟨j1,j2,j3,j4,j5,j6⟩:=kz;obtain⟨z,hz⟩:∃z',z'=zYD z y:=⟨_,rfl⟩;rw[<- hz]at j1 j2 j3 j4 j5 j6 ⊢;obtain⟨z1,hz1⟩:∃z1,z1=(zYD z.re y).put (O.j+1) (.loop (Fm n (ov l0 g0)) ps.toList a b .busy none O.j):=⟨_,rfl⟩;have zl1:=yTM z.re y;have s0:Same n0 z (zYD z.re y):=⟨zl1.j,λy hy _=>zl1.get y hy,λy hy=>zl1.get y (by show y<z.j;omega)⟩;have j3':yP (zYD z.re y).heap (O.j+1)=some (.loop (Fm n (ov l0 g0)) ps.toList a b .ready none O.j):=by rw[zl1.get _ (by show _<z.j;omega)];exact j3
  have s1:Same n0 z z1:=⟨by rw[hz1];exact zl1.j,λy hy hne=>by
   rw[hz1,St.put_get,if_neg (λe=>by subst e;exact hne _ _ _ _ _ _ _ j3)];exact zl1.get y hy,λy hy=>by rw[hz1,St.put_get,if_neg (by omega)];exact zl1.get y (by show y<z.j;omega)⟩
  have nx1:z.j<=z1.j:=by rw[hz1];exact zl1.j
  have L1:yP z1.heap (O.j+1)=some (.loop (Fm n (ov l0 g0)) ps.toList a b .busy none O.j):=by rw[hz1,St.put_get,if_pos rfl]
  have D1:yP z1.heap O.j=some .defd:=by rw[hz1,St.put_get,if_neg (by omega),zl1.get _ (by show _<z.j;omega)];exact j2
  obtain⟨z4,hr,k1,S,k2,k3⟩:=hR s z z1 (O.j+1) g0 O.j y hs rfl j3 hz1 j1 (by omega);have L4:yP z4.heap (O.j+1)=some (.loop (Fm n (ov l0 g0)) ps.toList a b .busy none O.j):=by
   rw[k2.get _ (by omega) (λh=>(k3 _ h).2.2 rfl)];exact L1
  have D4:yP z4.heap O.j=some .defd:=by
   rw[k2.get _ (by omega) (λh=>(k3 _ h).2.1 rfl)];exact D1
  have n4:=k2.j;obtain⟨e,z',⟨al,hal,rfl,t,hq⟩,hc⟩:=hr;simp only[In,or_false]at hal;subst hal;have hq:z'=z4:=hq;subst hq;have hcy:=hc (.inl rfl) (by omega) L4 (by omega);have hlow:n0<=z'.low:=k2.low n0 (by have:=xZP z y;rw[hz1];show n0<=min (zYD z.re y).low (O.j+1);omega) (by omega) (λy _ hy=>(k3 y hy).1);refine⟨_,hcy,hJ _ _ _ k1 ⟨Nat.le_refl _,λy hy hne=>?_,λy hy=>?_⟩, ?_, ?_, ?_, ?_,.inr ?_⟩
  .show yP (z'.put _ _).heap y=_;rw[St.put_get,if_neg (λe=>by subst e;exact hne _ _ _ _ _ _ _ L4)]
  .show yP (z'.put _ _).heap y=_;rw[St.put_get,if_neg (by omega)]
  .show yP (z'.put _ _).heap _=_;rw[St.put_get,if_neg (by omega)];exact D4
  .show yP (z'.put _ _).heap _=_;rw[St.put_get,if_pos rfl];rfl
  .show Oa.j<=z'.j;omega
  .show n0<=min _ _;omega
  .show min _ _<=_;omega
 obtain⟨v,s,h1,rfl,j1,j2,j3,j4,j5,j6⟩:=hrun;have fin:∀u z:St,J l u->yP u.heap O.j=some .defd->yP u.heap (O.j+1)=some (.loop (Fm n (ov l0 g0)) ps.toList a b .ready none O.j)->Oa.j<=u.j->z.heap=u.heap->z.j=u.j->(∀m,m<=n0->m<=O.low->m<=z.low)->yPZ [(.normal,Qn)] (xOR none) (z.put (O.j+1) (.loop (Fm n (ov l0 g0)) ps.toList a b .exhausted none O.j)):=by
  intro u z i1 i2 i3 i4 e1 e2 e3;refine .inl ⟨rfl,hQ _ (hJ _ _ _ i1 ⟨by show u.j<=z.j;omega,λy hy hne=>?_,λy hy=>?_⟩) ?_ (by show O.j<z.j;omega) (λm h1 h2=>?_)⟩
  .rw[St.put_get,if_neg (λe=>by subst e;exact hne _ _ _ _ _ _ _ i3),e1]
  .rw[St.put_get,if_neg (by omega),e1]
  .rw[St.put_get,if_neg (by omega),e1];exact i2
  .have:=e3 m h1 h2;show m<=min _ _;omega
 by_cases hlw:s.low<=O.j+1
 .refine⟨_,⟨s.heap,s.j,min Oa.low s.low⟩,.ready,none,by rw[<- hOa];exact wAS h1 j4 (by omega),j3,.inl ⟨rfl,rfl⟩,fin s _ j1 j2 j3 j4 rfl rfl (λm h1 h2=>?_)⟩
  have:=hN.low m h2 (by omega);show m<=min _ _;omega
 .rcases j6 with ⟨g1,g2⟩|e;rotate_left
  .exact absurd e hlw
  refine⟨_,Oa,.ready,none,by rw[<- hOa];exact zYC h1 (by omega) rfl,Ll,.inl ⟨rfl,rfl⟩,fin Oa.re Oa g1 Ld Ll (Nat.le_refl _) rfl rfl (λm h1 h2=>hN.low m h2 (by omega))⟩
end
section
noncomputable section
variable(BA BB BC BD BE BH BI:Nat)(f1:FuncId)(dw:lVa)(g:Nat->Value)(ms:List Nat)(st:LoopState)(E:St)(pend:Option Code)(Qn:St->Prop)(Q:vPa)(db:Nat)
def zES:Code:=(Code.part [1,1,1,0,1,0,0] (zV tP 37))
def zER:Code:=(Code.part [1,1,1,0,1,0,1] (zV tP 37))
def zJB:lNa:=[(3,pq BA 0),(5,pq BB 0),(6,pq BC 0),(7,pq BD 0),(8,pq BE 0),(9,pq BH 0),(10,pq BI 0),(17,.func (.func f1) ⟨[]⟩ ⟨dw⟩)]
def zDX:Blk:=.loop (Fm 101 (ov (zJB BA BB BC BD BE BH BI f1 dw) g)) [18] zES zER st pend db
def xMU:Prop:=zPI tP (zZ tP) (.tmp 17) ⟨[18]⟩ zES zER 101 (zJB BA BB BC BD BE BH BI f1 dw) [(.normal,Qn)] E
def yMO:Prop:=∀g:Nat->Value,∃an,Hid (kAt tP (zZ tP) none (zV tP 37) [1,1,1,0,1,0] (kFn tP 37 Q) .normal ⟨Fm 101 (ov (zJB BA BB BC BD BE BH BI f1 dw) g),ms⟩ E an)
end
variable{BA BB BC BD BE BH BI lo lJB cMB lBA cEC lKB cAB db lBD cFC lFB cX lXB cWB lYB cXB lGC cYB lBE cGC lBF cHC:Nat}{f1 fJ fG gU t_2_end f2 f3:FuncId}{dw fJ_c fG_c gk gT f2_c f3_c:lVa}{y:Pc}{nX nGB nBR nNB nBk nBl nGC nBS nZB x nHB nCB nDB nOB n6 n7:Int}{qRB qEC qGB qFC qAB qZB qGC qHC:oAa}{EFB ET ED EAB EPB O E EKB EGB EQB EQ EBB ERB ik EU ER fm V4 U6 V3 Y5:St}{g:Nat->Value}{Qn Pn:St->Prop}{aB qZ_a qHB_a p aE:Addr}{Q:vPa}{ms:List Nat}{W1844 W1846 W5 W4:Wo}{L1:Lw}{b7:Bool}
theorem xXD:let y0:=(O.re.row (zP 0 0 0 0 0) 5).own (O.re.j) (pcL y) 5;let y1:=qf [iV y.c,iV y.e];let y2:=qe O.re.j 2;let y3:=zDX BA BB BC BD BE BH BI f1 dw g .ready none db;∀(hl:yP O.heap lo=some y3) (hl1:yP y0.heap lo=some y3) (iw:E=y0.put lo (zDX BA BB BC BD BE BH BI f1 dw g .busy none db)) (h1:LDz E 116 (qe BB 0) (.func (.func fJ) ⟨[]⟩ ⟨fJ_c⟩)) (h2:LDz E 115 (qe O.re.j 0) (qf [iV y.b,iV y.a])) (h3:CPz fJ (qf [iV y.b,iV y.a]::fJ_c) E (iV nX)) (h4:LDz E 116 (qe BB 1) (.func (.func fG) ⟨[]⟩ ⟨fG_c⟩)) (h5:LDz E 115 y2 y1) (h6:CPz fG (qf [iV y.c,iV y.e]::fG_c) E (iV nGB)) (h7:zL E.j [.func (.func fJ) ⟨[]⟩ ⟨fJ_c⟩,qf [iV y.b,iV y.a]]) (h8:zL E.j [.func (.func fG) ⟨[]⟩ ⟨fG_c⟩,qf [iV y.c,iV y.e]]) (h9:(zLq E 116 (qe BB 1) (.func (.func fG) ⟨[]⟩ ⟨fG_c⟩))) (h10:LDz E 48 (qe BD 0) (.slice qRB lJB cMB)) (h11:SOz E 3 (qe BE 0) (iV nX) EFB) (h12:LDz EFB 48 (qe BD 0) (.slice qEC lBA cEC)) (h13:APz 48 48 (.slice qEC lBA cEC) (.slice (some (qe EFB.j 0)) 1 1) (EFB.row [iV (nGB-nX)] 1) (.slice qGB lKB cAB) ET) (h14:SOz ET 48 (qe BD 0) (.slice qGB lKB cAB) ED) (h15:LDz ED 115 y2 y1) (h16:SOz ED 3 (qe BH 0) (iV nGB) EAB) (h17:SOz EAB 115 (qe BI 0) y1 EPB) (h18:zL ED.j [pq O.re.j 2]) (h19:zL ED.j [pq BH 0,iV nGB]) (h20:zL EAB.j [pq BI 0,qf [iV y.c,iV y.e]]) (h21:(zLq ED 115 y2 y1)) (h22:(zLq EAB 115 y2 y1)) (nx:Qn EPB) (u1:(lJB:Int)=0:=by omega) (u2:I6 (nGB-nX):=by omega) (b_BB:BB<E.j:=by omega) (dY:O.re.j<E.j:=by omega),zCG tP lo [qf (pcL y)] O (Fm 101 (ov (zJB BA BB BC BD BE BH BI f1 dw) g)) [18] zES zER db [⟨Unit,.normal,λ_=>[],λ_=>[],λ_ E=>Qn E⟩] :=
 let y0:=(O.re.row (zP 0 0 0 0 0) 5).own (O.re.j) (pcL y) 5;let y1:=qf [iV y.c,iV y.e];let y2:=qe O.re.j 2;λhl hl1 iw h1 h2 h3 h4 h5 h6 h7 h8 h9 h10 h11 h12 h13 h14 h15 h16 h17 h18 h19 h20 h21 h22 nx u1 u2 b_BB dY=>zPV hl rfl hl1 iw [.g,.e undef y0,.g,.l (.func (.func fJ) ⟨[]⟩ ⟨fJ_c⟩),.g,.g,.l (qf [iV y.b,iV y.a]),.c (iV nX) E,.g,.l (.func (.func fG) ⟨[]⟩ ⟨fG_c⟩),.g,.g,.l y1,.c (iV nGB) E,.g,.g,.g,.l (.slice qRB lJB cMB),.g,.b true,.g,.e undef EFB,.g,.l (.slice qEC lBA cEC),.g,.g,.n (nGB-nX),.g,.e (.slice qGB lKB cAB) ET,.g,.e undef ED,.g,.g,.g,.l y1,.e undef EAB,.e undef EPB,.fin ⟨Unit,.normal,λ_=>[],λ_=>[],λ_ E=>Qn E⟩ ()] (kc (by kernel_rfl) (ai ((zX _ _ _).store (vs:=(pcL y)) rfl zKI rfl (nle rfl) rfl:yN tP (evL [pq O.re.j 0,qf (pcL y)]) (O.re.row (zP 0 0 0 0 0) 5) (.store 154 (.tmp 0) (.tmp 1))=some (undef,y0)) (ai (ai (rfl:Exit.normal=Exit.normal) (rfl:y0=y0)) (ai h1 (ai h2 (ai h3 (ai h4 (ai h5 (ai h6 (ai ((zI (zR b_BB) zM):zL E.j [pq BB 0]) (ai ((zI (zR dY) zM):zL E.j [pq O.re.j 0]) (ai h7 (ai ((zI (zR b_BB) zM):zL E.j [pq BB 1]) (ai ((zI (zR dY) zM):zL E.j [pq O.re.j 2]) (ai h8 (ai h9 (ai h9 (ai (⟨⟨dY,rfl⟩,h5⟩:(zLq E 115 y2 y1)) (ai (⟨⟨dY,rfl⟩,h5⟩:(zLq E 115 y2 y1)) (ai h10 (ai (wU u1) (ai h11 (ai h12 (ai (w64 u2) (ai h13 (ai h14 (ai h15 (ai h16 (ai h17 (ai h18 (ai h19 (ai h20 (ai h21 (ai h22 (wCL (alts:=[⟨Unit,.normal,λ_=>[],λ_=>[],λ_ E=>Qn E⟩]) ⟨Unit,.normal,λ_=>[],λ_=>[],λ_ E=>Qn E⟩ () nx in0)))))))))))))))))))))))))))))))))))
theorem xXC:let y0:=(O.re.row (zP 0 0 0 0 0) 5).own (O.re.j) (pcL y) 5;let y1:=qf [iV y.c,iV y.e];let y2:=ED.row [iV ((nX-nNB)-nZB)] 1;let y3:=qe O.re.j 2;let y4:=zO qZ_a (Int.toNat nGC*1);let y5:=zDX BA BB BC BD BE BH BI f1 dw g .ready none db;let y6:=qf [iV y.b,iV y.a];let y7:=qe O.re.j 0;let y8:Value:=.slice qAB lFB cX;let y9:=zO qHB_a (Int.toNat nBS*1);let x0:=qe BH 0;let x1:=qe BD 2;let x2:=some (qe ED.j 0);∀(hl:yP O.heap lo=some y5) (hl1:yP y0.heap lo=some y5) (iw:E=y0.put lo (zDX BA BB BC BD BE BH BI f1 dw g .busy none db)) (h1:LDz E 116 (qe BB 0) (.func (.func fJ) ⟨[]⟩ ⟨fJ_c⟩)) (h2:LDz E 115 y7 y6) (h3:CPz fJ (qf [iV y.b,iV y.a]::fJ_c) E (iV nX)) (h4:LDz E 116 (qe BB 1) (.func (.func fG) ⟨[]⟩ ⟨fG_c⟩)) (h5:LDz E 115 y3 y1) (h6:CPz fG (qf [iV y.c,iV y.e]::fG_c) E (iV nGB)) (h7:zL E.j [.func (.func fJ) ⟨[]⟩ ⟨fJ_c⟩,qf [iV y.b,iV y.a]]) (h8:zL E.j [.func (.func fG) ⟨[]⟩ ⟨fG_c⟩,qf [iV y.c,iV y.e]]) (h9:(zLq E 116 (qe BB 1) (.func (.func fG) ⟨[]⟩ ⟨fG_c⟩))) (h10:LDz E 48 (qe BD 0) (.slice qRB lJB cMB)) (h11:LDz E 48 (qe BD 1) (.slice qFC lBD cFC)) (h12:LDz E 3 x0 (iV nBR)) (h13:APz 48 48 (.slice qFC lBD cFC) (.slice (some (qe E.j 0)) 1 1) (E.row [iV (nX-nBR)] 1) (.slice qGB lKB cAB) ET) (h14:SOz ET 48 (qe BD 1) (.slice qGB lKB cAB) ED) (h15:LDz ED 48 x1 y8) (h16:LDz ED 3 x0 (iV nNB)) (h17:LDz ED 96 (qe BA 0) (pz aB)) (h18:LDz ED 25 (zO aB 9) (.slice (some qZ_a) lXB cWB)) (h19:LDz ED 115 (qe BI 0) (qf [iV nBk,iV nBl])) (h20:CPz 64 [pz aB,qf [iV nBk,iV nBl]] ED (iV nGC)) (h21:LDz ED 48 y4 (.slice (some qHB_a) lYB cXB)) (h22:LDz ED 115 y7 y6) (h23:CPz 64 [pz aB,qf [iV y.b,iV y.a]] ED (iV nBS)) (h24:LDz ED 3 y9 (iV nZB)) (h25:APz 48 48 y8 (.slice x2 1 1) y2 (.slice qZB lGC cYB) EKB) (h26:SOz EKB 48 x1 (.slice qZB lGC cYB) EGB) (h27:zL ED.j [pq BD 2]) (h28:zL ED.j [pq BH 0]) (h29:zL ED.j [pq BA 0]) (h30:zL ED.j [pz (zO aB 9)]) (h31:zL ED.j [pq BI 0]) (h32:zL ED.j [pz aB,qf [iV nBk,iV nBl]]) (h33:zL ED.j [pz y4]) (h34:zL ED.j [pq O.re.j 0]) (h35:zL ED.j [pz aB,qf [iV y.b,iV y.a]]) (h36:zL ED.j [pz y9]) (h37:zL y2.j [.slice qAB lFB cX,.slice x2 1 1]) (h38:zL EKB.j [pq BD 2,.slice qZB lGC cYB]) (h39:(zLq ED 48 x1 y8)) (h40:(zLq y2 48 x1 y8)) (h41:(zLq ED 3 x0 (iV nNB))) (h42:(zLq ED 96 (qe BA 0) (pz aB))) (h43:(zLq ED 25 (zO aB 9) (.slice (some qZ_a) lXB cWB))) (h44:(zLq ED 48 y4 (.slice (some qHB_a) lYB cXB))) (h45:(zLq ED 115 y7 y6)) (h46:LDz EGB 48 (qe BD 0) (.slice qGC lBE cGC)) (h47:APz 48 48 (.slice qGC lBE cGC) (.slice (some (qe EGB.j 0)) 1 1) (EGB.row [iV (nGB-nX)] 1) (.slice qHC lBF cHC) EQB) (h48:SOz EQB 48 (qe BD 0) (.slice qHC lBF cHC) EQ) (h49:LDz EQ 115 y3 y1) (h50:SOz EQ 3 x0 (iV nGB) EBB) (h51:SOz EBB 115 (qe BI 0) y1 ERB) (h52:zL EQ.j [pq O.re.j 2]) (h53:zL EQ.j [pq BH 0,iV nGB]) (h54:zL EBB.j [pq BI 0,qf [iV y.c,iV y.e]]) (h55:(zLq EQ 115 y3 y1)) (h56:(zLq EBB 115 y3 y1)) (nx:Qn ERB) (u1:¬(lJB:Int)=0:=by omega) (u2:I6 (nX-nBR):=by omega) (u3:I6 (nX-nNB):=by omega) (u4:Ix nGC lXB:=by omega) (u5:Ix nBS lYB:=by omega) (u6:I6 ((nX-nNB)-nZB):=by omega) (u7:I6 (nGB-nX):=by omega) (b_BB:BB<E.j:=by omega) (dY:O.re.j<E.j:=by omega),zCG tP lo [qf (pcL y)] O (Fm 101 (ov (zJB BA BB BC BD BE BH BI f1 dw) g)) [18] zES zER db [⟨Unit,.normal,λ_=>[],λ_=>[],λ_ E=>Qn E⟩] :=
 let y0:=(O.re.row (zP 0 0 0 0 0) 5).own (O.re.j) (pcL y) 5;let y1:=qf [iV y.c,iV y.e];let y3:=qe O.re.j 2;let y6:=qf [iV y.b,iV y.a];let y8:Value:=.slice qAB lFB cX;λhl hl1 iw h1 h2 h3 h4 h5 h6 h7 h8 h9 h10 h11 h12 h13 h14 h15 h16 h17 h18 h19 h20 h21 h22 h23 h24 h25 h26 h27 h28 h29 h30 h31 h32 h33 h34 h35 h36 h37 h38 h39 h40 h41 h42 h43 h44 h45 h46 h47 h48 h49 h50 h51 h52 h53 h54 h55 h56 nx u1 u2 u3 u4 u5 u6 u7 b_BB dY=>zPV hl rfl hl1 iw [.g,.e undef y0,.g,.l (.func (.func fJ) ⟨[]⟩ ⟨fJ_c⟩),.g,.g,.l y6,.c (iV nX) E,.g,.l (.func (.func fG) ⟨[]⟩ ⟨fG_c⟩),.g,.g,.l y1,.c (iV nGB) E,.g,.g,.g,.l (.slice qRB lJB cMB),.g,.b false,.g,.l (.slice qFC lBD cFC),.g,.l (iV nBR),.n (nX-nBR),.g,.e (.slice qGB lKB cAB) ET,.g,.e undef ED,.g,.l y8,.g,.l (iV nNB),.n (nX-nNB),.l (pz aB),.g,.g,.g,.l (.slice (some qZ_a) lXB cWB),.l (pz aB),.l (qf [iV nBk,iV nBl]),.c (iV nGC) ED,.i,.l (.slice (some qHB_a) lYB cXB),.l (pz aB),.g,.g,.l y6,.c (iV nBS) ED,.i,.l (iV nZB),.n ((nX-nNB)-nZB),.g,.e (.slice qZB lGC cYB) EKB,.g,.e undef EGB,.g,.l (.slice qGC lBE cGC),.g,.g,.n (nGB-nX),.g,.e (.slice qHC lBF cHC) EQB,.g,.e undef EQ,.g,.g,.g,.l y1,.e undef EBB,.e undef ERB,.fin ⟨Unit,.normal,λ_=>[],λ_=>[],λ_ E=>Qn E⟩ ()] (kc (by kernel_rfl) (ai ((zX _ _ _).store (vs:=(pcL y)) rfl zKI rfl (nle rfl) rfl:yN tP (evL [pq O.re.j 0,qf (pcL y)]) (O.re.row (zP 0 0 0 0 0) 5) (.store 154 (.tmp 0) (.tmp 1))=some (undef,y0)) (ai (ai (rfl:Exit.normal=Exit.normal) (rfl:y0=y0)) (ai h1 (ai h2 (ai h3 (ai h4 (ai h5 (ai h6 (ai ((zI (zR b_BB) zM):zL E.j [pq BB 0]) (ai ((zI (zR dY) zM):zL E.j [pq O.re.j 0]) (ai h7 (ai ((zI (zR b_BB) zM):zL E.j [pq BB 1]) (ai ((zI (zR dY) zM):zL E.j [pq O.re.j 2]) (ai h8 (ai h9 (ai h9 (ai (⟨⟨dY,rfl⟩,h5⟩:(zLq E 115 y3 y1)) (ai (⟨⟨dY,rfl⟩,h5⟩:(zLq E 115 y3 y1)) (ai h10 (ai (wG u1) (ai h11 (ai h12 (ai (w64 u2) (ai h13 (ai h14 (ai h15 (ai h16 (ai (w64 u3) (ai h17 (ai h18 (ai h17 (ai h19 (ai h20 (ai u4 (ai h21 (ai h17 (ai h22 (ai h23 (ai u5 (ai h24 (ai (w64 u6) (ai h25 (ai h26 (ai h27 (ai h28 (ai h29 (ai h30 (ai h29 (ai h31 (ai h32 (ai h33 (ai h29 (ai h34 (ai h35 (ai h36 (ai h37 (ai h38 (ai h39 (ai h39 (ai h39 (ai h39 (ai h39 (ai h40 (ai h41 (ai h41 (ai h41 (ai h41 (ai h42 (ai h42 (ai h42 (ai h42 (ai h43 (ai h43 (ai h43 (ai h43 (ai h44 (ai h44 (ai h42 (ai h42 (ai h45 (ai h45 (ai h46 (ai (w64 u7) (ai h47 (ai h48 (ai h49 (ai h50 (ai h51 (ai h52 (ai h53 (ai h54 (ai h55 (ai h56 (wCL (alts:=[⟨Unit,.normal,λ_=>[],λ_=>[],λ_ E=>Qn E⟩]) ⟨Unit,.normal,λ_=>[],λ_=>[],λ_ E=>Qn E⟩ () nx in0)))))))))))))))))))))))))))))))))))))))))))))))))))))))))))))))))))))))))))))))))))))))))))))))
theorem wFU(h1:CAz 63 [pz p,.int .u16 x] ((((((((((E.row [pz p] 1).row [.func (.func gU) ⟨[]⟩ ⟨gk⟩,.func (.func t_2_end) ⟨[]⟩ ⟨gT⟩] 2).row [.slice none 0 0,.slice none 0 0,.slice none 0 0,iV 0] 4).row [.slice none 0 0,.slice none 0 0,.slice none 0 0,iV 0] 4).row [iV 0] 1).row [iV 0] 1).row [iV 0,iV 0] 2).own (E.j+4) [iV 0] 1).own (E.j+5) [iV 0] 1).own (E.j+6) [iV 0,iV 0] 2) (.func (.func f1) ⟨[]⟩ ⟨dw⟩) ik)(hL:xMU E.j (E.j+1) (E.j+2) (E.j+3) (E.j+4) (E.j+5) (E.j+6) f1 dw ik Pn)(kn:∀E',Pn E'->yMO E.j (E.j+1) (E.j+2) (E.j+3) (E.j+4) (E.j+5) (E.j+6) f1 dw [ik.j] E' Q):zQ tP 37 [pz p,.int .u16 x,qf [.func (.func gU) ⟨[]⟩ ⟨gk⟩,.func (.func t_2_end) ⟨[]⟩ ⟨gT⟩]] E Q :=
 let s1:=E.row [pz p] 1;let s2:=s1.row [.func (.func gU) ⟨[]⟩ ⟨gk⟩,.func (.func t_2_end) ⟨[]⟩ ⟨gT⟩] 2;let s3:=s2.row [.slice none 0 0,.slice none 0 0,.slice none 0 0,iV 0] 4;let s4:=s3.row [.slice none 0 0,.slice none 0 0,.slice none 0 0,iV 0] 4;let s5:=s4.row [iV 0] 1;let s6:=s5.row [iV 0] 1;let s7:=s6.row [iV 0,iV 0] 2;let s8:=s7.own (E.j+4) [iV 0] 1;let s9:=s8.own (E.j+5) [iV 0] 1;let s10:=s9.own (E.j+6) [iV 0,iV 0] 2;let s11:=zJB E.j (E.j+1) (E.j+2) (E.j+3) (E.j+4) (E.j+5) (E.j+6) f1 dw;let ch1:List Bs:=[.r [iV 0,iV 0] 2,.r [iV 0] 1,.r [iV 0] 1,.r [.slice none 0 0,.slice none 0 0,.slice none 0 0,iV 0] 4,.r [.slice none 0 0,.slice none 0 0,.slice none 0 0,iV 0] 4,.r [.func (.func gU) ⟨[]⟩ ⟨gk⟩,.func (.func t_2_end) ⟨[]⟩ ⟨gT⟩] 2,.r [pz p] 1];eQ [.g7,.g,.s E ch1 4 0 vL (iV 0),.e (((zX _ _ _).row.own (nne E.j 5 4 rfl)).store (vs:=[iV 0]) rfl vL rfl (nle rfl) rfl:yN tP (evL [pq ((E.j+5)) 0,iV 0]) s8 (.store 3 (.tmp 0) (.tmp 1))=some (undef,s9)),.e ((((zX _ _ _).own (nne E.j 6 4 rfl)).own (nne E.j 6 5 rfl)).store (vs:=[iV 0,iV 0]) rfl zAV rfl (nle rfl) rfl:yN tP (evL [pq ((E.j+6)) 0,qf [iV 0,iV 0]]) s9 (.store 115 (.tmp 0) (.tmp 1))=some (undef,s10)),.l (((((zX _ _ _).row.row.row.row.row.row.own (nne E.j 0 4 rfl)).own (nne E.j 0 5 rfl)).own (nne E.j 0 6 rfl)).rw.ld zPD (k:=0) rfl:zJ tP s10 96 (qe E.j 0)=some (pz p)),.g,.c h1,.k (.rf 101 s11 [(.normal,Pn)])] (ai (ai tt (ai (arf s11) hL)) (ai (kz kn) trivial))
theorem xGE(h1:LDz E 3 (qe BH 0) (iV nHB))(h2:LDz E 96 (qe BA 0) (pz aE))(h3:LDz E 3 (zO aE 5) (iV nCB))(h4:LDz E 3 (qe BE 0) (iV nDB))(h5:LDz E 3 (zO aE 4) (iV nOB))(h6:SOz E 3 (qe BD 3) (iV (((nHB+nCB)-nDB)+nOB)) EU)(h7:LDz EU 118 (qe BD 0) (qf (woL W1844)))(h8:SOz EU 118 (qe BC 0) (qf (woL W1844)) ER)(h9:xEN ms ER fm)(h10:LDz fm 118 (qe BC 0) (qf (woL W1846)))(nx:Q (qf (woL W1846)) fm)(u1:I6 (nHB+nCB):=by omega)(u2:I6 ((nHB+nCB)-nDB):=by omega)(u3:I6 (((nHB+nCB)-nDB)+nOB):=by omega):yMO BA BB BC BD BE BH BI f1 dw ms E Q :=
 eK [.l h1,.l h2,.g4,.l h3,.w u1,.l h4,.w u2,.l h2,.g4,.l h5,.w u3,.g,.e h6,.l h7,.e h8,.k (.l (qf (woL W1846)))] (zKC (K:=(λfm=>zJ tP fm 118 (qe BC 0)=some (qf (woL W1846))/\Q (qf (woL W1846)) fm)) h9 (ai h10 nx))
theorem xGJ(h1:LDz E 42 p (qf (lwL L1)))(h2:CAz 85 [pz p] E (qf [.func (.func f2) ⟨[]⟩ ⟨f2_c⟩,.func (.func f3) ⟨[]⟩ ⟨f3_c⟩]) V4)(h3:CAz 37 [pz p,.int .u16 x,qf [.func (.func f2) ⟨[]⟩ ⟨f2_c⟩,.func (.func f3) ⟨[]⟩ ⟨f3_c⟩]] V4 (qf (woL W5)) U6)(h4:CPz 39 [qf (lwL L1),qf (woL W5)] U6 (.bool b7))(h5:zL V4.j [pz p,.int .u16 x,qf [.func (.func f2) ⟨[]⟩ ⟨f2_c⟩,.func (.func f3) ⟨[]⟩ ⟨f3_c⟩]])(h6:zL U6.j [qf (lwL L1),qf (woL W5)])(h7:(zLq V4 42 p (qf (lwL L1))))(h8:(zLq U6 42 p (qf (lwL L1))))(nx:Q (.bool b7) U6)(dF:p.block<E.j:=by omega):zQ tP 51 [pz p,.int .u16 x] E Q :=
 eQ [.g5,.l h1,.g3,.c h2,.c h3,.c h4,.g,.p ((zI (zR dF) zM):zL E.j [pz p]),.p ((zI (zR dF) zM):zL E.j [pz p]),.p h5,.p h6,.p (⟨⟨dF,rfl⟩,h1⟩:(zLq E 42 p (qf (lwL L1)))),.p h7,.p h7,.p h8] nx
theorem xXB:let y0:=Y5.row [iV W4.s,iV n6] 1;let y1:=some (qe Y5.j 0);∀(h1:CAz 85 [pz p] E (qf [.func (.func f1) ⟨[]⟩ ⟨dw⟩,.func (.func f2) ⟨[]⟩ ⟨f2_c⟩]) V3) (h2:CAz 37 [pz p,.int .u16 x,qf [.func (.func f1) ⟨[]⟩ ⟨dw⟩,.func (.func f2) ⟨[]⟩ ⟨f2_c⟩]] V3 (qf (woL W4)) Y5) (h3:LDz Y5 3 (zO p 6) (iV n6)) (h4:CPz 86 [.slice y1 2 2] y0 (iV n7)) (h5:zL V3.j [pz p,.int .u16 x,qf [.func (.func f1) ⟨[]⟩ ⟨dw⟩,.func (.func f2) ⟨[]⟩ ⟨f2_c⟩]]) (h6:zL Y5.j [pz (zO p 6)]) (h7:zL y0.j [.slice y1 2 2]) (h8:LDz E 3 (zO p 6) (iV n6)) (h9:(zLq V3 3 (zO p 6) (iV n6))) (h10:(zLq Y5 3 (zO p 6) (iV n6))) (nx:Q (iV n7) y0) (dF:p.block<E.j:=by omega),zQ tP 52 [pz p,.int .u16 x] E Q :=
 λh1 h2 h3 h4 h5 h6 h7 h8 h9 h10 nx dF=>eQ [.g4,.c h1,.c h2,.g6,.l h3,.g,.c h4,.g,.p ((zI (zR dF) zM):zL E.j [pz p]),.p h5,.p h6,.p h7,.p (⟨⟨dF,rfl⟩,h8⟩:(zLq E 3 (zO p 6) (iV n6))),.p h9,.p h9,.p h10] nx
end
def btw(W:Pc->Pc->Int):List Pc->List Int
 |y::z::l=>W y z::btw W (z::l)
 |_=>[]
theorem xDZ{W:Pc->Pc->Int}:∀{Q:List Pc} {y z:Pc},btw W (Q++[y,z])=btw W (Q++[y])++[W y z]
 |[],_,_=>rfl
 |[x],y,z=>rfl
 |x::x'::Q,y,z=>by
  show W x x'::btw W ((x'::Q)++[y,z])=W x x'::btw W ((x'::Q)++[y])++[W y z];rw[xDZ];rfl
theorem yDH{W:Pc->Pc->Int}:∀{l:List Pc},(btw W l).length<=l.length
 |[]=>Nat.le_refl _
 |[_]=>by simp[btw]
 |x::y::l=>by have:=yDH (W:=W) (l:=y::l);show(btw W (y::l)).length+1<=_;simp at this ⊢;omega
structure TmOk(E:St)(ys:List Pc)(fb:FuncId)(cb:List Value)(fe:FuncId)(ce:List Value)(bg en:Pc->Int):Prop where
 b:∀z,Le E z->∀y∈ys,zW tP fb (.agg ⟨[iV y.b,iV y.a]⟩::cb) z (iV (bg y)) z
 e:∀z,Le E z->∀y∈ys,zW tP fe (.agg ⟨[iV y.c,iV y.e]⟩::ce) z (iV (en y)) z
 kb:∀n,E.j<=n->yQ RD n (.func (.func fb) ⟨[]⟩ ⟨cb⟩)=true
 ke:∀n,E.j<=n->yQ RD n (.func (.func fe) ⟨[]⟩ ⟨ce⟩)=true
 ge:zN RD (.func (.func fe) ⟨[]⟩ ⟨ce⟩)=true
 bd:∀y∈ys,(0<=bg y/\bg y<=3000)/\0<=en y/\en y<=3000
def yCW(bg en:Pc->Int)(y z:Pc):Int:=bg z-en y
structure DoJ(E:St)(o n1:Nat)(fb:FuncId)(cb:List Value)(fe:FuncId)(ce:List Value)(bg en:Pc->Int)(W:Pc->Pc->Int)(ys:List Pc)(pp:Option Addr)(s:Nat)(z:St):Prop where
 le:Le E z
 b1:Own z E.j [.pointer (some ⟨o,0,none⟩)] 1
 b2:Own z (E.j+1) [.func (.func fb) ⟨[]⟩ ⟨cb⟩,.func (.func fe) ⟨[]⟩ ⟨ce⟩] 2
 b3:Own z (E.j+2) [.slice none 0 0,.slice none 0 0,.slice none 0 0,iV 0] 4
 sl:SlV tP z 154 5 pp ys.length (ys.map pcV)
 ex:∃p cp q cq r cr f l u w,Own z (E.j+3) [.slice p ((ys.take s).map λy=>en y-bg y).length cp,.slice q (btw (yCW bg en) (ys.take s)).length cq,.slice r (btw W (ys.take s)).length cr,iV 0] 4 /\
  Own z (E.j+4) [iV f] 1/\Own z (E.j+5) [iV l] 1/\Own z (E.j+6) [iV u,iV w] 2 /\
  Gr tP z n1 3 1 p ((ys.take s).map λy=>en y-bg y).length cp (((ys.take s).map λy=>en y-bg y).map yK)/\Gr tP z n1 3 1 q (btw (yCW bg en) (ys.take s)).length cq ((btw (yCW bg en) (ys.take s)).map yK)/\Gr tP z n1 3 1 r (btw W (ys.take s)).length cr ((btw W (ys.take s)).map yK) /\
  (∀b,AtP p b->¬AtP q b/\¬AtP r b)/\(∀b,AtP q b->¬AtP r b)/\(∀y,ys.head?=some y->0<s->f=bg y)/\∀t y,s=t+1->ys[t]?=some y->l=en y/\u=y.c/\w=y.e
section
variable{E z z':St}{o n1 B4 l c:Nat}{p:Option Addr}{cs:List Value}{vs:List Int}
theorem xZO(i:Nat)(f:Value->List Value)(n:Int)(o:Own z B4 cs 4)(hc:cs.length=4)(hi:i<4)(hd:∀v,cs.take i++([v]++cs.drop (i+1))=f v)(hg:Gr tP z n1 3 1 p l c (vs.map yK))(hn:n1<=z.j)(hB:B4<n1)(hl:l<=1000) :
  ∃p4 c4 V2,xO tP 48 48 (.slice p l c) (.slice (some ⟨z.j,0,none⟩) 1 1) (z.row [iV n] 1)=some (.slice p4 (l+1) c4,V2)/\yN tP (evL [.pointer (some ⟨B4,i,none⟩),.slice p4 (l+1) c4]) V2 (.store 48 (.tmp 0) (.tmp 1))=some (undef,V2.own B4 (f (.slice p4 (l+1) c4)) 4) /\
   Own (V2.own B4 (f (.slice p4 (l+1) c4)) 4) B4 (f (.slice p4 (l+1) c4)) 4/\Gr tP (V2.own B4 (f (.slice p4 (l+1) c4)) 4) n1 3 1 p4 (l+1) c4 ((vs++[n]).map yK)/\Only (λb=>AtP p b\/b=B4) z (V2.own B4 (f (.slice p4 (l+1) c4)) 4)/\(∀b,AtP p4 b->AtP p b\/z.j<=b)/\Only (AtP p) z V2:=by
 obtain⟨p4,c4,V2,g1,g2,g3,g4⟩:=zGM (iV n) uH hg (Le.refl z) (vU _) (by omega) hn;have hO:Only (AtP p) z V2:=((New.row z [iV n] 1).only (S:=AtP p)).trans' g3 λb _ h=>.inl h
 have oo:=hO.own' o λhb=>by have:=(hg.bd hb).1;omega
 have st:=oo.store (P:=tP) (k:=i) (t:=48) (v:=.slice p4 (l+1) c4) (vs:=[.slice p4 (l+1) c4]) rfl ySR rfl (by simp;omega) (hd _);have kk:Only (·=B4) V2 (V2.own B4 (f (.slice p4 (l+1) c4)) 4):=Only.own (.inr rfl);refine⟨p4,c4,V2,g1,st,oo.put, ?_,(hO.mono λb _ h=>.inl h).trans' (kk.mono λb _ h=>.inr h) λb _ h=>.inl h,g4,hO⟩
 rw[List.map_append];refine g2.only kk λb hb e=>?_
 rcases g4 b hb with h|h
 .have:=(hg.bd h).1;omega
 .omega
end
section
variable{E z z':St}{o n1 s:Nat}{fb fe:FuncId}{cb ce:List Value}{bg en:Pc->Int}{W:Pc->Pc->Int}{ys:List Pc}{pp:Option Addr}
theorem DoJ.same(h:DoJ E o n1 fb cb fe ce bg en W ys pp s z)(k:Same E.j z z'):DoJ E o n1 fb cb fe ce bg en W ys pp s z':=by
 obtain⟨p,cp,q,cq,r,cr,f,l,u,w,o4,o5,o6,o7,gp,gq,gr,h1⟩:=h.ex;exact⟨⟨Nat.le_trans h.le.j k.j,λb hb=>(k.old b hb).trans (h.le.get b hb)⟩,k.own h.b1,k.own h.b2,k.own h.b3,k.slv h.sl,p,cp,q,cq,r,cr,f,l,u,w,k.own o4,k.own o5,k.own o6,k.own o7,k.gr gp,k.gr gq,k.gr gr,h1⟩
end
def wkK(B:List (List Rl))(K:List (List Int))(y z:Pc):Int:=(K.getD (vJ B y.c y.e).p.toNat []).getD (vJ B z.b z.a).p.toNat 0
def zAA(B:List (List Rl))(K:List (List Int))(bg en:Pc->Int)(y z:Pc):Int:=bg z-en y-wkK B K y z
section
variable{E:St}{o kl:Nat}{v:Pv}{L:Lw}{B:List (List Rl)}{K:List (List Int)}
theorem xNN(hP:PlP E o v L B K){i a:Nat}(hi:i<B.length)(ha:a<(zAL B i).length):zW tP 64 [.pointer (some ⟨o,0,none⟩),.agg ⟨[iV (i:Int),iV (a:Int)]⟩] E (iV (vJ B i a).p) E:=by
 have N:New E.re (E.re.row [iV (i:Int),iV (a:Int)] 2):=New.row _ _ _;have hP':=hP.le ((le0 E).trans N.le);obtain⟨p,q,c1,e1,l1,b1,b2,f1⟩:=hP'.rel hi (zNS ha);have lb:zJ tP (E.re.row [iV (i:Int),iV (a:Int)] 2) 43 (zO ⟨o,0,none⟩ 8)=some (.slice (some p) v.bl v.bc):=by
  have:=hP'.own.ld (k:=8) rfl zXH rfl;rw[e1]at this;simpa [zO] using this
 exact(xPT lb l1 (f1 0 _ rfl) ⟨rfl,N.lw⟩ ⟨by omega,by omega⟩ ⟨by omega,by omega⟩).pure
theorem PlP.walk(hP:PlP E o v L B K)(hk:K.length=kl)(hrow:∀(a:Nat) r,K[a]?=some r->yJP kl a r){i j:Int}(hi:0<=i/\i<(kl:Int))(hj:0<=j/\j<(kl:Int)):∃a q c,v.k=some a/\v.kl=kl/\zJ tP E 48 (zO a (Int.toNat i*1))=some (.slice (some q) kl c)/\zJ tP E 3 (zO q (Int.toNat j*1))=some (iV ((K.getD i.toNat []).getD j.toNat 0))/\okM ((K.getD i.toNat []).getD j.toNat 0):=by
 have hl:=hP.ks.len;obtain⟨n,rfl⟩:∃n:Nat,i=n:=⟨i.toNat,by omega⟩;obtain⟨m,rfl⟩:∃m:Nat,j=m:=⟨j.toNat,by omega⟩;obtain⟨a,e,r,q,c,hr,ld,hq⟩:=hP.ks.at (i:=n) (by omega)
 obtain⟨h1,_,h3⟩:=hrow n r hr;obtain⟨q',rfl,x,hx,lx⟩:=xA hq (i:=m) (by omega);rw[h1]at ld;have e2:(K.getD (n:Int).toNat []).getD (m:Int).toNat 0=x:=by
  have er:K.getD n []=r:=by rw[List.getD_eq_getElem?_getD,hr];rfl
  rw[Int.toNat_natCast,Int.toNat_natCast,er];exact xB hx
 rw[e2];exact⟨a,q',c,e,by omega,ld,lx,h3 x (List.mem_of_getElem? hx)⟩
end
section
variable{E z z1:St}{o n1 s lo db vb kl:Nat}{fb fe:FuncId}{cb ce:List Value}{bg en:Pc->Int}{ys:List Pc}{pp:Option Addr}{g:Nat->Value}{v:Pv}{L:Lw}{B:List (List Rl)}{K:List (List Int)}{y:Pc}
theorem wCX(hP:PlP E o v L B K)(hk:K.length=kl)(hrow:∀(a:Nat) r,K[a]?=some r->yJP kl a r)(hok:∀ x∈B,zLY kl x)(ht:TmOk E ys fb cb fe ce bg en)(hy:∀ y∈ys,xEQ B y)(hn:ys.length<=100)(hpp:∀ b,AtP pp b->E.j+7<=b/\b<n1)
    (hJ:DoJ E o n1 fb cb fe ce bg en (zAA B K bg en) ys pp s z) (hs:ys[s]?=some y) (hlo:lo+1=n1) (h7:E.j+8<n1) (hz:n1<=z.j)
    (hl:yP z.heap lo=some (zDX E.j (E.j+1) (E.j+2) (E.j+3) (E.j+4) (E.j+5) (E.j+6) 132 [.pointer (some ⟨vb,0,none⟩)] g .ready none db))
    (hz1:z1=(zYD z.re y).put lo (zDX E.j (E.j+1) (E.j+2) (E.j+3) (E.j+4) (E.j+5) (E.j+6) 132 [.pointer (some ⟨vb,0,none⟩)] g .busy none db)) :
    ∃z4,zCG tP lo [pcV y] z (Fm 101 (ov (zJB E.j (E.j+1) (E.j+2) (E.j+3) (E.j+4) (E.j+5) (E.j+6) 132 [.pointer (some ⟨vb,0,none⟩)]) g)) [18] zES zER db [⟨Unit,.normal,λ_=>[],λ_=>[],λ_ x=>x=z4⟩] /\
      DoJ E o n1 fb cb fe ce bg en (zAA B K bg en) ys pp (s+1) z4/\∃S,Only S z1 z4/\∀b,S b->E.j<=b/\b≠lo-1/\b≠lo:=by
  have zl:=yTM z.re y;have hlt:lo<z.j:=by omega
  have hl1:yP (zYD z.re y).heap lo=some (zDX E.j (E.j+1) (E.j+2) (E.j+3) (E.j+4) (E.j+5) (E.j+6) 132 [.pointer (some ⟨vb,0,none⟩)] g .ready none db):=by rw[zl.get _ hlt];exact hl
  have s1:Same E.j z z1:=⟨by rw[hz1];exact zl.j,λb hb hne=>by
    rw[hz1,St.put_get,if_neg (λe=>by subst e;exact hne _ _ _ _ _ _ _ hl)];exact zl.get b hb,λb hb=>by rw[hz1,St.put_get,if_neg (by omega)];exact zl.get b (by show b<z.j;omega)⟩
  have J1:=hJ.same s1;have nx1:z1.j=z.j+1:=by rw[hz1];rfl
  have oy:Own z1 z.re.j (pcL y) 5:=by
    rw[hz1];exact(Only.put (S:=(·=lo)) (.inr rfl)).own' ((zX z.re (zP 0 0 0 0 0) 5).put) (λe=>by have e:z.j=lo:=e;omega)
  have ym:=List.mem_of_getElem? hs;obtain⟨⟨t1,t2⟩,t3,t4⟩:=ht.bd y ym;have cb1:=ht.b z1 J1.le y ym;have ce1:=ht.e z1 J1.le y ym;have hEz:=J1.le.j;obtain⟨p,cp,q,cq,r,cr,f,l,u,w,o4,o5,o6,o7,gp0,gq0,gr0,d1,d2,hf,hlast⟩:=hJ.ex;have o4:=s1.own o4;have o5:=s1.own o5;have o6:=s1.own o6;have o7:=s1.own o7;have gp:=s1.gr gp0;have gq:=s1.gr gq0;have gr:=s1.gr gr0;have lp:((ys.take s).map λy=>en y-bg y).length<=100:=by have:=List.length_take_le s ys;simp;omega
  have lq:(btw (yCW bg en) (ys.take s)).length<=100:=by have:=yDH (W:=yCW bg en) (l:=ys.take s);have:=List.length_take_le' s ys;omega
  have lr:(btw (zAA B K bg en) (ys.take s)).length<=100:=by have:=yDH (W:=zAA B K bg en) (l:=ys.take s);have:=List.length_take_le' s ys;omega
  have h1:zJ tP z1 116 ⟨E.j+1,0,none⟩=some (.func (.func fb) ⟨[]⟩ ⟨cb⟩):=J1.b2.ld rfl yVL rfl;have h4:zJ tP z1 116 ⟨E.j+1,1,none⟩=some (.func (.func fe) ⟨[]⟩ ⟨ce⟩):=J1.b2.ld rfl yVL rfl;have h2:zJ tP z1 115 ⟨z.re.j,0,none⟩=some (.agg ⟨[iV y.b,iV y.a]⟩):=oy.ldN zLQ zAV rfl rfl (by simp);have ly:∀{x:St},Own x z.re.j (pcL y) 5->zJ tP x 115 ⟨z.re.j,2,none⟩=some (.agg ⟨[iV y.c,iV y.e]⟩):=λh=>h.ldN zLQ zAV rfl rfl (by simp)
  have b7:zL z1.j [.func (.func fb) ⟨[]⟩ ⟨cb⟩,.agg ⟨[iV y.b,iV y.a]⟩]:=zI (ht.kb _ (by omega)) (zI rfl zM);have b8:zL z1.j [.func (.func fe) ⟨[]⟩ ⟨ce⟩,.agg ⟨[iV y.c,iV y.e]⟩]:=zI (ht.ke _ (by omega)) (zI rfl zM);have b9:(((⟨E.j+1,1,none⟩:Addr).block<z1.j/\zN RD (.func (.func fe) ⟨[]⟩ ⟨ce⟩)=true)/\zJ tP z1 116 ⟨E.j+1,1,none⟩=some (.func (.func fe) ⟨[]⟩ ⟨ce⟩)):=⟨⟨by show E.j+1<_;omega,ht.ge⟩,h4⟩;have pt:∀(x:St) (b k:Nat),b<x.j->yQ RD x.j (.pointer (some ⟨b,k,none⟩))=true:=λx b k hb=>zR hb
  have tk:=wE hs;have nS:n1<=z1.j:=by omega
  have last : ∀ {x : St} {p' : Option Addr} {cp':Nat} {q' r':Option Addr} {lq' cq' lr' cr':Nat},z1.j<=x.j->Own x (E.j+3) [.slice p' ((ys.take s).map fun y=>en y-bg y).length cp',.slice q' lq' cq',.slice r' lr' cr',iV 0] 4->Own x (E.j+5) [iV l] 1->Own x (E.j+6) [iV u,iV w] 2->Own x z.re.j (pcL y) 5->Gr tP x n1 3 1 p' ((ys.take s).map fun y=>en y-bg y).length cp' (((ys.take s).map fun y=>en y-bg y).map yK)->(∀ b,AtP p' b->b<z.j) ->
      ∃p4 c4 V2 x2 x3 x4,zJ tP x 48 ⟨E.j+3,0,none⟩=some (.slice p' ((ys.take s).map λy=>en y-bg y).length cp')/\xO tP 48 48 (.slice p' ((ys.take s).map λy=>en y-bg y).length cp') (.slice (some ⟨x.j,0,none⟩) 1 1) (x.row [iV (en y-bg y)] 1)=some (.slice p4 (((ys.take s).map λy=>en y-bg y).length+1) c4,V2) /\
        yN tP (evL [.pointer (some ⟨E.j+3,0,none⟩),.slice p4 (((ys.take s).map λy=>en y-bg y).length+1) c4]) V2 (.store 48 (.tmp 0) (.tmp 1))=some (undef,x2)/\zJ tP x2 115 ⟨z.re.j,2,none⟩=some (.agg ⟨[iV y.c,iV y.e]⟩) /\
        yN tP (evL [.pointer (some ⟨E.j+5,0,none⟩),iV (en y)]) x2 (.store 3 (.tmp 0) (.tmp 1))=some (undef,x3)/\yN tP (evL [.pointer (some ⟨E.j+6,0,none⟩),.agg ⟨[iV y.c,iV y.e]⟩]) x3 (.store 115 (.tmp 0) (.tmp 1))=some (undef,x4) /\
        zL x2.j [.pointer (some ⟨z.re.j,2,none⟩)]/\zL x2.j [.pointer (some ⟨E.j+5,0,none⟩),iV (en y)]/\zL x3.j [.pointer (some ⟨E.j+6,0,none⟩),.agg ⟨[iV y.c,iV y.e]⟩] /\
        (((⟨z.re.j,2,none⟩:Addr).block<x2.j/\zN RD (.agg ⟨[iV y.c,iV y.e]⟩)=true)/\zJ tP x2 115 ⟨z.re.j,2,none⟩=some (.agg ⟨[iV y.c,iV y.e]⟩))/\(((⟨z.re.j,2,none⟩:Addr).block<x3.j/\zN RD (.agg ⟨[iV y.c,iV y.e]⟩)=true)/\zJ tP x3 115 ⟨z.re.j,2,none⟩=some (.agg ⟨[iV y.c,iV y.e]⟩)) /\
        Only (λb=>AtP p' b\/b=E.j+3\/b=E.j+5\/b=E.j+6) x x4/\Own x4 (E.j+3) [.slice p4 (((ys.take s).map λy=>en y-bg y).length+1) c4,.slice q' lq' cq',.slice r' lr' cr',iV 0] 4/\Own x4 (E.j+5) [iV (en y)] 1/\Own x4 (E.j+6) [iV y.c,iV y.e] 2/\Gr tP x4 n1 3 1 p4 (((ys.take s).map λy=>en y-bg y).length+1) c4 ((((ys.take s).map λy=>en y-bg y)++[en y-bg y]).map yK)/\∀b,AtP p4 b->AtP p' b\/x.j<=b:=by
    intro x p' cp' q' r' lq' cq' lr' cr' hx a4 a6 a7 ay ga hp'
    obtain⟨p4,c4,V2,g1,g2,g3,g4,g5,g6,g7⟩:=xZO 0 (λv=>[v,.slice q' lq' cq',.slice r' lr' cr',iV 0]) (en y-bg y) a4 rfl (by omega) (λ_=>rfl) ga (by omega) (by omega) (by omega)
    have hat:∀{b},AtP p' b->n1<=b:=λhb=>(ga.bd hb).1
    have ay2 := g5.own' ay (by rintro(h | h);· have:=hp' _ h;have e:z.re.j=z.j:=rfl;omega
                               . have e:z.re.j=z.j:=rfl;omega)
    have a62 := g5.own' a6 (by rintro(h | h);· have:=hat h;omega
                               . omega)
    have a72 := g5.own' a7 (by rintro(h | h);· have:=hat h;omega
                               . omega)
    obtain⟨x2,hx2⟩:∃x2,x2=V2.own (E.j+3) [.slice p4 (((ys.take s).map λy=>en y-bg y).length+1) c4,.slice q' lq' cq',.slice r' lr' cr',iV 0] 4:=⟨_,rfl⟩
    rw[<- hx2]at g2 g3 g4 g5 ay2 a62 a72
    have st6:=a62.store (P:=tP) (k:=0) (t:=3) (v:=iV (en y)) (vs:=[iV (en y)]) (ds:=[iV (en y)]) rfl vL rfl (by simp) rfl
    have K6:Only (·=E.j+5) x2 (x2.own (E.j+5) [iV (en y)] 1):=Only.own (.inr rfl)
    have a73:=K6.own' a72 (by omega)
    have ay3:=K6.own' ay2 (by have e:z.re.j=z.j:=rfl;omega)
    have st7:=a73.store (P:=tP) (k:=0) (t:=115) (v:=.agg ⟨[iV y.c,iV y.e]⟩) (vs:=[iV y.c,iV y.e]) (ds:=[iV y.c,iV y.e]) rfl zAV rfl (by simp) rfl
    have K7:Only (·=E.j+6) (x2.own (E.j+5) [iV (en y)] 1) ((x2.own (E.j+5) [iV (en y)] 1).own (E.j+6) [iV y.c,iV y.e] 2):=Only.own (.inr rfl)
    have nx2:=g5.j
    have e0:z.re.j=z.j:=rfl
    have KK:Only (λb=>AtP p' b\/b=E.j+3\/b=E.j+5\/b=E.j+6) x ((x2.own (E.j+5) [iV (en y)] 1).own (E.j+6) [iV y.c,iV y.e] 2) :=
      ((g5.mono (T:=λb=>AtP p' b\/b=E.j+3\/b=E.j+5\/b=E.j+6) λb _ h=>h.imp id .inl).trans' K6 λb _ h=>.inl (.inr (.inr (.inl h)))).trans' K7 λb _ h=>.inl (.inr (.inr (.inr h)))
    have gb:=g4
    refine⟨p4,c4,V2,x2,_,_,a4.ld rfl xF rfl,g1,g2,ly ay2,st6,st7,zI (pt _ _ _ (by omega)) zM,zI (pt _ _ _ (by omega)) (zI rfl zM),zI (pt _ _ _ (by show E.j+6<x2.j;omega)) (zI rfl zM),⟨⟨by show z.re.j<_;omega,rfl⟩,ly ay2⟩,⟨⟨by show z.re.j<x2.j;omega,rfl⟩,ly ay3⟩,KK,K7.own' (K6.own' g3 (by omega)) (by omega),K7.own' (a62.put) (by omega),a73.put, ?_,g6⟩
    refine(g4.only K6 λb hb e=>?_).only K7 λb hb e=>?_
    . have:=(g4.bd hb).1;omega
    . have:=(g4.bd hb).1;omega
  obtain⟨T,hT⟩:∃T:Nat->Prop,T=λb=>(n1<=b/\(AtP p b\/AtP q b\/AtP r b))\/(E.j+3<=b/\b<E.j+7):=⟨_,rfl⟩
  have T1:∀b,T b->E.j<=b/\b≠lo-1/\b≠lo:=by rw[hT];rintro b (⟨h,_⟩|h) <;> omega
  have T3:∀{b},b<E.j+3->¬T b:=by rw[hT];rintro b hb (⟨h,_⟩|h) <;> omega
  have fin:∀ {x4:St} {p4 q4 r4:Option Addr} {c4 cq4 cr4:Nat} {f4:Int},Only T z1 x4->Own x4 (E.j+3) [.slice p4 ((ys.take (s+1)).map fun y=>en y-bg y).length c4,.slice q4 (btw (yCW bg en) (ys.take (s+1))).length cq4,.slice r4 (btw (zAA B K bg en) (ys.take (s+1))).length cr4,iV 0] 4->Own x4 (E.j+4) [iV f4] 1->Own x4 (E.j+5) [iV (en y)] 1->Own x4 (E.j+6) [iV y.c,iV y.e] 2->Gr tP x4 n1 3 1 p4 ((ys.take (s+1)).map fun y=>en y-bg y).length c4 (((ys.take (s+1)).map fun y=>en y-bg y).map yK)->Gr tP x4 n1 3 1 q4 (btw (yCW bg en) (ys.take (s+1))).length cq4 ((btw (yCW bg en) (ys.take (s+1))).map yK)->Gr tP x4 n1 3 1 r4 (btw (zAA B K bg en) (ys.take (s+1))).length cr4 ((btw (zAA B K bg en) (ys.take (s+1))).map yK) ->
      (∀b,AtP p4 b->¬AtP q4 b/\¬AtP r4 b)->(∀b,AtP q4 b->¬AtP r4 b)->(∀y0,ys.head?=some y0->f4=bg y0)->DoJ E o n1 fb cb fe ce bg en (zAA B K bg en) ys pp (s+1) x4:=by
    intro x4 p4 q4 r4 c4 cq4 cr4 f4 hO a1 a2 a3 a4 a5 a6 a7 a8 a9 a10
    exact⟨zFQ hO J1.le λb hb=>(T1 b hb).1,hO.own' J1.b1 (T3 (by omega)),hO.own' J1.b2 (T3 (by omega)),hO.own' J1.b3 (T3 (by omega)),hO.slv' J1.sl λa e hb=>by
      have:=hpp _ ⟨a,e,rfl⟩;rw[hT]at hb;rcases hb with ⟨h,_⟩|h <;> omega,p4,c4,q4,cq4,r4,cr4,f4,en y,y.c,y.e,a1,a2,a3,a4,a5,a6,a7,a8,a9,λy0 h _=>a10 y0 h,λt y' e h=>by
      obtain rfl:t=s:=by omega
      rw[hs]at h;cases h;exact⟨rfl,rfl,rfl⟩⟩
  have eP:(ys.take (s+1)).map (λy=>en y-bg y)=(ys.take s).map (λy=>en y-bg y)++[en y-bg y]:=by rw[tk,List.map_append];rfl
  have eL:((ys.take (s+1)).map (λy=>en y-bg y)).length=((ys.take s).map (λy=>en y-bg y)).length+1:=by rw[eP];simp
  have bB:E.j+1<z1.j:=by omega
  have bz:z.re.j<z1.j:=by rw[nx1];exact Nat.lt_succ_self _
  cases s with
  |zero =>
    have st5:=o5.store (P:=tP) (k:=0) (t:=3) (v:=iV (bg y)) (vs:=[iV (bg y)]) (ds:=[iV (bg y)]) rfl vL rfl (by simp) rfl;have K5:Only (·=E.j+4) z1 (z1.own (E.j+4) [iV (bg y)] 1):=Only.own (.inr rfl);obtain⟨p4,c4,V2,x2,x3,x4,m1,m2,m3,m4,m5,m6,m7,m8,m9,m10,m11,mO,n3,n5,n6,nG,nA⟩:=last (x:=z1.own (E.j+4) [iV (bg y)] 1) (Nat.le_refl _) (K5.own' o4 (by omega)) (K5.own' o6 (by omega)) (K5.own' o7 (by omega)) (K5.own' oy (by have e:z.re.j=z.j:=rfl;omega)) (gp.only K5 λb hb e=>by have:=(gp.bd hb).1;omega) λb hb=>(gp0.bd hb).2
    have hT1:∀b,AtP p b\/b=E.j+3\/b=E.j+5\/b=E.j+6->T b:=by
      rw[hT];rintro b (h|h|h|h)
      . exact .inl ⟨(gp.bd h).1,.inl h⟩
      . right;omega
      . right;omega
      . right;omega
    have hO:Only T z1 x4:=(K5.mono (T:=T) λb _ e=>by rw[hT];right;omega).trans' mO λb _ h=>.inl (hT1 b h)
    have e1:ys.take (0+1)=[y]:=by rw[tk];rfl
    have nq:∀b,AtP q b->¬(AtP p b\/b=E.j+3\/b=E.j+5\/b=E.j+6):=λb hb h=>by
      have:=(gq.bd hb).1;rcases h with h|h|h|h
      . exact(d1 b h).1 hb
      all_goals omega
    have nr:∀b,AtP r b->¬(AtP p b\/b=E.j+3\/b=E.j+5\/b=E.j+6):=λb hb h=>by
      have:=(gr.bd hb).1;rcases h with h|h|h|h
      . exact(d1 b h).2 hb
      all_goals omega
    have w5:=mO.own' (o5.put (ds:=[iV (bg y)])) (λh=>by
      rcases h with h|h|h|h
      . have:=(gp.bd h).1;omega
      all_goals omega)
    refine⟨x4,xXD hl hl1 hz1 h1 h2 cb1 h4 (ly oy) ce1 b7 b8 b9 (o4.ld rfl xF rfl) st5 m1 m2 m3 m4 m5 m6 m7 m8 m9 m10 m11 rfl (by simp) ⟨by omega,by omega⟩ bB bz,fin hO (q4:=q) (r4:=r) (f4:=bg y) (by rw[eL,e1];exact n3) w5 n5 n6 (by rw[eL,eP];exact nG) ?_ ?_ (λb hb=>?_) d2 (λy0 h=>?_),T,hO,T1⟩
    . rw[e1];exact((gq.only K5 λb hb e=>by have:=(gq.bd hb).1;omega).only mO nq)
    . rw[e1];exact((gr.only K5 λb hb e=>by have:=(gr.bd hb).1;omega).only mO nr)
    . rcases nA b hb with h|h
      . exact d1 b h
      . exact⟨λh2=>by have:=(gq0.bd h2).2;have h:z1.j<=b:=h;omega,λh2=>by have:=(gr0.bd h2).2;have h:z1.j<=b:=h;omega⟩
    . rw[List.head?_eq_getElem?,hs]at h;cases h;rfl
  |succ t =>
    obtain⟨y',hy'⟩:∃y',ys[t]?=some y':=⟨_,List.getElem?_eq_getElem (by have:=(List.getElem?_eq_some_iff.1 hs).1;omega)⟩;obtain⟨rfl,rfl,rfl⟩:=hlast t y' rfl hy';have ym':=List.mem_of_getElem? hy';obtain⟨_,t5,t6⟩:=ht.bd y' ym';obtain⟨i,a,e,n,ey',v1,v2,v3,v4⟩:=hy y' ym';obtain⟨i2,a2,e2,n2,ey,u1,u2,u3,u4⟩:=hy y ym;have nx2:n1<=z1.j:=by omega
    obtain⟨q4,cq4,Oq,g1,g2,g3,g4,g5,g6,g7⟩:=xZO 1 (λw=>[.slice p ((ys.take (t+1)).map λy=>en y-bg y).length cp,w,.slice r (btw (zAA B K bg en) (ys.take (t+1))).length cr,iV 0]) (bg y-en y') o4 rfl (by omega) (λ_=>rfl) gq (by omega) (by omega) (by omega);obtain⟨xa,hxa⟩:∃xa,xa=Oq.own (E.j+3) [.slice p ((ys.take (t+1)).map λy=>en y-bg y).length cp,.slice q4 ((btw (yCW bg en) (ys.take (t+1))).length+1) cq4,.slice r (btw (zAA B K bg en) (ys.take (t+1))).length cr,iV 0] 4:=⟨_,rfl⟩;rw[<- hxa]at g2 g3 g4 g5;have nxa:=g5.j;have ne1:∀{b},b<n1->b≠E.j+3->¬(AtP q b\/b=E.j+3):=λhb h3 h=>by
      rcases h with h|h
      . have:=(gq.bd h).1;omega
      . exact h3 h
    have e0:z.re.j=z.j:=rfl;have a5:=g5.own' o5 (ne1 (by omega) (by omega));have a6:=g5.own' o6 (ne1 (by omega) (by omega));have a7:=g5.own' o7 (ne1 (by omega) (by omega));have ab1:=g5.own' J1.b1 (ne1 (by omega) (by omega));have ay:=g5.own' oy (λh=>by
      rcases h with h|h
      . have:=(gq0.bd h).2;omega
      . omega)
    have ga:=gp.only g5 λb hb h=>by
      rcases h with h|h
      . exact(d1 b hb).1 h
      . have:=(gp.bd hb).1;omega
    have gra:=gr.only g5 λb hb h=>by
      rcases h with h|h
      . exact d2 b h hb
      . have:=(gr.bd hb).1;omega
    have La:Le E xa:=zFQ g5 J1.le λb h=>by
      rcases h with h|h
      . have:=(gq.bd h).1;omega
      . omega
    have Pa:=hP.le La;have hEa:=La.j;have pc1:zW tP 64 [.pointer (some ⟨o,0,none⟩),.agg ⟨[iV y'.c,iV y'.e]⟩] xa (iV (vJ B y'.c y'.e).p) xa:=by rw[ey'];exact xNN Pa v1 v3
    have pc2:zW tP 64 [.pointer (some ⟨o,0,none⟩),.agg ⟨[iV y.b,iV y.a]⟩] xa (iV (vJ B y.b y.a).p) xa:=by rw[ey];exact xNN Pa u1 (by omega)
    have r1:zRT kl (vJ B y'.c y'.e):=by rw[ey'];exact zBX hok v1 v3
    have r2:zRT kl (vJ B y.b y.a):=by rw[ey];exact zBX hok u1 (by omega)
    obtain⟨ka,qa,ca,ek,ekl,lw1,lw2,wk0,wk1⟩:=Pa.walk hk hrow (i:=(vJ B y'.c y'.e).p) (j:=(vJ B y.b y.a).p) ⟨r1.1,r1.2.1⟩ ⟨r2.1,r2.2.1⟩;have hka:=xW (show SlV tP xa 48 1 v.k v.kl _ from Pa.ks.choose_spec.1) ka ek;have lk:zJ tP xa 25 (zO ⟨o,0,none⟩ 9)=some (.slice (some ka) kl v.kc):=by
      have:=Pa.own.ld (k:=9) rfl zPF rfl;rw[ek,ekl]at this;simpa [zO] using this
    have hqa:qa.block<xa.j:=by
      obtain⟨vs,k1,_,k3⟩:=Pa.ks;have hi:(vJ B y'.c y'.e).p.toNat<K.length:=by have:=r1.1;have:=r1.2.1;omega
      obtain⟨q2,c2,k4,k5⟩:=k3 _ _ (List.getElem?_eq_getElem hi);have k6:=k1.at ek k4;have:((vJ B y'.c y'.e).p.toNat:Int)=(vJ B y'.c y'.e).p:=by have:=r1.1;omega
      rw[this,lw1]at k6;cases k6
      exact xW k5 qa rfl
    obtain⟨r4,cr4,Or,f1,f2,f3,f4,f5,f6,f7⟩:=xZO 2 (λw=>[.slice p ((ys.take (t+1)).map λy=>en y-bg y).length cp,.slice q4 ((btw (yCW bg en) (ys.take (t+1))).length+1) cq4,w,iV 0]) (bg y-en y' - wkK B K y' y) g3 rfl (by omega) (λ_=>rfl) gra (by omega) (by omega) (by omega);obtain⟨xb,hxb⟩:∃xb,xb=Or.own (E.j+3) [.slice p ((ys.take (t+1)).map λy=>en y-bg y).length cp,.slice q4 ((btw (yCW bg en) (ys.take (t+1))).length+1) cq4,.slice r4 ((btw (zAA B K bg en) (ys.take (t+1))).length+1) cr4,iV 0] 4:=⟨_,rfl⟩;rw[<- hxb]at f2 f3 f4 f5;have nxb:=f5.j;have nxr:=f7.j;have ne2:∀{b},b<n1->b≠E.j+3->¬(AtP r b\/b=E.j+3):=λhb h3 h=>by
      rcases h with h|h
      . have:=(gr.bd h).1;omega
      . exact h3 h
    have c6:=f5.own' a6 (ne2 (by omega) (by omega));have c7:=f5.own' a7 (ne2 (by omega) (by omega));have c5:=f5.own' a5 (ne2 (by omega) (by omega));have cy:=f5.own' ay (λh=>by
      rcases h with h|h
      . have:=(gr0.bd h).2;omega
      . omega)
    have gb:=ga.only f5 λb hb h=>by
      rcases h with h|h
      . exact(d1 b hb).2 h
      . have:=(gp.bd hb).1;omega
    have gqb:=g4.only f5 λb hb h=>by
      rcases h with h|h
      . rcases g6 b hb with h2|h2
        . exact d2 b h2 h
        . have:=(gr0.bd h).2;omega
      . have:=(g4.bd hb).1;omega
    obtain⟨p4,c4,V2,x2,x3,x4,m1,m2,m3,m4,m5,m6,m7,m8,m9,m10,m11,mO,n3,n5,n6,nG,nA⟩:=last (x:=xb) (by omega) f3 c6 c7 cy gb λb hb=>(gp0.bd hb).2
    have nx4:=mO.j;have hO:Only T z1 x4:=((g5.mono (T:=T) λb _ h=>by
      rw[hT];rcases h with h|h
      . exact .inl ⟨(gq.bd h).1,.inr (.inl h)⟩
      . right;omega).trans' f5 λb _ h=>.inl (by
      rw[hT];rcases h with h|h
      . exact .inl ⟨(gr.bd h).1,.inr (.inr h)⟩
      . right;omega)).trans' mO λb _ h=>.inl (by
      rw[hT];rcases h with h|h|h|h
      . exact .inl ⟨(gp.bd h).1,.inl h⟩
      . right;omega
      . right;omega
      . right;omega)
    have tk2:=wE hy';have eQ:∀W:Pc->Pc->Int,btw W (ys.take (t+1+1))=btw W (ys.take (t+1))++[W y' y]:=λW=>by
      rw[tk,tk2,List.append_assoc];exact xDZ
    have eQl:∀W:Pc->Pc->Int,(btw W (ys.take (t+1+1))).length=(btw W (ys.take (t+1))).length+1:=λW=>by rw[eQ];simp
    have w5:=mO.own' c5 (λh=>by
      rcases h with h|h|h|h
      . have:=(gp.bd h).1;omega
      all_goals omega)
    have q4n:∀b,AtP q4 b->¬AtP p b:=λb hb h=>by
      rcases g6 b hb with h2|h2
      . exact(d1 b h).1 h2
      . have:=(gp0.bd h).2;omega
    have r4n:∀b,AtP r4 b->¬AtP p b/\¬AtP q4 b:=λb hb=>by
      rcases f6 b hb with h2|h2
      . refine⟨λh=>(d1 b h).2 h2,λh=>?_⟩
        rcases g6 b h with h3|h3
        . exact d2 b h3 h2
        . have:=(gr0.bd h2).2;omega
      . exact⟨λh=>by have:=(gp0.bd h).2;omega,λh=>by have:=(g4.bd h).2;omega⟩
    have xr:xa.j<(xa.row [iV (bg y-en y' - wkK B K y' y)] 1).j:=Nat.lt_succ_self _;have XR:Le xa (xa.row [iV (bg y-en y' - wkK B K y' y)] 1):=Le.row _ _ _;have gs:∀(p:Option Addr) (l c:Nat),zN RD (.slice p l c)=true:=λp l c=>by cases p <;> rfl
    have lr2:∀{x:St},Le xa x->zJ tP x 48 ⟨E.j+3,2,none⟩=some (.slice r (btw (zAA B K bg en) (ys.take (t+1))).length cr):=λh=>(g3.le h).ld rfl xF rfl
    refine⟨x4,xXC (aB:=⟨o,0,none⟩) (qZ_a:=ka) (qHB_a:=qa) hl hl1 hz1 h1 h2 cb1 h4 (ly oy) ce1 b7 b8 b9 (o4.ld rfl xF rfl) (o4.ld rfl xF rfl) (o6.ld rfl zU rfl) g1 g2 (lr2 (Le.refl _)) (a6.ld rfl zU rfl) (ab1.ld rfl zPD rfl) lk (a7.ldN zLQ zAV rfl rfl (by simp)) pc1 lw1 (ay.ldN zLQ zAV rfl rfl (by simp)) pc2 lw2 f1 f2
      (zI (pt _ _ _ (by omega)) zM) (zI (pt _ _ _ (by omega)) zM) (zI (pt _ _ _ (by omega)) zM) (zI (pt _ _ _ Pa.own.lt) zM) (zI (pt _ _ _ (by omega)) zM) (zI (pt _ _ _ Pa.own.lt) (zI rfl zM)) (zI (zR hka) zM) (zI (pt _ _ _ (by omega)) zM) (zI (pt _ _ _ Pa.own.lt) (zI rfl zM)) (zI (zR hqa) zM)
      (zI (xH λa e=>Nat.lt_trans (xW gra.slv a e) xr) (zI (xH λa e=>by cases e;exact xr) zM)) (zI (pt _ _ _ (by omega)) (zI (xH λa e=>?_) zM))
      ⟨⟨by show E.j+3<_;omega,gs _ _ _⟩,lr2 (Le.refl _)⟩ ⟨⟨Nat.lt_trans (show E.j+3<xa.j by omega) xr,gs _ _ _⟩,lr2 XR⟩ ⟨⟨by show E.j+5<_;omega,rfl⟩,a6.ld rfl zU rfl⟩ ⟨⟨by show E.j<_;omega,rfl⟩,ab1.ld rfl zPD rfl⟩ ⟨⟨Pa.own.lt,rfl⟩,lk⟩ ⟨⟨hka,rfl⟩,lw1⟩ ⟨⟨by show z.re.j<_;omega,rfl⟩,ay.ldN zLQ zAV rfl rfl (by simp)⟩
      m1 m2 m3 m4 m5 m6 m7 m8 m9 m10 m11 rfl (by rw[tk2];simp;omega) ⟨by omega,by omega⟩ ⟨by omega,by omega⟩ ⟨r1.1,r1.2.1⟩ ⟨r2.1,r2.2.1⟩ ?_ ⟨by omega,by omega⟩ bB bz,fin hO (q4:=q4) (r4:=r4) (f4:=f) (by rw[eL,eQl,eQl];exact n3) w5 n5 n6 (by rw[eL,eP];exact nG) ?_ ?_ (λb hb=>?_) (λb hb h=>(r4n b h).2 hb) (λy0 h=>hf y0 h (by omega)),T,hO,T1⟩
    . exact Nat.lt_of_lt_of_le (xW f4.slv a e) (by rw[hxb];exact Nat.le_refl _)
    . have:=wk0;have:=wk1;exact⟨by show _<=bg y-en y' - wkK B K y' y;unfold wkK;omega,by show bg y-en y' - wkK B K y' y<=_;unfold wkK;omega⟩
    . rw[eQl,eQ];exact gqb.only mO fun b hb h=>by
        have:=(g4.bd hb).1;rcases h with h|h|h|h
        . exact q4n b hb h
        all_goals omega
    . rw[eQl,eQ];exact f4.only mO fun b hb h=>by
        have:=(f4.bd hb).1;rcases h with h|h|h|h
        . exact(r4n b hb).1 h
        all_goals omega
    . rcases nA b hb with h|h
      . exact⟨λh2=>q4n b h2 h,λh2=>(r4n b h2).1 h⟩
      . exact⟨λh2=>by have:=(g4.bd h2).2;omega,λh2=>by have:=(f4.bd h2).2;omega⟩
end
def wJ(L:Lw)(bg en:Pc->Int)(ys:List Pc):Int:=match ys.head?,ys.getLast? with
 |some a,some b=>en b+L.f-bg a+L.o
 |_,_=>0
theorem xYM{z z':St}{t n len:Nat}{p:Option Addr}{vs:List Value}(h:SlV tP z t n p len vs)(hb:∀a,p=some a->yP z'.heap a.block=yP z.heap a.block)(hn:z.j<=z'.j):SlV tP z' t n p len vs:=by
 refine⟨⟨h.1.1, ?_⟩,h.2⟩
 cases p with
 |none=>exact h.1.2
 |some a =>
  have hr:=h.1.2;refine⟨?_,Nat.lt_of_lt_of_le hr.lt hn⟩
  have:=hr.rd;unfold xG at this ⊢;rw[hb a rfl];exact this
section
variable{E:St}{o kl x:Nat}{fb fe:FuncId}{cb ce:List Value}{bg en:Pc->Int}{v:Pv}{L:Lw}{B:List (List Rl)}{K:List (List Int)}
theorem wPN(hP:PlP E o v L B K)(hk:K.length=kl)(hrow:∀(a:Nat) r,K[a]?=some r->yJP kl a r)(hok:∀x∈B,zLY kl x)(hL:LawOk L)(hs6:yZ B<=6)(hx:x<65536)(hne:xU x (wO B) (yZ B)≠[])(ht:TmOk E (wC B x) fb cb fe ce bg en) :
  ∃W E',zW tP 37 [.pointer (some ⟨o,0,none⟩),.int .u16 (x:Int),.agg ⟨[.func (.func fb) ⟨[]⟩ ⟨cb⟩,.func (.func fe) ⟨[]⟩ ⟨ce⟩]⟩] E (.agg ⟨woL W⟩) E'/\New E E'/\WoP E' W ((wC B x).map λy=>en y-bg y) (btw (zAA B K bg en) (wC B x))/\W.s=wJ L bg en (wC B x):=by
 obtain⟨ys,hys⟩:∃ys,ys=wC B x:=⟨_,rfl⟩;have hyo:=zGJ (B:=B) (x:=x) (by omega);have hyl:(wC B x).length<=6:=by rw[zIB];exact Nat.le_trans zQA hs6
 have hy0:0<(wC B x).length:=by rw[zIB];cases h:xU x (wO B) (yZ B)with|nil=>exact absurd h hne|cons a l=>simp
 rw[<- hys]at ht hyo hyl hy0 ⊢;obtain⟨w0,hw0⟩:∃w0:List Value,w0=[.slice none 0 0,.slice none 0 0,.slice none 0 0,iV 0]:=⟨_,rfl⟩;obtain⟨fs,hfs⟩:∃fs:List Value,fs=[.func (.func fb) ⟨[]⟩ ⟨cb⟩,.func (.func fe) ⟨[]⟩ ⟨ce⟩]:=⟨_,rfl⟩;obtain⟨r1,e1⟩:∃r,r=(E.re.row [.pointer (some ⟨o,0,none⟩)] 1).row fs 2:=⟨_,rfl⟩;obtain⟨r2,e2⟩:∃r,r=(r1.row w0 4).row w0 4:=⟨_,rfl⟩;obtain⟨r3,e3⟩:∃r,r=((r2.row [iV 0] 1).row [iV 0] 1).row [iV 0,iV 0] 2:=⟨_,rfl⟩;obtain⟨s1,e4⟩:∃s1,s1=((r3.own (E.j+4) [iV 0] 1).own (E.j+5) [iV 0] 1).own (E.j+6) [iV 0,iV 0] 2:=⟨_,rfl⟩;have n1:r1.j=E.j+2:=by rw[e1];rfl
 have n2:r2.j=E.j+4:=by rw[e2];show r1.j+2=_;omega
 have n3:r3.j=E.j+7:=by rw[e3];show r2.j+3=_;omega
 have n4:s1.j=E.j+7:=by rw[e4];exact n3
 have N1:New E.re r1:=by rw[e1];exact(New.row _ _ _).row'
 have N2:New E.re r2:=by rw[e2];exact(N1.row').row'
 have N3:New E.re r3:=by rw[e3];exact((N2.row').row').row'
 have N4:New E.re s1:=by rw[e4];exact((N3.own (by show E.j<=_;omega)).own (by show E.j<=_;omega)).own (by show E.j<=_;omega)
 have up:∀{b n:Nat} {cs:List Value},b<E.j+4->Own r3 b cs n->Own s1 b cs n:=λhb h=>by rw[e4];exact((h.own (by omega)).own (by omega)).own (by omega)
 have o1:Own s1 E.j [.pointer (some ⟨o,0,none⟩)] 1:=up (by omega) (by rw[e3,e2,e1];exact(zX E.re _ 1).row.row.row.row.row.row);have o2:Own s1 (E.j+1) fs 2:=up (by omega) (by rw[e3,e2,e1];exact(zX (E.re.row _ 1) fs 2).row.row.row.row.row);have o3:Own s1 (E.j+2) w0 4:=up (by omega) (by rw[e3,e2];have h:=zX r1 w0 4;rw[n1]at h;exact h.row.row.row.row);have o4:Own s1 (E.j+3) w0 4:=up (by omega) (by rw[e3,e2];have h:=zX (r1.row w0 4) w0 4;rw[show(r1.row w0 4).j=E.j+3 from by show r1.j+1=_;omega]at h;exact h.row.row.row);have p5:Own r3 (E.j+4) [iV 0] 1:=by rw[e3];have h:=zX r2 [iV 0] 1;rw[n2]at h;exact h.row.row
 have p6:Own r3 (E.j+5) [iV 0] 1:=by rw[e3];have h:=zX (r2.row [iV 0] 1) [iV 0] 1;rw[show(r2.row [iV 0] 1).j=E.j+5 from by show r2.j+1=_;omega]at h;exact h.row
 have p7:Own r3 (E.j+6) [iV 0,iV 0] 2:=by rw[e3];have h:=zX ((r2.row [iV 0] 1).row [iV 0] 1) [iV 0,iV 0] 2;rw[show((r2.row [iV 0] 1).row [iV 0] 1).j=E.j+6 from by show r2.j+1+1=_;omega]at h;exact h
 have o5:Own s1 (E.j+4) [iV 0] 1:=by rw[e4];exact(p5.put.own (by omega)).own (by omega)
 have o6:Own s1 (E.j+5) [iV 0] 1:=by rw[e4];exact((p6.own (by omega)).put).own (by omega)
 have o7:Own s1 (E.j+6) [iV 0,iV 0] 2:=by rw[e4];exact((p7.own (by omega)).own (by omega)).put
 obtain⟨vb,pb,ps,pc,s2,k1,m1,hvb,ov,sv,hpb0⟩:=xZS ((hP.le (le0 E)).le N4.le) hok hs6 hx hne;rw[<- hys]at ov sv;have x2:=m1.nx;have N2':=N4.trans m1;have hpb:=xW sv ⟨pb,0,ps⟩ rfl;have hR:xMU E.j (E.j+1) (E.j+2) (E.j+3) (E.j+4) (E.j+5) (E.j+6) 132 [.pointer (some ⟨vb,0,none⟩)] s2 (λz=>DoJ E o (s2.j+2) fb cb fe ce bg en (zAA B K bg en) ys (some ⟨pb,0,ps⟩) ys.length z/\yP z.heap s2.j=some .defd/\s2.j<z.j/\E.j<=z.low):=by
  refine xTP (ys:=ys) (a1:=vb) (n0:=E.j) (l:=ys.length) (c:=pc) (pp:=some ⟨pb,0,ps⟩) (J:=λs z=>DoJ E o (s2.j+2) fb cb fe ce bg en (zAA B K bg en) ys (some ⟨pb,0,ps⟩) s z) (λg0=>rfl) ov.rw (by omega) (by omega) (λs z h=>h.sl) ?_ (λs z z' h k=>h.same k) ?_ ?_
  .have q4:=o4.le m1.le;rw[hw0]at q4;rw[hfs]at o2;rw[hw0]at o3;exact⟨(le0 E).trans N2'.le,o1.le m1.le,o2.le m1.le,o3.le m1.le,sv,none,0,none,0,none,0,0,0,0,0,q4,o5.le m1.le,o6.le m1.le,o7.le m1.le,Gr.nil,Gr.nil,Gr.nil,λb h=>(AtP.none h).elim,λb h=>(AtP.none h).elim,λy _ h=>by omega,λt y h=>by omega⟩
  .rintro s z z1 lo g0 db y hs hlo hlp hz1 hJ hnx;obtain⟨z4,h1,h2,S,h3,h4⟩:=wCX (n1:=s2.j+2) hP hk hrow hok ht hyo (by omega) (λb hb=>by
    obtain⟨a,e,rfl⟩:=hb;cases e
    have h5:pb<s2.j:=hpb;exact⟨by show E.j+7<=pb;omega,by show pb<s2.j+2;omega⟩) hJ hs (by omega) (by omega) (by omega) hlp hz1
   exact⟨z4,h1,h2,S,h3,λb hb=>by have:=h4 b hb;omega⟩
  .rintro z h1 h2 h3 h4;exact⟨h1,h2,h3,h4 E.j (Nat.le_refl _) N2'.lw⟩
 obtain⟨w,E',g1,g2,W,rfl,g3,g4⟩:=zQ.new (P:=tP) (f:=37) (args:=[.pointer (some ⟨o,0,none⟩),.int .u16 (x:Int),.agg ⟨[.func (.func fb) ⟨[]⟩ ⟨cb⟩,.func (.func fe) ⟨[]⟩ ⟨ce⟩]⟩]) (E:=E)
  (Q:=λw t=>∃W,w=.agg ⟨woL W⟩/\WoP t W (ys.map λy=>en y-bg y) (btw (zAA B K bg en) ys)/\W.s=wJ L bg en ys) (by
  rw[e4,e3,e2,e1,hfs,hw0]at k1
  refine wFU k1 hR ?_
  rintro z ⟨hJ,hdef,hlt,hlow⟩
  obtain⟨p,cp,q,cq,r,cr,f,l,u,w,a4,a5,a6,a7,gp,gq,gr,d1,d2,hf,hlast⟩:=hJ.ex
  obtain⟨t,ht1⟩:∃t,ys.length=t+1:=⟨ys.length-1,by omega⟩
  obtain⟨y',hy'⟩:∃y',ys[t]?=some y':=⟨_,List.getElem?_eq_getElem (by omega)⟩
  obtain⟨y0,hy00⟩:∃y0,ys[0]?=some y0:=⟨_,List.getElem?_eq_getElem (by omega)⟩
  have hh:ys.head?=some y0:=by rw[List.head?_eq_getElem?];exact hy00
  have hg:ys.getLast?=some y':=by rw[List.getLast?_eq_getElem?,ht1];exact hy'
  obtain rfl:=hf y0 hh (by omega)
  obtain⟨rfl,rfl,rfl⟩:=hlast t y' ht1 hy'
  have es:wJ L bg en ys=en y'+L.f-bg y0+L.o:=by unfold wJ;rw[hh,hg]
  obtain⟨⟨t1,t2⟩,_⟩:=ht.bd y0 (List.mem_of_getElem? hy00)
  obtain⟨_,t3,t4⟩:=ht.bd y' (List.mem_of_getElem? hy')
  have lf:=hL.f
  have lo:=hL.o
  unfold okM at lf lo
  rw[List.take_length]at a4 gp gq gr
  have Pz:=hP.le hJ.le
  have lF:zJ tP z 3 (zO ⟨o,0,none⟩ 5)=some (iV L.f):=by have:=Pz.own.ld (k:=5) rfl zU rfl;simpa [zO] using this
  have lO:zJ tP z 3 (zO ⟨o,0,none⟩ 4)=some (iV L.o):=by have:=Pz.own.ld (k:=4) rfl zU rfl;simpa [zO] using this
  obtain⟨W,hW⟩:∃W:Wo,W=⟨p,(ys.map λy=>en y-bg y).length,cp,q,(btw (yCW bg en) ys).length,cq,r,(btw (zAA B K bg en) ys).length,cr,en y'+L.f-bg y0+L.o⟩:=⟨_,rfl⟩
  have st:=a4.store (P:=tP) (k:=3) (t:=3) (v:=iV (en y'+L.f-bg y0+L.o)) (vs:=[iV (en y'+L.f-bg y0+L.o)]) (ds:=woL W) rfl vL rfl (by simp) (by rw[hW];rfl)
  obtain⟨x1,hx1⟩:∃x1,x1=z.own (E.j+3) (woL W) 4:=⟨_,rfl⟩
  have K1:Only (·=E.j+3) z x1:=by rw[hx1];exact Only.own (.inr rfl)
  have b4:Own x1 (E.j+3) (woL W) 4:=by rw[hx1];exact a4.put
  have b3:=K1.own' hJ.b3 (by omega)
  have st2:=b3.store (P:=tP) (k:=0) (t:=118) (v:=.agg ⟨woL W⟩) (vs:=woL W) (ds:=woL W) rfl zEB rfl (by simp) rfl
  obtain⟨x2,hx2⟩:∃x2,x2=x1.own (E.j+2) (woL W) 4:=⟨_,rfl⟩
  have K2:Only (·=E.j+2) x1 x2:=by rw[hx2];exact Only.own (.inr rfl)
  have b32:Own x2 (E.j+2) (woL W) 4:=by rw[hx2];exact b3.put
  have nn:x2.j=z.j:=by rw[hx2,hx1];rfl
  have hz7:E.j+7<=s2.j:=by omega
  have gd:yP x2.heap s2.j=some .defd:=by rw[K2.get _ (by rw[hx1];exact hlt) (by omega),K1.get _ hlt (by omega)];exact hdef
  obtain⟨z2,f1,f2,f3,f4⟩:=zVU (ms:=[s2.j]) (E:=x2) (λy hy=>by
   rcases List.mem_singleton.1 hy with rfl;exact gd) (by simp)
  have f3':∀b,b≠s2.j->yP z2.heap b=yP x2.heap b:=λb hb=>f3 b (λe=>hb (List.mem_singleton.1 e))
  have b33:Own z2 (E.j+2) (woL W) 4:=b32.at_ (f3' _ (by omega)) (by rw[f2];exact Nat.le_refl _)
  have sl:∀{p:Option Addr} {l c:Nat} {vs:List Value},Gr tP z (s2.j+2) 3 1 p l c vs->SlV tP z2 3 1 p l vs:=λ{p l c vs} g=>by
   have g2:=(g.only K1 λb hb e=>by have:=(g.bd hb).1;omega).only K2 λb hb e=>by have:=(g.bd hb).1;omega
   exact xYM g2.slv (λa e=>f3' _ (by have:=(g.bd ⟨a,e,rfl⟩).1;omega)) (by rw[f2];exact Nat.le_refl _)
  have KK:Only (λb=>b=E.j+3\/b=E.j+2) z x2:=(K1.mono λb _ h=>.inl h).trans' (K2.mono (T:=λb=>b=E.j+3\/b=E.j+2) λb _ h=>.inr h) λb _ h=>.inl h
  have hz:=hJ.le.j
  have N:New E.re z2:=by
   refine⟨⟨by rw[f2,nn];exact hz,λb hb=>?_⟩,λm g1 g2=>f4 m ?_ (λy hy=>by have:=List.mem_singleton.1 hy;have g2:m<=E.j:=g2;omega)⟩
   .have hb:b<E.j:=hb;rw[f3' b (by omega),KK.get b (by omega) (by omega)];exact hJ.le.get b hb
   .have g2:m<=E.j:=g2;exact KK.low m (by omega) (by omega) λb _ h=>by omega
  refine xGE (W1844:=W) (W1846:=W) (a6.ld rfl zU rfl) (hJ.b1.ld rfl zPD rfl) lF (a5.ld rfl zU rfl) lO (by rw[<- hx1]at st;exact st) (b4.ldN zTO zEB rfl rfl (by simp)) (by rw[<- hx2]at st2;exact st2) f1 (b33.ldN zTO zEB rfl rfl (by simp)) ⟨N,W,rfl,⟨by rw[hW];exact sl gp,λa e=>?_,by rw[hW];exact sl gr⟩,by rw[hW,es]⟩
  rw[hW]at e
  rw[f2,nn]
  exact(gq.bd ⟨a,e,rfl⟩).2) (by rintro w s s' ⟨W,rfl,h1,h2⟩ hle;exact⟨W,rfl,h1.le hle,h2⟩) (by
  rintro w s hr ⟨W,rfl,h1,h2⟩
  obtain⟨p,pl,pc,q,ql,qc,r,rl,rc,sz⟩:=W
  refine⟨_,rfl, ?_,h2⟩
  cases p with
  |some a=>exact Bool.noConfusion (show false=true from hr)
  |none =>
  cases q with
  |some a=>exact Bool.noConfusion (show false=true from hr)
  |none =>
  cases r with
  |some a=>exact Bool.noConfusion (show false=true from hr)
  |none=>exact⟨uX h1.p,λx e=>(by cases e),uX h1.r⟩)
 exact⟨W,E',g1,g2,g3,g4⟩
end
def loF(B:List (List Rl))(y:Pc):Int:=(vJ B y.b y.a).lo
def hiF(B:List (List Rl))(y:Pc):Int:=(vJ B y.c y.e).hi
def zKP(bg en:Pc->Int)(ys:List Pc):List Int:=ys.map λy=>en y-bg y
def zFP(L:Lw)(B:List (List Rl))(K:List (List Int))(bg en:Pc->Int)(ys:List Pc):Bool:=(List.range 5).all (zCT L (zKP bg en ys) (btw (zAA B K bg en) ys) (wJ L bg en ys))
def uP(L:Lw)(B:List (List Rl))(K:List (List Int))(x:Nat):Bool:=zFP L B K (loF B) (hiF B) (wC B x)
def zCP(L:Lw)(B:List (List Rl))(x:Nat):Int:=max (wJ L (loF B) (hiF B) (wC B x)) L.l
theorem yTP{B:List (List Rl)}{x:Nat}(h0:0<x)(hx:x<2 ^ yZ B):xU x (wO B) (yZ B)≠[]:=by
 obtain⟨m,hm⟩:∃m,x.testBit m=true:=Nat.exists_testBit_of_ne_zero (by omega);have:m<yZ B:=by
  rcases Nat.lt_or_ge m (yZ B)with h|h
  .exact h
  .rw[Nat.testBit_lt_two_pow (Nat.lt_of_lt_of_le hx (Nat.pow_le_pow_right (by omega) h))]at hm;cases hm
 exact wMS this (Nat.le_refl _) hm
section
variable{E:St}{o x wb:Nat}{v:Pv}{L:Lw}{B:List (List Rl)}{K:List (List Int)}
theorem xAL(hP:PlP E o v L B K)(hD:OkD L B K)(ow:Own E wb [.pointer (some ⟨o,0,none⟩)] 1):TmOk E (wC B x) 124 [.pointer (some ⟨wb,0,none⟩)] 125 [.pointer (some ⟨wb,0,none⟩)] (loF B) (hiF B):=by
 have hyo:=zGJ (B:=B) (x:=x) (by have:=hD.ns;omega);have wl:=ow.lt;have rel:∀z,Le E z->∀{i a:Nat},i<B.length->a<(zAL B i).length->∃(p q:Addr) (c:Nat),zJ tP (z.re.row [iV (i:Int),iV (a:Int)] 2) 96 ⟨wb,0,none⟩=some (.pointer (some ⟨o,0,none⟩))/\zJ tP (z.re.row [iV (i:Int),iV (a:Int)] 2) 43 (zO ⟨o,0,none⟩ 8)=some (.slice (some p) v.bl v.bc)/\zJ tP (z.re.row [iV (i:Int),iV (a:Int)] 2) 90 (zO p (Int.toNat (i:Int)*1))=some (.slice (some q) (zAL B i).length c)/\Ix (i:Int) v.bl/\Ix (a:Int) (zAL B i).length /\
   ∀(k:Nat) (w:Value),(rlL (vJ B i a))[k]?=some w->zJ tP (z.re.row [iV (i:Int),iV (a:Int)] 2) 3 (zO q (Int.toNat (a:Int)*3+k))=some w:=by
  intro z hz i a hi ha
  have Lz:=(hz.trans (le0 z)).trans (Le.row z.re [iV (i:Int),iV (a:Int)] 2)
  have P:=hP.le Lz
  obtain⟨p,q,c,e1,l1,b1,b2,f1⟩:=P.rel hi (zNS ha)
  refine⟨p,q,c,(ow.le Lz).ld rfl zPD rfl, ?_,l1,⟨by omega,by omega⟩,⟨by omega,by omega⟩,f1⟩
  have:=P.own.ld (k:=8) rfl zXH rfl;rw[e1]at this;simpa [zO] using this
 refine⟨λz hz y hy=>?_,λz hz y hy=>?_,λn hn=>zI (zR (by show wb<n;omega)) zM,λn hn=>zI (zR (by show wb<n;omega)) zM,rfl,λy hy=>?_⟩
 .obtain⟨i,a,e,n,rfl,h1,h2,h3,h4⟩:=hyo y hy;obtain⟨p,q,c,l0,l1,l2,b1,b2,f⟩:=rel z hz h1 (by omega:a<_);exact(xFD l0 l1 l2 (f 1 _ rfl) ⟨rfl,(New.row _ _ _:New z.re _).lw⟩ b1 b2).pure
 .obtain⟨i,a,e,n,rfl,h1,h2,h3,h4⟩:=hyo y hy;obtain⟨p,q,c,l0,l1,l2,b1,b2,f⟩:=rel z hz h1 h3;exact(xFC l0 l1 l2 (f 2 _ rfl) ⟨rfl,(New.row _ _ _:New z.re _).lw⟩ b1 b2).pure
 .obtain⟨i,a,e,n,rfl,h1,h2,h3,h4⟩:=hyo y hy;have r1:=zBX hD.blks h1 (by omega:a<_);have r2:=zBX hD.blks h1 h3;obtain⟨_,_,r3,r4,r5⟩:=r1;obtain⟨_,_,r6,r7,r8⟩:=r2;exact⟨⟨r3,by show(vJ B i a).lo<=_;omega⟩,by show 0<=(vJ B i e).hi;omega,r8⟩
theorem wGB:∃wb E',zW tP 85 [.pointer (some ⟨o,0,none⟩)] E (.agg ⟨[.func (.func 124) ⟨[]⟩ ⟨[.pointer (some ⟨wb,0,none⟩)]⟩,.func (.func 125) ⟨[]⟩ ⟨[.pointer (some ⟨wb,0,none⟩)]⟩]⟩) E'/\New E E'/\Own E' wb [.pointer (some ⟨o,0,none⟩)] 1:=by
 obtain⟨w,E',h1,h2,wb,rfl,h3⟩:=zQ.new (P:=tP) (f:=85) (args:=[.pointer (some ⟨o,0,none⟩)]) (E:=E) (Q:=λw t=>∃wb,w=.agg ⟨[.func (.func 124) ⟨[]⟩ ⟨[.pointer (some ⟨wb,0,none⟩)]⟩,.func (.func 125) ⟨[]⟩ ⟨[.pointer (some ⟨wb,0,none⟩)]⟩]⟩/\Own t wb [.pointer (some ⟨o,0,none⟩)] 1)
  (xPG ⟨((((New.row _ _ _).row').row').own (by show E.j<=E.j+2;omega)).own (by show E.j<=E.j+1;omega),E.re.j,rfl,((((zX E.re _ 1).row).row).own (by show E.j≠E.j+2;omega)).own (by show E.j≠E.j+1;omega)⟩) (by rintro w s s' ⟨wb,rfl,h⟩ hle;exact⟨wb,rfl,h.le hle⟩) (by rintro w s hr ⟨wb,rfl,_⟩;cases hr)
 exact⟨wb,E',h1,h2,h3⟩
theorem yPE(hP:PlP E o v L B K)(hD:OkD L B K)(hs6:yZ B<=6)(h0:0<x)(hx:x<2 ^ yZ B):∃wb E1 W ik,zW tP 85 [.pointer (some ⟨o,0,none⟩)] E (.agg ⟨[.func (.func 124) ⟨[]⟩ ⟨[.pointer (some ⟨wb,0,none⟩)]⟩,.func (.func 125) ⟨[]⟩ ⟨[.pointer (some ⟨wb,0,none⟩)]⟩]⟩) E1/\New E E1/\zW tP 37 [.pointer (some ⟨o,0,none⟩),.int .u16 (x:Int),.agg ⟨[.func (.func 124) ⟨[]⟩ ⟨[.pointer (some ⟨wb,0,none⟩)]⟩,.func (.func 125) ⟨[]⟩ ⟨[.pointer (some ⟨wb,0,none⟩)]⟩]⟩] E1 (.agg ⟨woL W⟩) ik/\New E1 ik /\
  zL E1.j [.pointer (some ⟨o,0,none⟩),.int .u16 (x:Int),.agg ⟨[.func (.func 124) ⟨[]⟩ ⟨[.pointer (some ⟨wb,0,none⟩)]⟩,.func (.func 125) ⟨[]⟩ ⟨[.pointer (some ⟨wb,0,none⟩)]⟩]⟩]/\WoP ik W (zKP (loF B) (hiF B) (wC B x)) (btw (zAA B K (loF B) (hiF B)) (wC B x))/\W.s=wJ L (loF B) (hiF B) (wC B x):=by
 obtain⟨wb,E1,k1,m1,ow⟩:=wGB (E:=E) (o:=o);have P1:=hP.le m1.le;have h64:2 ^ yZ B<=2 ^ 6:=Nat.pow_le_pow_right (by omega) hs6;obtain⟨W,ik,k2,m2,g1,g2⟩:=wPN P1 rfl hD.rows hD.blks hD.law hs6 (by omega) (yTP h0 hx) (xAL P1 hD ow);have wl:=ow.lt;refine⟨wb,E1,W,ik,k1,m1,k2,m2,zI (zR P1.own.lt) (zI rfl (zI ?_ zM)),g1,g2⟩
 have e:yQ RD E1.j (.pointer (some ⟨wb,0,none⟩))=true:=zR wl;have e7:Nat.blt wb E1.j=true:=(xY _ _).2 wl;show(((Nat.blt wb E1.j&&true))&&(((Nat.blt wb E1.j&&true))&&true))=true;rw[e7];rfl
theorem yUF(hP:PlP E o v L B K)(hs6:yZ B<=10):zW tP 29 [.pointer (some ⟨o,0,none⟩)] E (.int .u16 ((2 ^ yZ B-1:Nat):Int)) E:=by
 have P:=hP.le (le0 E);have hgl:=hP.gl;have lg:zJ tP E.re 139 (zO ⟨o,0,none⟩ 10)=some (.slice v.g v.gl v.gc):=by have:=P.own.ld (k:=10) rfl yVK rfl;simpa [zO] using this
 obtain⟨z,hz⟩:∃z,z=2 ^ yZ B:=⟨_,rfl⟩;have h1:2 ^ yZ B<=2 ^ 10:=Nat.pow_le_pow_right (by omega) hs6;have h2:=Nat.two_pow_pos (yZ B);rw[<- hz]at h1 h2;refine(xRD (z2:=(yZ B:Int)) (n3:=(z:Int)) (z4:=((z-1:Nat):Int)) lg (by rw[zVM];omega) (by rw[hz];exact xYT (by omega)) (by rw[zGG];show((z:Int)-1) % 65536=_;omega) ⟨by rw[<- hz],Nat.le_refl _⟩).pure
end
section
variable{W:Wo}{bg en:Pc->Int}
section
variable{E:St}{o x:Nat}{v:Pv}{L:Lw}{B:List (List Rl)}{K:List (List Int)}
theorem yGJ{n:Nat}{P R:List Int}{z:St}(h:WoP z W P R)(hn:z.j<=n):yQ RD n (.agg ⟨woL W⟩)=true:=by
 have kk:∀(p:Option Addr) (a b:Nat),(∀x,p=some x->x.block<z.j)->yQ 7 n (.slice p a b)=true:=λp a b hp=>by
  cases p with
  |none=>rfl
  |some x=>exact(xY _ _).2 (Nat.lt_of_lt_of_le (hp x rfl) hn)
 show(yQ 7 _ (.slice W.p W.pl W.pc)&&(yQ 7 _ (.slice W.b W.bl W.bc)&&(yQ 7 _ (.slice W.r W.rl W.rc)&&(true&&true))))=true;rw[kk _ _ _ (xW h.p),kk _ _ _ h.b,kk _ _ _ (xW h.r)];rfl
theorem xNZ{ys:List Pc}(h:∀y∈ys,(0<=bg y/\bg y<=3000)/\0<=en y/\en y<=3000):∀n∈zKP bg en ys, -100000<=n/\n<=100000:=by
 intro n hn;obtain⟨y,hy,rfl⟩:=List.mem_map.1 hn;have:=h y hy;omega
theorem wHK(hs6:yZ B<=6):(wC B x).length<=6:=by rw[zIB];exact Nat.le_trans zQA hs6
theorem wHJ(h0:0<x)(hx:x<2 ^ yZ B):wC B x≠[]:=by
 intro e;have h:=zIB (B:=B) (x:=x);rw[e]at h;exact yTP h0 hx (List.length_eq_zero_iff.1 h.symm)
theorem wAY(hs6:yZ B<=6)(h0:0<x)(hx:x<2 ^ yZ B)(hb:∀y∈wC B x,(0<=bg y/\bg y<=3000)/\0<=en y/\en y<=3000)(g1:WoP E W (zKP bg en (wC B x)) (btw (zAA B K bg en) (wC B x)))(g2:W.s=wJ L bg en (wC B x)) :
  zW tP 39 [.agg ⟨lwL L⟩,.agg ⟨woL W⟩] E (.bool (zFP L B K bg en (wC B x))) E:=by
 have l1:=yM.len g1.p;have l2:=yM.len g1.r;have l3:=wHK (x:=x) hs6;have l4:=yDH (W:=zAA B K bg en) (l:=wC B x);have l5:(zKP bg en (wC B x)).length=(wC B x).length:=by unfold zKP;simp
 have c:=xKD (L:=L) g1 (by intro e;have:=wHJ h0 hx;unfold zKP at e;exact this (List.map_eq_nil_iff.1 e)) (by omega) (by omega) (xNZ hb);rw[g2]at c;exact c
theorem wCZ(hP:PlP E o v L B K)(hD:OkD L B K)(hs6:yZ B<=6)(h0:0<x)(hx:x<2 ^ yZ B):zW tP 51 [.pointer (some ⟨o,0,none⟩),.int .u16 (x:Int)] E (.bool (uP L B K x)) E:=by
 obtain⟨wb,E1,W,ik,k1,m1,k2,m2,b1,g1,g2⟩:=yPE (E:=E.re) (hP.le (le0 E)) hD hs6 h0 hx;have tm:=(xAL (x:=x) (wb:=E.j) ((hP.le (le0 E)).le (Le.row _ _ _)) hD (zX E.re [.pointer (some ⟨o,0,none⟩)] 1)).bd;have ld:∀{z},Le E z->zJ tP z 42 ⟨o,0,none⟩=some (.agg ⟨lwL L⟩):=λh=>(hP.le h).own.ldN xEM yGW rfl rfl (by simp)
 have L1:=(le0 E).trans m1.le;have L2:=L1.trans m2.le;have ol:=hP.own.lt;exact(xGJ (ld (le0 E)) k1 k2 (wAY hs6 h0 hx tm g1 g2) b1 (zI rfl (zI (yGJ g1 (Nat.le_refl _)) zM)) ⟨⟨(hP.le L1).own.lt,rfl⟩,ld L1⟩ ⟨⟨(hP.le L2).own.lt,rfl⟩,ld L2⟩ ⟨rfl,(m1.trans m2).lw⟩ ol).pure
theorem wNN(hP:PlP E o v L B K)(hD:OkD L B K)(hs6:yZ B<=6)(h0:0<x)(hx:x<2 ^ yZ B):zW tP 52 [.pointer (some ⟨o,0,none⟩),.int .u16 (x:Int)] E (iV (zCP L B x)) E:=by
 obtain⟨wb,E1,W,ik,k1,m1,k2,m2,b1,g1,g2⟩:=yPE (E:=E.re) (hP.le (le0 E)) hD hs6 h0 hx;have ld:∀{z},Le E z->zJ tP z 3 (zO ⟨o,0,none⟩ 6)=some (iV L.l):=λh=>by have:=(hP.le h).own.ld (k:=6) rfl zU rfl;simpa [zO] using this
 have L1:=(le0 E).trans m1.le;have L2:=L1.trans m2.le;have ol:=hP.own.lt;have N:=m1.trans m2;have hi:yM (ik.row [iV W.s,iV L.l] 1) (some ⟨ik.j,0,none⟩) 2 [W.s,L.l]:=⟨⟨rfl,wB ik _ 1⟩,rfl,λv hv=>by
  obtain⟨n,_,rfl⟩:=List.mem_map.1 hv;exact vU n⟩
 have c:=zTC (c:=2) hi (by simp) (by omega);have e:xCG [W.s,L.l]=zCP L B x:=by unfold zCP;rw[<- g2];rfl
 rw[e]at c;have xr:ik.j<(ik.row [iV W.s,iV L.l] 1).j:=Nat.lt_succ_self _;exact(xXB k1 k2 (ld L2) c b1 (zI (zR (hP.le L2).own.lt) zM) (zI (xH λa e=>by cases e;exact xr) zM) (ld (le0 E)) ⟨⟨(hP.le L1).own.lt,rfl⟩,ld L1⟩ ⟨⟨(hP.le L2).own.lt,rfl⟩,ld L2⟩ ⟨rfl,(N.row').lw⟩ ol).pure
end
end
section
noncomputable section
variable(left:Int)(v0 v1 v2 v3:Addr)(BA BB BC:Nat)(n8 aH:Int)(p:Addr)(aT:Int)(q0:St->Prop)(Q:Int->St->Prop)(E:St)(Nx:Int->St->Prop)(q1:vPa)(Q0:St->Prop)
def yMY:Code:=(Code.part [1,1,1,1,0,1,0,0] (zV tP 28))
def zPP:lNa:=[(1,pq BA 0),(3,pq BB 0),(4,pq BC 0),(5,.func (.func 51) ⟨[pz p]⟩ ⟨[]⟩),(6,.int .u16 aT)]
def xHF:Alt:=⟨Int,.normal,λt=>zPP BA BB BC p t,λt=>[],λt E=>Q t E⟩
def yAV(BA BB BC:Nat)(p:Addr):lNa:=[(1,pq BA 0),(3,pq BB 0),(4,pq BC 0)]
def zNC:Alt:=⟨Unit,(.exit 0),λt=>yAV BA BB BC p,λt=>[],λt E=>q0 E⟩
def zXX:Prop:=yT tP (zZ tP) none yMY 31 (zPP BA BB BC p aT) [] [xHF BA BB BC p Nx,zNC BA BB BC p Q0] E
def yMZ:Prop:=yW tP (zZ tP) none yMY 31 (zPP BA BB BC p aT) [] [zNC BA BB BC p Q0] E
def yAW:Prop:=kZ (zZ tP) (zV tP 28) [1,1,1,1,0,1,0] (kFn tP 28 q1) (.exit 0) 31 (yAV BA BB BC p) E
def yXR:Code:=(Code.part [1,1,1,1,0,1,0,0] (zV tP 58))
def zTY:lNa:=[(0,.int .u16 left),(1,pz v0),(2,pz v1),(3,pz v2),(4,pz v3),(6,pq BA 0),(9,pq BB 0),(10,.int .u16 n8),(11,.int .u16 aH)]
def xRC:Alt:=⟨Int,.normal,λt=>zTY left v0 v1 v2 v3 BA BB n8 t,λt=>[],λt E=>Q t E⟩
def yES(left:Int)(v0 v1 v2 v3:Addr)(BA BB:Nat)(n8:Int):lNa:=[(0,.int .u16 left),(1,pz v0),(6,pq BA 0),(9,pq BB 0)]
def zSH:Alt:=⟨Unit,(.exit 0),λt=>yES left v0 v1 v2 v3 BA BB n8,λt=>[],λt E=>q0 E⟩
def zDH:Prop:=yT tP (zZ tP) none yXR 80 (zTY left v0 v1 v2 v3 BA BB n8 aH) [] [xRC left v0 v1 v2 v3 BA BB n8 Nx,zSH left v0 v1 v2 v3 BA BB n8 Q0] E
def yXS:Prop:=yW tP (zZ tP) none yXR 80 (zTY left v0 v1 v2 v3 BA BB n8 aH) [] [zSH left v0 v1 v2 v3 BA BB n8 Q0] E
def yET:Prop:=kZ (zZ tP) (zV tP 58) [1,1,1,1,0,1,0] (kFn tP 58 q1) (.exit 0) 80 (yES left v0 v1 v2 v3 BA BB n8) E
end
variable{BA BB BC mB mC m1 mA mD:Nat}{p aC aD v0 v1 v2 v3 aA:Addr}{Inv:Nat->Int->St->Prop}{Q0 P0:St->Prop}{aT nJ zB nLB nCB nDB nOB left n2 n3 n4 n8 aH nH zC nD nF nB nC nI nO nVB nP zD nHC zE nAC zF nQ zG zA z7 nB2 nBT nBC nCC nDC nBU:Int}{bD bH b5 bE bF bG:Bool}{EBA E E1 EV EB EBD EBE EU ESB:St}{Nx:Int->St->Prop}{Q:vPa}{fH:FuncId}{fH_c:lVa}
theorem ySC(hb:∀k aT E,Inv k aT E->zXX BA BB BC p aT E (NX1 Inv k) Q0):∀k aT E,Inv k aT E->yMZ BA BB BC p aT E Q0 :=
 xE (ai (wF 0) trivial) hb
theorem xHE(h1:LDz E 96 (qe BA 0) (pz aC))(h2:CPz 29 [pz aC] E (.int .u16 nJ))(h3:LDz E 144 (qe BC 0) (.map (some mB)))(h4:CPz 51 [pz p,.int .u16 aT] E (.bool bD))(h5:yN tP (evL [.map (some mB),.int .u16 aT,.bool bD]) E (.mapUpdate 144 (.tmp 0) (.tmp 1) (.tmp 2))=some (undef,EBA))(h6:zL E.j [.func (.func 51) ⟨[pz p]⟩ ⟨[]⟩,.int .u16 aT])(h7:zL E.j [.map (some mB),.int .u16 aT,.bool bD])(h8:vG .u16 (Int.add aT 1)=zB)(nx:Nx zB EBA)(u1:aT<=nJ:=by omega)(b_BC:BC<E.j:=by omega):zXX BA BB BC p aT E Nx Q0 :=
 eO 0 zB [.g,.l h1,.c h2,.b (xV u1),.l h3,.g3,.c h4,.e h5,.g,.p ((zI (zR b_BC) zM):zL E.j [pq BC 0]),.p h6,.p h7,.p (⟨⟨b_BC,rfl⟩,h3⟩:(zLq E 144 (qe BC 0) (.map (some mB)))),.p (⟨⟨b_BC,rfl⟩,h3⟩:(zLq E 144 (qe BC 0) (.map (some mB)))),.n h8,.g] nx
theorem xHD(h1:LDz E 96 (qe BA 0) (pz aC))(h2:CPz 29 [pz aC] E (.int .u16 nJ))(nx:Q0 E)(u1:¬aT<=nJ:=by omega):zXX BA BB BC p aT E Nx Q0 :=
 eO 1 () [.g,.l h1,.c h2,.b (xX u1)] nx
theorem xRV:let s1:=E1.row [.map none] 1;let s2:=s1.own E1.j [.map (some (E.j+1))] 1;let s3:=s2.add (.map []);let s4:=s3.row [.map none] 1;let s6:=some (E1.j+1);let s7:=E1.j+2;∀(h1:yN tP (evL [.map (some (E.j+1)),.int .u16 0,qf (bsc 0 0 0 true)]) ((E.row [pz p] 1).add (.map [])) (.insert 98 (.tmp 0) (.tmp 1) (.tmp 2))=some (undef,E1)) (h2:LDz (s4.own s7 [.map s6] 1) 96 (qe E.j 0) (pz p)) (hL:yMZ E.j E1.j s7 p 1 (s4.own s7 [.map s6] 1) P0) (k0:∀E',P0 E'->yAW E.j E1.j s7 p E' Q),zQ tP 28 [pz p] E Q:=
 let s1:=E1.row [.map none] 1;let s2:=s1.own E1.j [.map (some (E.j+1))] 1;let s3:=s2.add (.map []);let s4:=s3.row [.map none] 1;let s6:=some (E1.j+1);let s7:=E1.j+2;let s5:=zPP E.j E1.j s7 p 1;λh1 h2 hL k0=>let ch1:List Bs:=[.r [.map none] 1];eQ [.g4,.e h1,.g2,.s E1 ch1 0 0 wLW (.map (some (E.j+1))),.g2,.e ((zX _ _ _).store (vs:=[.map s6]) rfl wGT rfl (nle rfl) rfl:yN tP (evL [pq s7 0,.map s6]) s4 (.store 144 (.tmp 0) (.tmp 1))=some (undef,(s4.own s7 [.map s6] 1))),.l h2,.g3,.k (.lf 31 s5 [zNC E.j E1.j s7 p P0])] (ai (ai tt (ai (arf s5) hL)) (ai (kz0 k0) trivial))
theorem ySB:let s1:=E.row [.nilFunc] 1;let s2:=s1.own E.j [.func (.func 58) ⟨[]⟩ ⟨[pq BB 0,pq BC 0,pq E.j 0,pq BA 0]⟩] 1;∀(h1:LDz s2 96 (qe BA 0) (pz aD)) (h2:CPz 29 [pz aD] s2 (.int .u16 nLB)) (h3:CAz 58 [.int .u16 nLB,pq BB 0,pq BC 0,pq E.j 0,pq BA 0] s2 (qf (bsc nCB nDB nOB bH)) EV) (h4:zL s2.j [.func (.func 58) ⟨[]⟩ ⟨[pq BB 0,pq BC 0,pq E.j 0,pq BA 0]⟩,.int .u16 nLB]) (h5:LDz EV 98 (qe BB 0) (.map (some mC))) (nx:Q (.map (some mC)) EV) (b_BA:BA<E.j:=by omega) (b_aD_block:aD.block<E.j:=by omega),yAW BA BB BC p E Q:=
 let s1:=E.row [.nilFunc] 1;let s2:=s1.own E.j [.func (.func 58) ⟨[]⟩ ⟨[pq BB 0,pq BC 0,pq E.j 0,pq BA 0]⟩] 1;λh1 h2 h3 h4 h5 nx b_BA b_aD_block=>let ch1:List Bs:=[.r [.nilFunc] 1];let ch2:List Bs:=.o 0 [.func (.func 58) ⟨[]⟩ ⟨[pq BB 0,pq BC 0,pq E.j 0,pq BA 0]⟩] 1::ch1;eK [.g2,.s E ch1 0 0 wGS (.func (.func 58) ⟨[]⟩ ⟨[pq BB 0,pq BC 0,pq E.j 0,pq BA 0]⟩),.f E ch2 0 0 yVJ,.l h1,.c h2,.c h3,.q E ch2 0 0,.p ((zI (zR (vQ b_BA 1)) zM):zL s2.j [pq BA 0]),.p ((zI (zR (vQ b_aD_block 1)) zM):zL s2.j [pz aD]),.p h4,.u E ch2 0 0 yVJ,.u E ch2 0 0 yVJ,.l h5,.g] nx
theorem xXA:let y0:=bsc n2 n3 n4 b5;let y1:=E.row (bsc 0 0 0 false) 4;∀(h1:LDz y1 98 v0 (.map (some m1))) (h2:xJ tP (evL [.map (some m1),.int .u16 left]) y1 (.lookup 98 (.tmp 0) (.tmp 1) true)=some (.tuple ⟨[qf y0,.bool true]⟩)) (nx:Q (qf y0) (((y1.row (bsc 0 0 0 false) 4).own (E.j+1) y0 4).own E.j y0 4)),zQ tP 58 [.int .u16 left,pz v0,pz v1,pz v2,pz v3] E Q :=
 let s1:=E.row (bsc 0 0 0 false) 4;let s2:=s1.row (bsc 0 0 0 false) 4;let s3:=s2.own (E.j+1) (bsc n2 n3 n4 b5) 4;let s4:=s3.own E.j (bsc n2 n3 n4 b5) 4;let y0:=bsc n2 n3 n4 b5;λh1 h2 nx=>let ch1:List Bs:=[.r (bsc 0 0 0 false) 4,.r (bsc 0 0 0 false) 4];let ch2:List Bs:=.o 1 y0 4::ch1;eQ [.g,.l h1,.g,.v h2,.g4,.s E ch1 1 0 vY (qf y0),.g2,.F E ch2 1 0 yJN vY,.e (((zX _ _ _).row.own (nne E.j 0 1 rfl)).store (vs:=y0) rfl vY rfl (nle rfl) rfl:yN tP (evL [pq E.j 0,qf y0]) s3 (.store 106 (.tmp 0) (.tmp 1))=some (undef,s4)),.l (((zX _ _ _).row.own (nne E.j 0 1 rfl)).put.rw.ldN yJN vY (k:=0) rfl rfl (nle rfl):zJ tP s4 106 (qe E.j 0)=some (qf y0))] nx
theorem yXQ(hb:∀k aH E,Inv k aH E->zDH left v0 v1 v2 v3 BA BB n8 aH E (NX1 Inv k) Q0):∀k aH E,Inv k aH E->yXS left v0 v1 v2 v3 BA BB n8 aH E Q0 :=
 xE (ai (wF 0) trivial) hb
theorem xRB(h1:wW tP .and 101 (.tmp 33) (.tmp 34) (.int .u16 aH) (.int .u16 n8)=some (.int .u16 nH))(h2:vG .u16 (Int.sub aH 1)=zC)(h3:wW tP .and 101 (.tmp 30) (.tmp 31) (.int .u16 zC) (.int .u16 left)=some (.int .u16 nD))(nx:Nx nD E)(u1:0<aH:=by omega)(u2:nH=0:=by omega):zDH left v0 v1 v2 v3 BA BB n8 aH E Nx Q0 :=
 eO 0 nD [.g,.b (zT u1),.g2,.v h1,.b (wU u2),.g3,.n h2,.g,.v h3,.g] nx
@[reducible] def Ha9(aH n8 nH left nF nB nC nI nO:Int)(E EB:St)(v1 v2 v3 aA:Addr)(mA:Nat)(fH:FuncId)(fH_c:lVa):Prop:=wW tP .and 101 (.tmp 33) (.tmp 34) (.int .u16 aH) (.int .u16 n8)=some (.int .u16 nH)/\LDz E 144 v1 (.map (some mA))/\(xJ tP (evL [.map (some mA),.int .u16 aH]) E (.lookup 144 (.tmp 0) (.tmp 1) false)=some (.bool true))/\LDz E 145 v2 (.func (.func fH) ⟨[]⟩ ⟨fH_c⟩)/\wW tP .xor 101 (.tmp 44) (.tmp 45) (.int .u16 left) (.int .u16 aH)=some (.int .u16 nF)/\CAz fH (.int .u16 nF::fH_c) E (.agg ⟨bsc nB nC nI true⟩) EB/\LDz ((EB.row (bsc 0 0 0 false) 4).own EB.j (bsc nB nC nI true) 4) 96 v3 (.pointer (some aA))/\(CPz 52 [.pointer (some aA),.int .u16 aH] ((EB.row (bsc 0 0 0 false) 4).own EB.j (bsc nB nC nI true) 4) (iV nO))/\zL ((EB.row (bsc 0 0 0 false) 4).own EB.j (bsc nB nC nI true) 4).j [.pointer (some ⟨EB.j,1,none⟩)]/\zL ((EB.row (bsc 0 0 0 false) 4).own EB.j (bsc nB nC nI true) 4).j [.pointer (some ⟨EB.j,2,none⟩)]/\zL ((EB.row (bsc 0 0 0 false) 4).own EB.j (bsc nB nC nI true) 4).j [.pointer (some v3)]/\(zL ((EB.row (bsc 0 0 0 false) 4).own EB.j (bsc nB nC nI true) 4).j [.pointer (some aA),.int .u16 aH])/\(zL (((EB.row (bsc 0 0 0 false) 4).own EB.j (bsc nB nC nI true) 4).row [iV 0,iV 0] 2).j [.pointer (some ⟨(EB.j+1),0,none⟩),.agg ⟨[iV (nC+1),iV (nI+nO)]⟩])/\((zLq ((EB.row (bsc 0 0 0 false) 4).own EB.j (bsc nB nC nI true) 4) 3 ⟨EB.j,1,none⟩ (iV nC)))/\((zLq (((EB.row (bsc 0 0 0 false) 4).own EB.j (bsc nB nC nI true) 4).row [iV 0,iV 0] 2) 3 ⟨EB.j,1,none⟩ (iV nC)))/\((zLq ((EB.row (bsc 0 0 0 false) 4).own EB.j (bsc nB nC nI true) 4) 3 ⟨EB.j,2,none⟩ (iV nI)))/\((zLq (((EB.row (bsc 0 0 0 false) 4).own EB.j (bsc nB nC nI true) 4).row [iV 0,iV 0] 2) 3 ⟨EB.j,2,none⟩ (iV nI)))/\((zLq ((EB.row (bsc 0 0 0 false) 4).own EB.j (bsc nB nC nI true) 4) 96 v3 (.pointer (some aA))))/\((zLq (((EB.row (bsc 0 0 0 false) 4).own EB.j (bsc nB nC nI true) 4).row [iV 0,iV 0] 2) 96 v3 (.pointer (some aA))))
theorem xRA:let Y1:=EB.row (bsc 0 0 0 false) 4;let Y2:=Y1.own EB.j (bsc nB nC nI true) 4;let Y3:=Y2.row [iV 0,iV 0] 2;let Y4:=Y3.own (EB.j+1) [iV (nC+1),iV (nI+nO)] 2;∀(H:Ha9 aH n8 nH left nF nB nC nI nO E EB v1 v2 v3 aA mA fH fH_c) (h20:LDz Y4 4 (qe BB 3) (.bool true)) (h21:LDz Y4 104 (qe BB 1) (qf [iV nVB,iV nP])) (h22:CPz 59 [qf [iV (nC+1),iV (nI+nO)],qf [iV nVB,iV nP]] Y4 (.bool true)) (h23:SOz Y4 106 (qe BB 0) (qf (bsc aH (nC+1) (nI+nO) true)) EBD) (h24:vG .u16 (Int.sub aH 1)=zD) (h25:wW tP .and 101 (.tmp 30) (.tmp 31) (.int .u16 zD) (.int .u16 left)=some (.int .u16 nHC)) (nx:Nx nHC EBD) (u1:0<aH:=by omega) (u2:¬nH=0:=by omega) (u3:I6 (nC+1):=by omega) (u4:I6 (nI+nO):=by omega),zDH left v0 v1 v2 v3 BA BB n8 aH E Nx Q0:=
 λH h20 h21 h22 h23 h24 h25 nx u1 u2 u3 u4=>match H with|⟨h1,h2,h3,h4,h5,h6,h7,h8,h9,h10,h11,h12,h13,h14,h15,h16,h17,h18,h19⟩=>let s1:=nI+nO;let s2:=nC+1;let ch1:List Bs:=[.r (bsc 0 0 0 false) 4];let ch2:List Bs:=.o 0 (bsc nB nC nI true) 4::ch1;let ch3:List Bs:=.r [iV 0,iV 0] 2::ch2;let ch4:List Bs:=.o 1 [iV s2,iV s1] 2::ch3;eO 0 nHC [.g,.b (zT u1),.g2,.v h1,.b (wG u2),.g,.l h2,.g,.v h3,.g2,.l h4,.g2,.v h5,.c h6,.g,.s EB ch1 0 0 vY (qf (bsc nB nC nI true)),.g2,.f EB ch2 0 1 zU,.w u3,.g2,.f EB ch2 0 2 zU,.l h7,.g,.c h8,.w u4,.g2,.s EB ch3 1 0 zEC (qf [iV s2,iV s1]),.g,.p h9,.p h10,.p h11,.p h12,.p h13,.p h14,.p h14,.p h14,.p h15,.p h16,.p h16,.p h16,.p h17,.p h18,.p h19,.l (((zX _ _ _).put.row.own (nne EB.j 0 1 rfl)).rw.ld zXI (k:=3) rfl:zJ tP ((((EB.row (bsc 0 0 0 false) 4).own EB.j (bsc nB nC nI true) 4).row [iV 0,iV 0] 2).own (EB.j+1) [iV s2,iV s1] 2) 4 (qe EB.j 3)=some (.bool true)),.g2,.l h20,.g2,.F EB ch4 1 0 yJO zEC,.g,.l h21,.c h22,.g3,.F EB ch4 1 0 yJO zEC,.g,.e h23,.g,.n h24,.g,.v h25,.g] nx
theorem xQZ:let Y1:=EB.row (bsc 0 0 0 false) 4;let Y2:=Y1.own EB.j (bsc nB nC nI true) 4;let Y3:=Y2.row [iV 0,iV 0] 2;let Y4:=Y3.own (EB.j+1) [iV (nC+1),iV (nI+nO)] 2;∀(H:Ha9 aH n8 nH left nF nB nC nI nO E EB v1 v2 v3 aA mA fH fH_c) (h20:LDz Y4 4 (qe BB 3) (.bool true)) (h21:LDz Y4 104 (qe BB 1) (qf [iV nVB,iV nP])) (h22:CPz 59 [qf [iV (nC+1),iV (nI+nO)],qf [iV nVB,iV nP]] Y4 (.bool false)) (h23:vG .u16 (Int.sub aH 1)=zE) (h24:wW tP .and 101 (.tmp 30) (.tmp 31) (.int .u16 zE) (.int .u16 left)=some (.int .u16 nAC)) (nx:Nx nAC Y4) (u1:0<aH:=by omega) (u2:¬nH=0:=by omega) (u3:I6 (nC+1):=by omega) (u4:I6 (nI+nO):=by omega),zDH left v0 v1 v2 v3 BA BB n8 aH E Nx Q0:=
 λH h20 h21 h22 h23 h24 nx u1 u2 u3 u4=>match H with|⟨h1,h2,h3,h4,h5,h6,h7,h8,h9,h10,h11,h12,h13,h14,h15,h16,h17,h18,h19⟩=>let s1:=nI+nO;let s2:=nC+1;let ch1:List Bs:=[.r (bsc 0 0 0 false) 4];let ch2:List Bs:=.o 0 (bsc nB nC nI true) 4::ch1;let ch3:List Bs:=.r [iV 0,iV 0] 2::ch2;let ch4:List Bs:=.o 1 [iV s2,iV s1] 2::ch3;eO 0 nAC [.g,.b (zT u1),.g2,.v h1,.b (wG u2),.g,.l h2,.g,.v h3,.g2,.l h4,.g2,.v h5,.c h6,.g,.s EB ch1 0 0 vY (qf (bsc nB nC nI true)),.g2,.f EB ch2 0 1 zU,.w u3,.g2,.f EB ch2 0 2 zU,.l h7,.g,.c h8,.w u4,.g2,.s EB ch3 1 0 zEC (qf [iV s2,iV s1]),.g,.p h9,.p h10,.p h11,.p h12,.p h13,.p h14,.p h14,.p h14,.p h15,.p h16,.p h16,.p h16,.p h17,.p h18,.p h19,.l (((zX _ _ _).put.row.own (nne EB.j 0 1 rfl)).rw.ld zXI (k:=3) rfl:zJ tP ((((EB.row (bsc 0 0 0 false) 4).own EB.j (bsc nB nC nI true) 4).row [iV 0,iV 0] 2).own (EB.j+1) [iV s2,iV s1] 2) 4 (qe EB.j 3)=some (.bool true)),.g2,.l h20,.g2,.F EB ch4 1 0 yJO zEC,.g,.l h21,.c h22,.g3,.n h23,.g,.v h24,.g] nx
theorem xQY:let y0:=(((EB.row (bsc 0 0 0 false) 4).own EB.j (bsc nB nC nI true) 4).row [iV 0,iV 0] 2).own (EB.j+1) [iV (nC+1),iV (nI+nO)] 2;∀(H:Ha9 aH n8 nH left nF nB nC nI nO E EB v1 v2 v3 aA mA fH fH_c) (h20:LDz y0 4 (qe BB 3) (.bool false)) (h21:SOz y0 106 (qe BB 0) (qf (bsc aH (nC+1) (nI+nO) true)) EBE) (h22:vG .u16 (Int.sub aH 1)=zF) (h23:wW tP .and 101 (.tmp 30) (.tmp 31) (.int .u16 zF) (.int .u16 left)=some (.int .u16 nQ)) (nx:Nx nQ EBE) (u1:0<aH:=by omega) (u2:¬nH=0:=by omega) (u3:I6 (nC+1):=by omega) (u4:I6 (nI+nO):=by omega),zDH left v0 v1 v2 v3 BA BB n8 aH E Nx Q0 :=
 λH h20 h21 h22 h23 nx u1 u2 u3 u4=>match H with|⟨h1,h2,h3,h4,h5,h6,h7,h8,h9,h10,h11,h12,h13,h14,h15,h16,h17,h18,h19⟩=>let s1:=nI+nO;let s2:=nC+1;let ch1:List Bs:=[.r (bsc 0 0 0 false) 4];let ch2:List Bs:=.o 0 (bsc nB nC nI true) 4::ch1;let ch3:List Bs:=.r [iV 0,iV 0] 2::ch2;let ch4:List Bs:=.o 1 [iV s2,iV s1] 2::ch3;eO 0 nQ [.g,.b (zT u1),.g2,.v h1,.b (wG u2),.g,.l h2,.g,.v h3,.g2,.l h4,.g2,.v h5,.c h6,.g,.s EB ch1 0 0 vY (qf (bsc nB nC nI true)),.g2,.f EB ch2 0 1 zU,.w u3,.g2,.f EB ch2 0 2 zU,.l h7,.g,.c h8,.w u4,.g2,.s EB ch3 1 0 zEC (qf [iV s2,iV s1]),.g,.p h9,.p h10,.p h11,.p h12,.p h13,.p h14,.p h14,.p h14,.p h15,.p h16,.p h16,.p h16,.p h17,.p h18,.p h19,.l (((zX _ _ _).put.row.own (nne EB.j 0 1 rfl)).rw.ld zXI (k:=3) rfl:zJ tP ((((EB.row (bsc 0 0 0 false) 4).own EB.j (bsc nB nC nI true) 4).row [iV 0,iV 0] 2).own (EB.j+1) [iV s2,iV s1] 2) 4 (qe EB.j 3)=some (.bool true)),.g2,.l h20,.g5,.F EB ch4 1 0 yJO zEC,.g,.e h21,.g,.n h22,.g,.v h23,.g] nx
theorem xQX:let Y1:=EB.row (bsc 0 0 0 false) 4;let Y2:=Y1.own EB.j (bsc nB nC nI false) 4;let Y3:=Y2.row [iV 0,iV 0] 2;∀(h1:wW tP .and 101 (.tmp 33) (.tmp 34) (.int .u16 aH) (.int .u16 n8)=some (.int .u16 nH)) (h2:LDz E 144 v1 (.map (some mA))) (h3:xJ tP (evL [.map (some mA),.int .u16 aH]) E (.lookup 144 (.tmp 0) (.tmp 1) false)=some (.bool true)) (h4:LDz E 145 v2 (.func (.func fH) ⟨[]⟩ ⟨fH_c⟩)) (h5:wW tP .xor 101 (.tmp 44) (.tmp 45) (.int .u16 left) (.int .u16 aH)=some (.int .u16 nF)) (h6:CAz fH (.int .u16 nF::fH_c) E (qf (bsc nB nC nI false)) EB) (h7:LDz Y2 96 v3 (pz aA)) (h8:CPz 52 [pz aA,.int .u16 aH] Y2 (iV nO)) (h9:zL Y2.j [pq EB.j 1]) (h10:zL Y2.j [pq EB.j 2]) (h11:zL Y2.j [pz v3]) (h12:zL Y2.j [pz aA,.int .u16 aH]) (h13:zL Y3.j [pq ((EB.j+1)) 0,qf [iV (nC+1),iV (nI+nO)]]) (h14:(zLq Y2 3 (qe EB.j 1) (iV nC))) (h15:(zLq Y3 3 (qe EB.j 1) (iV nC))) (h16:(zLq Y2 3 (qe EB.j 2) (iV nI))) (h17:(zLq Y3 3 (qe EB.j 2) (iV nI))) (h18:(zLq Y2 96 v3 (pz aA))) (h19:(zLq Y3 96 v3 (pz aA))) (h20:vG .u16 (Int.sub aH 1)=zG) (h21:wW tP .and 101 (.tmp 30) (.tmp 31) (.int .u16 zG) (.int .u16 left)=some (.int .u16 nVB)) (nx:Nx nVB (Y3.own (EB.j+1) [iV (nC+1),iV (nI+nO)] 2)) (u1:0<aH:=by omega) (u2:¬nH=0:=by omega) (u3:I6 (nC+1):=by omega) (u4:I6 (nI+nO):=by omega),zDH left v0 v1 v2 v3 BA BB n8 aH E Nx Q0:=
 λh1 h2 h3 h4 h5 h6 h7 h8 h9 h10 h11 h12 h13 h14 h15 h16 h17 h18 h19 h20 h21 nx u1 u2 u3 u4=>let ch1:List Bs:=[.r (bsc 0 0 0 false) 4];let ch2:List Bs:=.o 0 (bsc nB nC nI false) 4::ch1;let ch3:List Bs:=.r [iV 0,iV 0] 2::ch2;eO 0 nVB [.g,.b (zT u1),.g2,.v h1,.b (wG u2),.g,.l h2,.g,.v h3,.g2,.l h4,.g2,.v h5,.c h6,.g,.s EB ch1 0 0 vY (qf (bsc nB nC nI false)),.g2,.f EB ch2 0 1 zU,.w u3,.g2,.f EB ch2 0 2 zU,.l h7,.g,.c h8,.w u4,.g2,.s EB ch3 1 0 zEC (qf [iV (nC+1),iV (nI+nO)]),.g,.p h9,.p h10,.p h11,.p h12,.p h13,.p h14,.p h14,.p h14,.p h15,.p h16,.p h16,.p h16,.p h17,.p h18,.p h19,.l (((zX _ _ _).put.row.own (nne EB.j 0 1 rfl)).rw.ld zXI (k:=3) rfl:zJ tP ((((EB.row (bsc 0 0 0 false) 4).own EB.j (bsc nB nC nI false) 4).row [iV 0,iV 0] 2).own (EB.j+1) [iV (nC+1),iV (nI+nO)] 2) 4 (qe EB.j 3)=some (.bool false)),.g3,.n h20,.g,.v h21,.g] nx
theorem xQW(h1:wW tP .and 101 (.tmp 33) (.tmp 34) (.int .u16 aH) (.int .u16 n8)=some (.int .u16 nH))(h2:LDz E 144 v1 (.map (some mA)))(h3:xJ tP (evL [.map (some mA),.int .u16 aH]) E (.lookup 144 (.tmp 0) (.tmp 1) false)=some (.bool false))(h4:vG .u16 (Int.sub aH 1)=zA)(h5:wW tP .and 101 (.tmp 30) (.tmp 31) (.int .u16 zA) (.int .u16 left)=some (.int .u16 nF))(nx:Nx nF E)(u1:0<aH:=by omega)(u2:¬nH=0:=by omega):zDH left v0 v1 v2 v3 BA BB n8 aH E Nx Q0 :=
 eO 0 nF [.g,.b (zT u1),.g2,.v h1,.b (wG u2),.g,.l h2,.g,.v h3,.g3,.n h4,.g,.v h5,.g] nx
theorem xQV(nx:Q0 E)(u1:¬0<aH:=by omega):zDH left v0 v1 v2 v3 BA BB n8 aH E Nx Q0 :=
 eO 1 () [.g,.b (zY u1)] nx
theorem xWZ:let Y1:=E.row (bsc 0 0 0 false) 4;∀(h1:LDz Y1 98 v0 (.map (some m1))) (h2:xJ tP (evL [.map (some m1),.int .u16 left]) Y1 (.lookup 98 (.tmp 0) (.tmp 1) true)=some (.tuple ⟨[qf (bsc n2 n3 n4 b5),.bool false]⟩)) (h3:vG .u16 (Int.sub 0 left)=z7) (h4:wW tP .and 101 (.tmp 22) (.tmp 24) (.int .u16 left) (.int .u16 z7)=some (.int .u16 n8)) (hL:yXS left v0 v1 v2 v3 E.j (E.j+2) n8 left (((Y1.row (bsc 0 0 0 false) 4).own (E.j+1) (bsc n2 n3 n4 b5) 4).row (bsc 0 0 0 false) 4) P0) (k0:∀E',P0 E'->yET left v0 v1 v2 v3 E.j (E.j+2) n8 E' Q),zQ tP 58 [.int .u16 left,pz v0,pz v1,pz v2,pz v3] E Q:=
 let s1:=zTY left v0 v1 v2 v3 E.j (E.j+2) n8 left;λh1 h2 h3 h4 hL k0=>let ch1:List Bs:=[.r (bsc 0 0 0 false) 4,.r (bsc 0 0 0 false) 4];eQ [.g,.l h1,.g,.v h2,.g4,.s E ch1 1 0 vY (qf (bsc n2 n3 n4 b5)),.g5,.n h3,.v h4,.g3,.k (.lf 80 s1 [zSH left v0 v1 v2 v3 E.j (E.j+2) n8 P0])] (ai (ai tt (ai (arf s1) hL)) (ai (kz0 k0) trivial))
theorem yXP:let y0:=qf (bsc nB2 nBT nBC bF);let y1:=qf (bsc nCC nDC nBU bG);let y2:=bsc nLB nCB nDB bE;∀(h1:LDz E 98 v0 (.map (some mD))) (h2:LDz E 106 (qe BB 0) (qf y2)) (h3:yN tP (evL [.map (some mD),.int .u16 left,qf y2]) E (.mapUpdate 98 (.tmp 0) (.tmp 1) (.tmp 2))=some (undef,EU)) (h4:LDz EU 106 (qe BB 0) y0) (h5:SOz EU 106 (qe BA 0) y0 ESB) (h6:LDz ESB 106 (qe BA 0) y1) (nx:Q y1 ESB),yET left v0 v1 v2 v3 BA BB n8 E Q :=
 λh1 h2 h3 h4 h5 h6 nx=>eK [.l h1,.g,.l h2,.e h3,.l h4,.e h5,.l h6] nx
end
structure Bn where
 x:Int
 c:Int
 y:Int
 ok:Bool
abbrev bnV(b:Bn):Value:=.agg ⟨bsc b.x b.c b.y b.ok⟩
abbrev zWT(k:Nat):Value:=.int .u16 (k:Int)
theorem zDO:KeyT tP 101 zWT:=by
 refine⟨λa b=>?_,λe a=>?_,λa=>?_⟩
 .have h:∀a b:Int,yL tP (Op.equal 101 (.int .u16 a) (.int .u16 b))=some (decide (a=b)):=λa b=>by kernel_rfl
  rw[h];congr 1;exact decide_eq_decide.2 (by omega)
 .have h:∀(e:Bool) (a:Int),zIF tP e 101 (.int .u16 a)=true:=λe a=>by kernel_rfl
  exact h e a
 .simp[Instr.sameBits]
theorem xTU:zCH tP 98=some (101,106):=by kernel_rfl
theorem wPF:zCH tP 144=some (101,4):=by kernel_rfl
theorem wKM:∀k:Fin 64,∀x:Fin 64,x.1 &&& k.1=x.1->k.1 ^^^ x.1=k.1-x.1:=by decide +kernel
theorem wPR:∀k:Fin 64,∀x:Fin 64,(x.1 &&& k.1) &&& k.1=x.1 &&& k.1/\x.1 &&& k.1<=x.1:=by decide +kernel
def xEV(L:Lw)(B:List (List Rl))(K:List (List Int))(F:Nat->Option Bn)(k:Nat)(b:Bn):Prop :=
 (0<=b.c/\b.c<=k)/\(0<=b.y/\b.y<=10000*k)/\(b.ok=true->(k=0/\b.y=0)\/∃(x:Nat) (r:Bn),b.x=x/\0<x/\x &&& k=x/\uP L B K x=true/\F (k-x)=some r/\r.ok=true/\b.y=r.y+zCP L B x)
def zRU(L:Lw)(B:List (List Rl))(K:List (List Int))(F:Nat->Option Bn):Prop:=∀k b,F k=some b->xEV L B K F k b
def yVN(F G:Nat->Option Bn):Prop:=∀k b,F k=some b->G k=some b
section
variable{L:Lw}{B:List (List Rl)}{K:List (List Int)}{F G:Nat->Option Bn}{k x:Nat}{b:Bn}
theorem xEV.mono(h:xEV L B K F k b)(s:yVN F G):xEV L B K G k b:=⟨h.1,h.2.1,λe=>(h.2.2 e).imp id λ⟨x,r,a1,a2,a3,a4,a5,a6⟩=>⟨x,r,a1,a2,a3,a4,s _ _ a5,a6⟩⟩
theorem yVN.put(hk:F k=none):yVN F (λk'=>if k'=k then some b else F k'):=λk' b' h=>by
 show(if k'=k then some b else F k')=_;rw[if_neg (λe=>by subst e;rw[hk]at h;cases h)];exact h
theorem zRU.put(h:zRU L B K F)(hk:F k=none)(hb:xEV L B K F k b):zRU L B K (λk'=>if k'=k then some b else F k'):=by
 intro k' b' h';have h':(if k'=k then some b else F k')=some b':=h';by_cases e:k'=k
 .subst e;rw[if_pos rfl]at h';cases h'
  exact hb.mono (yVN.put hk)
 .rw[if_neg e]at h';exact(h k' b' h').mono (yVN.put hk)
theorem xZY(hD:OkD L B K)(hs6:yZ B<=6)(h0:0<x)(hx:x<2 ^ yZ B):0<=zCP L B x/\zCP L B x<=9000:=by
 have hl:=hD.law.l;have hf:=hD.law.f;have ho:=hD.law.o;unfold okM at hl hf ho;have hsp:wJ L (loF B) (hiF B) (wC B x)<=9000:=by
  unfold wJ;split
  .rename_i a b h1 h2;have ha:a∈wC B x:=List.mem_of_head? h1;have hb:b∈wC B x:=List.mem_of_getLast? h2;obtain⟨i,p,e,n,rfl,g1,g2,g3,g4⟩:=zGJ (by omega) a ha;obtain⟨j,q,e',n',rfl,k1,k2,k3,k4⟩:=zGJ (by omega) b hb;have r1:=zBX hD.blks g1 (by omega:p<_);have r2:=zBX hD.blks k1 k3;obtain⟨_,_,r3,r4,r5⟩:=r1;obtain⟨_,_,r6,r7,r8⟩:=r2;show(vJ B j e').hi+L.f-(vJ B i p).lo+L.o<=9000;omega
  .omega
 unfold zCP;omega
end
structure FdI(E0:St)(kb km lb lm fbx pb o:Nat)(v:Pv)(L:Lw)(B:List (List Rl))(K:List (List Int))(F:Nat->Option Bn)(E:St):Prop where
 k:Own E kb [.map (some km)] 1
 l:Own E lb [.map (some lm)] 1
 f:Own E fbx [.func (.func 58) ⟨[]⟩ ⟨[.pointer (some ⟨kb,0,none⟩),.pointer (some ⟨lb,0,none⟩),.pointer (some ⟨fbx,0,none⟩),.pointer (some ⟨pb,0,none⟩)]⟩] 1
 p:Own E pb [.pointer (some ⟨o,0,none⟩)] 1
 mp:zAR tP E km zWT bnV F
 ml:zAR tP E lm zWT (λb=>.bool b) (λx=>if 0<x/\x<2 ^ yZ B then some (uP L B K x)else none)
 le:Le E0 E
 pl:PlP E0 o v L B K
 ge:E0.j<=km
 ne:km≠kb/\km≠lb/\km≠fbx/\km≠pb/\km≠lm
section
variable{E0 E O:St}{kb km lb lm fbx pb o:Nat}{v:Pv}{L:Lw}{B:List (List Rl)}{K:List (List Int)}{F G:Nat->Option Bn}
theorem FdI.le'(h:FdI E0 kb km lb lm fbx pb o v L B K F E)(k:Le E O):FdI E0 kb km lb lm fbx pb o v L B K F O:=⟨h.k.le k,h.l.le k,h.f.le k,h.p.le k,h.mp.le k,h.ml.le k,h.le.trans k,h.pl,h.ge,h.ne⟩
theorem FdI.put(h:FdI E0 kb km lb lm fbx pb o v L B K F E){es:List (Value×Value)}(m:zAR tP (E.put km (.map es)) km zWT bnV G):FdI E0 kb km lb lm fbx pb o v L B K G (E.put km (.map es)):=by
 have k:Only (·=km) E (E.put km (.map es)):=Only.put (.inr rfl);obtain⟨n1,n2,n3,n4,n5⟩:=h.ne;exact⟨k.own' h.k n1.symm,k.own' h.l n2.symm,k.own' h.f n3.symm,k.own' h.p n4.symm,m,h.ml.at_ (k.get _ h.ml.1 n5.symm) k.j,zFQ k h.le λb e=>by subst e;exact h.ge,h.pl,h.ge,h.ne⟩
theorem FdI.own(h:FdI E0 kb km lb lm fbx pb o v L B K F E){b n:Nat}{cs:List Value}(hb:kb<b/\lb<b/\fbx<b/\pb<b/\km<b/\lm<b)(h0:E0.j<=b):FdI E0 kb km lb lm fbx pb o v L B K F (E.own b cs n):=by
 have k:Only (·=b) E (E.own b cs n):=Only.own (.inr rfl);obtain⟨n1,n2,n3,n4,n5,n6⟩:=hb;exact⟨k.own' h.k (by omega),k.own' h.l (by omega),k.own' h.f (by omega),k.own' h.p (by omega),h.mp.at_ (k.get _ h.mp.1 (by omega)) k.j,h.ml.at_ (k.get _ h.ml.1 (by omega)) k.j,zFQ k h.le λc e=>by subst e;exact h0,h.pl,h.ge,h.ne⟩
theorem wND{a b c d:Int}:∃t,zW tP 59 [.agg ⟨[iV a,iV b]⟩,.agg ⟨[iV c,iV d]⟩] E (.bool t) E:=by
 have N:New E.re ((E.re.row [iV a,iV b] 2).row [iV c,iV d] 2):=(New.row _ _ _).row';by_cases h1:a<c
 .exact⟨_,(xRU ⟨rfl,N.lw⟩).pure⟩
 by_cases h2:a=c
 .by_cases h3:b<d
  .exact⟨_,(xRT ⟨rfl,N.lw⟩).pure⟩
  .exact⟨_,(xRS ⟨rfl,N.lw⟩).pure⟩
 .exact⟨_,(xRR ⟨rfl,N.lw⟩).pure⟩
end
section
variable{E0:St}{kb km lb lm fbx pb o:Nat}{v:Pv}{L:Lw}{B:List (List Rl)}{K:List (List Int)}
structure FdJ(E0:St)(kb km lb lm fbx pb o:Nat)(v:Pv)(L:Lw)(B:List (List Rl))(K:List (List Int))(E:St)(F:Nat->Option Bn)(left:Nat)(O:St):Prop where
 ex:∃(G:Nat->Option Bn) (out:Bn),FdI E0 kb km lb lm fbx pb o v L B K G O/\zRU L B K G/\yVN F G/\xEV L B K G left out/\(∀k,left<=k->G k=F k)/\Own O (E.j+2) (bsc out.x out.c out.y out.ok) 4
 own:Own O E.j (bsc 0 0 0 false) 4
 only:Only (·=km) E.re O
 nx:E.j+3<=O.j
theorem wNK(hD:OkD L B K)(hs6:yZ B<=6):∀(m left:Nat),left<m->left<2 ^ yZ B->∀{E:St} {F:Nat->Option Bn},FdI E0 kb km lb lm fbx pb o v L B K F E->zRU L B K F ->
  ∃(b:Bn) (G:Nat->Option Bn) (E':St),zW tP 58 [zWT left,.pointer (some ⟨kb,0,none⟩),.pointer (some ⟨lb,0,none⟩),.pointer (some ⟨fbx,0,none⟩),.pointer (some ⟨pb,0,none⟩)] E (bnV b) E'/\Only (·=km) E E'/\FdI E0 kb km lb lm fbx pb o v L B K G E'/\zRU L B K G/\yVN F G/\G left=some b/\∀k,left<k->G k=F k:=by
 have h64:2 ^ yZ B<=2 ^ 6:=Nat.pow_le_pow_right (by omega) hs6;have hz:uO tP 106=some (.agg ⟨bsc 0 0 0 false⟩):=by kernel_rfl
 have hzb:uO tP 4=some (.bool false):=by kernel_rfl
 intro m;induction m with
 |zero=>intro left hm;omega
 |succ m ih =>
 intro left hm hlt E F hI hG;have hkm:=hI.mp.1;have kl:=hI.k.lt;have fl:=hI.f.lt;have pl:=hI.p.lt;have ll:=hI.l.lt;have lml:=hI.ml.1;have h0n:=hI.le.j;obtain⟨s1,hs1⟩:∃s1,s1=E.re.row (bsc 0 0 0 false) 4:=⟨_,rfl⟩;have N1:New E.re s1:=by rw[hs1];exact New.row _ _ _
 have n1:s1.j=E.j+1:=by rw[hs1];rfl
 have o1:Own s1 E.j (bsc 0 0 0 false) 4:=by rw[hs1];exact zX E.re _ _
 have I1:=hI.le' ((le0 E).trans N1.le);have lk:∀{z:St} {G:Nat->Option Bn},FdI E0 kb km lb lm fbx pb o v L B K G z->zJ tP z 98 ⟨kb,0,none⟩=some (.map (some km)):=λh=>h.k.ld rfl wLC rfl
 cases hF:F left with
 |some b =>
  exact⟨b,F,E,(xXA (by rw[<- hs1];exact lk I1) (by rw[<- hs1];exact I1.mp.look1 zDO xTU hz hF) ⟨rfl,by
   have N2:New E.re (((s1.row (bsc 0 0 0 false) 4).own (E.j+1) (bsc b.x b.c b.y b.ok) 4).own E.j (bsc b.x b.c b.y b.ok) 4):=((N1.row').own (by show E.j<=E.j+1;omega)).own (Nat.le_refl _);rw[hs1]at N2;exact N2.lw⟩).pure,Only.refl _ _,hI,hG,λ_ _ h=>h,hF,λ_ _=>rfl⟩
 |none =>
 obtain⟨zz,hzz⟩:∃zz:Nat,zz=(65536-left) % 65536:=⟨_,rfl⟩;obtain⟨s2,hs2⟩:∃s2,s2=((s1.row (bsc 0 0 0 false) 4).own (E.j+1) (bsc 0 0 0 false) 4).row (bsc 0 0 0 false) 4:=⟨_,rfl⟩;have N2:New E.re s2:=by rw[hs2];exact((N1.row').own (by show E.j<=E.j+1;omega)).row'
 have I2:=hI.le' ((le0 E).trans N2.le);have n2:s2.j=E.j+3:=by rw[hs2];show s1.j+2=_;omega
 have J2:FdJ E0 kb km lb lm fbx pb o v L B K E F left s2:=⟨⟨F,⟨0,0,0,false⟩,I2,hG,λ_ _ h=>h,⟨⟨Int.le_refl _,by show(0:Int)<=(left:Int);omega⟩,⟨Int.le_refl _,by show(0:Int)<=10000*(left:Int);omega⟩,λe=>by cases e⟩,λ_ _=>rfl,by
  rw[hs2];have h:=zX ((s1.row (bsc 0 0 0 false) 4).own (E.j+1) (bsc 0 0 0 false) 4) (bsc 0 0 0 false) 4;rwa [show((s1.row (bsc 0 0 0 false) 4).own (E.j+1) (bsc 0 0 0 false) 4).j=E.j+2 from by show s1.j+1=_;omega]at h⟩,by rw[hs2];exact((o1.row).own (by omega)).row,N2.only,by omega⟩
 obtain⟨w,E',g1,g2,b,G,rfl,g3,g4,g5,g6,g7⟩:=wHS (E:=E) (f:=58) (args:=[zWT left,.pointer (some ⟨kb,0,none⟩),.pointer (some ⟨lb,0,none⟩),.pointer (some ⟨fbx,0,none⟩),.pointer (some ⟨pb,0,none⟩)]) (S:=(·=km))
  (Q:=λw t=>∃b G,w=bnV b/\FdI E0 kb km lb lm fbx pb o v L B K G t/\zRU L B K G/\yVN F G/\G left=some b/\∀k,left<k->G k=F k) (by
  refine xWZ (n8:=((left &&& zz:Nat):Int)) (z7:=(zz:Int)) (P0:=λO=>FdJ E0 kb km lb lm fbx pb o v L B K E F left O) (by rw[<- hs1];exact lk I1) (by rw[<- hs1];exact I1.mp.look0 zDO xTU hz hF) (by rw[zGG,hzz];show(0-(left:Int)) % 65536=_;omega) (xOZ (by omega) (by omega))
   (by
    rw[<- hs1,<- show E.j=E.re.j from rfl,<- hs2];refine yXQ (Inv:=λk i O=>∃x:Nat,i=x/\x<=k/\x &&& left=x/\FdJ E0 kb km lb lm fbx pb o v L B K E F left O) ?_ left (left:Int) s2 ⟨left,rfl,Nat.le_refl _,Nat.and_self _,J2⟩;rintro k i O ⟨x,rfl,hxk,hxl,J⟩;by_cases hx0:0<x;rotate_left
    .exact xQV J
    have hxle:x<=left:=by rw[<- hxl];exact Nat.and_le_right
    obtain⟨a1,a2⟩:=wPR ⟨left,by omega⟩ ⟨x-1,by omega⟩;simp only at a1 a2;have hw:vG .u16 (Int.sub (x:Int) 1)=((x-1:Nat):Int):=by rw[zGG];show((x:Int)-1) % 65536=_;omega
    have hand:wW tP .and 101 (.tmp 30) (.tmp 31) (.int .u16 ((x-1:Nat):Int)) (.int .u16 (left:Int))=some (.int .u16 (((x-1) &&& left:Nat):Int)):=xOZ (by omega) (by omega);have hc:=@xOZ x (left &&& zz) (.tmp 33) (.tmp 34) (by omega) (by have:=Nat.and_le_left (n:=left) (m:=zz);omega);have nxt:∀{z},FdJ E0 kb km lb lm fbx pb o v L B K E F left z->NX1 (λk (i:Int) O=>∃x:Nat,i=x/\x<=k/\x &&& left=x/\FdJ E0 kb km lb lm fbx pb o v L B K E F left O) k (((x-1) &&& left:Nat):Int) z:=λh=>⟨k-1,by omega,(x-1) &&& left,rfl,by omega,a1,h⟩
    by_cases c0:x &&& (left &&& zz)=0
    .exact xRB hc hw hand (nxt J)
    obtain⟨G,out,hI3,hG3,sub3,ent3,keep3,oo⟩:=J.ex;have lL:zJ tP O 144 ⟨lb,0,none⟩=some (.map (some lm)):=hI3.l.ld rfl wEU rfl;have lq:=hI3.ml.lookv (k:=x) (v:=uP L B K x) zDO wPF hzb (if_pos ⟨hx0,by omega⟩);cases hq:uP L B K x with
    |false =>
     rw[hq]at lq;exact xQW hc lL lq hw hand (nxt J)
    |true =>
    rw[hq]at lq;have hsub:=wKM ⟨left,by omega⟩ ⟨x,by omega⟩ hxl;simp only at hsub;have hxor:=@wKJ left x (.tmp 44) (.tmp 45) (by omega) (by omega);rw[hsub]at hxor;obtain⟨r,G2,V2,cr,only2,hI4,hG4,sub4,hr,keep4⟩:=ih (left-x) (by omega) (by omega) hI3 hG3;obtain⟨⟨e1,e2⟩,⟨e3,e4⟩,e5⟩:=hG4 _ _ hr;have pb1:=xZY hD hs6 hx0 (by omega:x<_);have ja:=J.nx;have n2':=only2.j;have oo2:=only2.own' oo (by omega);have ow2:=only2.own' J.own (by omega);have lf:zJ tP O 145 ⟨fbx,0,none⟩=some (.func (.func 58) ⟨[]⟩ ⟨[.pointer (some ⟨kb,0,none⟩),.pointer (some ⟨lb,0,none⟩),.pointer (some ⟨fbx,0,none⟩),.pointer (some ⟨pb,0,none⟩)]⟩):=hI3.f.ld rfl yVJ rfl;obtain⟨ok,hok⟩:∃ok,ok=r.ok:=⟨_,rfl⟩;have cr':zW tP 58 (.int .u16 ((left-x:Nat):Int)::[.pointer (some ⟨kb,0,none⟩),.pointer (some ⟨lb,0,none⟩),.pointer (some ⟨fbx,0,none⟩),.pointer (some ⟨pb,0,none⟩)]) O (.agg ⟨bsc r.x r.c r.y ok⟩) V2:=by rw[hok];exact cr
    obtain⟨s3,hs3⟩:∃s3,s3=(V2.row (bsc 0 0 0 false) 4).own V2.j (bsc r.x r.c r.y ok) 4:=⟨_,rfl⟩;have N3:New V2 s3:=by rw[hs3];exact(New.row _ _ _).own (Nat.le_refl _)
    have n3:s3.j=V2.j+1:=by rw[hs3];rfl
    have r3:Own s3 V2.j (bsc r.x r.c r.y ok) 4:=by rw[hs3];exact(zX V2 _ _).put
    have I5:=hI4.le' N3.le;have P5:=I5.pl.le I5.le;have cp:=wNN (x:=x) P5 hD hs6 hx0 (by omega);obtain⟨s4,hs4⟩:∃s4,s4=s3.row [iV 0,iV 0] 2:=⟨_,rfl⟩;have N4:New s3 s4:=by rw[hs4];exact New.row _ _ _
    have n4:s4.j=V2.j+2:=by rw[hs4];show s3.j+1=_;omega
    obtain⟨s5,hs5⟩:∃s5,s5=s4.own (V2.j+1) [iV (r.c+1),iV (r.y+zCP L B x)] 2:=⟨_,rfl⟩;have N5:New V2 s5:=by rw[hs5];exact(N3.trans N4).own (by omega)
    have J5:∀{out':Bn},xEV L B K G2 left out'->∀{z},Le V2 z->Only (·=km) O z->Own z (E.j+2) (bsc out'.x out'.c out'.y out'.ok) 4->FdJ E0 kb km lb lm fbx pb o v L B K E F left z:=λhe z hle hO ho=>⟨⟨G2,_,hI4.le' hle,hG4,λa b h=>sub4 _ _ (sub3 _ _ h),he,λa ha=>by rw[keep4 a (by omega)];exact keep3 a ha,ho⟩,ow2.le hle,J.only.trans' hO λb _ h=>.inl h,by have:=hle.j;omega⟩
    have Le5:=N5.le;have lp:∀{z},Le V2 z->zJ tP z 96 ⟨pb,0,none⟩=some (.pointer (some ⟨o,0,none⟩)):=λh=>(hI4.p.le h).ld rfl zPD rfl
    have ol:=P5.own.lt;have pl2:=hI4.p.lt;have N34:=N3.trans N4;have r4:=r3.le N4.le;have O5:Only (·=km) V2 s5:=N5.only;have OT:Only (·=km) O s5:=only2.trans' O5 λb _ h=>.inl h
    have o5:=oo2.le Le5;have c9:zL s3.j [.pointer (some ⟨V2.j,1,none⟩)]:=zI (zR (by show V2.j<_;omega)) zM;have c10:zL s3.j [.pointer (some ⟨V2.j,2,none⟩)]:=zI (zR (by show V2.j<_;omega)) zM;have c11:zL s3.j [.pointer (some ⟨pb,0,none⟩)]:=zI (zR (by show pb<_;omega)) zM;have c12:zL s3.j [.pointer (some ⟨o,0,none⟩),.int .u16 (x:Int)]:=zI (zR ol) (zI rfl zM);have c13:zL s4.j [.pointer (some ⟨V2.j+1,0,none⟩),.agg ⟨[iV (r.c+1),iV (r.y+zCP L B x)]⟩]:=zI (zR (by show V2.j+1<_;omega)) (zI rfl zM);have c14:((⟨V2.j,1,none⟩:Addr).block<s3.j/\zN RD (iV r.c)=true)/\zJ tP s3 3 ⟨V2.j,1,none⟩=some (iV r.c):=⟨⟨by show V2.j<_;omega,rfl⟩,r3.ld rfl zU rfl⟩;have c15:((⟨V2.j,1,none⟩:Addr).block<s4.j/\zN RD (iV r.c)=true)/\zJ tP s4 3 ⟨V2.j,1,none⟩=some (iV r.c):=⟨⟨by show V2.j<_;omega,rfl⟩,r4.ld rfl zU rfl⟩;have c16:((⟨V2.j,2,none⟩:Addr).block<s3.j/\zN RD (iV r.y)=true)/\zJ tP s3 3 ⟨V2.j,2,none⟩=some (iV r.y):=⟨⟨by show V2.j<_;omega,rfl⟩,r3.ld rfl zU rfl⟩;have c17:((⟨V2.j,2,none⟩:Addr).block<s4.j/\zN RD (iV r.y)=true)/\zJ tP s4 3 ⟨V2.j,2,none⟩=some (iV r.y):=⟨⟨by show V2.j<_;omega,rfl⟩,r4.ld rfl zU rfl⟩;have c18:((⟨pb,0,none⟩:Addr).block<s3.j/\zN RD (.pointer (some ⟨o,0,none⟩))=true)/\zJ tP s3 96 ⟨pb,0,none⟩=some (.pointer (some ⟨o,0,none⟩)):=⟨⟨by show pb<_;omega,rfl⟩,lp N3.le⟩;have c19:((⟨pb,0,none⟩:Addr).block<s4.j/\zN RD (.pointer (some ⟨o,0,none⟩))=true)/\zJ tP s4 96 ⟨pb,0,none⟩=some (.pointer (some ⟨o,0,none⟩)):=⟨⟨by show pb<_;omega,rfl⟩,lp N34.le⟩;have c20:zJ tP s5 4 ⟨E.j+2,3,none⟩=some (.bool out.ok):=o5.ld rfl zXI rfl;have c21:zJ tP s5 104 ⟨E.j+2,1,none⟩=some (.agg ⟨[iV out.c,iV out.y]⟩):=o5.ldN yJO zEC rfl rfl (by simp);have w3:I6 (r.c+1):=⟨by omega,by omega⟩;have w4:I6 (r.y+zCP L B x):=⟨by omega,by omega⟩;have l3:=lp N3.le;have st:=o5.store (P:=tP) (k:=0) (t:=106) (v:=.agg ⟨bsc (x:Int) (r.c+1) (r.y+zCP L B x) true⟩) (vs:=bsc (x:Int) (r.c+1) (r.y+zCP L B x) true) (ds:=bsc (x:Int) (r.c+1) (r.y+zCP L B x) true) rfl vY rfl (by simp) rfl;have J6:FdJ E0 kb km lb lm fbx pb o v L B K E F left s5:=J5 (ent3.mono sub4) Le5 OT o5;have J7:r.ok=true->FdJ E0 kb km lb lm fbx pb o v L B K E F left (s5.own (E.j+2) (bsc (x:Int) (r.c+1) (r.y+zCP L B x) true) 4):=λhro=>by
     have e0:xEV L B K G2 left ⟨x,r.c+1,r.y+zCP L B x,true⟩:=⟨⟨by show(0:Int)<=r.c+1;omega,by show r.c+1<=_;omega⟩,⟨by show(0:Int)<=r.y+zCP L B x;omega,by show r.y+zCP L B x<=_;omega⟩,λ_=>.inr ⟨x,r,rfl,hx0,hxl,hq,hr,hro,rfl⟩⟩;have kk:Only (·=E.j+2) s5 (s5.own (E.j+2) (bsc (x:Int) (r.c+1) (r.y+zCP L B x) true) 4):=Only.own (.inr rfl);exact⟨⟨G2,_,(hI4.le' Le5).own ⟨by omega,by omega,by omega,by omega,by omega,by omega⟩ (by omega),hG4,λa b h=>sub4 _ _ (sub3 _ _ h),e0,λa ha=>by rw[keep4 a (by omega)];exact keep3 a ha,o5.put⟩,kk.own' (ow2.le Le5) (by omega),(J.only.trans' OT λb _ h=>.inl h).trans' kk λb _ h=>.inr (by show E.j<=b;omega),by have:=Le5.j;show E.j+3<=s5.j;omega⟩
    subst hs5;subst hs4;subst hs3;cases ok with
    |false=>exact xQX hc lL lq lf hxor cr' l3 cp c9 c10 c11 c12 c13 c14 c15 c16 c17 c18 c19 hw hand (nxt J6) (by omega) (by omega) w3 w4
    |true =>
     cases hoo:out.ok with
     |false =>
      rw[hoo]at c20;exact xQY ⟨hc,lL,lq,lf,hxor,cr',l3,cp,c9,c10,c11,c12,c13,c14,c15,c16,c17,c18,c19⟩ c20 st hw hand (nxt (J7 hok.symm)) (by omega) (by omega) w3 w4
     |true =>
      rw[hoo]at c20;obtain⟨tt,ct⟩:=wND (E:=(((V2.row (bsc 0 0 0 false) 4).own V2.j (bsc r.x r.c r.y true) 4).row [iV 0,iV 0] 2).own (V2.j+1) [iV (r.c+1),iV (r.y+zCP L B x)] 2) (a:=r.c+1) (b:=r.y+zCP L B x) (c:=out.c) (d:=out.y);cases tt with
      |false=>exact xQZ ⟨hc,lL,lq,lf,hxor,cr',l3,cp,c9,c10,c11,c12,c13,c14,c15,c16,c17,c18,c19⟩ c20 c21 ct hw hand (nxt J6) (by omega) (by omega) w3 w4
      |true=>exact xRA ⟨hc,lL,lq,lf,hxor,cr',l3,cp,c9,c10,c11,c12,c13,c14,c15,c16,c17,c18,c19⟩ c20 c21 ct st hw hand (nxt (J7 hok.symm)) (by omega) (by omega) w3 w4) ?_
  rintro O J
  obtain⟨G,out,hI3,hG3,sub3,ent3,keep3,oo⟩:=J.ex
  have ja:=J.nx
  have hGn:G left=none:=by rw[keep3 left (Nat.le_refl _)];exact hF
  obtain⟨es,p1,p2⟩:=hI3.mp.put zDO xTU left out
  have I6:=hI3.put p2
  have k1:Only (·=km) O (O.put km (.map es)):=Only.put (.inr rfl)
  have oo':=k1.own' oo (by omega)
  have ow':=k1.own' J.own (by omega)
  have st:=ow'.store (P:=tP) (k:=0) (t:=106) (v:=bnV out) (vs:=bsc out.x out.c out.y out.ok) (ds:=bsc out.x out.c out.y out.ok) rfl vY rfl (by simp) rfl
  have k2:Only (·=E.j) (O.put km (.map es)) ((O.put km (.map es)).own E.j (bsc out.x out.c out.y out.ok) 4):=Only.own (.inr rfl)
  exact yXP (lk hI3) (oo.ldN yJN vY rfl rfl (by simp)) p1 (oo'.ldN yJN vY rfl rfl (by simp)) st (ow'.put.ldN yJN vY rfl rfl (by simp))
   ⟨(J.only.trans' k1 λb _ h=>.inl h).trans' k2 λb _ h=>.inr (by show E.j<=b;omega),.inl (by show min (min O.low km) E.j<E.j;omega),out,_,rfl,I6.own ⟨by omega,by omega,by omega,by omega,by omega,by omega⟩ (by omega),hG3.put hGn ent3,λa b h=>yVN.put hGn _ _ (sub3 _ _ h),if_pos rfl,λa ha=>by
    show(if a=left then some out else G a)=_;rw[if_neg (by omega)];exact keep3 a (by omega)⟩) (by rintro w s m hm ⟨b,G,rfl,h1,h2⟩;exact⟨b,G,rfl,h1.le' ⟨Nat.le_refl _,λ_ _=>rfl⟩,h2⟩)
 exact⟨b,G,E',g1,g2,g3,g4,g5,g6,g7⟩
end
section
variable{E:St}{o:Nat}{v:Pv}{L:Lw}{B:List (List Rl)}{K:List (List Int)}
theorem wJN(hP:PlP E o v L B K)(hD:OkD L B K)(hs6:yZ B<=6):∃km F b E',zW tP 28 [.pointer (some ⟨o,0,none⟩)] E (.map (some km)) E'/\New E E'/\zAR tP E' km zWT bnV F/\zRU L B K F/\F (2 ^ yZ B-1)=some b:=by
 have h64:2 ^ yZ B<=2 ^ 6:=Nat.pow_le_pow_right (by omega) hs6;have hp:=Nat.two_pow_pos (yZ B);have ol:=hP.own.lt;obtain⟨F0,hF0⟩:∃F0:Nat->Option Bn,F0=λk=>if k=0 then some ⟨0,0,0,true⟩else none:=⟨_,rfl⟩
 have hG0:zRU L B K F0:=by
  intro k b h;rw[hF0]at h;have h:(if k=0 then some (⟨0,0,0,true⟩:Bn)else none)=some b:=h;by_cases e:k=0
  .rw[if_pos e]at h;cases h
   exact⟨⟨Int.le_refl _,by show(0:Int)<=(k:Int);omega⟩,⟨Int.le_refl _,by show(0:Int)<=10000*(k:Int);omega⟩,λ_=>.inl ⟨e,rfl⟩⟩
  .rw[if_neg e]at h;cases h
 obtain⟨s0,hs0⟩:∃s0,s0=E.re.row [.pointer (some ⟨o,0,none⟩)] 1:=⟨_,rfl⟩;have N0:New E.re s0:=by rw[hs0];exact New.row _ _ _
 have n0:s0.j=E.j+1:=by rw[hs0];rfl
 have p0:Own s0 E.j [.pointer (some ⟨o,0,none⟩)] 1:=by rw[hs0];exact zX E.re _ _
 have mp0:=zAR.new (P:=tP) (enc:=zWT) (vf:=bnV) s0;obtain⟨es,i1,i2⟩:=mp0.put zDO xTU 0 ⟨0,0,0,true⟩;obtain⟨s1,hs1⟩:∃s1,s1=(s0.add (.map [])).put s0.j (.map es):=⟨_,rfl⟩;rw[<- hs1]at i1 i2;have ka:Le s0 (s0.add (.map [])):=Le.add _ _;have ko:Only (·=s0.j) (s0.add (.map [])) s1:=by rw[hs1];exact Only.put (.inr rfl)
 have N1:New E.re s1:=((N0.trans (New.add _ _)).of_only ko λb e=>by subst e;show E.j<=_;omega);have n1:s1.j=E.j+2:=by rw[hs1];show s0.j+1=_;omega
 have p1:Own s1 E.j [.pointer (some ⟨o,0,none⟩)] 1:=ko.own' (p0.le ka) (by omega);obtain⟨s2,hs2⟩:∃s2,s2=((((s1.row [.map none] 1).own s1.j [.map (some s0.j)] 1).add (.map [])).row [.map none] 1).own (s1.j+2) [.map (some (s1.j+1))] 1:=⟨_,rfl⟩;obtain⟨t1,ht1⟩:∃t1,t1=(s1.row [.map none] 1).own s1.j [.map (some s0.j)] 1:=⟨_,rfl⟩;have T1:New s1 t1:=by rw[ht1];exact(New.row _ _ _).own (Nat.le_refl _)
 have tn1:t1.j=s1.j+1:=by rw[ht1];rfl
 have k1:Own t1 s1.j [.map (some s0.j)] 1:=by rw[ht1];exact(zX s1 _ _).put
 rw[<- ht1]at hs2;have T2:New s1 s2:=by rw[hs2];exact((T1.trans (New.add _ _)).row').own (by omega)
 have tn2:s2.j=s1.j+3:=by rw[hs2];show t1.j+2=_;omega
 have l2:Own s2 (s1.j+2) [.map (some (s1.j+1))] 1:=by
  rw[hs2];have h:=zX (t1.add (.map [])) [.map none] 1;rw[show(t1.add (.map [])).j=s1.j+2 from by show t1.j+1=_;omega]at h;exact h.put
 have ml2:zAR tP s2 (s1.j+1) zWT (λb:Bool=>.bool b) (λ_=>none):=by
  have h:=zAR.new (P:=tP) (enc:=zWT) (vf:=λb:Bool=>.bool b) t1;rw[tn1]at h;rw[hs2];exact(h.le (Le.row _ _ _)).at_ ((Only.own (S:=(·=s1.j+2)) (.inr rfl)).get _ (by show s1.j+1<t1.j+1+1;omega) (by omega)) (Nat.le_refl _)
 have k2:Own s2 s1.j [.map (some s0.j)] 1:=by rw[hs2];exact((k1.add).row).own (by omega)
 have Le2:=N1.le.trans T2.le;obtain⟨w,E',g1,g2,km,F,b,rfl,g3,g4,g5⟩:=zQ.new (P:=tP) (f:=28) (args:=[.pointer (some ⟨o,0,none⟩)]) (E:=E) (Q:=λw t=>∃km F b,w=.map (some km)/\zAR tP t km zWT bnV F/\zRU L B K F/\F (2 ^ yZ B-1)=some b) (by
  refine xRV (P0:=λO=>New s1 O/\s2.j<=O.j/\Own O s1.j [.map (some s0.j)] 1/\Own O (s1.j+2) [.map (some (s1.j+1))] 1/\zAR tP O (s1.j+1) zWT (λb:Bool=>.bool b) (λx=>if 0<x/\x<2 ^ yZ B then some (uP L B K x)else none)) (E1:=s1) (by rw[<- hs0,<- show s0.j=E.re.j+1 from n0];exact i1) (by
   rw[<- show s0.j=E.re.j+1 from n0,<- ht1,<- hs2];exact(p1.le T2.le).ld rfl zPD rfl) (by
   rw[<- show s0.j=E.re.j+1 from n0,<- ht1,<- hs2];refine ySC (Inv:=λk i O=>New s1 O/\s2.j<=O.j/\Own O s1.j [.map (some s0.j)] 1/\Own O (s1.j+2) [.map (some (s1.j+1))] 1/\∃j:Nat,i=j/\0<j/\j+k=2 ^ yZ B/\zAR tP O (s1.j+1) zWT (λb:Bool=>.bool b) (λx=>if 0<x/\x<j then some (uP L B K x)else none)) ?_ (2 ^ yZ B-1) 1 s2 ⟨T2,Nat.le_refl _,k2,l2,1,rfl,by omega,by omega,by
    have e:(λx:Nat=>if 0<x/\x<1 then some (uP L B K x)else none)=λ_=>none:=by funext x;rw[if_neg (by omega)]
    rw[e];exact ml2⟩
   rintro k i O ⟨hN,hn,ok,ol',j,rfl,hj,hk,hm⟩;have LO:=(le0 E).trans (N1.trans hN).le;have PO:=hP.le LO;have lpb:zJ tP O 96 ⟨E.j,0,none⟩=some (.pointer (some ⟨o,0,none⟩)):=(p1.le hN.le).ld rfl zPD rfl;have ev:=yUF PO (by omega);by_cases hjl:j<=2 ^ yZ B-1;rotate_left
   .refine xHD lpb ev ⟨hN,hn,ok,ol', ?_⟩;rw[show j=2 ^ yZ B by omega]at hm;exact hm
   have lg:=wCZ (x:=j) PO hD hs6 hj (by omega);obtain⟨es',q1,q2⟩:=hm.put zDO wPF j (uP L B K j);have kk:Only (·=s1.j+1) O (O.put (s1.j+1) (.map es')):=Only.put (.inr rfl);have ol2:=PO.own.lt;have hml:=hm.1;refine xHE lpb ev (ol'.ld rfl wEU rfl) lg q1 (zI ?_ (zI rfl zM)) (zI ((xY _ _).2 hml) (zI rfl (zI rfl zM))) (zB:=((j+1:Nat):Int)) (by rw[zGG];show((j:Int)+1) % 65536=_;omega)
    ⟨k-1,by omega,hN.of_only kk λb e=>by omega,hn,kk.own' ok (by omega),kk.own' ol' (by omega),j+1,rfl,by omega,by omega, ?_⟩ (by omega) (by have:=ol'.lt;omega)
   .show(Nat.blt o O.j&&true&&true)=true;rw[(xY _ _).2 ol2];rfl
   .have e:(λx:Nat=>if 0<x/\x<j+1 then some (uP L B K x)else none)=λk'=>if k'=j then some (uP L B K j)else if 0<k'/\k' < j then some (uP L B K k')else none:=by
     funext x;by_cases e:x=j
     .subst e;rw[if_pos ⟨by omega,by omega⟩,if_pos rfl]
     .rw[if_neg e];by_cases e2:0<x/\x<j
      .rw[if_pos e2,if_pos ⟨e2.1,by omega⟩]
      .rw[if_neg e2,if_neg (by omega)]
    rw[e];exact q2) ?_
  rintro O ⟨hN,hn,ok,ol',hm⟩;obtain⟨z,hz⟩:∃z,z=(O.row [.nilFunc] 1).own O.j [.func (.func 58) ⟨[]⟩ ⟨[.pointer (some ⟨s1.j,0,none⟩),.pointer (some ⟨s1.j+2,0,none⟩),.pointer (some ⟨O.j,0,none⟩),.pointer (some ⟨E.j,0,none⟩)]⟩] 1:=⟨_,rfl⟩;have Nz:New O z:=by rw[hz];exact(New.row _ _ _).own (Nat.le_refl _)
  have nz:z.j=O.j+1:=by rw[hz];rfl
  have fz:Own z O.j [.func (.func 58) ⟨[]⟩ ⟨[.pointer (some ⟨s1.j,0,none⟩),.pointer (some ⟨s1.j+2,0,none⟩),.pointer (some ⟨O.j,0,none⟩),.pointer (some ⟨E.j,0,none⟩)]⟩] 1:=by rw[hz];exact(zX O _ _).put
  have N1z:=hN.trans Nz;have NN:=N1.trans N1z;have Lz:=(le0 E).trans NN.le;have mp:zAR tP z s0.j zWT bnV F0:=by
   rw[hF0];exact i2.le N1z.le
  have hI:FdI E s1.j s0.j (s1.j+2) (s1.j+1) O.j E.j o v L B K F0 z:=⟨ok.le Nz.le,ol'.le Nz.le,fz,p1.le N1z.le,mp,hm.le Nz.le,Lz,hP,by omega,by omega,by omega,by omega,by omega,by omega⟩;obtain⟨b,G,z2,f1,f2,f3,f4,f5,f6,f7⟩:=wNK hD hs6 64 (2 ^ yZ B-1) (by omega) (by omega) hI hG0;have Pz:=hP.le Lz;have hb:∀{x},x<z.j->Nat.blt x z.j=true:=λh=>(xY _ _).2 h
  subst hz;refine ySB ((p1.le N1z.le).ld rfl zPD rfl) (yUF Pz (by omega)) f1 (zI ?_ (zI rfl zM)) (f3.k.ld rfl wLC rfl) ⟨NN.of_only f2 λb e=>by subst e;show E.j<=_;omega,_,G,b,rfl,f3.mp,f4,f6⟩ (by show E.j<O.j;omega) (by show o<O.j;omega);show(true&&(Nat.blt _ _&&(Nat.blt _ _&&(Nat.blt _ _&&(Nat.blt _ _&&true)))))=true;simp only[Bool.true_and,Bool.and_true,Bool.and_eq_true];exact⟨hb (x:=s1.j) (by omega),hb (x:=s1.j+2) (by omega),hb (x:=O.j) (by omega),hb (x:=E.j) (by omega)⟩) (by rintro w s s' ⟨km,F,b,rfl,h1,h2⟩ hle;exact⟨km,F,b,rfl,h1.le hle,h2⟩) (by rintro w s hr ⟨km,F,b,rfl,_⟩;cases hr)
 exact⟨km,F,b,E',g1,g2,g3,g4,g5⟩
end
end Go.Proofs.YtflfajphjmajpaaGreat
